/- prim: set yields the places of flags, and whether they are set, for any flags. -/
import Derived.Test.YtpimackoadfcmaaDoorHprim4
import Derived.Test.YtpimackoadfcmaaDoorHrf
namespace Go.Proofs.YtpimackoadfcmaaDoor.Hand
open Go.RowKit Go.Proofs.YtpimackoadfcmaaDoorW.PrintWords Go.Proofs.YtpimackoadfcmaaDoorW.PrintLast Go.Proofs.YtpimackoadfcmaaDoorW.PrintMore
set_option linter.unusedVariables false
set_option linter.unusedSimpArgs false
/-- What set yields. -/
def setL (l : List Int) : List (Array Value) := (List.range l.length).map fun (i : Nat) => #[.int .i64 (i : Int), .bool (rd l (i : Int) != 0)]
theorem setL_at (l : List Int) (x : Int) (h0 : 0 ≤ x) (hx : x < l.length) : (setL l)[x.toNat]? = some #[.int .i64 x, .bool (rd l x != 0)] := by
  have e : ((x.toNat : Nat) : Int) = x := by omega
  simp only [setL, List.getElem?_map, List.getElem?_range (show x.toNat < l.length by omega), Option.map_some, e]
theorem setL_length (l : List Int) : (setL l).length = l.length := by simp [setL]
theorem setL_get {l : List Int} {i : Nat} {args : Array Value} (h : (setL l)[i]? = some args) : i < l.length ∧ args = #[.int .i64 (i : Int), .bool (rd l (i : Int) != 0)] := by
  have hi : i < l.length := by have := (List.getElem?_eq_some_iff.1 h).1; rwa [setL_length] at this
  have e := setL_at l (i : Int) (by omega) (by omega)
  rw [Int.toNat_natCast, h] at e
  exact ⟨hi, Option.some.inj e⟩
theorem setL_size (l : List Int) : ∀ args ∈ setL l, args.size = 2 := by
  intro args h
  obtain ⟨i, _, rfl⟩ := List.mem_map.1 h
  rfl

theorem prim_set (v : Value) (w : World) (A : Option Addr) (n c : Nat) (hv : v = .slice A n c) :
    Calls Tryd.prog 63 #[v] w fun e w' => e = .returned (.func (.func 91) #[] #[.pointer (some ⟨w.heap.size, 0, none⟩)]) ∧ w' = w.alloc (.cells #[v] 22) := by
  subst hv
  go_enter Tryd.func63, Tryd.ntmps63
  go_wp2
  go_ret
  exact ⟨rfl, rfl⟩

set_option maxHeartbeats 4000000 in
set_option maxRecDepth 100000 in
theorem prim_set_it (Bx : Nat) (A : Option Addr) (c : Nat) (l : List Int) (B : Nat) (w0 : World) (hc : w0.cell? ⟨Bx, 0, none⟩ = some (.slice A l.length c)) (hr : ∀ W, Below B w0 W → (Kd.int .i64).C W A l.length l) (hB : B ≤ w0.heap.size) :
    IterC Tryd.prog 91 #[.pointer (some ⟨Bx, 0, none⟩)] (setL l) B w0 := by
  intro lp J Jx W hW hJ hJx hY h0
  have hm : l.length ≤ 9223372036854775807 := (hr w0 (Below.refl _ _)).2.1
  have hc1 : W.cell? ⟨Bx, 0, none⟩ = some (.slice A l.length c) := pw_cell_below hW hc
  have HR := Aside0.mk hr
  have HW := Aside0.mk (hW.mono hB)
  have HJ := Aside0.mk hJ
  have HY := Aside0.mk hY
  have H0 := Aside0.mk h0
  clear hc hr hJ hY h0 hJx hW
  refine callsIn_of_wp Tryd.func91 rfl trivial ?_
  simp only [Tryd.ntmps91, List.size_toArray, List.length_cons, List.length_nil, Nat.reduceAdd, Nat.reduceSub, Array.replicate_succ, Array.replicate_zero, List.push_toArray, List.append_toArray, List.nil_append, List.cons_append]
  gi_wp2
  gi_loopw [3, 4, 7] (fun _ _ i wr => ∃ x : Int, i = .int .i64 x ∧ 0 ≤ x ∧ x ≤ l.length ∧ Aside0 (J x.toNat wr) ∧ Aside0 (Below B w0 wr)) (fun _ _ i _ => l.length - (intOf i).toNat)
  case atStart => exact ⟨0, rfl, by omega, by omega, H0, HW⟩
  case round =>
    obtain ⟨x, rfl, p0, p1, hj, hb⟩ := hrel
    by_cases hlt : x < l.length
    · obtain ⟨ad, e1, hx⟩ := Kd.at_int (HR.out _ hb.out) x p0 hlt
      cases e1
      obtain ⟨fn, tmps, assign, body, hy, hR⟩ := HY.out _ _ wr (setL_at l x p0 hlt) hj.out
      have HRd := Aside0.mk hR
      clear hR
      gi_wp2
      refine ⟨rfl, ?_⟩
      refine HRd.out.mono ?_
      rintro e W2 (⟨rfl, hj2, hk⟩ | ⟨rfl, hj2⟩)
      · have e1 : x.toNat + 1 = (x + 1).toNat := by omega
        rw [e1] at hj2
        have h3 := Aside0.mk (hb.out.trans hk)
        replace hj2 := Aside0.mk hj2
        clear hk e1
        gi_wp2
        go_roundw
        case rel => exact ⟨x + 1, rfl, by omega, by omega, hj2, h3⟩
        case measure => simp [intOf]; omega
      · replace hj2 := Aside0.mk hj2
        gi_wp2
        refine bodyPost_ret (results_none rfl _ _ _) rfl ?_
        exact ⟨⟨_, rfl⟩, .inr hj2.out⟩
    · have e1 : x.toNat = (setL l).length := by rw [setL_length]; omega
      replace e1 := Aside0.mk e1
      gi_wp2
      go_end0
      exact ⟨⟨_, rfl⟩, .inl (by rw [← e1.out]; exact hj.out)⟩
end Go.Proofs.YtpimackoadfcmaaDoor.Hand
