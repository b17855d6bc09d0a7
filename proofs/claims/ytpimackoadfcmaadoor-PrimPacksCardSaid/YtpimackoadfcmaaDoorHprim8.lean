/- prim.Trap: whether a flag is set; its result lies in a cell, and the loop's body may return. -/
import Derived.Test.YtpimackoadfcmaaDoorHprim5
import Derived.Laws.Rows
namespace Go.Proofs.YtpimackoadfcmaaDoor.Hand
open Go.RowKit Go.Proofs.YtpimackoadfcmaaDoorW.PrintWords Go.Proofs.YtpimackoadfcmaaDoorW.PrintLast Go.Proofs.YtpimackoadfcmaaDoorW.PrintMore
set_option linter.unusedVariables false
set_option linter.unusedSimpArgs false
attribute [local go_sem] Oper.semAt_some
theorem results_cell1 {P : Program} {fn : Func} {p : Tmp} {ty : TypeId} (h : fn.results = #[.cell p ty]) (tmps : Array Value) (w : World) (g : Nat) (d : TypeDesc) (v : Value)
    (hp : tmps.getD p undef = .pointer (some ⟨g, 0, none⟩)) (hc : w.cell? ⟨g, 0, none⟩ = some v) (hu : P.underlying ty = some d) (hd : (match d with | .struct _ | .array _ _ => true | _ => false) = false) :
    (results fn tmps).run P w = .ok v w := by
  have hagg : (isAgg ty).run P w = .ok false w := by
    unfold isAgg
    rw [Sem.run_bind, run_underlying hu w]
    cases d <;> simp_all
  have hp' : tmps[p]?.getD undef = .pointer (some ⟨g, 0, none⟩) := by simpa using hp
  simp [results, h, hp', asAddr, loadVar, Sem.run_bind, hagg]
  split
  · rename_i v' hv'
    have e := hv'.symm.trans hc
    injection e with e
    rw [e]
  · rename_i hv'
    have e := hv'.symm.trans hc
    exact absurd e (by simp)
def prim_Trap.g (l : List Int) : Int := if wordsE [l] true = 0 then (if l.any (fun n => n != 0) then 14 else 0) else wordsE [l] true
/-- An error is returned; nothing that was there is written. -/
def Ret1 (w : World) (R : Int) (e : Ending) (w' : World) : Prop := e = .returned (.int .i64 R) ∧ Below w.heap.size w w'
theorem rd_any_none {l : List Int} (h : ∀ j : Nat, j < l.length → rd l (j : Int) = 0) : (l.any fun n => n != 0) = false := by
  rw [List.any_eq_false]
  intro x hx
  obtain ⟨j, hj, rfl⟩ := List.mem_iff_getElem.1 hx
  have h2 := h j hj
  rw [show rd l (j : Int) = l[j] by simp [rd, rdOf, hj]] at h2
  simp [h2]
theorem rd_any_some {l : List Int} (j : Nat) (hj : j < l.length) (h : (rd l (j : Int) != 0) = true) : (l.any fun n => n != 0) = true := by
  rw [List.any_eq_true]
  exact ⟨_, rd_mem l (j : Int) (by omega) (by omega), h⟩
theorem below_setNew {w W : World} (h : Below w.heap.size w W) (p : Addr) (hp : w.heap.size ≤ p.block) (u : Value) : Below w.heap.size w (W.setCell p u) := ((Kp.ofBelow (S := fun _ => False) h).setCell p (.inr hp) u).below (fun k hk => ⟨hk, fun h => h⟩)
abbrev ResC (w : World) (N : Nat) (n : Int) : Prop := w.heap[N]? = some (.cells #[.int .i64 n] 23 (0, 0))
set_option maxHeartbeats 4000000 in
set_option maxRecDepth 100000 in
theorem prim_Trap.run (A : Option Addr) (c : Nat) (l : List Int) (w : World) (hr : Kd.C (Kd.int .i64) w A l.length l) (hc : l.length ≤ c) :
    Calls Tryd.prog 42 #[.slice A l.length c] w (Ret1 w (prim_Trap.g l)) := by
  have HS := Aside0.mk (Sl.of hr hc)
  have HR := Aside0.mk hr
  clear hr hc
  unfold prim_Trap.g
  obtain ⟨E, hE⟩ : ∃ E, E = wordsE [l] true := ⟨_, rfl⟩
  rw [← hE]
  have HE := Aside0.mk hE
  clear hE
  by_cases h0 : E = 0
  · rw [if_pos h0]
    have z1 : (E != 0) = false := bne_eq_false_iff_eq.mpr h0
    have OK := Aside0.mk (wordsE_ok (HE.out.symm.trans h0))
    clear h0
    obtain ⟨RR, hRR⟩ : ∃ RR : Int, RR = if l.any (fun n => n != 0) then 14 else 0 := ⟨_, rfl⟩
    rw [← hRR]
    replace hRR := Aside0.mk hRR
    refine calls_of_marks Tryd.func42 rfl ?_
    simp only [Tryd.ntmps42, List.size_toArray, List.length_cons, List.length_nil, Nat.reduceAdd, Nat.reduceSub, Array.replicate_succ, Array.replicate_zero, List.push_toArray, List.append_toArray, List.nil_append, List.cons_append]
    go_wp2_with fail
    refine (prim_words _ _ [l] true _ (lit_rows_at _ _ (by simp) _ _ _ _ rfl (rows_of1 (HS.out.alloc _)) (by simp))).mono ?_
    rw [← HE.out]
    rintro e w2 ⟨rfl, hb2⟩
    have hb3 : Below w.heap.size w w2 := (below_alloc (below_alloc (Below.refl _ _) _) _).trans (hb2.mono (by simp; omega))
    have kR : ResC w2 w.heap.size 0 := blk_below (blk_alloc (blk_new w _) _) hb2
    replace hb3 := Aside0.mk hb3
    have KR := Aside0.mk kR
    clear hb2 kR
    go_wp2_with fail
    refine (prim_set _ _ A l.length c rfl).mono ?_
    rintro e w3 ⟨rfl, hw3⟩
    have s3 : w3.heap.size = w2.heap.size + 1 := by rw [hw3]; simp
    have f3 : w3.cell? ⟨w2.heap.size, 0, none⟩ = some (.slice A l.length c) := by
      rw [hw3]
      exact (blk_cell (blk_new w2 _) 0).trans rfl
    have b3 : Below w2.heap.size w2 w3 := by rw [hw3]; exact below_alloc (Below.refl _ _) _
    have r3 := blk_below KR.out b3
    clear hw3
    have hb4 : Below w.heap.size w w3 := hb3.out.trans (b3.mono hb3.out.size)
    have hle := hb3.out.size
    have hlt := blk_lt KR.out
    go_wp2
    refine wp_rangeSeq rfl Tryd.call91 (prim_set_it w2.heap.size A c l w.heap.size w3 f3 (fun W hW => Kd.C_below HR.out (hb4.trans hW)) hb4.size) (Below.refl _ _) hb4.size (setL_size l)
      (fun i W => (∀ j : Nat, j < i → rd l (j : Int) = 0) ∧ ResC W w.heap.size 0 ∧ Below w.heap.size w W) (fun c W => c = .ret ∧ RR = 14 ∧ ResC W w.heap.size 14 ∧ Below w.heap.size w W) ?own ?ownx ?start
      ?round ?done ?stop
    case own =>
      rintro i W1 W2 row ⟨h1, h2, h3⟩ hg hr
      exact ⟨h1, blk_own h2 hg (fun r e => (hr r e).2), (Kp.ofBelow (S := fun _ => False) h3).own hg (fun r e => .inr (by have := (hr r e).1; have := hb4.size; omega)) |>.below (fun k hk => ⟨hk, fun h => h⟩)⟩
    case ownx =>
      rintro i W1 W2 row ⟨h0, h1, h2, h3⟩ hg hr
      exact ⟨h0, h1, blk_own h2 hg (fun r e => (hr r e).2), (Kp.ofBelow (S := fun _ => False) h3).own hg (fun r e => .inr (by have := (hr r e).1; have := hb4.size; omega)) |>.below (fun k hk => ⟨hk, fun h => h⟩)⟩
    case start => exact ⟨by omega, r3, hb4⟩
    case stop => 
      rintro D c W hD ⟨rfl, hR2, h1, h2⟩ hd
      have hne : w.heap.size ≠ D := by have := hb4.size; omega
      go_wp2
      refine Marks.one hd _ (results_cell1 rfl _ _ w.heap.size _ (.int .i64 14) rfl ((blk_cell ((World.putObj_heap_other hne).trans h1) 0).trans rfl) Tryd.underlying23 rfl) ?_
      exact ⟨by rw [hR2], h2.trans (below_putObj _ _ (by have := hb4.size; omega))⟩
    case round =>
      intro lp i args W hi hI K hK
      obtain ⟨hlt, rfl⟩ := setL_get hi
      clear hI
      replace hK := Aside0.mk hK
      gi_wp2
      refine hK.out _ ?_
      rintro W2 ⟨hZ, hM, hB2⟩
      have hf := blk_frozen hM 0
      have hcc := blk_cell hM 0
      by_cases hz : (rd l (i : Int) != 0) = true
      · have hy : RR = 14 := by rw [hRR.out, rd_any_some i hlt hz]; rfl
        replace hy := Aside0.mk hy
        have HM := Aside0.mk hM
        have HB2 := Aside0.mk hB2
        clear hB2 hZ hM
        gi_wp2
        refine ⟨Kp.keepsFrom (S := fun k => k = w.heap.size) ((Kp.refl (fun k => k = w.heap.size) W2).setCell ⟨w.heap.size, 0, none⟩ (.inl rfl) _) (fun k hk _ => by rw [hk]; exact ⟨_, _, _, HM.out⟩), rfl, hy.out, blk_set HM.out 0 _, below_setNew HB2.out _ (Nat.le_refl _) _⟩
      · have hz2 : (rd l (i : Int) != 0) = false := by simpa using hz
        have HM := Aside0.mk hM
        have HB2 := Aside0.mk hB2
        have HZ := Aside0.mk hZ
        clear hB2 hZ hM
        gi_wp2
        refine ⟨keepsFrom_below (Below.refl _ _), Below.refl _ _, fun j hj => ?_, HM.out, HB2.out⟩
        by_cases hji : j < i
        · exact HZ.out j hji
        · obtain rfl : j = i := by omega
          simpa using hz2
    case done =>
      rintro D W hD ⟨h1, h2, h3⟩ hd
      have hcc := blk_cell h2 0
      have hf := blk_frozen h2 0
      have H2 := Aside0.mk h2
      have HD := Aside0.mk hd
      have hne : w.heap.size ≠ D := by have := hb4.size; omega
      have hy : RR = 0 := by rw [hRR.out, rd_any_none (fun j hj => h1 j (by rw [setL_length]; exact hj))]; rfl
      replace hy := Aside0.mk hy
      replace h3 := Aside0.mk h3
      replace hne := Aside0.mk hne
      clear h1 h2 hd
      go_wp2
      refine Marks.one ((Below.heap_setCell W _ _ D (by have := hne.out; simp only; omega)).trans HD.out) _ (results_cell1 rfl _ _ w.heap.size _ (.int .i64 0) rfl ((blk_cell ((World.putObj_heap_other hne.out).trans (blk_set H2.out 0 (.int .i64 0))) 0).trans rfl) Tryd.underlying23 rfl) ?_
      exact ⟨by rw [hy.out], (below_setNew h3.out _ (Nat.le_refl _) _).trans (below_putObj _ _ (by have := hb4.size; omega))⟩
  · rw [if_neg h0]
    have z1 : (E != 0) = true := bne_iff_ne.mpr h0
    clear h0
    go_enter Tryd.func42, Tryd.ntmps42
    go_wp2_with fail
    refine (prim_words _ _ [l] true _ (lit_rows_at _ _ (by simp) _ _ _ _ rfl (rows_of1 (HS.out.alloc _)) (by simp))).mono ?_
    rw [← HE.out]
    rintro e w2 ⟨rfl, hb2⟩
    have kR : ResC w2 w.heap.size 0 := blk_below (blk_alloc (blk_new w _) _) hb2
    have hcc := blk_cell kR 0
    have hf := blk_frozen kR 0
    have KR := Aside0.mk kR
    have hb3 : Below w.heap.size w w2 := (below_alloc (below_alloc (Below.refl _ _) _) _).trans (hb2.mono (by simp; omega))
    replace hb3 := Aside0.mk hb3
    clear kR hb2
    go_wp2
    refine bodyPost_ret (results_cell1 rfl _ _ w.heap.size _ (.int .i64 E) rfl ((blk_cell (blk_set KR.out 0 (.int .i64 E)) 0).trans rfl) Tryd.underlying23 rfl) rfl ?_
    exact ⟨rfl, below_setNew hb3.out _ (Nat.le_refl _) _⟩
end Go.Proofs.YtpimackoadfcmaaDoor.Hand
