/- sheafworksref00.Equal: whether two lists are the same. -/
import Derived.Test.YtpimackoadfcmaaDoorHrf
namespace Go.Proofs.YtpimackoadfcmaaDoor.Hand
open Go.RowKit Go.Proofs.YtpimackoadfcmaaDoorW.PrintWords Go.Proofs.YtpimackoadfcmaaDoorW.PrintLast Go.Proofs.YtpimackoadfcmaaDoorW.PrintMore
set_option linter.unusedVariables false
set_option linter.unusedSimpArgs false
attribute [local go_sem] Oper.semAt_some
def eqTo (l l2 : List Int) (x : Int) : Bool := ((l.length : Int) == (l2.length : Int)) && (List.range x.toNat).all (fun (j : Nat) => rd l (j : Int) == rd l2 (j : Int))
theorem eqTo_succ (l l2 : List Int) (x : Int) (h0 : 0 ≤ x) : eqTo l l2 (x + 1) = (eqTo l l2 x && (rd l x == rd l2 x)) := by
  unfold eqTo
  have e : (x + 1).toNat = x.toNat + 1 := by omega
  have e2 : ((x.toNat : Nat) : Int) = x := by omega
  rw [e, List.range_succ, List.all_append, Bool.and_assoc]
  simp [e2]
theorem eqTo_all (l l2 : List Int) : eqTo l l2 l.length = (l == l2) := by
  rw [Bool.eq_iff_iff, beq_iff_eq]
  unfold eqTo
  rw [Bool.and_eq_true, beq_iff_eq, Int.toNat_natCast, List.all_eq_true]
  constructor
  · rintro ⟨h1, h2⟩
    refine List.ext_getElem (by omega) (fun i hi hi2 => ?_)
    have := h2 i (by rw [List.mem_range]; exact hi)
    simpa [rd, rdOf, hi, hi2] using this
  · rintro rfl
    exact ⟨rfl, fun j _ => by simp⟩
theorem eqTo_no (l l2 : List Int) (x : Int) (h0 : 0 ≤ x) (hx : x ≤ l.length) (h : eqTo l l2 x = false) : (l == l2) = false := by
  rw [← eqTo_all]
  by_cases hl : l.length = l2.length
  · have h2 : ∃ j : Nat, (j : Int) < x ∧ (rd l (j : Int) == rd l2 (j : Int)) = false := by
      unfold eqTo at h
      have e : ((l.length : Int) == (l2.length : Int)) = true := by rw [beq_iff_eq]; omega
      rw [e, Bool.true_and, List.all_eq_false] at h
      obtain ⟨j, hj, hh⟩ := h
      rw [List.mem_range] at hj
      exact ⟨j, by omega, by simpa using hh⟩
    obtain ⟨j, hj, hh⟩ := h2
    unfold eqTo
    rw [Int.toNat_natCast]
    have e : (List.range l.length).all (fun (j : Nat) => rd l (j : Int) == rd l2 (j : Int)) = false := by
      rw [List.all_eq_false]
      exact ⟨j, by rw [List.mem_range]; omega, by rw [hh]; simp⟩
    rw [e, Bool.and_false]
  · unfold eqTo
    have e : ((l.length : Int) == (l2.length : Int)) = false := by rw [beq_eq_false_iff_ne]; omega
    rw [e, Bool.false_and]
set_option maxHeartbeats 4000000 in
set_option maxRecDepth 100000 in
theorem ref_Equal (A : Option Addr) (c : Nat) (l : List Int) (A2 : Option Addr) (c2 : Nat) (l2 : List Int) (w : World) (hr : Kd.C (Kd.int .i64) w A l.length l) (hr2 : Kd.C (Kd.int .i64) w A2 l2.length l2) :
    Calls Tryd.prog 17 #[.slice A l.length c, .slice A2 l2.length c2] w fun e w' => e = .returned (.bool (l == l2)) ∧ Drawn0 w w' := by
  have HR := Aside0.mk hr
  have HR2 := Aside0.mk hr2
  have hm : l.length ≤ 9223372036854775807 := hr.2.1
  clear hr hr2
  refine calls_of_marks Tryd.func17 rfl ?_
  simp only [Tryd.ntmps17, List.size_toArray, List.length_cons, List.length_nil, Nat.reduceAdd, Nat.reduceSub, Array.replicate_succ, Array.replicate_zero, List.push_toArray, List.append_toArray, List.nil_append, List.cons_append]
  go_wp2
  go_loopw [5, 6] (fun s i W => ∃ (x : Int) (b : Bool), s = .bool b ∧ i = .int .i64 x ∧ 0 ≤ x ∧ x ≤ l.length ∧ Aside0 (b = eqTo l l2 x) ∧ Aside0 (Drawn0 w W)) (fun _ i _ => l.length - (intOf i).toNat)
  case atStart => exact ⟨0, _, rfl, rfl, by omega, by omega, ⟨by simp [eqTo]⟩, ⟨⟨0, rfl⟩⟩⟩
  case round =>
    obtain ⟨x, b, rfl, rfl, p0, p1, HB, HD⟩ := hrel
    cases b
    · go_wp2
      unfold MarksPost
      refine Marks.zero _ (results_tmp rfl _ _ _) ?_
      exact ⟨by rw [eqTo_no l l2 x p0 p1 HB.out.symm]; rfl, HD.out⟩
    · by_cases hlt : x < l.length
      · have hl : l.length = l2.length := by
          have h := HB.out
          unfold eqTo at h
          have := (Bool.and_eq_true _ _).mp h.symm
          rw [beq_iff_eq] at this
          omega
        have hlt2 : x < l2.length := by omega
        obtain ⟨ad, e1, hx⟩ := Kd.at_int (kdC_drawn HR.out HD.out) x p0 hlt
        obtain ⟨ad2, e2, hx2⟩ := Kd.at_int (kdC_drawn HR2.out HD.out) x p0 hlt2
        cases e1
        cases e2
        replace hl := Aside0.mk hl
        go_wp2
        refine wp_region_any (by kernel_rfl) ?_
        change wpAny _ _ _ _ _ _ _ wr.drew
        refine region_any (fun W => W.cell? (ad.add x.toNat) = some (.int .i64 (rd l x)) ∧ W.cell? (ad2.add x.toNat) = some (.int .i64 (rd l2 x))) 10 [] (by kernel_rfl) (by kernel_rfl) (by kernel_rfl) rfl (fun _ _ _ h => h) ⟨hx, hx2⟩ ?_
        simp only [List.take_succ_cons, List.take_zero]
        iterate 10 refine Reads.step _ rfl (fun W hW => by obtain ⟨k1, k2⟩ := hW; go_simp; rfl) ?_
        unfold Reads Tail
        simp only [List.getElem_toArray, List.getElem_cons_succ, List.getElem_cons_zero, Act.put, List.setIfInBounds_toArray, List.set_cons_zero, List.set_cons_succ, i64_w]
        go_wp2
        go_roundw
        case rel => exact ⟨x + 1, _, rfl, rfl, by omega, by omega, ⟨by rw [eqTo_succ _ _ _ p0, ← HB.out, Bool.true_and]⟩, ⟨drawn_trans HD.out ⟨1, rfl⟩⟩⟩
        case measure => simp [intOf]; omega
      · go_wp2
        unfold MarksPost
        refine Marks.zero _ (results_tmp rfl _ _ _) ?_
        have hx : x = l.length := by omega
        have h := HB.out
        rw [hx, eqTo_all] at h
        exact ⟨by rw [← h]; rfl, HD.out⟩
end Go.Proofs.YtpimackoadfcmaaDoor.Hand
