/- SegLengths: Check, Starts, Heads and Owners of the reference are the program's, for any lengths; it is told of numbers and lists alone. -/
import Derived.Test.YthalgcpohnknbaaPSegLengthsx
namespace Go.Proofs.Ythalgcpohnknbaa.Pure
open Go.RowKit Go.Proofs.Ythalgcpohnknbaa.PSegLengths Go.Proofs.Ythalgcpohnknbaa.Hand Go.Proofs.YthalgcpohnknbaaW.PrintWords Go.Proofs.YthalgcpohnknbaaW.PrintLast Go.Proofs.YthalgcpohnknbaaW.PrintMore
set_option linter.unusedVariables false
set_option linter.unusedSimpArgs false
/-- Lists so short that a place's successor is no other number. -/
def Sh {α : Type} (l : List α) : Prop := l.length ≤ 4611686018427387904
theorem wsucc {i n : Nat} (h : i < n) (hn : n ≤ 4611686018427387904) : wrap64 ((i : Int) + 1) = ((i + 1 : Nat) : Int) := by unfold wrap64; omega
theorem rd_get {l : List Int} {i : Nat} (h : i < l.length) : rd l (i : Int) = l[i] := by simp [rd, h]
theorem drop_rd {l : List Int} {i : Nat} (h : i < l.length) : l.drop i = rd l (i : Int) :: l.drop (i + 1) := by rw [List.drop_eq_getElem_cons h, rd_get h]
theorem up {n : Nat} {P : Nat → Prop} (h0 : P n) (hs : ∀ i, i < n → P (i + 1) → P i) (i : Nat) (hi : i ≤ n) : P i := by
  have key : ∀ d, ∀ i, i + d = n → P i := by
    intro d
    induction d with
    | zero => intro i h; have : i = n := by omega
              subst this; exact h0
    | succ d ih => intro i h; exact hs i (by omega) (ih (i + 1) (by omega))
  exact key (n - i) i (by omega)
def m2 (s : Nat) : Int := ((min s 2097152 : Nat) : Int)
theorem m2_step (s : Nat) (n : Int) (h : 0 ≤ n) : mn (wrap64 (m2 s + mn n 2097152)) 2097152 = m2 (s + n.toNat) := by
  unfold m2 mn wrap64
  split <;> split <;> omega
theorem negs_drop {l : List Int} {i : Nat} (h : i < l.length) : negs (l.drop i) = (decide (rd l (i : Int) < 0) || negs (l.drop (i + 1))) := by
  rw [drop_rd h]
  rfl
theorem ev_Check (l : List Int) (hl : Sh l) : Ev (fun k => r02_Check.f k l) (seg_Check.g l) := by
  by_cases h0 : 1048576 < l.length
  · have e : seg_Check.g l = (0, 3) := by unfold seg_Check.g chkE; simp [h0]
    rw [e]
    refine Ev.congr (f := fun _ => some (0, 3)) (fun k => ?_) (Ev.now _)
    unfold r02_Check.f
    rw [if_pos (by omega)]
  · have H := up (n := l.length) (P := fun i => Ev (fun k => r02_Check.l0 k l (m2 (startOf l (i : Int))) (i : Int)) (if negs (l.drop i) then (0, 2) else if 1048576 < ttl l then (0, 9) else (((ttl l : Nat) : Int), 0)))
      (by
        rw [List.drop_length]
        refine Ev.step (f := fun _ => some (if negs ([] : List Int) then (0, 2) else if 1048576 < ttl l then (0, 9) else (((ttl l : Nat) : Int), 0))) (fun k => ?_) (Ev.now _)
        simp only [r02_Check.l0]
        rw [if_neg (by omega)]
        have ht : startOf l (l.length : Int) = ttl l := rfl
        rw [ht]
        simp only [negs, List.any_nil, Bool.false_eq_true, if_false]
        by_cases hb : 1048576 < ttl l
        · rw [if_pos (show m2 (ttl l) > 1048576 by unfold m2; omega), if_pos hb]
        · rw [if_neg (show ¬ m2 (ttl l) > 1048576 by unfold m2; omega), if_neg hb]
          have e : m2 (ttl l) = ((ttl l : Nat) : Int) := by unfold m2; omega
          rw [e])
      (fun i hi ih => by
        rw [negs_drop hi]
        by_cases hn : rd l (i : Int) < 0
        · refine Ev.step (f := fun _ => some (0, 2)) (fun k => ?_) (by simp only [hn, decide_true, Bool.true_or, if_true]; exact Ev.now _)
          simp only [r02_Check.l0]
          rw [if_pos (by omega), if_pos (by omega), if_pos hn]
        · refine Ev.step (f := fun k => r02_Check.l0 k l (m2 (startOf l ((i + 1 : Nat) : Int))) ((i + 1 : Nat) : Int)) (fun k => ?_) (by simp only [hn, decide_false, Bool.false_or]; exact ih)
          simp only [r02_Check.l0]
          rw [if_pos (by omega), if_pos (by omega), if_neg hn, wsucc hi hl, m2_step _ _ (by omega), show ((i + 1 : Nat) : Int) = (i : Int) + 1 by omega, startOf_succ l (i : Int) (by omega) (by omega)]) 0 (Nat.zero_le _)
    have e : seg_Check.g l = if negs (l.drop 0) then (0, 2) else if 1048576 < ttl l then (0, 9) else (((ttl l : Nat) : Int), 0) := by
      rw [List.drop_zero]
      unfold seg_Check.g chkE
      rw [if_neg h0]
      cases negs l <;> by_cases h3 : 1048576 < ttl l <;> simp [h3]
    rw [e]
    refine Ev.congr (f := fun k => r02_Check.l0 k l 0 0) (fun k => ?_) H
    unfold r02_Check.f
    rw [if_neg (by omega)]
def greatB (l : List Int) : Bool := (decide ((seg_Check.g l).2 = 0) && decide (2000 < (seg_Check.g l).1)) || decide (2000 < l.length)
theorem ev_great (l : List Int) (hl : Sh l) : Ev (fun k => w02_great.f k l) (greatB l) := by
  unfold w02_great.f
  refine Ev.bind (ev_Check l hl) ?_
  unfold greatB
  generalize seg_Check.g l = g
  have e : decide ((l.length : Int) > 2000) = decide (2000 < l.length) := by apply decide_eq_decide.2; omega
  rw [e]
  by_cases h1 : g.2 = 0
  · by_cases h2 : g.1 > 2000
    · have h3 : 2000 < g.1 := h2
      simp only [h1, h2, h3, if_true, decide_true, Bool.true_and, Bool.true_or]
      exact Ev.now _
    · have h3 : ¬ 2000 < g.1 := h2
      simp only [h1, h2, h3, if_true, if_false, decide_true, decide_false, Bool.true_and, Bool.false_or]
      exact Ev.now _
  · simp only [h1, if_false, decide_false, Bool.false_and, Bool.false_or]
    exact Ev.now _
theorem st_step (l : List Int) (q2 : ∀ n ∈ l, 0 ≤ n) (q3 : ttl l ≤ 1048576) (i : Nat) (hi : i < l.length) : wrap64 (((startOf l (i : Int) : Nat) : Int) + rd l (i : Int)) = ((startOf l ((i + 1 : Nat) : Int) : Nat) : Int) := by
  have hs := startOf_succ l (i : Int) (by omega) (by omega)
  have hle := startOf_le_ttl l (i + 1) (by omega)
  have hn := q2 _ (rd_mem l (i : Int) (by omega) (by omega))
  rw [show ((i + 1 : Nat) : Int) = (i : Int) + 1 by omega] at hle ⊢
  rw [hs] at hle ⊢
  generalize startOf l (i : Int) = st at *
  generalize rd l (i : Int) = n at *
  unfold wrap64
  omega
theorem ev_Begin (l : List Int) (hl : Sh l) (h0 : chkE l = 0) : Ev (fun k => r02_Begin.f k l) (startsL l) := by
  obtain ⟨q1, q2, q3⟩ := chkE_ok h0
  have H := up (n := l.length) (P := fun i => Ev (fun k => r02_Begin.l0 k l (upTo (fun x => ((startOf l x : Nat) : Int)) (i : Int)) ((startOf l (i : Int) : Nat) : Int) (i : Int)) (startsL l))
    (Ev.step (f := fun _ => some (startsL l)) (fun k => by simp only [r02_Begin.l0]; rw [if_neg (by omega)]; rfl) (Ev.now _))
    (fun i hi ih => by
      have hup : upTo (fun x => ((startOf l x : Nat) : Int)) ((i + 1 : Nat) : Int) = upTo (fun x => ((startOf l x : Nat) : Int)) (i : Int) ++ [((startOf l (i : Int) : Nat) : Int)] := by rw [show ((i + 1 : Nat) : Int) = (i : Int) + 1 by omega]; exact upTo_succ _ _ (by omega)
      have hul : (upTo (fun x => ((startOf l x : Nat) : Int)) (i : Int)).length < 17592186044416 := by rw [upTo_length]; omega
      rw [hup] at ih
      refine Ev.step (f := fun k => r02_Begin.l0 k l (upTo (fun x => ((startOf l x : Nat) : Int)) (i : Int) ++ [((startOf l (i : Int) : Nat) : Int)]) ((startOf l ((i + 1 : Nat) : Int) : Nat) : Int) ((i + 1 : Nat) : Int)) (fun k => ?_) ih
      simp only [r02_Begin.l0]
      rw [if_pos (by omega), if_pos hul, if_pos (by omega), wsucc hi hl, st_step l q2 q3 i hi]) 0 (Nat.zero_le _)
  exact H
theorem ev_Starts (l : List Int) (hl : Sh l) : Ev (fun k => r02_Starts.f k l) (seg_Starts.g l) := by
  unfold r02_Starts.f
  refine Ev.bind (ev_Check l hl) ?_
  unfold seg_Starts.g
  by_cases h1 : chkE l = 0
  · have e1 : seg_Check.g l = (((ttl l : Nat) : Int), 0) := by unfold seg_Check.g; rw [if_pos h1]
    rw [e1, if_pos h1]
    simp only [if_true]
    exact Ev.bind (ev_Begin l hl h1) (Ev.now _)
  · have e1 : seg_Check.g l = (0, chkE l) := by unfold seg_Check.g; rw [if_neg h1]
    rw [e1, if_neg h1]
    simp only [h1, if_false]
    exact Ev.now _
theorem rd_upTo_nat (f : Int → Int) (n k : Nat) (h : k < n) : rd (upTo f (n : Int)) (k : Int) = f k := upTo_rd f n k h
set_option maxHeartbeats 1000000 in
theorem ev_Heads (l : List Int) (hl : Sh l) : Ev (fun k => r02_Heads.f k l) (seg_Heads.g l) := by
  unfold r02_Heads.f
  refine Ev.bind (ev_Check l hl) ?_
  unfold seg_Heads.g
  by_cases h1 : chkE l = 0
  · have e1 : seg_Check.g l = (((ttl l : Nat) : Int), 0) := by unfold seg_Check.g; rw [if_pos h1]
    obtain ⟨q1, q2, q3⟩ := chkE_ok h1
    rw [e1, if_pos h1]
    have hB := ev_Begin l hl h1
    have hSl := startsL_length l
    have hSr : ∀ i : Nat, i < l.length → ∃ q : Nat, rd (startsL l) (i : Int) = (q : Int) ∧ q < ttl l + 1 := fun i hi => ⟨startOf l (i : Int), startsL_rd l i hi, by have := startOf_le_ttl l i (by omega); omega⟩
    obtain ⟨T, hT⟩ : ∃ T, ttl l = T := ⟨_, rfl⟩
    rw [hT] at hSr q3 ⊢
    generalize startsL l = S at *
    have hw := Aside0.mk (show wrap64 ((T : Int) + 1) = ((T + 1 : Nat) : Int) by unfold wrap64; omega)
    simp only [if_true]
    simp only [hw.out, show (0 : Int) ≤ ((T + 1 : Nat) : Int) from by omega, Int.toNat_natCast, show T + 1 ≤ 35184372088832 from by omega, if_true]
    refine Ev.bind hB ?_
    have H := up (n := l.length) (P := fun i => Ev (fun k => r02_Heads.l0 k (upTo (cntN S i) ((T + 1 : Nat) : Int)) S (i : Int)) (upTo (cntN S l.length) ((T : Int) + 1), 0))
      (Ev.step (f := fun _ => some (upTo (cntN S l.length) ((T : Int) + 1), 0)) (fun k => by simp only [r02_Heads.l0]; rw [if_neg (by omega), show ((T + 1 : Nat) : Int) = (T : Int) + 1 by omega]) (Ev.now _))
      (fun i hi ih => by
        obtain ⟨q, hq, hq2⟩ := hSr i hi
        have hcs := cntN_succ S i (by omega) (q : Int)
        rw [hq, if_pos rfl] at hcs
        have hcl := cntN_le S i (q : Int)
        have hset : (upTo (cntN S i) ((T + 1 : Nat) : Int)).set q (cntN S i (q : Int) + 1) = upTo (cntN S (i + 1)) ((T + 1 : Nat) : Int) := upTo_set (cntN S i) (cntN S (i + 1)) (T + 1) q _ hcs (fun k hk hne => by rw [cntN_succ S i (by omega), hq, if_neg (by omega)]; omega)
        have hrd := rd_upTo_nat (cntN S i) (T + 1) q hq2
        have hlen := upTo_length (cntN S i) ((T + 1 : Nat) : Int)
        rw [← hset] at ih
        refine Ev.step (f := fun k => r02_Heads.l0 k ((upTo (cntN S i) ((T + 1 : Nat) : Int)).set q (cntN S i (q : Int) + 1)) S ((i + 1 : Nat) : Int)) (fun k => ?_) ih
        have hw2 := Aside0.mk (show wrap64 (cntN S i (q : Int) + 1) = cntN S i (q : Int) + 1 by generalize cntN S i (q : Int) = c at *; unfold wrap64; omega)
        simp only [r02_Heads.l0]
        rw [if_pos (by omega), if_pos (by omega), hq, if_pos (by omega), if_pos (by rw [hlen]; omega), Int.toNat_natCast, hrd, hw2.out, wsucc hi hl]) 0 (Nat.zero_le _)
    have e0 : List.replicate (T + 1) (0 : Int) = upTo (cntN S 0) ((T + 1 : Nat) : Int) := (upTo_zero (T + 1) (cntN S 0) (fun k _ => rfl)).symm
    rw [e0]
    exact H
  · have e1 : seg_Check.g l = (0, chkE l) := by unfold seg_Check.g; rw [if_neg h1]
    rw [e1, if_neg h1]
    simp only [h1, if_false]
    exact Ev.now _
set_option maxHeartbeats 1000000 in
theorem ev_Owners (l : List Int) (hl : Sh l) : Ev (fun k => r02_Owners.f k l) (seg_Owners.g l) := by
  unfold r02_Owners.f
  refine Ev.bind (ev_Check l hl) ?_
  unfold seg_Owners.g
  by_cases h1 : chkE l = 0
  · have e1 : seg_Check.g l = (((ttl l : Nat) : Int), 0) := by unfold seg_Check.g; rw [if_pos h1]
    obtain ⟨q1, q2, q3⟩ := chkE_ok h1
    rw [e1, if_pos h1]
    simp only [if_true]
    have H := up (n := l.length) (P := fun i => Ev (fun k => r02_Owners.l0 k l (repsTo l i) (i : Int)) (repsTo l l.length, 0))
      (Ev.step (f := fun _ => some (repsTo l l.length, 0)) (fun k => by simp only [r02_Owners.l0]; rw [if_neg (by omega)]) (Ev.now _))
      (fun i hi ih => by
        have hle := startOf_le_ttl l (i + 1) (by omega)
        have hs := startOf_succ l (i : Int) (by omega) (by omega)
        rw [show ((i + 1 : Nat) : Int) = (i : Int) + 1 by omega, hs] at hle
        have hrl := repsTo_length l i (by omega)
        have hn := q2 _ (rd_mem l (i : Int) (by omega) (by omega))
        obtain ⟨n, hnn⟩ : ∃ n : Nat, rd l (i : Int) = n := ⟨(rd l (i : Int)).toNat, by omega⟩
        rw [repsTo_succ] at ih
        rw [hnn, Int.toNat_natCast] at ih hle
        have H2 := up (n := n) (P := fun j => Ev (fun k => r02_Owners.l1 k l (repsTo l i ++ List.replicate j (i : Int)) (i : Int) (j : Int)) (repsTo l l.length, 0))
          (Ev.step (f := fun k => r02_Owners.l0 k l (repsTo l i ++ List.replicate n (i : Int)) ((i + 1 : Nat) : Int)) (fun k => by simp only [r02_Owners.l1]; rw [if_pos (by omega), if_pos (by omega), hnn, if_neg (by omega), wsucc hi hl]) ih)
          (fun j hj ih2 => by
            have hlen : (repsTo l i ++ List.replicate j (i : Int)).length < 17592186044416 := by rw [List.length_append, List.length_replicate]; omega
            rw [List.replicate_succ', ← List.append_assoc] at ih2
            refine Ev.step (f := fun k => r02_Owners.l1 k l (repsTo l i ++ List.replicate j (i : Int) ++ [(i : Int)]) (i : Int) ((j + 1 : Nat) : Int)) (fun k => ?_) ih2
            simp only [r02_Owners.l1]
            rw [if_pos (by omega), if_pos (by omega), hnn, if_pos (by omega), if_pos hlen, wsucc hj (by omega)]) 0 (Nat.zero_le _)
        refine Ev.step (f := fun k => r02_Owners.l1 k l (repsTo l i ++ List.replicate 0 (i : Int)) (i : Int) ((0 : Nat) : Int)) (fun k => ?_) H2
        simp only [r02_Owners.l0]
        rw [if_pos (by omega), List.replicate_zero, List.append_nil]
        rfl) 0 (Nat.zero_le _)
    exact H
  · have e1 : seg_Check.g l = (0, chkE l) := by unfold seg_Check.g; rw [if_neg h1]
    rw [e1, if_neg h1]
    simp only [h1, if_false]
    exact Ev.now _
theorem SegLengths : w02_SegLengths.Pure := by
  intro l0 _ h1 _
  have s0 : Sh l0 := by unfold Sh; omega
  have H : Ev (fun k => w02_SegLengths.f k l0) true := by
    unfold w02_SegLengths.f
    refine Ev.bind (ev_great l0 s0) ?_
    cases greatB l0
    · simp only [Bool.false_eq_true, if_false, rCheck.f, rStarts.f, rHeads.f, rOwners.f, law_cut.f, Option.bind_some]
      refine Ev.bind (ev_Check l0 s0) ?_
      refine Ev.bind (ev_Starts l0 s0) ?_
      refine Ev.bind (ev_Heads l0 s0) ?_
      refine Ev.bind (ev_Owners l0 s0) ?_
      simp only [if_true, Eq_.f, BEq.rfl, Option.bind_some]
      exact Ev.now _
    · simp only [if_true, law_cut.f, Option.bind_some]
      exact Ev.now _
  exact H.rounds
end Go.Proofs.Ythalgcpohnknbaa.Pure
