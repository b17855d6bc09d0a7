/- SegNests: Nest and Split of the reference are the program's, for any two lists, and number; it is told of numbers and lists alone. -/
import Derived.Test.YthalgcpohnknbaaPSegNestsx
namespace Go.Proofs.Ythalgcpohnknbaa.Pure
open Go.RowKit Go.Proofs.Ythalgcpohnknbaa.PSegNests Go.Proofs.Ythalgcpohnknbaa.Hand Go.Proofs.YthalgcpohnknbaaW.PrintWords Go.Proofs.YthalgcpohnknbaaW.PrintLast Go.Proofs.YthalgcpohnknbaaW.PrintMore
set_option linter.unusedVariables false
set_option linter.unusedSimpArgs false
/-- Lists so short that a place's successor is no other number. -/
def Sh {α : Type} (l : List α) : Prop := l.length ≤ 4611686018427387904
theorem wsucc {i n : Nat} (h : i < n) (hn : n ≤ 4611686018427387904) : wrap64 ((i : Int) + 1) = ((i + 1 : Nat) : Int) := by unfold wrap64; omega
theorem rd_get {l : List Int} {i : Nat} (h : i < l.length) : rd l (i : Int) = l[i] := by simp [rd, h]
theorem drop_rd {l : List Int} {i : Nat} (h : i < l.length) : l.drop i = rd l (i : Int) :: l.drop (i + 1) := by rw [List.drop_eq_getElem_cons h, rd_get h]
theorem up {n : Nat} {P : Nat → Prop} (h0 : P n) (hs : ∀ i, i < n → P (i + 1) → P i) (i : Nat) (hi : i ≤ n) : P i := by
  have key : ∀ d, ∀ i, i + d = n → P i := by
    intro d
    induction d with
    | zero => intro i h; have : i = n := by omega
              subst this; exact h0
    | succ d ih => intro i h; exact hs i (by omega) (ih (i + 1) (by omega))
  exact key (n - i) i (by omega)
theorem f_Lies (a b c : Int) : r00_Lies.f a b c = some (decide (b ≤ a) && decide (a ≤ c)) := by unfold r00_Lies.f; split <;> simp [*]
def m2 (s : Nat) : Int := ((min s 2097152 : Nat) : Int)
theorem m2_step (s : Nat) (n : Int) (h : 0 ≤ n) : mn (wrap64 (m2 s + mn n 2097152)) 2097152 = m2 (s + n.toNat) := by
  unfold m2 mn wrap64
  split <;> split <;> omega
theorem negs_drop {l : List Int} {i : Nat} (h : i < l.length) : negs (l.drop i) = (decide (rd l (i : Int) < 0) || negs (l.drop (i + 1))) := by
  rw [drop_rd h]
  rfl
theorem ev_Check (l : List Int) (hl : Sh l) : Ev (fun k => r02_Check.f k l) (seg_Check.g l) := by
  by_cases h0 : 1048576 < l.length
  · have e : seg_Check.g l = (0, 3) := by unfold seg_Check.g chkE; simp [h0]
    rw [e]
    refine Ev.congr (f := fun _ => some (0, 3)) (fun k => ?_) (Ev.now _)
    unfold r02_Check.f
    rw [if_pos (by omega)]
  · have H := up (n := l.length) (P := fun i => Ev (fun k => r02_Check.l0 k l (m2 (startOf l (i : Int))) (i : Int)) (if negs (l.drop i) then (0, 2) else if 1048576 < ttl l then (0, 9) else (((ttl l : Nat) : Int), 0)))
      (by
        rw [List.drop_length]
        refine Ev.step (f := fun _ => some (if negs ([] : List Int) then (0, 2) else if 1048576 < ttl l then (0, 9) else (((ttl l : Nat) : Int), 0))) (fun k => ?_) (Ev.now _)
        simp only [r02_Check.l0]
        rw [if_neg (by omega)]
        have ht : startOf l (l.length : Int) = ttl l := rfl
        rw [ht]
        simp only [negs, List.any_nil, Bool.false_eq_true, if_false]
        by_cases hb : 1048576 < ttl l
        · rw [if_pos (show m2 (ttl l) > 1048576 by unfold m2; omega), if_pos hb]
        · rw [if_neg (show ¬ m2 (ttl l) > 1048576 by unfold m2; omega), if_neg hb]
          have e : m2 (ttl l) = ((ttl l : Nat) : Int) := by unfold m2; omega
          rw [e])
      (fun i hi ih => by
        rw [negs_drop hi]
        by_cases hn : rd l (i : Int) < 0
        · refine Ev.step (f := fun _ => some (0, 2)) (fun k => ?_) (by simp only [hn, decide_true, Bool.true_or, if_true]; exact Ev.now _)
          simp only [r02_Check.l0]
          rw [if_pos (by omega), if_pos (by omega), if_pos hn]
        · refine Ev.step (f := fun k => r02_Check.l0 k l (m2 (startOf l ((i + 1 : Nat) : Int))) ((i + 1 : Nat) : Int)) (fun k => ?_) (by simp only [hn, decide_false, Bool.false_or]; exact ih)
          simp only [r02_Check.l0]
          rw [if_pos (by omega), if_pos (by omega), if_neg hn, wsucc hi hl, m2_step _ _ (by omega), show ((i + 1 : Nat) : Int) = (i : Int) + 1 by omega, startOf_succ l (i : Int) (by omega) (by omega)]) 0 (Nat.zero_le _)
    have e : seg_Check.g l = if negs (l.drop 0) then (0, 2) else if 1048576 < ttl l then (0, 9) else (((ttl l : Nat) : Int), 0) := by
      rw [List.drop_zero]
      unfold seg_Check.g chkE
      rw [if_neg h0]
      cases negs l <;> by_cases h3 : 1048576 < ttl l <;> simp [h3]
    rw [e]
    refine Ev.congr (f := fun k => r02_Check.l0 k l 0 0) (fun k => ?_) H
    unfold r02_Check.f
    rw [if_neg (by omega)]
def greatB (l : List Int) : Bool := (decide ((seg_Check.g l).2 = 0) && decide (2000 < (seg_Check.g l).1)) || decide (2000 < l.length)
theorem ev_great (l : List Int) (hl : Sh l) : Ev (fun k => w02_great.f k l) (greatB l) := by
  unfold w02_great.f
  refine Ev.bind (ev_Check l hl) ?_
  unfold greatB
  generalize seg_Check.g l = g
  have e : decide ((l.length : Int) > 2000) = decide (2000 < l.length) := by apply decide_eq_decide.2; omega
  rw [e]
  by_cases h1 : g.2 = 0
  · by_cases h2 : g.1 > 2000
    · have h3 : 2000 < g.1 := h2
      simp only [h1, h2, h3, if_true, decide_true, Bool.true_and, Bool.true_or]
      exact Ev.now _
    · have h3 : ¬ 2000 < g.1 := h2
      simp only [h1, h2, h3, if_true, if_false, decide_true, decide_false, Bool.true_and, Bool.false_or]
      exact Ev.now _
  · simp only [h1, if_false, decide_false, Bool.false_and, Bool.false_or]
    exact Ev.now _
theorem ev_Sum (l : List Int) (hl : Sh l) (hp : ∀ n ∈ l, 0 ≤ n) (ht : ttl l ≤ 1048576) : Ev (fun k => r00_Sum.f k l) ((ttl l : Nat) : Int) := by
  have H := up (n := l.length) (P := fun i => Ev (fun k => r00_Sum.l0 k l ((startOf l (i : Int) : Nat) : Int) (i : Int)) ((ttl l : Nat) : Int))
    (Ev.step (f := fun _ => some ((ttl l : Nat) : Int)) (fun k => by simp only [r00_Sum.l0]; rw [if_neg (by omega)]; rfl) (Ev.now _))
    (fun i hi ih => by
      refine Ev.step (f := fun k => r00_Sum.l0 k l ((startOf l ((i + 1 : Nat) : Int) : Nat) : Int) ((i + 1 : Nat) : Int)) (fun k => ?_) ih
      simp only [r00_Sum.l0]
      have hs := startOf_succ l (i : Int) (by omega) (by omega)
      have hle := startOf_le_ttl l (i + 1) (by omega)
      have hn := hp _ (rd_mem l (i : Int) (by omega) (by omega))
      rw [if_pos (by omega), if_pos (by omega), wsucc hi hl]
      rw [show ((i + 1 : Nat) : Int) = (i : Int) + 1 by omega] at hle ⊢
      rw [hs] at hle ⊢
      generalize startOf l (i : Int) = st at *
      generalize rd l (i : Int) = n at *
      have e := Aside0.mk (show wrap64 ((st : Int) + n) = ((st + n.toNat : Nat) : Int) by unfold wrap64; omega)
      rw [e.out]) 0 (Nat.zero_le _)
  exact H
set_option maxHeartbeats 1000000 in
theorem ev_Nest (o l : List Int) (ho : Sh o) (hl : Sh l) : Ev (fun k => r02_Nest.f k o l) (seg_Nest.g o l) := by
  unfold r02_Nest.f
  refine Ev.bind (ev_Check o ho) ?_
  unfold seg_Nest.g
  by_cases h1 : chkE o = 0
  · have e1 : seg_Check.g o = (((ttl o : Nat) : Int), 0) := by unfold seg_Check.g; rw [if_pos h1]
    rw [e1, if_pos h1]
    simp only [if_true]
    refine Ev.bind (ev_Check l hl) ?_
    by_cases h2 : chkE l = 0
    · have e2 : seg_Check.g l = (((ttl l : Nat) : Int), 0) := by unfold seg_Check.g; rw [if_pos h2]
      rw [e2, if_pos h2]
      simp only [if_true]
      obtain ⟨q1, q2, q3⟩ := chkE_ok h1
      obtain ⟨p1, p2, p3⟩ := chkE_ok h2
      by_cases h3 : ttl o = l.length
      · rw [if_pos h3]
        simp only [show ((ttl o : Nat) : Int) = (l.length : Int) by omega, if_true]
        have H := up (n := o.length) (P := fun i => Ev (fun k => r02_Nest.l0 k o l (upTo (nestAt o l) (i : Int)) ((startOf o (i : Int) : Nat) : Int) (i : Int)) (upTo (nestAt o l) (o.length : Int), 0))
          (Ev.step (f := fun _ => some (upTo (nestAt o l) (o.length : Int), 0)) (fun k => by simp only [r02_Nest.l0]; rw [if_neg (by omega)]) (Ev.now _))
          (fun i hi ih => by
            have hs := startOf_succ o (i : Int) (by omega) (by omega)
            have hle := startOf_le_ttl o (i + 1) (by omega)
            have hn := q2 _ (rd_mem o (i : Int) (by omega) (by omega))
            have hna : nestAt o l (i : Int) = ((ttl ((l.drop (startOf o (i : Int))).take (rd o (i : Int)).toNat) : Nat) : Int) := rfl
            have hup : upTo (nestAt o l) ((i + 1 : Nat) : Int) = upTo (nestAt o l) (i : Int) ++ [nestAt o l (i : Int)] := by rw [show ((i + 1 : Nat) : Int) = (i : Int) + 1 by omega]; exact upTo_succ _ _ (by omega)
            have hul : (upTo (nestAt o l) (i : Int)).length < 17592186044416 := by rw [upTo_length]; omega
            rw [hup] at ih
            rw [show ((i + 1 : Nat) : Int) = (i : Int) + 1 by omega] at hle
            rw [show ((i + 1 : Nat) : Int) = (i : Int) + 1 by omega, hs] at ih
            rw [hs] at hle
            obtain ⟨n, hnn⟩ : ∃ n : Nat, rd o (i : Int) = n := ⟨(rd o (i : Int)).toNat, by omega⟩
            rw [hnn, Int.toNat_natCast] at hna hle ih
            generalize startOf o (i : Int) = st at *
            generalize nestAt o l (i : Int) = q at *
            generalize upTo (nestAt o l) (i : Int) = xs at *
            have hsum : Ev (fun k => r00_Sum.f k ((l.drop st).take n)) q := by
              rw [hna]
              refine ev_Sum _ ?_ (fun x hx => p2 x (List.mem_of_mem_drop (List.mem_of_mem_take hx))) ?_
              · unfold Sh; have := List.length_take_le n (l.drop st); omega
              · have h5 := startOf_add l st n
                have h6 := startOf_le_ttl l (st + n) (by omega)
                omega
            have e := Aside0.mk (show wrap64 ((st : Int) + (n : Int)) = ((st + n : Nat) : Int) by unfold wrap64; omega)
            refine Ev.step (f := fun k => (r00_Sum.f k ((l.drop st).take n)).bind fun t115 => if xs.length < 17592186044416 then r02_Nest.l0 k o l (xs ++ [t115]) ((st + n : Nat) : Int) ((i : Int) + 1) else none) (fun k => ?_) (Ev.bind hsum (by simp only [if_pos hul]; exact ih))
            simp only [r02_Nest.l0]
            rw [hnn, e.out, if_pos (by omega), if_pos (by omega), if_pos (by omega), if_pos (by omega), if_pos (by omega), wsucc hi ho, Int.toNat_natCast, Int.toNat_natCast, List.drop_take, Nat.add_sub_cancel_left]
            rw [show ((i + 1 : Nat) : Int) = (i : Int) + 1 by omega]) 0 (Nat.zero_le _)
        exact H
      · rw [if_neg h3]
        simp only [show ¬ ((ttl o : Nat) : Int) = (l.length : Int) by omega, if_false]
        exact Ev.now _
    · have e2 : seg_Check.g l = (0, chkE l) := by unfold seg_Check.g; rw [if_neg h2]
      rw [e2, if_neg h2]
      simp only [h2, if_false]
      exact Ev.now _
  · have e1 : seg_Check.g o = (0, chkE o) := by unfold seg_Check.g; rw [if_neg h1]
    rw [e1, if_neg h1]
    simp only [h1, if_false]
    exact Ev.now _
set_option maxHeartbeats 1000000 in
theorem ev_Split1 (l : List Int) (t : Nat) (h1 : 1 ≤ t) (h2 : t ≤ 1048576) (x10 : List Int) (hx : x10.length ≤ 1048576) (i : Int) (R : List Int × List Int × Int) : ∀ (f left : Nat) (x9 : List Int) (m : Nat), left ≤ f → x9.length + left ≤ 1099511627776 → m + left ≤ 1099511627776 →
    Ev (fun k => r02_Split.l0 k l (t : Int) (x9 ++ pcs t f left) (x10 ++ [((m + (pcs t f left).length : Nat) : Int)]) (wrap64 (i + 1))) R → Ev (fun k => r02_Split.l1 k l (t : Int) x9 x10 i (m : Int) (left : Int)) R
  | f, 0, x9, m, _, _, _, H => by
    rw [pcs_zero] at H
    refine Ev.step (f := fun k => r02_Split.l0 k l (t : Int) x9 (x10 ++ [(m : Int)]) (wrap64 (i + 1))) (fun k => ?_) (by simpa using H)
    simp only [r02_Split.l1]
    rw [if_neg (by omega), if_pos (by omega)]
  | 0, left + 1, _, _, h, _, _, _ => absurd h (by omega)
  | f + 1, left + 1, x9, m, hf, hb, hm, H => by
    have hp : pcs t (f + 1) (left + 1) = ((min (left + 1) t : Nat) : Int) :: pcs t f (left + 1 - min (left + 1) t) := by
      show (if left + 1 = 0 then [] else _) = _
      rw [if_neg (by omega)]
    rw [hp] at H
    have hmn : mn ((left + 1 : Nat) : Int) (t : Int) = ((min (left + 1) t : Nat) : Int) := by unfold mn; split <;> omega
    have hw1 := Aside0.mk (show wrap64 ((m : Int) + 1) = ((m + 1 : Nat) : Int) by unfold wrap64; omega)
    have hw2 := Aside0.mk (show wrap64 (((left + 1 : Nat) : Int) - (t : Int)) = ((left + 1 : Nat) : Int) - (t : Int) by unfold wrap64; omega)
    by_cases hlt : t ≤ left + 1
    · obtain ⟨q, hq⟩ : ∃ q, left + 1 = t + q := ⟨left + 1 - t, by omega⟩
      have e1 : min (left + 1) t = t := by omega
      have e2 : left + 1 - t = q := by omega
      rw [e1, e2] at H
      rw [e1] at hmn
      have ih := ev_Split1 l t h1 h2 x10 hx i R f q (x9 ++ [(t : Int)]) (m + 1) (by omega) (by rw [List.length_append]; simp; omega) (by omega) (by
        rw [List.append_assoc]
        have e3 : m + 1 + (pcs t f q).length = m + ((t : Int) :: pcs t f q).length := by simp; omega
        rw [e3]
        exact H)
      refine Ev.step (f := fun k => r02_Split.l1 k l (t : Int) (x9 ++ [(t : Int)]) x10 i ((m + 1 : Nat) : Int) (q : Int)) (fun k => ?_) ih
      simp only [r02_Split.l1]
      rw [if_pos (by omega), if_pos (by omega), hmn, hw1.out, hw2.out, show ((left + 1 : Nat) : Int) - (t : Int) = (q : Int) by omega]
    · have e1 : min (left + 1) t = left + 1 := by omega
      rw [e1, Nat.sub_self, pcs_zero] at H
      rw [e1] at hmn
      refine Ev.step (f := fun k => r02_Split.l1 k l (t : Int) (x9 ++ [((left + 1 : Nat) : Int)]) x10 i ((m + 1 : Nat) : Int) (((left + 1 : Nat) : Int) - (t : Int))) (fun k => ?_) (Ev.step (f := fun k => r02_Split.l0 k l (t : Int) (x9 ++ [((left + 1 : Nat) : Int)]) (x10 ++ [((m + 1 : Nat) : Int)]) (wrap64 (i + 1))) (fun k => ?_) (by simpa using H))
      · simp only [r02_Split.l1]
        rw [if_pos (by omega), if_pos (by omega), hmn, hw1.out, hw2.out]
      · simp only [r02_Split.l1]
        rw [if_neg (by omega), if_pos (by omega)]
set_option maxHeartbeats 1000000 in
theorem ev_Split (l : List Int) (t : Int) (hl : Sh l) : Ev (fun k => r02_Split.f k l t) (seg_Split.g l t) := by
  unfold r02_Split.f
  refine Ev.bind (ev_Check l hl) ?_
  unfold seg_Split.g
  by_cases h1 : chkE l = 0
  · have e1 : seg_Check.g l = (((ttl l : Nat) : Int), 0) := by unfold seg_Check.g; rw [if_pos h1]
    rw [e1, if_pos h1]
    simp only [if_true, f_Lies, Option.bind_some]
    by_cases hb : t < 1 ∨ 1048576 < t
    · rw [if_pos (show (decide (t < 1) || decide (1048576 < t)) = true by rcases hb with h | h <;> simp [h])]
      have e : (decide (1 ≤ t) && decide (t ≤ 1048576)) = false := by
        rcases hb with h | h
        · simp [show ¬ 1 ≤ t by omega]
        · simp [show ¬ t ≤ 1048576 by omega]
      simp only [e, Bool.false_eq_true, if_false]
      exact Ev.now _
    · obtain ⟨q, rfl⟩ : ∃ q : Nat, t = q := ⟨t.toNat, by omega⟩
      rw [if_neg (show ¬ (decide ((q : Int) < 1) || decide (1048576 < (q : Int))) = true by simp; omega), Int.toNat_natCast]
      have e : (decide (1 ≤ (q : Int)) && decide ((q : Int) ≤ 1048576)) = true := by simp; omega
      simp only [e, if_true]
      obtain ⟨q1, q2, q3⟩ := chkE_ok h1
      have H := up (n := l.length) (P := fun i => Ev (fun k => r02_Split.l0 k l (q : Int) (piecesTo l q i) (upTo (manyOf l q) (i : Int)) (i : Int)) (piecesTo l q l.length, upTo (manyOf l q) (l.length : Int), 0))
        (Ev.step (f := fun _ => some (piecesTo l q l.length, upTo (manyOf l q) (l.length : Int), 0)) (fun k => by simp only [r02_Split.l0]; rw [if_neg (by omega)]) (Ev.now _))
        (fun i hi ih => by
          have hs := startOf_succ l (i : Int) (by omega) (by omega)
          have hle := startOf_le_ttl l (i + 1) (by omega)
          have hn := q2 _ (rd_mem l (i : Int) (by omega) (by omega))
          have hup : upTo (manyOf l q) ((i + 1 : Nat) : Int) = upTo (manyOf l q) (i : Int) ++ [manyOf l q (i : Int)] := by rw [show ((i + 1 : Nat) : Int) = (i : Int) + 1 by omega]; exact upTo_succ _ _ (by omega)
          have hmo : manyOf l q (i : Int) = (((pcsAt l q i).length : Nat) : Int) := by unfold manyOf; rw [Int.toNat_natCast]
          have hpl := piecesTo_length l q (by omega) i (by omega)
          have hul := upTo_length (manyOf l q) (i : Int)
          have hsl := startOf_le_ttl l i (by omega)
          rw [hup, piecesTo_succ, hmo] at ih
          unfold pcsAt at ih
          rw [show ((i + 1 : Nat) : Int) = (i : Int) + 1 by omega, hs] at hle
          obtain ⟨n, hnn⟩ : ∃ n : Nat, rd l (i : Int) = n := ⟨(rd l (i : Int)).toNat, by omega⟩
          rw [hnn, Int.toNat_natCast] at ih hle
          refine Ev.step (f := fun k => r02_Split.l1 k l (q : Int) (piecesTo l q i) (upTo (manyOf l q) (i : Int)) (i : Int) ((0 : Nat) : Int) (n : Int)) (fun k => ?_) (ev_Split1 l q (by omega) (by omega) _ (by rw [hul]; omega) (i : Int) _ n n _ 0 (Nat.le_refl _) (by omega) (by omega) (by
            rw [wsucc hi hl, Nat.zero_add]
            exact ih))
          simp only [r02_Split.l0]
          rw [if_pos (by omega), if_pos (by omega), hnn]
          rfl) 0 (Nat.zero_le _)
      exact H
  · have e1 : seg_Check.g l = (0, chkE l) := by unfold seg_Check.g; rw [if_neg h1]
    rw [e1, if_neg h1]
    simp only [h1, if_false]
    exact Ev.now _
theorem SegNests : w02_SegNests.Pure := by
  intro l0 l1 a2 _ h1 _ _ h2 _ _
  have s0 : Sh l0 := by unfold Sh; omega
  have s1 : Sh l1 := by unfold Sh; omega
  have H : Ev (fun k => w02_SegNests.f k l0 l1 a2) true := by
    have hT : Ev (fun k => w02_SegNests.j0 k l0 l1 a2 true) true := by
      refine Ev.step (f := fun _ => some true) (fun k => ?_) (Ev.now _)
      simp only [w02_SegNests.j0, if_true, law_cut.f, Option.bind_some]
    unfold w02_SegNests.f
    refine Ev.bind (ev_great l0 s0) ?_
    cases greatB l0
    · simp only [Bool.false_eq_true, if_false]
      refine Ev.bind (ev_great l1 s1) ?_
      cases greatB l1
      · refine Ev.step (f := fun k => (r02_Nest.f k l0 l1).bind fun bt143 => ((r02_Split.f k l1 a2).bind fun bt154 => ((Hand.Eq_.f (seg_Nest.g l0 l1).1 bt143.1).bind fun t161 => (if t161 = true then (if (seg_Nest.g l0 l1).2 = bt143.2 then ((Hand.Eq_.f (seg_Split.g l1 a2).1 bt154.1).bind fun t162 => (if t162 = true then ((Hand.Eq_.f (seg_Split.g l1 a2).2.1 bt154.2.1).bind fun t163 => (if t163 = true then (if (seg_Split.g l1 a2).2.2 = bt154.2.2 then ((Hand.law_cut.f).bind fun t164 => (some t164)) else (none)) else (none))) else (none))) else (none)) else (none))))) (fun k => ?_) ?_
        · simp only [w02_SegNests.j0, Bool.false_eq_true, if_false, rNest.f, rSplit.f, Option.bind_some]
        · refine Ev.bind (ev_Nest l0 l1 s0 s1) ?_
          refine Ev.bind (ev_Split l1 a2 s1) ?_
          simp only [if_true, Eq_.f, BEq.rfl, Option.bind_some, law_cut.f]
          exact Ev.now _
      · exact hT
    · simp only [if_true]
      exact hT
  exact H.rounds
end Go.Proofs.Ythalgcpohnknbaa.Pure
