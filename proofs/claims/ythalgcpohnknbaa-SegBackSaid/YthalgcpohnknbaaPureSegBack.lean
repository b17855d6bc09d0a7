/- SegBack: Lengths, OfHeads and OfOwners of the reference are the program's, for any list, and number; it is told of numbers and lists alone. -/
import Derived.Test.YthalgcpohnknbaaPSegBackx
namespace Go.Proofs.Ythalgcpohnknbaa.Pure
open Go.RowKit Go.Proofs.Ythalgcpohnknbaa.PSegBack Go.Proofs.Ythalgcpohnknbaa.Hand Go.Proofs.YthalgcpohnknbaaW.PrintWords Go.Proofs.YthalgcpohnknbaaW.PrintLast Go.Proofs.YthalgcpohnknbaaW.PrintMore
set_option linter.unusedVariables false
set_option linter.unusedSimpArgs false
def noWords (l : List Int) : Bool := l.any (fun n => !isWordB n)
/-- Lists so short that a place's successor is no other number. -/
def Sh {α : Type} (l : List α) : Prop := l.length ≤ 4611686018427387904
theorem wsucc {i n : Nat} (h : i < n) (hn : n ≤ 4611686018427387904) : wrap64 ((i : Int) + 1) = ((i + 1 : Nat) : Int) := by unfold wrap64; omega
theorem rd_get {l : List Int} {i : Nat} (h : i < l.length) : rd l (i : Int) = l[i] := by simp [rd, h]
theorem drop_rd {l : List Int} {i : Nat} (h : i < l.length) : l.drop i = rd l (i : Int) :: l.drop (i + 1) := by rw [List.drop_eq_getElem_cons h, rd_get h]
theorem up {n : Nat} {P : Nat → Prop} (h0 : P n) (hs : ∀ i, i < n → P (i + 1) → P i) (i : Nat) (hi : i ≤ n) : P i := by
  have key : ∀ d, ∀ i, i + d = n → P i := by
    intro d
    induction d with
    | zero => intro i h; have : i = n := by omega
              subst this; exact h0
    | succ d ih => intro i h; exact hs i (by omega) (ih (i + 1) (by omega))
  exact key (n - i) i (by omega)
theorem f_Lies (a b c : Int) : r00_Lies.f a b c = some (decide (b ≤ a) && decide (a ≤ c)) := by unfold r00_Lies.f; split <;> simp [*]
theorem f_IsWord (n : Int) : r00_IsWord.f n = some (isWordB n) := by unfold r00_IsWord.f; rw [f_Lies]; rfl
theorem ev_Words (l : List Int) (hl : Sh l) : Ev (fun k => r00_Words.f k l) (!noWords l) := by
  have H := up (n := l.length) (P := fun i => Ev (fun k => r00_Words.l0 k l (i : Int)) (!noWords (l.drop i)))
    (Ev.step (f := fun _ => some true) (fun k => by simp only [r00_Words.l0]; rw [if_neg (by omega)]) (by rw [List.drop_length]; exact Ev.now _))
    (fun i hi ih => by
      cases hw : isWordB (rd l (i : Int))
      · rw [drop_rd hi]
        refine Ev.step (f := fun _ => some false) (fun k => ?_) (by simp only [noWords, List.any_cons, hw]; exact Ev.now _)
        simp only [r00_Words.l0]; rw [if_pos (by omega), if_pos (by omega), f_IsWord, hw]; rfl
      · rw [drop_rd hi]
        refine Ev.step (f := fun k => r00_Words.l0 k l ((i + 1 : Nat) : Int)) (fun k => ?_) (by simp only [noWords, List.any_cons, hw]; exact ih)
        simp only [r00_Words.l0]; rw [if_pos (by omega), if_pos (by omega), f_IsWord, hw, wsucc hi hl]; rfl) 0 (Nat.zero_le _)
  exact H
def m2 (s : Nat) : Int := ((min s 2097152 : Nat) : Int)
theorem m2_step (s : Nat) (n : Int) (h : 0 ≤ n) : mn (wrap64 (m2 s + mn n 2097152)) 2097152 = m2 (s + n.toNat) := by
  unfold m2 mn wrap64
  split <;> split <;> omega
theorem negs_drop {l : List Int} {i : Nat} (h : i < l.length) : negs (l.drop i) = (decide (rd l (i : Int) < 0) || negs (l.drop (i + 1))) := by
  rw [drop_rd h]
  rfl
theorem rd_upTo_nat (f : Int → Int) (n k : Nat) (h : k < n) : rd (upTo f (n : Int)) (k : Int) = f k := upTo_rd f n k h
def allFrom (p : Nat → Bool) (n i : Nat) : Bool := (List.range n).all fun j => decide (j < i) || p j
theorem allFrom_end (p : Nat → Bool) (n : Nat) : allFrom p n n = true := by
  unfold allFrom
  rw [List.all_eq_true]
  intro j hj
  simp [List.mem_range.1 hj]
theorem allFrom_true {p : Nat → Bool} {n i : Nat} : allFrom p n i = true ↔ ∀ j, i ≤ j → j < n → p j = true := by
  unfold allFrom
  rw [List.all_eq_true]
  constructor
  · intro h j h1 h2
    have := h j (List.mem_range.2 h2)
    rw [decide_eq_false (by omega), Bool.false_or] at this
    exact this
  · intro h j hj
    by_cases h1 : j < i
    · simp [h1]
    · rw [h j (by omega) (List.mem_range.1 hj)]; simp
theorem allFrom_step (p : Nat → Bool) {n i : Nat} (h : i < n) : allFrom p n i = (p i && allFrom p n (i + 1)) := by
  rw [Bool.eq_iff_iff, Bool.and_eq_true, allFrom_true, allFrom_true]
  constructor
  · intro h1
    exact ⟨h1 i (Nat.le_refl _) h, fun j h2 h3 => h1 j (by omega) h3⟩
  · rintro ⟨h1, h2⟩ j h3 h4
    by_cases hj : j = i
    · subst hj; exact h1
    · exact h2 j (by omega) h4
def okL (l : List Int) (t : Int) (j : Nat) : Bool := decide (rd l (j : Int) ≤ nextOf l t (j : Int)) && decide (nextOf l t (j : Int) ≤ t)
theorem next_le (l : List Int) (t : Int) (h : ∀ j : Nat, j < l.length → rd l (j : Int) ≤ nextOf l t (j : Int)) : ∀ d i : Nat, i + d + 1 = l.length → nextOf l t (i : Int) ≤ t
  | 0, i, he => by unfold nextOf; rw [if_neg (by omega)]; omega
  | d + 1, i, he => by
    have h1 := next_le l t h d (i + 1) (by omega)
    have h2 := h (i + 1) (by omega)
    have e : nextOf l t (i : Int) = rd l ((i : Int) + 1) := by unfold nextOf; rw [if_pos (by omega)]
    rw [e]
    rw [show ((i + 1 : Nat) : Int) = (i : Int) + 1 by omega] at h1 h2
    omega
theorem okStarts_eq (l : List Int) (t : Int) (h0 : 0 < l.length) : okStarts l t = ((rd l 0 == 0) && allFrom (okL l t) l.length 0) := by
  unfold okStarts
  rw [if_neg (by omega), Bool.eq_iff_iff, Bool.and_eq_true, allFrom_true, List.all_eq_true, beq_iff_eq]
  constructor
  · intro h
    have h1 : ∀ j : Nat, j < l.length → rd l (j : Int) ≤ nextOf l t (j : Int) := fun j hj => by
      have := h j (List.mem_range.2 hj)
      unfold okAt at this
      simp at this
      omega
    refine ⟨?_, fun j _ hj => ?_⟩
    · have := h 0 (List.mem_range.2 h0)
      unfold okAt at this
      simp at this
      omega
    · unfold okL
      have := next_le l t h1 (l.length - j - 1) j (by omega)
      have := h1 j hj
      simp
      omega
  · rintro ⟨h1, h2⟩ j hj
    have := h2 j (Nat.zero_le _) (List.mem_range.1 hj)
    unfold okL at this
    simp at this
    unfold okAt
    have e : decide (nextOf l t (j : Int) < rd l (j : Int)) = false := decide_eq_false (by omega)
    rw [e, Bool.or_false]
    by_cases hj0 : j = 0
    · subst hj0
      have : (rd l ((0 : Nat) : Int) != 0) = false := by rw [show ((0 : Nat) : Int) = 0 from rfl, h1]; rfl
      rw [this, Bool.and_false]
      rfl
    · have : (((j : Nat) : Int) == 0) = false := beq_eq_false_iff_ne.mpr (by omega)
      rw [this]
      rfl
set_option maxHeartbeats 1000000 in
theorem ev_LengthsL (l : List Int) (t : Int) (hl : l.length ≤ 1048576) : Ev (fun k => r02_Lengths.l0 k l t ([] : List Int) 0) (if allFrom (okL l t) l.length 0 then (upTo (lenAt l t) (l.length : Int), 0) else ([], 7)) := by
  have hS : Sh l := by unfold Sh; omega
  have H := up (n := l.length) (P := fun i => Ev (fun k => r02_Lengths.l0 k l t (upTo (lenAt l t) (i : Int)) (i : Int)) (if allFrom (okL l t) l.length i then (upTo (lenAt l t) (l.length : Int), 0) else ([], 7)))
    (Ev.step (f := fun _ => some (if allFrom (okL l t) l.length l.length then (upTo (lenAt l t) (l.length : Int), 0) else ([], 7))) (fun k => by simp only [r02_Lengths.l0]; rw [if_neg (by omega), allFrom_end]; rfl) (Ev.now _))
    (fun i hi ih => by
      have hup : upTo (lenAt l t) ((i + 1 : Nat) : Int) = upTo (lenAt l t) (i : Int) ++ [lenAt l t (i : Int)] := by rw [show ((i + 1 : Nat) : Int) = (i : Int) + 1 by omega]; exact upTo_succ _ _ (by omega)
      have hul : (upTo (lenAt l t) (i : Int)).length < 17592186044416 := by rw [upTo_length]; omega
      have hla : lenAt l t (i : Int) = wrap64 (nextOf l t (i : Int) - rd l (i : Int)) := rfl
      have hok : okL l t i = (decide (rd l (i : Int) ≤ nextOf l t (i : Int)) && decide (nextOf l t (i : Int) ≤ t)) := rfl
      have hnx : nextOf l t (i : Int) = if ((i + 1 : Nat) : Int) < (l.length : Int) then rd l ((i + 1 : Nat) : Int) else t := rfl
      rw [allFrom_step _ hi, hok]
      rw [hup, hla] at ih
      by_cases hlt : ((i + 1 : Nat) : Int) < (l.length : Int)
      · rw [if_pos hlt] at hnx
        rw [hnx] at ih ⊢
        cases hb : (decide (rd l (i : Int) ≤ rd l ((i + 1 : Nat) : Int)) && decide (rd l ((i + 1 : Nat) : Int) ≤ t))
        · refine Ev.step (f := fun _ => some ([], 7)) (fun k => ?_) (by simp only [Bool.false_and, Bool.false_eq_true, if_false]; exact Ev.now _)
          simp only [r02_Lengths.l0]
          rw [if_pos (by omega), wsucc hi hS, if_pos hlt, if_pos (by omega), if_pos (by omega), f_Lies, hb]
          rfl
        · refine Ev.step (f := fun k => r02_Lengths.l0 k l t (upTo (lenAt l t) (i : Int) ++ [wrap64 (rd l ((i + 1 : Nat) : Int) - rd l (i : Int))]) ((i + 1 : Nat) : Int)) (fun k => ?_) (by simp only [Bool.true_and]; exact ih)
          simp only [r02_Lengths.l0]
          rw [if_pos (by omega), wsucc hi hS, if_pos hlt, if_pos (by omega), if_pos (by omega), f_Lies, hb]
          simp only [Option.bind_some, if_true]
          rw [if_pos hul]
      · rw [if_neg hlt] at hnx
        rw [hnx] at ih ⊢
        cases hb : (decide (rd l (i : Int) ≤ t) && decide (t ≤ t))
        · refine Ev.step (f := fun _ => some ([], 7)) (fun k => ?_) (by simp only [Bool.false_and, Bool.false_eq_true, if_false]; exact Ev.now _)
          simp only [r02_Lengths.l0]
          rw [if_pos (by omega), wsucc hi hS, if_neg hlt, if_pos (by omega), f_Lies, hb]
          rfl
        · refine Ev.step (f := fun k => r02_Lengths.l0 k l t (upTo (lenAt l t) (i : Int) ++ [wrap64 (t - rd l (i : Int))]) ((i + 1 : Nat) : Int)) (fun k => ?_) (by simp only [Bool.true_and]; exact ih)
          simp only [r02_Lengths.l0]
          rw [if_pos (by omega), wsucc hi hS, if_neg hlt, if_pos (by omega), f_Lies, hb]
          simp only [Option.bind_some, if_true]
          rw [if_pos hul]) 0 (Nat.zero_le _)
  exact H
theorem ev_Lengths (l : List Int) (t : Int) (hl : Sh l) : Ev (fun k => r02_Lengths.f k l t) (seg_Lengths.g l t) := by
  unfold seg_Lengths.g r02_Lengths.f
  by_cases h1 : 1048576 < l.length
  · rw [if_pos h1]
    simp only [show (l.length : Int) > 1048576 from by omega, if_true]
    exact Ev.now _
  · rw [if_neg h1]
    simp only [show ¬ (l.length : Int) > 1048576 from by omega, if_false, f_Lies, Option.bind_some]
    by_cases hb : t < 0 ∨ 1048576 < t
    · rw [if_pos (show (decide (t < 0) || decide (1048576 < t)) = true by rcases hb with h | h <;> simp [h])]
      have e : (decide (0 ≤ t) && decide (t ≤ 1048576)) = false := by
        rcases hb with h | h
        · simp [show ¬ 0 ≤ t by omega]
        · simp [show ¬ t ≤ 1048576 by omega]
      simp only [e, Bool.false_eq_true, if_false]
      exact Ev.now _
    · rw [if_neg (show ¬ (decide (t < 0) || decide (1048576 < t)) = true by simp; omega)]
      have e : (decide (0 ≤ t) && decide (t ≤ 1048576)) = true := by simp; omega
      simp only [e, if_true]
      have hL := ev_LengthsL l t (by omega)
      have hF : Ev (fun k => r02_Lengths.j0 k l t false) (if allFrom (okL l t) l.length 0 then (upTo (lenAt l t) (l.length : Int), 0) else ([], 7)) := Ev.step (f := fun k => r02_Lengths.l0 k l t ([] : List Int) 0) (fun k => by simp only [r02_Lengths.j0, Bool.false_eq_true, if_false]) hL
      have hT : Ev (fun k => r02_Lengths.j0 k l t true) (([] : List Int), 7) := Ev.step (f := fun _ => some ([], 7)) (fun k => by simp only [r02_Lengths.j0, if_true]) (Ev.now _)
      by_cases h0 : l.length = 0
      · have hl0 : (l.length : Int) = 0 := by omega
        have hok : okStarts l t = (t == 0) := by unfold okStarts; rw [if_pos h0]
        rw [hok]
        simp only [hl0, if_true]
        by_cases ht : t > 0
        · have : (t == 0) = false := beq_eq_false_iff_ne.mpr (by omega)
          simp only [ht, if_true, this, Bool.false_eq_true, if_false]
          exact hT
        · have : (t == 0) = true := beq_iff_eq.mpr (by omega)
          simp only [ht, if_false, this, if_true, show ¬ (0 : Int) > 0 from by omega]
          rw [h0, allFrom_end] at hF
          simp only [if_true] at hF
          rw [show ((0 : Nat) : Int) = 0 from rfl] at hF
          exact hF
      · have hl0 : ¬ (l.length : Int) = 0 := by omega
        rw [okStarts_eq l t (by omega)]
        simp only [hl0, if_false, show (l.length : Int) > 0 from by omega, show (0 : Int) < (l.length : Int) from by omega, if_true]
        by_cases hz : rd l 0 = 0
        · have e1 : (rd l 0 != 0) = false := by rw [hz]; rfl
          have e2 : (rd l 0 == 0) = true := by rw [hz]; rfl
          rw [e2, Bool.true_and]
          simp only [e1]
          exact hF
        · have e1 : (rd l 0 != 0) = true := bne_iff_ne.mpr hz
          have e2 : (rd l 0 == 0) = false := beq_eq_false_iff_ne.mpr hz
          rw [e2, Bool.false_and]
          simp only [e1, Bool.false_eq_true, if_false]
          exact hT
def spB (l : List Int) (j : Nat) : Bool := decide (j = 0) || decide (rd l ((j - 1 : Nat) : Int) ≤ rd l (j : Int))
theorem sortedB_eq (l : List Int) : sortedB l = allFrom (spB l) l.length 0 := by
  unfold sortedB
  rw [Bool.eq_iff_iff, allFrom_true, List.all_eq_true]
  constructor
  · intro h j _ hj
    unfold spB
    by_cases h0 : j = 0
    · simp [h0]
    · have := h (j - 1) (List.mem_range.2 (by omega))
      rw [show ((j - 1 : Nat) : Int) + 1 = (j : Int) by omega] at this
      simp at this
      rw [decide_eq_true (show rd l ((j - 1 : Nat) : Int) ≤ rd l (j : Int) by omega), Bool.or_true]
  · intro h j hj
    have hj2 := List.mem_range.1 hj
    have := h (j + 1) (Nat.zero_le _) (by omega)
    unfold spB at this
    rw [decide_eq_false (by omega), Bool.false_or, decide_eq_true_eq, Nat.add_sub_cancel, show ((j + 1 : Nat) : Int) = (j : Int) + 1 by omega] at this
    rw [decide_eq_false (by omega)]
    rfl
theorem outB_drop {l : List Int} {i : Nat} (m : Int) (h : i < l.length) : outB m (l.drop i) = ((decide (rd l (i : Int) < 0) || decide (m < rd l (i : Int))) || outB m (l.drop (i + 1))) := by
  rw [drop_rd h]
  rfl
set_option maxHeartbeats 2000000 in
theorem ev_OfOwnersL (l : List Int) (T : Nat) (hl : l.length ≤ 1048576) (hT : T ≤ 1048576) (i : Nat) (hi : i ≤ l.length) : ∀ b, Ev (fun k => r02_OfOwners.l0 k l (T : Int) (upTo (cntN l i) (T : Int)) b (i : Int)) (if outB ((T : Int) - 1) (l.drop i) then ([], 2) else if b && allFrom (spB l) l.length i then (upTo (cntN l l.length) (T : Int), 0) else ([], 7)) := by
  have hS : Sh l := by unfold Sh; omega
  have hw := Aside0.mk (show wrap64 ((T : Int) - 1) = (T : Int) - 1 by unfold wrap64; omega)
  refine up (n := l.length) (P := fun i => ∀ b, Ev (fun k => r02_OfOwners.l0 k l (T : Int) (upTo (cntN l i) (T : Int)) b (i : Int)) (if outB ((T : Int) - 1) (l.drop i) then ([], 2) else if b && allFrom (spB l) l.length i then (upTo (cntN l l.length) (T : Int), 0) else ([], 7))) ?_ ?_ i hi
  · intro b
    rw [List.drop_length, allFrom_end, Bool.and_true]
    refine Ev.step (f := fun _ => some (if b then (upTo (cntN l l.length) (T : Int), 0) else ([], 7))) (fun k => ?_) (Ev.now _)
    simp only [r02_OfOwners.l0]
    rw [if_neg (by omega)]
    cases b <;> rfl
  · intro i hi ih b
    rw [outB_drop _ hi, allFrom_step _ hi]
    have hli : (decide (0 ≤ rd l (i : Int)) && decide (rd l (i : Int) ≤ (T : Int) - 1)) = !(decide (rd l (i : Int) < 0) || decide ((T : Int) - 1 < rd l (i : Int))) := by
      by_cases h1 : rd l (i : Int) < 0
      · simp [h1, show ¬ 0 ≤ rd l (i : Int) by omega]
      · by_cases h2 : (T : Int) - 1 < rd l (i : Int)
        · simp [h2, show ¬ rd l (i : Int) ≤ (T : Int) - 1 by omega]
        · simp [h1, h2, show 0 ≤ rd l (i : Int) by omega, show rd l (i : Int) ≤ (T : Int) - 1 by omega]
    cases hb : (decide (rd l (i : Int) < 0) || decide ((T : Int) - 1 < rd l (i : Int))) <;> rw [hb] at hli
    · simp only [Bool.or_eq_false_iff, decide_eq_false_iff_not] at hb
      obtain ⟨q, hq⟩ : ∃ q : Nat, rd l (i : Int) = q := ⟨(rd l (i : Int)).toNat, by omega⟩
      have hcs := cntN_succ l i hi (q : Int)
      rw [hq, if_pos rfl] at hcs
      have hcl := cntN_le l i (q : Int)
      have hset : (upTo (cntN l i) (T : Int)).set q (cntN l i (q : Int) + 1) = upTo (cntN l (i + 1)) (T : Int) := upTo_set (cntN l i) (cntN l (i + 1)) T q _ hcs (fun k hk hne => by rw [cntN_succ l i hi, hq, if_neg (by omega)]; omega)
      have hrd := rd_upTo_nat (cntN l i) T q (by omega)
      have hlen := upTo_length (cntN l i) (T : Int)
      have hw2 := Aside0.mk (show wrap64 (cntN l i (q : Int) + 1) = cntN l i (q : Int) + 1 by generalize cntN l i (q : Int) = c at *; unfold wrap64; omega)
      have hqT : (q : Int) < ((upTo (cntN l i) (T : Int)).length : Int) := by rw [hlen]; omega
      have hsp : spB l i = (decide (i = 0) || decide (rd l ((i - 1 : Nat) : Int) ≤ (q : Int))) := by unfold spB; rw [hq]
      rw [hsp]
      have ih2 := fun b => by have h := ih b; rw [← hset] at h; exact h
      simp only [Bool.false_or]
      cases b
      · refine Ev.step (f := fun k => r02_OfOwners.l0 k l (T : Int) ((upTo (cntN l i) (T : Int)).set q (cntN l i (q : Int) + 1)) false ((i + 1 : Nat) : Int)) (fun k => ?_) (by simpa using ih2 false)
        simp only [r02_OfOwners.l0]
        rw [if_pos (by omega), if_pos (by omega), hw.out, f_Lies, hli]
        simp only [Bool.not_false, Option.bind_some, if_true, Bool.false_eq_true, if_false]
        rw [hq, if_pos (by omega), if_pos hqT, Int.toNat_natCast, hrd, hw2.out, wsucc hi hS]
      · by_cases h0 : i = 0
        · subst h0
          refine Ev.step (f := fun k => r02_OfOwners.l0 k l (T : Int) ((upTo (cntN l 0) (T : Int)).set q (cntN l 0 (q : Int) + 1)) true ((0 + 1 : Nat) : Int)) (fun k => ?_) (by simpa using ih2 true)
          simp only [r02_OfOwners.l0]
          rw [if_pos (by omega), if_pos (by omega), hw.out, f_Lies, hli]
          simp only [Bool.not_false, Option.bind_some, if_true]
          rw [if_pos (by rfl), hq, if_pos (by omega), if_pos hqT, Int.toNat_natCast, hrd, hw2.out, wsucc hi hS]
        · have hwp := Aside0.mk (show wrap64 ((i : Int) - 1) = ((i - 1 : Nat) : Int) by unfold wrap64; omega)
          have hd : decide ((q : Int) ≥ rd l ((i - 1 : Nat) : Int)) = decide (rd l ((i - 1 : Nat) : Int) ≤ (q : Int)) := rfl
          refine Ev.step (f := fun k => r02_OfOwners.l0 k l (T : Int) ((upTo (cntN l i) (T : Int)).set q (cntN l i (q : Int) + 1)) (decide (rd l ((i - 1 : Nat) : Int) ≤ (q : Int))) ((i + 1 : Nat) : Int)) (fun k => ?_) (by have h := ih2 (decide (rd l ((i - 1 : Nat) : Int) ≤ (q : Int))); rw [decide_eq_false h0, Bool.false_or, Bool.true_and]; exact h)
          simp only [r02_OfOwners.l0]
          rw [if_pos (by omega), if_pos (by omega), hw.out, f_Lies, hli]
          simp only [Bool.not_false, Option.bind_some, if_true]
          rw [if_neg (by omega), hwp.out, if_pos (by omega), if_pos (by omega), hq, if_pos (by omega), if_pos hqT, Int.toNat_natCast, hrd, hw2.out, wsucc hi hS, hd]
    · refine Ev.step (f := fun _ => some ([], 2)) (fun k => ?_) (by simp only [Bool.true_or, if_true]; exact Ev.now _)
      simp only [r02_OfOwners.l0]
      rw [if_pos (by omega), if_pos (by omega), hw.out, f_Lies, hli]
      rfl
theorem ev_OfOwners (l : List Int) (t : Int) (hl : Sh l) : Ev (fun k => r02_OfOwners.f k l t) (seg_OfOwners.g l t) := by
  unfold seg_OfOwners.g r02_OfOwners.f
  by_cases h1 : 1048576 < l.length
  · rw [if_pos h1]
    simp only [show (l.length : Int) > 1048576 from by omega, if_true]
    exact Ev.now _
  · rw [if_neg h1]
    simp only [show ¬ (l.length : Int) > 1048576 from by omega, if_false, f_Lies, Option.bind_some]
    by_cases hb : t < 0 ∨ 1048576 < t
    · rw [if_pos (show (decide (t < 0) || decide (1048576 < t) || outB (t - 1) l) = true by rcases hb with h | h <;> simp [h])]
      have e : (decide (0 ≤ t) && decide (t ≤ 1048576)) = false := by
        rcases hb with h | h
        · simp [show ¬ 0 ≤ t by omega]
        · simp [show ¬ t ≤ 1048576 by omega]
      simp only [e, Bool.false_eq_true, if_false]
      exact Ev.now _
    · obtain ⟨T, rfl⟩ : ∃ T : Nat, t = T := ⟨t.toNat, by omega⟩
      have e : (decide (0 ≤ (T : Int)) && decide ((T : Int) ≤ 1048576)) = true := by simp; omega
      have ea : decide ((T : Int) < 0) = false := decide_eq_false (by omega)
      have eb : decide (1048576 < (T : Int)) = false := decide_eq_false (by omega)
      rw [ea, eb, Bool.false_or, Bool.false_or, Int.toNat_natCast, sortedB_eq]
      simp only [e, if_true]
      simp only [show (0 : Int) ≤ (T : Int) from by omega, show T ≤ 35184372088832 from by omega, Int.toNat_natCast, if_true]
      have H := ev_OfOwnersL l T (by omega) (by omega) 0 (Nat.zero_le _) true
      rw [List.drop_zero, Bool.true_and, show upTo (cntN l 0) (T : Int) = List.replicate T 0 from upTo_zero T (cntN l 0) (fun k _ => rfl)] at H
      exact H
/-- The lengths of segments that begin so, of so many elements. -/
def dl (S : List Int) (T : Int) : List Int := upTo (fun i => nextOf S T i - rd S i) (S.length : Int)
theorem dl_length (S : List Int) (T : Int) : (dl S T).length = S.length := by unfold dl; rw [upTo_length]; simp
theorem list_rd_ext {a b : List Int} (h : a.length = b.length) (h2 : ∀ j : Nat, j < a.length → rd a (j : Int) = rd b (j : Int)) : a = b := by
  refine List.ext_getElem h fun j hj hj2 => ?_
  have := h2 j hj
  rw [rd_get hj, rd_get hj2] at this
  exact this
theorem dl_rd (S : List Int) (T : Int) (j : Nat) (h : j < S.length) : rd (dl S T) (j : Int) = nextOf S T (j : Int) - rd S (j : Int) := by unfold dl; exact upTo_rd _ _ j h
theorem rd_app (a b : List Int) (j : Nat) : rd (a ++ b) (j : Int) = if j < a.length then rd a (j : Int) else rd b ((j - a.length : Nat) : Int) := by
  unfold rd
  simp only [Int.toNat_natCast, List.getD_eq_getElem?_getD]
  by_cases h : j < a.length
  · rw [if_pos h, List.getElem?_append_left h]
  · rw [if_neg h, List.getElem?_append_right (by omega)]
/-- A segment more, that begins at the end. -/
theorem dl_snoc (S : List Int) (T : Int) : dl (S ++ [T]) T = dl S T ++ [0] := by
  refine list_rd_ext (by rw [dl_length, List.length_append, List.length_append, dl_length]; rfl) fun j hj => ?_
  rw [dl_length] at hj
  rw [dl_rd _ _ j hj, rd_app (dl S T), dl_length]
  rw [List.length_append] at hj
  have hl1 : ((S ++ [T]).length : Int) = (S.length : Int) + 1 := by simp
  by_cases h : j < S.length
  · rw [if_pos h, dl_rd S T j h, rd_app, if_pos h]
    congr 1
    unfold nextOf
    rw [hl1, if_pos (by omega), show (j : Int) + 1 = ((j + 1 : Nat) : Int) by omega, rd_app]
    by_cases h2 : j + 1 < S.length
    · rw [if_pos h2, if_pos (by omega)]
    · rw [if_neg h2, if_neg (by omega), show j + 1 - S.length = 0 by omega]
      rfl
  · have hj2 : j = S.length := by simp at hj; omega
    subst hj2
    rw [if_neg (by omega), rd_app, if_neg (by omega), Nat.sub_self]
    unfold nextOf
    rw [hl1, if_neg (by omega)]
    show T - T = 0
    omega
/-- An element more. -/
theorem dl_more (S : List Int) (T : Int) (h : 0 < S.length) : dl S (T + 1) = (dl S T).set (S.length - 1) (rd (dl S T) ((S.length - 1 : Nat) : Int) + 1) := by
  refine list_rd_ext (by rw [List.length_set, dl_length, dl_length]) fun j hj => ?_
  rw [dl_length] at hj
  rw [rd_set, dl_length, dl_rd _ _ j hj, dl_rd _ _ _ (show S.length - 1 < S.length by omega)]
  by_cases h2 : S.length - 1 = j
  · subst h2
    rw [if_pos ⟨rfl, by omega⟩]
    unfold nextOf
    rw [if_neg (by omega), if_neg (by omega)]
    omega
  · rw [if_neg (fun e => h2 e.1), dl_rd _ _ j hj]
    unfold nextOf
    rw [if_pos (by omega), if_pos (by omega)]
theorem dl_reps (S : List Int) (T : Int) : ∀ n : Nat, dl (S ++ List.replicate n T) T = dl S T ++ List.replicate n 0
  | 0 => by simp
  | n + 1 => by
    rw [List.replicate_succ', ← List.append_assoc, dl_snoc, dl_reps S T n, List.replicate_succ', List.append_assoc]
theorem reps_mem (l : List Int) : ∀ m : Nat, ∀ x ∈ repsTo l m, 0 ≤ x ∧ x < (m : Int)
  | 0, x, h => by simp [repsTo] at h
  | m + 1, x, h => by
    rw [repsTo_succ] at h
    rcases List.mem_append.1 h with h | h
    · have := reps_mem l m x h
      omega
    · obtain ⟨_, rfl⟩ := List.mem_replicate.1 h
      omega
theorem reps_sorted (l : List Int) : ∀ m : Nat, (repsTo l m).Pairwise (· ≤ ·)
  | 0 => by simp [repsTo]
  | m + 1 => by
    rw [repsTo_succ, List.pairwise_append]
    refine ⟨reps_sorted l m, List.pairwise_replicate.2 (.inr (Int.le_refl _)), fun a ha b hb => ?_⟩
    obtain ⟨_, rfl⟩ := List.mem_replicate.1 hb
    have := reps_mem l m a ha
    omega
theorem reps_rd (l : List Int) (m j : Nat) (h : j < (repsTo l m).length) : 0 ≤ rd (repsTo l m) (j : Int) ∧ rd (repsTo l m) (j : Int) < (m : Int) := reps_mem l m _ (rd_mem _ _ (by omega) (by omega))
theorem reps_le (l : List Int) (m j : Nat) (h : j + 1 < (repsTo l m).length) : rd (repsTo l m) (j : Int) ≤ rd (repsTo l m) ((j : Int) + 1) := by
  have := List.pairwise_iff_getElem.1 (reps_sorted l m) j (j + 1) (by omega) h (by omega)
  rw [show (j : Int) + 1 = ((j + 1 : Nat) : Int) by omega, rd_get h, rd_get (show j < (repsTo l m).length by omega)]
  exact this
theorem reps_first (l : List Int) (h0 : 0 < rd l 0) : ∀ m : Nat, 0 < m → 0 < (repsTo l m).length ∧ rd (repsTo l m) 0 = 0
  | 0, h => absurd h (by omega)
  | 1, _ => by
    have e : repsTo l 1 = List.replicate (rd l 0).toNat 0 := by rw [repsTo_succ]; rfl
    rw [e]
    refine ⟨by rw [List.length_replicate]; omega, ?_⟩
    unfold rd
    obtain ⟨q, hq⟩ : ∃ q, (rd l 0).toNat = q + 1 := ⟨(rd l 0).toNat - 1, by omega⟩
    unfold rd at hq
    rw [hq]
    rfl
  | m + 2, _ => by
    obtain ⟨h1, h2⟩ := reps_first l h0 (m + 1) (by omega)
    rw [repsTo_succ]
    refine ⟨by rw [List.length_append]; omega, ?_⟩
    have h3 := rd_app (repsTo l (m + 1)) (List.replicate (rd l ((m + 1 : Nat) : Int)).toNat ((m + 1 : Nat) : Int)) 0
    rw [if_pos h1, show ((0 : Nat) : Int) = 0 from rfl, h2] at h3
    exact h3
theorem reps_pos (l : List Int) (h0 : rd l 0 = 0) : ∀ m : Nat, ∀ x ∈ repsTo l m, 0 < x
  | 0, x, h => by simp [repsTo] at h
  | m + 1, x, h => by
    rw [repsTo_succ] at h
    rcases List.mem_append.1 h with h | h
    · exact reps_pos l h0 m x h
    · obtain ⟨h1, rfl⟩ := List.mem_replicate.1 h
      by_cases hm : m = 0
      · subst hm
        rw [show ((0 : Nat) : Int) = 0 from rfl, h0] at h1
        simp at h1
      · omega
theorem ok_reps (l : List Int) (hp : ∀ n ∈ l, 0 ≤ n) (hl : 0 < l.length) : okStarts (repsTo l l.length) ((l.length : Int) - 1) = !(decide (rd l 0 = 0) && decide (1 < l.length)) := by
  have hr0 := hp _ (rd_mem l 0 (by omega) (by omega))
  have hmain : rd l 0 = 0 → l.length = 1 ∨ okStarts (repsTo l l.length) ((l.length : Int) - 1) = false := by
    intro hz
    by_cases h1 : l.length = 1
    · exact .inl h1
    · right
      unfold okStarts
      by_cases he : (repsTo l l.length).length = 0
      · rw [if_pos he]
        exact beq_eq_false_iff_ne.mpr (by omega)
      · rw [if_neg he, List.all_eq_false]
        refine ⟨0, List.mem_range.2 (by omega), ?_⟩
        have := reps_pos l hz l.length _ (rd_mem (repsTo l l.length) 0 (by omega) (by omega))
        unfold okAt
        have e : (rd (repsTo l l.length) ((0 : Nat) : Int) != 0) = true := bne_iff_ne.mpr (by rw [show ((0 : Nat) : Int) = 0 from rfl]; omega)
        rw [e]
        simp
  have hyes : (l.length = 1 ∨ 0 < rd l 0) → okStarts (repsTo l l.length) ((l.length : Int) - 1) = true := by
    intro hc
    unfold okStarts
    by_cases he : (repsTo l l.length).length = 0
    · rw [if_pos he]
      rcases hc with h | h
      · exact beq_iff_eq.mpr (by omega)
      · have := (reps_first l h l.length hl).1
        omega
    · rw [if_neg he, List.all_eq_true]
      intro j hj
      have hj2 := List.mem_range.1 hj
      have hb := reps_rd l l.length j hj2
      have hnx : rd (repsTo l l.length) (j : Int) ≤ nextOf (repsTo l l.length) ((l.length : Int) - 1) (j : Int) := by
        unfold nextOf
        by_cases h3 : (j : Int) + 1 < ((repsTo l l.length).length : Int)
        · rw [if_pos h3]; exact reps_le l l.length j (by omega)
        · rw [if_neg h3]; omega
      have hfst : j = 0 → rd (repsTo l l.length) (j : Int) = 0 := by
        intro h0
        subst h0
        rcases hc with h | h
        · omega
        · exact (reps_first l h l.length hl).2
      unfold okAt
      have e : decide (nextOf (repsTo l l.length) ((l.length : Int) - 1) (j : Int) < rd (repsTo l l.length) (j : Int)) = false := decide_eq_false (by omega)
      rw [e, Bool.or_false]
      by_cases hj0 : j = 0
      · rw [show (rd (repsTo l l.length) (j : Int) != 0) = false by rw [hfst hj0]; rfl, Bool.and_false]; rfl
      · rw [show (((j : Nat) : Int) == 0) = false from beq_eq_false_iff_ne.mpr (by omega)]; rfl
  by_cases hz : rd l 0 = 0
  · rcases hmain hz with h | h
    · rw [hyes (.inl h)]
      simp [h]
    · by_cases h1 : l.length = 1
      · rw [hyes (.inl h1)]; simp [h1]
      · rw [h]
        have : decide (1 < l.length) = true := decide_eq_true (by omega)
        simp [hz, this]
  · rw [hyes (.inr (by omega))]
    simp [hz]
theorem dl_lens (l : List Int) (hl : l.length ≤ 1048577) (hl0 : 0 < l.length) : upTo (lenAt (repsTo l l.length) ((l.length : Int) - 1)) ((repsTo l l.length).length : Int) = dl (repsTo l l.length) ((l.length : Int) - 1) := by
  unfold dl
  refine upTo_ext _ _ (repsTo l l.length).length fun j hj => ?_
  have hb := reps_rd l l.length j hj
  have hn : 0 ≤ nextOf (repsTo l l.length) ((l.length : Int) - 1) (j : Int) ∧ nextOf (repsTo l l.length) ((l.length : Int) - 1) (j : Int) ≤ (l.length : Int) := by
    unfold nextOf
    by_cases h3 : (j : Int) + 1 < ((repsTo l l.length).length : Int)
    · rw [if_pos h3, show (j : Int) + 1 = ((j + 1 : Nat) : Int) by omega]
      have := reps_rd l l.length (j + 1) (by omega)
      omega
    · rw [if_neg h3]; omega
  unfold lenAt
  generalize nextOf (repsTo l l.length) ((l.length : Int) - 1) (j : Int) = a at *
  generalize rd (repsTo l l.length) (j : Int) = b at *
  unfold wrap64
  omega
set_option maxHeartbeats 1000000 in
theorem ev_OfHeads2 (l : List Int) (hl : l.length ≤ 1048577) (hp : ∀ n ∈ l, 0 ≤ n) (i : Nat) (hi : i < l.length) (X : List Int) (n : Nat) (hn : rd l (i : Int) = n) (hX : X.length + n ≤ 1048576) (R : List Int × Int)
    (H : Ev (fun k => r02_OfHeads.l2 k l (X ++ List.replicate n 0) (i : Int) (n : Int)) R) : Ev (fun k => r02_OfHeads.l1 k l X (i : Int)) R := by
  have H2 := up (n := n) (P := fun j => Ev (fun k => r02_OfHeads.l2 k l (X ++ List.replicate j 0) (i : Int) (j : Int)) R) H
    (fun j hj ih => by
      have hlen : (X ++ List.replicate j (0 : Int)).length < 17592186044416 := by rw [List.length_append, List.length_replicate]; omega
      rw [List.replicate_succ', ← List.append_assoc] at ih
      refine Ev.step (f := fun k => r02_OfHeads.l2 k l (X ++ List.replicate j 0 ++ [0]) (i : Int) ((j + 1 : Nat) : Int)) (fun k => ?_) ih
      simp only [r02_OfHeads.l2]
      rw [if_pos (by omega), if_pos (by omega), hn, if_pos (by omega), if_pos hlen, wsucc hj (by omega)]) 0 (Nat.zero_le _)
  refine Ev.step (f := fun k => r02_OfHeads.l2 k l (X ++ List.replicate 0 0) (i : Int) ((0 : Nat) : Int)) (fun k => ?_) H2
  simp only [r02_OfHeads.l1]
  rw [if_pos (by omega), List.replicate_zero, List.append_nil]
  rfl
set_option maxHeartbeats 1000000 in
theorem ev_OfHeads1 (l : List Int) (hl : l.length ≤ 1048577) (hl0 : 0 < l.length) (hp : ∀ n ∈ l, 0 ≤ n) (ht : ttl l ≤ 1048576) (hc : l.length = 1 ∨ 0 < rd l 0) : Ev (fun k => r02_OfHeads.l1 k l ([] : List Int) 0) (dl (repsTo l l.length) ((l.length : Int) - 1), 0) := by
  have hS : Sh l := by unfold Sh; omega
  have hbnd : ∀ i : Nat, i < l.length → ∃ n : Nat, rd l (i : Int) = n ∧ (repsTo l i).length + n ≤ 1048576 ∧ repsTo l (i + 1) = repsTo l i ++ List.replicate n (i : Int) := fun i hi => by
    have hn := hp _ (rd_mem l (i : Int) (by omega) (by omega))
    have h1 := repsTo_length l (i + 1) (by omega)
    have h2 := startOf_le_ttl l (i + 1) (by omega)
    have h3 := repsTo_succ l i
    rw [h3, List.length_append, List.length_replicate] at h1
    exact ⟨(rd l (i : Int)).toNat, by omega, by omega, h3⟩
  have H := up (n := l.length - 1) (P := fun i => Ev (fun k => r02_OfHeads.l1 k l (dl (repsTo l i) (i : Int)) (i : Int)) (dl (repsTo l l.length) ((l.length : Int) - 1), 0))
    (by
      obtain ⟨n, hn, hb, hr⟩ := hbnd (l.length - 1) (by omega)
      refine ev_OfHeads2 l hl hp (l.length - 1) (by omega) _ n hn (by rw [dl_length]; exact hb) _ ?_
      have e : dl (repsTo l (l.length - 1)) ((l.length - 1 : Nat) : Int) ++ List.replicate n 0 = dl (repsTo l l.length) ((l.length : Int) - 1) := by
        rw [← dl_reps, ← hr, show l.length - 1 + 1 = l.length by omega, show ((l.length - 1 : Nat) : Int) = (l.length : Int) - 1 by omega]
      rw [e]
      refine Ev.step (f := fun k => r02_OfHeads.l1 k l (dl (repsTo l l.length) ((l.length : Int) - 1)) (l.length : Int)) (fun k => ?_) (Ev.step (f := fun _ => some (dl (repsTo l l.length) ((l.length : Int) - 1), 0)) (fun k => ?_) (Ev.now _))
      · have hw := Aside0.mk (wsucc (i := l.length - 1) (n := l.length) (by omega) hS)
        simp only [r02_OfHeads.l2]
        rw [if_pos (by omega), if_pos (by omega), hn, if_neg (by omega), hw.out, if_neg (by omega), show l.length - 1 + 1 = l.length by omega]
      · simp only [r02_OfHeads.l1]
        rw [if_neg (by omega)])
    (fun i hi ih => by
      obtain ⟨n, hn, hb, hr⟩ := hbnd i (by omega)
      refine ev_OfHeads2 l hl hp i (by omega) _ n hn (by rw [dl_length]; exact hb) _ ?_
      rw [← dl_reps, ← hr]
      have hpos : 0 < (repsTo l (i + 1)).length := by
        rcases hc with h | h
        · omega
        · exact (reps_first l h (i + 1) (by omega)).1
      have hm := dl_more (repsTo l (i + 1)) (i : Int) hpos
      rw [show ((i : Int) + 1) = ((i + 1 : Nat) : Int) by omega] at hm
      rw [hm] at ih
      have hlb : (repsTo l (i + 1)).length ≤ 1048576 := by rw [hr, List.length_append, List.length_replicate]; exact hb
      have hdl := dl_length (repsTo l (i + 1)) (i : Int)
      have hrd : 0 ≤ rd (dl (repsTo l (i + 1)) (i : Int)) (((repsTo l (i + 1)).length - 1 : Nat) : Int) ∧ rd (dl (repsTo l (i + 1)) (i : Int)) (((repsTo l (i + 1)).length - 1 : Nat) : Int) ≤ 1048577 := by
        rw [dl_rd _ _ _ (show (repsTo l (i + 1)).length - 1 < (repsTo l (i + 1)).length by omega)]
        have := reps_rd l (i + 1) ((repsTo l (i + 1)).length - 1) (by omega)
        unfold nextOf
        rw [if_neg (by omega)]
        omega
      generalize repsTo l (i + 1) = S at *
      obtain ⟨m, hm2⟩ : ∃ m, S.length = m + 1 := ⟨S.length - 1, by omega⟩
      rw [hm2, Nat.add_sub_cancel] at ih hrd
      have hws := Aside0.mk (wsucc (i := i) (n := l.length) (by omega) hS)
      have hwm := Aside0.mk (show wrap64 (((dl S (i : Int)).length : Int) - 1) = (m : Int) by rw [hdl, hm2]; unfold wrap64; omega)
      have hwr := Aside0.mk (show wrap64 (rd (dl S (i : Int)) (m : Int) + 1) = rd (dl S (i : Int)) (m : Int) + 1 by generalize rd (dl S (i : Int)) (m : Int) = x at *; unfold wrap64; omega)
      refine Ev.step (f := fun k => r02_OfHeads.l1 k l ((dl S (i : Int)).set m (rd (dl S (i : Int)) (m : Int) + 1)) ((i + 1 : Nat) : Int)) (fun k => ?_) ih
      simp only [r02_OfHeads.l2]
      rw [if_pos (by omega), if_pos (by omega), hn, if_neg (by omega), hws.out, if_pos (by omega), hwm.out, if_pos (by omega), if_pos (by rw [hdl, hm2]; omega), Int.toNat_natCast, hwr.out]) 0 (Nat.zero_le _)
  exact H
set_option maxHeartbeats 1000000 in
theorem ev_OfHeads (l : List Int) (hl : Sh l) : Ev (fun k => r02_OfHeads.f k l) (seg_OfHeads.g l) := by
  unfold seg_OfHeads.g r02_OfHeads.f
  by_cases h1 : 1048577 < l.length
  · rw [if_pos h1]
    simp only [show (l.length : Int) > 1048577 from by omega, if_true]
    exact Ev.now _
  · rw [if_neg h1]
    simp only [show ¬ (l.length : Int) > 1048577 from by omega, if_false]
    by_cases h0 : l.length = 0
    · rw [if_pos h0]
      simp only [show (l.length : Int) = 0 from by omega, if_true]
      exact Ev.now _
    · rw [if_neg h0]
      simp only [show ¬ (l.length : Int) = 0 from by omega, if_false]
      cases hng : negs l
      · have hp := negs_pos hng
        simp only [Bool.false_eq_true, if_false]
        rw [ok_reps l hp (by omega), dl_lens l (by omega) (by omega)]
        have hr0 := hp _ (rd_mem l 0 (by omega) (by omega))
        have H := up (n := l.length) (P := fun i => Ev (fun k => r02_OfHeads.l0 k l (m2 (startOf l (i : Int))) (i : Int)) (if 1048576 < ttl l then ([], 9) else if (!(decide (rd l 0 = 0) && decide (1 < l.length))) = true then (dl (repsTo l l.length) ((l.length : Int) - 1), 0) else ([], 7)))
          (by
            rw [show startOf l (l.length : Int) = ttl l from rfl]
            by_cases hb : 1048576 < ttl l
            · rw [if_pos hb]
              refine Ev.step (f := fun _ => some ([], 9)) (fun k => ?_) (Ev.now _)
              simp only [r02_OfHeads.l0]
              rw [if_neg (by omega), if_pos (show m2 (ttl l) > 1048576 by unfold m2; omega)]
            · rw [if_neg hb]
              have hF : (l.length = 1 ∨ 0 < rd l 0) → Ev (fun k => r02_OfHeads.j1 k l false) (dl (repsTo l l.length) ((l.length : Int) - 1), 0) := fun hc => Ev.step (f := fun k => r02_OfHeads.l1 k l ([] : List Int) 0) (fun k => by simp only [r02_OfHeads.j1, Bool.false_eq_true, if_false]) (ev_OfHeads1 l (by omega) (by omega) hp (by omega) hc)
              by_cases hz : rd l 0 = 0
              · by_cases hl1 : 1 < l.length
                · refine Ev.step (f := fun k => r02_OfHeads.j1 k l true) (fun k => ?_) (Ev.step (f := fun _ => some ([], 7)) (fun k => by simp only [r02_OfHeads.j1, if_true]) (by simp only [hz, hl1, decide_true, Bool.and_true, Bool.not_true, Bool.false_eq_true, if_false]; exact Ev.now _))
                  simp only [r02_OfHeads.l0]
                  rw [if_neg (by omega), if_neg (show ¬ m2 (ttl l) > 1048576 by unfold m2; omega), if_pos (by omega), if_pos hz, decide_eq_true (show (l.length : Int) > 1 by omega)]
                · refine Ev.step (f := fun k => r02_OfHeads.j1 k l false) (fun k => ?_) (by simp only [hl1, decide_false, Bool.and_false, Bool.not_false, if_true]; exact hF (.inl (by omega)))
                  simp only [r02_OfHeads.l0]
                  rw [if_neg (by omega), if_neg (show ¬ m2 (ttl l) > 1048576 by unfold m2; omega), if_pos (by omega), if_pos hz, decide_eq_false (show ¬ (l.length : Int) > 1 by omega)]
              · refine Ev.step (f := fun k => r02_OfHeads.j1 k l false) (fun k => ?_) (by simp only [hz, decide_false, Bool.false_and, Bool.not_false, if_true]; exact hF (.inr (by omega)))
                simp only [r02_OfHeads.l0]
                rw [if_neg (by omega), if_neg (show ¬ m2 (ttl l) > 1048576 by unfold m2; omega), if_pos (by omega), if_neg hz])
          (fun i hi ih => by
            have hn := hp _ (rd_mem l (i : Int) (by omega) (by omega))
            refine Ev.step (f := fun k => r02_OfHeads.l0 k l (m2 (startOf l ((i + 1 : Nat) : Int))) ((i + 1 : Nat) : Int)) (fun k => ?_) ih
            simp only [r02_OfHeads.l0]
            rw [if_pos (by omega), if_pos (by omega), if_neg (by omega), wsucc hi hl, m2_step _ _ (by omega), show ((i + 1 : Nat) : Int) = (i : Int) + 1 by omega, startOf_succ l (i : Int) (by omega) (by omega)]) 0 (Nat.zero_le _)
        exact H
      · simp only [if_true]
        have H := up (n := l.length) (P := fun i => negs (l.drop i) = true → Ev (fun k => r02_OfHeads.l0 k l (m2 (startOf l (i : Int))) (i : Int)) (([] : List Int), 2))
          (fun h => by rw [List.drop_length] at h; cases h)
          (fun i hi ih h => by
            rw [negs_drop hi] at h
            by_cases hn : rd l (i : Int) < 0
            · refine Ev.step (f := fun _ => some ([], 2)) (fun k => ?_) (Ev.now _)
              simp only [r02_OfHeads.l0]
              rw [if_pos (by omega), if_pos (by omega), if_pos hn]
            · rw [decide_eq_false hn, Bool.false_or] at h
              refine Ev.step (f := fun k => r02_OfHeads.l0 k l (m2 (startOf l ((i + 1 : Nat) : Int))) ((i + 1 : Nat) : Int)) (fun k => ?_) (ih h)
              simp only [r02_OfHeads.l0]
              rw [if_pos (by omega), if_pos (by omega), if_neg hn, wsucc hi hl, m2_step _ _ (by omega), show ((i + 1 : Nat) : Int) = (i : Int) + 1 by omega, startOf_succ l (i : Int) (by omega) (by omega)]) 0 (Nat.zero_le _)
        exact H (by rw [List.drop_zero]; exact hng)
/-- The sum of any numbers that are words: some number comes. -/
theorem ev_SumW (l : List Int) (hl : Sh l) : ∃ z, Ev (fun k => r00_Sum.f k l) z := by
  have H := up (n := l.length) (P := fun i => ∀ x, ∃ z, Ev (fun k => r00_Sum.l0 k l x (i : Int)) z)
    (fun x => ⟨x, Ev.step (f := fun _ => some x) (fun k => by simp only [r00_Sum.l0]; rw [if_neg (by omega)]) (Ev.now _)⟩)
    (fun i hi ih x => by
      obtain ⟨z, hz⟩ := ih (wrap64 (x + rd l (i : Int)))
      refine ⟨z, Ev.step (f := fun k => r00_Sum.l0 k l (wrap64 (x + rd l (i : Int))) ((i + 1 : Nat) : Int)) (fun k => ?_) hz⟩
      simp only [r00_Sum.l0]
      rw [if_pos (by omega), if_pos (by omega), wsucc hi hl]) 0 (Nat.zero_le _)
  exact H 0
theorem SegBack : w02_SegBack.Pure := by
  intro l0 a1 _ h1 _ _
  have s0 : Sh l0 := by unfold Sh; omega
  have H : Ev (fun k => w02_SegBack.f k l0 a1) true := by
    have hT : ∀ b, Ev (fun k => w02_SegBack.j0 k l0 a1 b) true := by
      intro b
      cases b
      · refine Ev.step (f := fun k => (r02_Lengths.f k l0 a1).bind fun bt162 => ((r02_OfHeads.f k l0).bind fun bt170 => ((r02_OfOwners.f k l0 a1).bind fun bt178 => ((Hand.Eq_.f (seg_Lengths.g l0 a1).1 bt162.1).bind fun t182 => (if t182 = true then (if (seg_Lengths.g l0 a1).2 = bt162.2 then ((Hand.Eq_.f (seg_OfHeads.g l0).1 bt170.1).bind fun t183 => (if t183 = true then (if (seg_OfHeads.g l0).2 = bt170.2 then ((Hand.Eq_.f (seg_OfOwners.g l0 a1).1 bt178.1).bind fun t184 => (if t184 = true then (if (seg_OfOwners.g l0 a1).2 = bt178.2 then ((Hand.law_cut.f).bind fun t185 => (some t185)) else (none)) else (none))) else (none)) else (none))) else (none)) else (none)))))) (fun k => ?_) ?_
        · simp only [w02_SegBack.j0, Bool.false_eq_true, if_false, rLengths.f, rOfHeads.f, rOfOwners.f, Option.bind_some]
        · refine Ev.bind (ev_Lengths l0 a1 s0) ?_
          refine Ev.bind (ev_OfHeads l0 s0) ?_
          refine Ev.bind (ev_OfOwners l0 a1 s0) ?_
          simp only [if_true, Eq_.f, BEq.rfl, Option.bind_some, law_cut.f]
          exact Ev.now _
      · refine Ev.step (f := fun _ => some true) (fun k => ?_) (Ev.now _)
        simp only [w02_SegBack.j0, if_true, law_cut.f, Option.bind_some]
    unfold w02_SegBack.f
    by_cases hg : (l0.length : Int) > 2000
    · simp only [hg, if_true]
      exact hT true
    · simp only [hg, if_false, f_Lies, Option.bind_some]
      cases (decide (2001 ≤ a1) && decide (a1 ≤ 1048576))
      · simp only [Bool.false_eq_true, if_false]
        refine Ev.bind (ev_Words l0 s0) ?_
        cases (!noWords l0)
        · simp only [Bool.false_eq_true, if_false]
          exact hT false
        · simp only [if_true]
          obtain ⟨z, hz⟩ := ev_SumW l0 s0
          exact Ev.bind hz (hT _)
      · simp only [if_true]
        exact hT true
  exact H.rounds
end Go.Proofs.Ythalgcpohnknbaa.Pure
