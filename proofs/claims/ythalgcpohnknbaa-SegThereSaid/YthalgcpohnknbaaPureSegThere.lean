/- SegThere: there and back; it is told of numbers and lists alone. -/
import Derived.Test.YthalgcpohnknbaaPSegTherex
namespace Go.Proofs.Ythalgcpohnknbaa.Pure
open Go.RowKit Go.Proofs.Ythalgcpohnknbaa.PSegThere Go.Proofs.Ythalgcpohnknbaa.Hand Go.Proofs.YthalgcpohnknbaaW.PrintWords Go.Proofs.YthalgcpohnknbaaW.PrintLast Go.Proofs.YthalgcpohnknbaaW.PrintMore
set_option linter.unusedVariables false
set_option linter.unusedSimpArgs false
/-- Lists so short that a place's successor is no other number. -/
def Sh {α : Type} (l : List α) : Prop := l.length ≤ 4611686018427387904
theorem wsucc {i n : Nat} (h : i < n) (hn : n ≤ 4611686018427387904) : wrap64 ((i : Int) + 1) = ((i + 1 : Nat) : Int) := by unfold wrap64; omega
theorem rd_get {l : List Int} {i : Nat} (h : i < l.length) : rd l (i : Int) = l[i] := by simp [rd, h]
theorem up {n : Nat} {P : Nat → Prop} (h0 : P n) (hs : ∀ i, i < n → P (i + 1) → P i) (i : Nat) (hi : i ≤ n) : P i := by
  have key : ∀ d, ∀ i, i + d = n → P i := by
    intro d
    induction d with
    | zero => intro i h; have : i = n := by omega
              subst this; exact h0
    | succ d ih => intro i h; exact hs i (by omega) (ih (i + 1) (by omega))
  exact key (n - i) i (by omega)
theorem f_Lies (a b c : Int) : r00_Lies.f a b c = some (decide (b ≤ a) && decide (a ≤ c)) := by unfold r00_Lies.f; split <;> simp [*]
theorem ev_Sum (l : List Int) (hl : Sh l) (hp : ∀ n ∈ l, 0 ≤ n) (ht : ttl l ≤ 1048576) : Ev (fun k => r00_Sum.f k l) ((ttl l : Nat) : Int) := by
  have H := up (n := l.length) (P := fun i => Ev (fun k => r00_Sum.l0 k l ((startOf l (i : Int) : Nat) : Int) (i : Int)) ((ttl l : Nat) : Int))
    (Ev.step (f := fun _ => some ((ttl l : Nat) : Int)) (fun k => by simp only [r00_Sum.l0]; rw [if_neg (by omega)]; rfl) (Ev.now _))
    (fun i hi ih => by
      refine Ev.step (f := fun k => r00_Sum.l0 k l ((startOf l ((i + 1 : Nat) : Int) : Nat) : Int) ((i + 1 : Nat) : Int)) (fun k => ?_) ih
      simp only [r00_Sum.l0]
      have hs := startOf_succ l (i : Int) (by omega) (by omega)
      have hle := startOf_le_ttl l (i + 1) (by omega)
      have hn := hp _ (rd_mem l (i : Int) (by omega) (by omega))
      rw [if_pos (by omega), if_pos (by omega), wsucc hi hl]
      rw [show ((i + 1 : Nat) : Int) = (i : Int) + 1 by omega] at hle ⊢
      rw [hs] at hle ⊢
      generalize startOf l (i : Int) = st at *
      generalize rd l (i : Int) = n at *
      have e := Aside0.mk (show wrap64 ((st : Int) + n) = ((st + n.toNat : Nat) : Int) by unfold wrap64; omega)
      rw [e.out]) 0 (Nat.zero_le _)
  exact H
theorem st_step (l : List Int) (q2 : ∀ n ∈ l, 0 ≤ n) (q3 : ttl l ≤ 1048576) (i : Nat) (hi : i < l.length) : wrap64 (((startOf l (i : Int) : Nat) : Int) + rd l (i : Int)) = ((startOf l ((i + 1 : Nat) : Int) : Nat) : Int) := by
  have hs := startOf_succ l (i : Int) (by omega) (by omega)
  have hle := startOf_le_ttl l (i + 1) (by omega)
  have hn := q2 _ (rd_mem l (i : Int) (by omega) (by omega))
  rw [show ((i + 1 : Nat) : Int) = (i : Int) + 1 by omega] at hle ⊢
  rw [hs] at hle ⊢
  generalize startOf l (i : Int) = st at *
  generalize rd l (i : Int) = n at *
  unfold wrap64
  omega
theorem rd_upTo_nat (f : Int → Int) (n k : Nat) (h : k < n) : rd (upTo f (n : Int)) (k : Int) = f k := upTo_rd f n k h
def allFrom (p : Nat → Bool) (n i : Nat) : Bool := (List.range n).all fun j => decide (j < i) || p j
theorem allFrom_true {p : Nat → Bool} {n i : Nat} : allFrom p n i = true ↔ ∀ j, i ≤ j → j < n → p j = true := by
  unfold allFrom
  rw [List.all_eq_true]
  constructor
  · intro h j h1 h2
    have := h j (List.mem_range.2 h2)
    rw [decide_eq_false (by omega), Bool.false_or] at this
    exact this
  · intro h j hj
    by_cases h1 : j < i
    · simp [h1]
    · rw [h j (by omega) (List.mem_range.1 hj)]; simp
def okL (l : List Int) (t : Int) (j : Nat) : Bool := decide (rd l (j : Int) ≤ nextOf l t (j : Int)) && decide (nextOf l t (j : Int) ≤ t)
theorem next_le (l : List Int) (t : Int) (h : ∀ j : Nat, j < l.length → rd l (j : Int) ≤ nextOf l t (j : Int)) : ∀ d i : Nat, i + d + 1 = l.length → nextOf l t (i : Int) ≤ t
  | 0, i, he => by unfold nextOf; rw [if_neg (by omega)]; omega
  | d + 1, i, he => by
    have h1 := next_le l t h d (i + 1) (by omega)
    have h2 := h (i + 1) (by omega)
    have e : nextOf l t (i : Int) = rd l ((i : Int) + 1) := by unfold nextOf; rw [if_pos (by omega)]
    rw [e]
    rw [show ((i + 1 : Nat) : Int) = (i : Int) + 1 by omega] at h1 h2
    omega
theorem okStarts_eq (l : List Int) (t : Int) (h0 : 0 < l.length) : okStarts l t = ((rd l 0 == 0) && allFrom (okL l t) l.length 0) := by
  unfold okStarts
  rw [if_neg (by omega), Bool.eq_iff_iff, Bool.and_eq_true, allFrom_true, List.all_eq_true, beq_iff_eq]
  constructor
  · intro h
    have h1 : ∀ j : Nat, j < l.length → rd l (j : Int) ≤ nextOf l t (j : Int) := fun j hj => by
      have := h j (List.mem_range.2 hj)
      unfold okAt at this
      simp at this
      omega
    refine ⟨?_, fun j _ hj => ?_⟩
    · have := h 0 (List.mem_range.2 h0)
      unfold okAt at this
      simp at this
      omega
    · unfold okL
      have := next_le l t h1 (l.length - j - 1) j (by omega)
      have := h1 j hj
      simp
      omega
  · rintro ⟨h1, h2⟩ j hj
    have := h2 j (Nat.zero_le _) (List.mem_range.1 hj)
    unfold okL at this
    simp at this
    unfold okAt
    have e : decide (nextOf l t (j : Int) < rd l (j : Int)) = false := decide_eq_false (by omega)
    rw [e, Bool.or_false]
    by_cases hj0 : j = 0
    · subst hj0
      have : (rd l ((0 : Nat) : Int) != 0) = false := by rw [show ((0 : Nat) : Int) = 0 from rfl, h1]; rfl
      rw [this, Bool.and_false]
      rfl
    · have : (((j : Nat) : Int) == 0) = false := beq_eq_false_iff_ne.mpr (by omega)
      rw [this]
      rfl
/-- The lengths of segments that begin so, of so many elements. -/
def dl (S : List Int) (T : Int) : List Int := upTo (fun i => nextOf S T i - rd S i) (S.length : Int)
theorem dl_length (S : List Int) (T : Int) : (dl S T).length = S.length := by unfold dl; rw [upTo_length]; simp
theorem list_rd_ext {a b : List Int} (h : a.length = b.length) (h2 : ∀ j : Nat, j < a.length → rd a (j : Int) = rd b (j : Int)) : a = b := by
  refine List.ext_getElem h fun j hj hj2 => ?_
  have := h2 j hj
  rw [rd_get hj, rd_get hj2] at this
  exact this
theorem dl_rd (S : List Int) (T : Int) (j : Nat) (h : j < S.length) : rd (dl S T) (j : Int) = nextOf S T (j : Int) - rd S (j : Int) := by unfold dl; exact upTo_rd _ _ j h
theorem rd_app (a b : List Int) (j : Nat) : rd (a ++ b) (j : Int) = if j < a.length then rd a (j : Int) else rd b ((j - a.length : Nat) : Int) := by
  unfold rd
  simp only [Int.toNat_natCast, List.getD_eq_getElem?_getD]
  by_cases h : j < a.length
  · rw [if_pos h, List.getElem?_append_left h]
  · rw [if_neg h, List.getElem?_append_right (by omega)]
theorem reps_mem (l : List Int) : ∀ m : Nat, ∀ x ∈ repsTo l m, 0 ≤ x ∧ x < (m : Int)
  | 0, x, h => by simp [repsTo] at h
  | m + 1, x, h => by
    rw [repsTo_succ] at h
    rcases List.mem_append.1 h with h | h
    · have := reps_mem l m x h
      omega
    · obtain ⟨_, rfl⟩ := List.mem_replicate.1 h
      omega
theorem reps_sorted (l : List Int) : ∀ m : Nat, (repsTo l m).Pairwise (· ≤ ·)
  | 0 => by simp [repsTo]
  | m + 1 => by
    rw [repsTo_succ, List.pairwise_append]
    refine ⟨reps_sorted l m, List.pairwise_replicate.2 (.inr (Int.le_refl _)), fun a ha b hb => ?_⟩
    obtain ⟨_, rfl⟩ := List.mem_replicate.1 hb
    have := reps_mem l m a ha
    omega
theorem reps_rd (l : List Int) (m j : Nat) (h : j < (repsTo l m).length) : 0 ≤ rd (repsTo l m) (j : Int) ∧ rd (repsTo l m) (j : Int) < (m : Int) := reps_mem l m _ (rd_mem _ _ (by omega) (by omega))
theorem reps_le (l : List Int) (m j : Nat) (h : j + 1 < (repsTo l m).length) : rd (repsTo l m) (j : Int) ≤ rd (repsTo l m) ((j : Int) + 1) := by
  have := List.pairwise_iff_getElem.1 (reps_sorted l m) j (j + 1) (by omega) h (by omega)
  rw [show (j : Int) + 1 = ((j + 1 : Nat) : Int) by omega, rd_get h, rd_get (show j < (repsTo l m).length by omega)]
  exact this
theorem reps_first (l : List Int) (h0 : 0 < rd l 0) : ∀ m : Nat, 0 < m → 0 < (repsTo l m).length ∧ rd (repsTo l m) 0 = 0
  | 0, h => absurd h (by omega)
  | 1, _ => by
    have e : repsTo l 1 = List.replicate (rd l 0).toNat 0 := by rw [repsTo_succ]; rfl
    rw [e]
    refine ⟨by rw [List.length_replicate]; omega, ?_⟩
    unfold rd
    obtain ⟨q, hq⟩ : ∃ q, (rd l 0).toNat = q + 1 := ⟨(rd l 0).toNat - 1, by omega⟩
    unfold rd at hq
    rw [hq]
    rfl
  | m + 2, _ => by
    obtain ⟨h1, h2⟩ := reps_first l h0 (m + 1) (by omega)
    rw [repsTo_succ]
    refine ⟨by rw [List.length_append]; omega, ?_⟩
    have h3 := rd_app (repsTo l (m + 1)) (List.replicate (rd l ((m + 1 : Nat) : Int)).toNat ((m + 1 : Nat) : Int)) 0
    rw [if_pos h1, show ((0 : Nat) : Int) = 0 from rfl, h2] at h3
    exact h3
theorem reps_pos (l : List Int) (h0 : rd l 0 = 0) : ∀ m : Nat, ∀ x ∈ repsTo l m, 0 < x
  | 0, x, h => by simp [repsTo] at h
  | m + 1, x, h => by
    rw [repsTo_succ] at h
    rcases List.mem_append.1 h with h | h
    · exact reps_pos l h0 m x h
    · obtain ⟨h1, rfl⟩ := List.mem_replicate.1 h
      by_cases hm : m = 0
      · subst hm
        rw [show ((0 : Nat) : Int) = 0 from rfl, h0] at h1
        simp at h1
      · omega
theorem ok_reps (l : List Int) (hp : ∀ n ∈ l, 0 ≤ n) (hl : 0 < l.length) : okStarts (repsTo l l.length) ((l.length : Int) - 1) = !(decide (rd l 0 = 0) && decide (1 < l.length)) := by
  have hr0 := hp _ (rd_mem l 0 (by omega) (by omega))
  have hmain : rd l 0 = 0 → l.length = 1 ∨ okStarts (repsTo l l.length) ((l.length : Int) - 1) = false := by
    intro hz
    by_cases h1 : l.length = 1
    · exact .inl h1
    · right
      unfold okStarts
      by_cases he : (repsTo l l.length).length = 0
      · rw [if_pos he]
        exact beq_eq_false_iff_ne.mpr (by omega)
      · rw [if_neg he, List.all_eq_false]
        refine ⟨0, List.mem_range.2 (by omega), ?_⟩
        have := reps_pos l hz l.length _ (rd_mem (repsTo l l.length) 0 (by omega) (by omega))
        unfold okAt
        have e : (rd (repsTo l l.length) ((0 : Nat) : Int) != 0) = true := bne_iff_ne.mpr (by rw [show ((0 : Nat) : Int) = 0 from rfl]; omega)
        rw [e]
        simp
  have hyes : (l.length = 1 ∨ 0 < rd l 0) → okStarts (repsTo l l.length) ((l.length : Int) - 1) = true := by
    intro hc
    unfold okStarts
    by_cases he : (repsTo l l.length).length = 0
    · rw [if_pos he]
      rcases hc with h | h
      · exact beq_iff_eq.mpr (by omega)
      · have := (reps_first l h l.length hl).1
        omega
    · rw [if_neg he, List.all_eq_true]
      intro j hj
      have hj2 := List.mem_range.1 hj
      have hb := reps_rd l l.length j hj2
      have hnx : rd (repsTo l l.length) (j : Int) ≤ nextOf (repsTo l l.length) ((l.length : Int) - 1) (j : Int) := by
        unfold nextOf
        by_cases h3 : (j : Int) + 1 < ((repsTo l l.length).length : Int)
        · rw [if_pos h3]; exact reps_le l l.length j (by omega)
        · rw [if_neg h3]; omega
      have hfst : j = 0 → rd (repsTo l l.length) (j : Int) = 0 := by
        intro h0
        subst h0
        rcases hc with h | h
        · omega
        · exact (reps_first l h l.length hl).2
      unfold okAt
      have e : decide (nextOf (repsTo l l.length) ((l.length : Int) - 1) (j : Int) < rd (repsTo l l.length) (j : Int)) = false := decide_eq_false (by omega)
      rw [e, Bool.or_false]
      by_cases hj0 : j = 0
      · rw [show (rd (repsTo l l.length) (j : Int) != 0) = false by rw [hfst hj0]; rfl, Bool.and_false]; rfl
      · rw [show (((j : Nat) : Int) == 0) = false from beq_eq_false_iff_ne.mpr (by omega)]; rfl
  by_cases hz : rd l 0 = 0
  · rcases hmain hz with h | h
    · rw [hyes (.inl h)]
      simp [h]
    · by_cases h1 : l.length = 1
      · rw [hyes (.inl h1)]; simp [h1]
      · rw [h]
        have : decide (1 < l.length) = true := decide_eq_true (by omega)
        simp [hz, this]
  · rw [hyes (.inr (by omega))]
    simp [hz]
theorem dl_lens (l : List Int) (hl : l.length ≤ 1048577) (hl0 : 0 < l.length) : upTo (lenAt (repsTo l l.length) ((l.length : Int) - 1)) ((repsTo l l.length).length : Int) = dl (repsTo l l.length) ((l.length : Int) - 1) := by
  unfold dl
  refine upTo_ext _ _ (repsTo l l.length).length fun j hj => ?_
  have hb := reps_rd l l.length j hj
  have hn : 0 ≤ nextOf (repsTo l l.length) ((l.length : Int) - 1) (j : Int) ∧ nextOf (repsTo l l.length) ((l.length : Int) - 1) (j : Int) ≤ (l.length : Int) := by
    unfold nextOf
    by_cases h3 : (j : Int) + 1 < ((repsTo l l.length).length : Int)
    · rw [if_pos h3, show (j : Int) + 1 = ((j + 1 : Nat) : Int) by omega]
      have := reps_rd l l.length (j + 1) (by omega)
      omega
    · rw [if_neg h3]; omega
  unfold lenAt
  generalize nextOf (repsTo l l.length) ((l.length : Int) - 1) (j : Int) = a at *
  generalize rd (repsTo l l.length) (j : Int) = b at *
  unfold wrap64
  omega
theorem next_starts (l : List Int) (i : Nat) (hi : i < l.length) : nextOf (startsL l) ((ttl l : Nat) : Int) (i : Int) = ((startOf l ((i + 1 : Nat) : Int) : Nat) : Int) := by
  have hl := startsL_length l
  unfold nextOf
  by_cases h : (i : Int) + 1 < ((startsL l).length : Int)
  · rw [if_pos h, show (i : Int) + 1 = ((i + 1 : Nat) : Int) by omega]
    exact startsL_rd l (i + 1) (by omega)
  · rw [if_neg h, show i + 1 = l.length by omega]
    rfl
theorem back_lengths (l : List Int) (h0 : chkE l = 0) : seg_Lengths.g (startsL l) ((ttl l : Nat) : Int) = (l, 0) := by
  obtain ⟨q1, q2, q3⟩ := chkE_ok h0
  have hl := startsL_length l
  have hd : ∀ i : Nat, i < l.length → ((startOf l ((i + 1 : Nat) : Int) : Nat) : Int) = ((startOf l (i : Int) : Nat) : Int) + rd l (i : Int) := fun i hi => by
    have hn := q2 _ (rd_mem l (i : Int) (by omega) (by omega))
    rw [show ((i + 1 : Nat) : Int) = (i : Int) + 1 by omega, startOf_succ l (i : Int) (by omega) (by omega)]
    omega
  have hok : okStarts (startsL l) ((ttl l : Nat) : Int) = true := by
    by_cases he : l.length = 0
    · have : l = [] := List.length_eq_zero_iff.1 he
      subst this
      rfl
    · rw [okStarts_eq _ _ (by omega), Bool.and_eq_true, beq_iff_eq, allFrom_true]
      refine ⟨startsL_rd l 0 (by omega), fun j _ hj => ?_⟩
      rw [hl] at hj
      unfold okL
      have h1 := startsL_rd l j hj
      have h2 := next_starts l j hj
      have h3 := hd j hj
      have h4 := startOf_le_ttl l (j + 1) (by omega)
      have hn := q2 _ (rd_mem l (j : Int) (by omega) (by omega))
      rw [h1, h2, Bool.and_eq_true, decide_eq_true_eq, decide_eq_true_eq]
      constructor <;> omega
  unfold seg_Lengths.g
  rw [if_neg (by omega), if_neg (by simp; omega), if_pos hok]
  have e : upTo (lenAt (startsL l) ((ttl l : Nat) : Int)) ((startsL l).length : Int) = l := by
    refine list_rd_ext (by rw [upTo_length]; omega) fun j hj => ?_
    rw [upTo_length] at hj
    have hj2 : j < l.length := by omega
    rw [rd_upTo_nat _ _ j (by omega)]
    unfold lenAt
    rw [next_starts l j hj2, startsL_rd l j hj2, hd j hj2]
    have h4 := startOf_le_ttl l (j + 1) (by omega)
    have h5 := hd j hj2
    have hn := q2 _ (rd_mem l (j : Int) (by omega) (by omega))
    generalize startOf l (j : Int) = st at *
    generalize rd l (j : Int) = n at *
    rw [show (st : Int) + n - (st : Int) = n by omega]
    unfold wrap64
    omega
  rw [e]
theorem filter_replicate (n : Nat) (a k : Int) : ((List.replicate n a).filter (fun x => x == k)).length = if a = k then n else 0 := by
  by_cases h : a = k
  · subst h; simp [List.filter_replicate]
  · simp [List.filter_replicate, h]
theorem cnt_reps (l : List Int) (hp : ∀ n ∈ l, 0 ≤ n) (k : Nat) : ∀ m : Nat, m ≤ l.length → (((repsTo l m).filter (fun x => x == (k : Int))).length : Int) = if k < m then rd l (k : Int) else 0
  | 0, _ => by simp [repsTo]
  | m + 1, h => by
    have ih := cnt_reps l hp k m (by omega)
    have hn := hp _ (rd_mem l (m : Int) (by omega) (by omega))
    rw [repsTo_succ, List.filter_append, List.length_append, filter_replicate]
    by_cases hk : (m : Int) = (k : Int)
    · have : k = m := by omega
      subst this
      rw [if_pos rfl, if_pos (by omega)]
      rw [if_neg (by omega)] at ih
      omega
    · rw [if_neg hk]
      by_cases h2 : k < m
      · rw [if_pos (by omega)]
        rw [if_pos h2] at ih
        omega
      · rw [if_neg (by omega)]
        rw [if_neg h2] at ih
        omega
theorem back_owners (l : List Int) (h0 : chkE l = 0) : seg_OfOwners.g (repsTo l l.length) (l.length : Int) = (l, 0) := by
  obtain ⟨q1, q2, q3⟩ := chkE_ok h0
  have hrl := repsTo_length l l.length (Nat.le_refl _)
  have ht : startOf l (l.length : Int) = ttl l := rfl
  have hout : outB ((l.length : Int) - 1) (repsTo l l.length) = false := by
    unfold outB
    rw [List.any_eq_false]
    intro x hx
    have := reps_mem l l.length x hx
    simp
    omega
  have hso : sortedB (repsTo l l.length) = true := by
    unfold sortedB
    rw [List.all_eq_true]
    intro j hj
    have hj2 := List.mem_range.1 hj
    have := reps_le l l.length j (by omega)
    rw [decide_eq_false (by omega)]
    rfl
  unfold seg_OfOwners.g
  rw [if_neg (by omega), hout, decide_eq_false (show ¬ (l.length : Int) < 0 by omega), decide_eq_false (show ¬ 1048576 < (l.length : Int) by omega), if_neg (by simp), if_pos hso, Int.toNat_natCast]
  have e : upTo (cntN (repsTo l l.length) (repsTo l l.length).length) (l.length : Int) = l := by
    refine list_rd_ext (by rw [upTo_length]; omega) fun j hj => ?_
    rw [upTo_length] at hj
    rw [rd_upTo_nat _ _ j (by omega)]
    unfold cntN
    rw [List.take_length, cnt_reps l q2 j l.length (Nat.le_refl _), if_pos (by omega)]
  rw [e]
theorem f_Turn (n m : Int) (hm : m ≤ 4611686018427387904) : ∃ t, r00_Turn.f n m = some t ∧ 0 ≤ t ∧ (0 < m → t < m) := by
  unfold r00_Turn.f
  by_cases h1 : m < 1
  · exact ⟨0, by rw [if_pos h1], by omega, fun h => by omega⟩
  · rw [if_neg h1, if_neg (by omega)]
    have hlt := Int.tmod_lt_of_pos n (show 0 < m by omega)
    have hgt : -m < n.tmod m := by
      have := Int.lt_tmod_of_pos n (show 0 < m by omega)
      exact this
    by_cases h2 : n.tmod m < 0
    · rw [if_pos h2]
      exact ⟨_, rfl, by unfold wrap64; omega, fun _ => by unfold wrap64; omega⟩
    · rw [if_neg h2]
      exact ⟨_, rfl, by omega, fun _ => hlt⟩
theorem upTo_rd (a : List Int) (val : Int → Int) (h : ∀ i : Nat, i < a.length → val (i : Int) = rd a (i : Int)) : upTo val a.length = a := by
  apply List.ext_getElem
  · rw [upTo_length]; simp
  · intro i h1 h2
    rw [← rd_get h2, ← h i h2]
    simp [upTo]
theorem filt_succ (m : Int) : ∀ S : List Int, S.Pairwise (· ≤ ·) → S.filter (fun x => decide (x < m + 1)) = S.filter (fun x => decide (x < m)) ++ S.filter (fun x => x == m)
  | [], _ => rfl
  | a :: t, h => by
    obtain ⟨h1, h2⟩ := List.pairwise_cons.1 h
    have ih := filt_succ m t h2
    by_cases ha : a < m
    · have e1 : decide (a < m + 1) = true := decide_eq_true (by omega)
      have e2 : decide (a < m) = true := decide_eq_true ha
      have e3 : (a == m) = false := beq_eq_false_iff_ne.mpr (by omega)
      rw [List.filter_cons_of_pos (by simpa using e1), List.filter_cons_of_pos (by simpa using e2), List.filter_cons_of_neg (by simpa using e3), ih]
      rfl
    · have e0 : (a :: t).filter (fun x => decide (x < m)) = [] := List.filter_eq_nil_iff.2 fun x hx => by
        rcases List.mem_cons.1 hx with rfl | hx
        · simpa using ha
        · have := h1 x hx
          simp
          omega
      rw [e0, List.nil_append]
      refine List.filter_congr fun x hx => ?_
      have hx2 : m ≤ x := by
        rcases List.mem_cons.1 hx with rfl | hx
        · omega
        · have := h1 x hx
          omega
      by_cases hm : x = m
      · subst hm
        simp
        omega
      · rw [beq_eq_false_iff_ne.mpr hm]
        exact decide_eq_false (by omega)
theorem filt_eq (S : List Int) (m : Int) : S.filter (fun x => x == m) = List.replicate (S.filter (fun x => x == m)).length m :=
  List.eq_replicate_iff.2 ⟨rfl, fun x hx => by simpa using (List.mem_filter.1 hx).2⟩
theorem reps_heads (S : List Int) (T : Nat) (hs : S.Pairwise (· ≤ ·)) (hp : ∀ x ∈ S, 0 ≤ x) : ∀ m : Nat, m ≤ T → repsTo (upTo (cntN S S.length) (T : Int)) m = S.filter (fun x => decide (x < (m : Int)))
  | 0, _ => by
    symm
    refine List.filter_eq_nil_iff.2 fun x hx => ?_
    have := hp x hx
    simp
    omega
  | m + 1, h => by
    rw [repsTo_succ, reps_heads S T hs hp m (by omega), rd_upTo_nat _ T m (by omega), show ((m + 1 : Nat) : Int) = (m : Int) + 1 by omega, filt_succ _ S hs]
    congr 1
    rw [filt_eq S (m : Int)]
    unfold cntN
    rw [List.take_length, Int.toNat_natCast]
theorem starts_sorted (l : List Int) : (startsL l).Pairwise (· ≤ ·) := by
  rw [List.pairwise_iff_getElem]
  intro i j hi hj hij
  rw [← rd_get hi, ← rd_get hj]
  rw [startsL_length] at hi hj
  rw [startsL_rd l i hi, startsL_rd l j hj]
  have := startOf_mono l (i : Int) (by omega) (j - i) (by omega)
  rw [show (i : Int) + ((j - i : Nat) : Int) = (j : Int) by omega] at this
  omega
theorem starts_mem (l : List Int) : ∀ x ∈ startsL l, 0 ≤ x ∧ x ≤ ((ttl l : Nat) : Int) := by
  intro x hx
  obtain ⟨i, hi, rfl⟩ := List.mem_iff_getElem.1 hx
  rw [← rd_get hi]
  rw [startsL_length] at hi
  rw [startsL_rd l i hi]
  have := startOf_le_ttl l i (by omega)
  omega
theorem dl_starts (l : List Int) (q2 : ∀ n ∈ l, 0 ≤ n) : dl (startsL l) ((ttl l : Nat) : Int) = l := by
  refine list_rd_ext (by rw [dl_length, startsL_length]) fun j hj => ?_
  rw [dl_length] at hj
  rw [dl_rd _ _ j hj]
  rw [startsL_length] at hj
  have hn := q2 _ (rd_mem l (j : Int) (by omega) (by omega))
  rw [next_starts l j hj, startsL_rd l j hj, show ((j + 1 : Nat) : Int) = (j : Int) + 1 by omega, startOf_succ l (j : Int) (by omega) (by omega)]
  omega
theorem back_heads (l : List Int) (h0 : chkE l = 0) : seg_OfHeads.g (upTo (cntN (startsL l) l.length) ((ttl l : Nat) + 1 : Int)) = (l, 0) := by
  obtain ⟨q1, q2, q3⟩ := chkE_ok h0
  have hsl := startsL_length l
  have hc : ((ttl l : Nat) + 1 : Int) = ((ttl l + 1 : Nat) : Int) := by omega
  have hr := reps_heads (startsL l) (ttl l + 1) (starts_sorted l) (fun x hx => (starts_mem l x hx).1) (ttl l + 1) (Nat.le_refl _)
  have hf : (startsL l).filter (fun x => decide (x < ((ttl l + 1 : Nat) : Int))) = startsL l := List.filter_eq_self.2 fun x hx => decide_eq_true (by have := (starts_mem l x hx).2; omega)
  rw [hf, hsl] at hr
  rw [hc]
  have hlen : (upTo (cntN (startsL l) l.length) ((ttl l + 1 : Nat) : Int)).length = ttl l + 1 := by rw [upTo_length]; omega
  have hpos : ∀ x ∈ upTo (cntN (startsL l) l.length) ((ttl l + 1 : Nat) : Int), 0 ≤ x := fun x hx => by
    unfold upTo at hx
    obtain ⟨i, _, rfl⟩ := List.mem_map.1 hx
    exact (cntN_le _ _ _).1
  have hneg : negs (upTo (cntN (startsL l) l.length) ((ttl l + 1 : Nat) : Int)) = false := by
    unfold negs
    rw [List.any_eq_false]
    intro x hx
    have := hpos x hx
    simp
    omega
  have hfst : rd (upTo (cntN (startsL l) l.length) ((ttl l + 1 : Nat) : Int)) 0 = 0 → l.length = 0 := by
    intro h
    have h2 := rd_upTo_nat (cntN (startsL l) l.length) (ttl l + 1) 0 (by omega)
    rw [show ((0 : Nat) : Int) = 0 from rfl, h] at h2
    by_cases he : l.length = 0
    · exact he
    · have hm : (0 : Int) ∈ (startsL l).filter (fun x => x == 0) := List.mem_filter.2 ⟨by have := rd_mem (startsL l) 0 (by omega) (by omega); rw [show rd (startsL l) 0 = 0 from startsL_rd l 0 (by omega)] at this; exact this, rfl⟩
      have := List.length_pos_of_mem hm
      unfold cntN at h2
      rw [← hsl, List.take_length] at h2
      omega
  have hok := ok_reps _ hpos (by omega)
  have hdl := dl_lens (upTo (cntN (startsL l) l.length) ((ttl l + 1 : Nat) : Int)) (by omega) (by omega)
  have htt := repsTo_length (upTo (cntN (startsL l) l.length) ((ttl l + 1 : Nat) : Int)) (ttl l + 1) (by omega)
  rw [hlen] at hok hdl
  rw [hr] at hok hdl htt
  have htt2 : ttl (upTo (cntN (startsL l) l.length) ((ttl l + 1 : Nat) : Int)) = l.length := by
    show startOf _ _ = _
    rw [hlen, ← htt, hsl]
  have hT : ((ttl l + 1 : Nat) : Int) - 1 = ((ttl l : Nat) : Int) := by omega
  rw [hT] at hok hdl
  rw [dl_starts l q2] at hdl
  unfold seg_OfHeads.g
  rw [hlen, if_neg (by omega), if_neg (by omega), hneg, if_neg (by simp), htt2, if_neg (by omega), hT, hr, hok, hdl]
  have hb : (!(decide (rd (upTo (cntN (startsL l) l.length) ((ttl l + 1 : Nat) : Int)) 0 = 0) && decide (1 < ttl l + 1))) = true := by
    by_cases hz : rd (upTo (cntN (startsL l) l.length) ((ttl l + 1 : Nat) : Int)) 0 = 0
    · have := List.length_eq_zero_iff.1 (hfst hz)
      subst this
      rfl
    · rw [decide_eq_false hz]; rfl
  rw [hb, if_pos rfl]
theorem owner_at (l : List Int) : ∀ (m : Nat), m ≤ l.length → ∀ k : Nat, k < (repsTo l m).length → ∃ o : Nat, rd (repsTo l m) (k : Int) = o ∧ o < m ∧ startOf l (o : Int) ≤ k ∧ k < startOf l ((o + 1 : Nat) : Int)
  | 0, _, k, hk => by simp [repsTo] at hk
  | m + 1, h, k, hk => by
    have e1 := repsTo_length l m (by omega)
    have e2 := repsTo_length l (m + 1) h
    rw [repsTo_succ, rd_app]
    by_cases hk2 : k < (repsTo l m).length
    · rw [if_pos hk2]
      obtain ⟨o, h1, h2, h3, h4⟩ := owner_at l m (by omega) k hk2
      exact ⟨o, h1, by omega, h3, h4⟩
    · rw [if_neg hk2]
      refine ⟨m, ?_, by omega, by omega, by omega⟩
      have e3 := e2
      rw [repsTo_succ, List.length_append, List.length_replicate] at e3
      have hlt : k - (repsTo l m).length < (rd l (m : Int)).toNat := by omega
      unfold rd at hlt ⊢
      rw [Int.toNat_natCast] at hlt
      rw [Int.toNat_natCast, Int.toNat_natCast, List.getD_eq_getElem?_getD, List.getElem?_replicate, if_pos hlt]
      rfl
theorem ttl_small (l : List Int) (c : Nat) (h : ∀ n ∈ l, n ≤ c) : ∀ m : Nat, m ≤ l.length → startOf l (m : Int) ≤ c * m
  | 0, _ => by rw [show ((0 : Nat) : Int) = 0 from rfl, startOf_zero]; omega
  | m + 1, hm => by
    have ih := ttl_small l c h m (by omega)
    have := h _ (rd_mem l (m : Int) (by omega) (by omega))
    rw [show ((m + 1 : Nat) : Int) = (m : Int) + 1 by omega, startOf_succ l (m : Int) (by omega) (by omega), Nat.mul_succ]
    omega
theorem ev_some (l : List Int) (hl : Sh l) : ∃ q, Ev (fun k => w02_some.f k l) q ∧ q.length ≤ 40 ∧ (∀ n ∈ q, 0 ≤ n ∧ n < 10) ∧ chkE q = 0 := by
  have H : ∀ (d i : Nat) (x : List Int), i + d = 40 → i ≤ l.length → x.length = i → (∀ n ∈ x, 0 ≤ n ∧ n < 10) → ∃ q, Ev (fun k => w02_some.l0 k l x (i : Int)) q ∧ q.length ≤ 40 ∧ (∀ n ∈ q, 0 ≤ n ∧ n < 10) := by
    intro d
    induction d with
    | zero =>
      intro i x hi hil hx hb
      refine ⟨x, Ev.step (f := fun _ => some x) (fun k => ?_) (Ev.now _), by omega, hb⟩
      simp only [w02_some.l0]
      by_cases h : (i : Int) < l.length
      · rw [if_pos h, if_neg (by omega)]
      · rw [if_neg h]
    | succ d ih =>
      intro i x hi hil hx hb
      by_cases h : (i : Int) < l.length
      · obtain ⟨t, t1, t2, t3⟩ := f_Turn (rd l (i : Int)) 10 (by omega)
        obtain ⟨q, h1, h2, h3⟩ := ih (i + 1) (x ++ [t]) (by omega) (by omega) (by rw [List.length_append]; simp; omega) (fun n hn => by
          rcases List.mem_append.1 hn with hn | hn
          · exact hb n hn
          · have := List.mem_singleton.1 hn
            subst this
            exact ⟨t2, t3 (by omega)⟩)
        refine ⟨q, Ev.step (f := fun k => w02_some.l0 k l (x ++ [t]) ((i + 1 : Nat) : Int)) (fun k => ?_) h1, h2, h3⟩
        simp only [w02_some.l0]
        rw [if_pos h, if_pos (by omega), if_pos (by omega), t1, Option.bind_some, if_pos (by omega), wsucc (n := l.length) (by omega) hl]
      · refine ⟨x, Ev.step (f := fun _ => some x) (fun k => ?_) (Ev.now _), by omega, hb⟩
        simp only [w02_some.l0]
        rw [if_neg h]
  obtain ⟨q, h1, h2, h3⟩ := H 40 0 [] (by omega) (by omega) rfl (by simp)
  refine ⟨q, h1, h2, h3, ?_⟩
  have ht : ttl q ≤ 9 * q.length := ttl_small q 9 (fun n hn => by have := h3 n hn; omega) q.length (Nat.le_refl _)
  have hn : negs q = false := by
    unfold negs
    rw [List.any_eq_false]
    intro x hx
    have := h3 x hx
    simp
    omega
  unfold chkE
  rw [if_neg (by omega), hn, if_neg (by simp), if_neg (by omega)]
theorem ev_there1 (q : List Int) (h0 : chkE q = 0) (x15 : List Int) (he : x15 = upTo (cntN (startsL q) q.length) ((ttl q : Nat) + 1 : Int)) : Ev (fun k => w02_SegThere.l1 k q ((ttl q : Nat) : Int) (startsL q) (upTo (cntN (startsL q) q.length) ((ttl q : Nat) + 1 : Int)) (repsTo q q.length) x15 ((0 : Nat) : Int)) true := by
  obtain ⟨q1, q2, q3⟩ := chkE_ok h0
  have hrl : (repsTo q q.length).length = ttl q := repsTo_length q q.length (Nat.le_refl _)
  have hsl := startsL_length q
  have H := up (n := ttl q) (P := fun i => Ev (fun k => w02_SegThere.l1 k q ((ttl q : Nat) : Int) (startsL q) (upTo (cntN (startsL q) q.length) ((ttl q : Nat) + 1 : Int)) (repsTo q q.length) x15 (i : Int)) true)
    (by
      refine Ev.step (f := fun _ => some true) (fun k => ?_) (Ev.now _)
      simp only [w02_SegThere.l1]
      rw [if_neg (by omega), he]
      simp only [Eq_.f, BEq.rfl, Option.bind_some, if_true, law_cut.f])
    (fun i hi ih => by
      obtain ⟨o, o1, o2, o3, o4⟩ := owner_at q q.length (Nat.le_refl _) i (by omega)
      have hr := startsL_rd q o o2
      have hst := st_step q q2 q3 o o2
      have hle := startOf_le_ttl q (o + 1) (by omega)
      have hle2 := startOf_le_ttl q o (by omega)
      have hw1 := Aside0.mk (show wrap64 ((q.length : Int) - 1) = (q.length : Int) - 1 by unfold wrap64; omega)
      refine Ev.step (f := fun k => w02_SegThere.l1 k q ((ttl q : Nat) : Int) (startsL q) (upTo (cntN (startsL q) q.length) ((ttl q : Nat) + 1 : Int)) (repsTo q q.length) x15 ((i + 1 : Nat) : Int)) (fun k => ?_) ih
      simp only [w02_SegThere.l1, f_Lies, Option.bind_some]
      have hc1 : (decide (0 ≤ (o : Int)) && decide ((o : Int) ≤ (q.length : Int) - 1)) = true := by simp; omega
      rw [if_pos (by omega), if_pos (by omega), if_pos (by omega), o1, hw1.out, if_pos hc1, if_pos (by omega), if_pos (by omega), if_pos (by omega), hr, hst]
      have hw2 := Aside0.mk (show wrap64 (((startOf q ((o + 1 : Nat) : Int) : Nat) : Int) - 1) = ((startOf q ((o + 1 : Nat) : Int) : Nat) : Int) - 1 by generalize startOf q ((o + 1 : Nat) : Int) = z at *; unfold wrap64; omega)
      have hc2 : (decide (((startOf q (o : Int) : Nat) : Int) ≤ (i : Int)) && decide ((i : Int) ≤ ((startOf q ((o + 1 : Nat) : Int) : Nat) : Int) - 1)) = true := by rw [Bool.and_eq_true, decide_eq_true_eq, decide_eq_true_eq]; omega
      rw [hw2.out, if_pos hc2, wsucc hi (by omega)]) 0 (Nat.zero_le _)
  exact H
set_option maxHeartbeats 1000000 in
theorem ev_there0 (q : List Int) (h0 : chkE q = 0) : Ev (fun k => w02_SegThere.l0 k q ((ttl q : Nat) : Int) (startsL q) (upTo (cntN (startsL q) q.length) ((ttl q : Nat) + 1 : Int)) (repsTo q q.length) (List.replicate (ttl q + 1) 0) ((0 : Nat) : Int)) true := by
  obtain ⟨q1, q2, q3⟩ := chkE_ok h0
  have hL1 := ev_there1 q h0
  have hsl := startsL_length q
  have hSr : ∀ i : Nat, i < q.length → ∃ s : Nat, rd (startsL q) (i : Int) = (s : Int) ∧ s < ttl q + 1 := fun i hi => ⟨startOf q (i : Int), startsL_rd q i hi, by have := startOf_le_ttl q i (by omega); omega⟩
  have hc : ((ttl q : Nat) + 1 : Int) = ((ttl q + 1 : Nat) : Int) := by omega
  rw [hc] at hL1 ⊢
  have hT : (((ttl q : Nat) : Int)) ≤ 1048576 := by omega
  generalize hTT : ttl q = T at *
  generalize startsL q = S at *
  generalize hhd : upTo (cntN S q.length) ((T + 1 : Nat) : Int) = hd at hL1 ⊢
  generalize repsTo q q.length = O at *
  have H := up (n := S.length) (P := fun i => Ev (fun k => w02_SegThere.l0 k q (T : Int) S hd O (upTo (cntN S i) ((T + 1 : Nat) : Int)) (i : Int)) true)
    (by
      refine Ev.step (f := fun k => w02_SegThere.l1 k q (T : Int) S hd O (upTo (cntN S S.length) ((T + 1 : Nat) : Int)) ((0 : Nat) : Int)) (fun k => ?_) (hL1 _ (by rw [hsl]; exact hhd))
      simp only [w02_SegThere.l0]
      rw [if_neg (by omega)]
      rfl)
    (fun i hi ih => by
      obtain ⟨s, hs, hs2⟩ := hSr i (by omega)
      have hcs := cntN_succ S i (by omega) (s : Int)
      rw [hs, if_pos rfl] at hcs
      have hcl := cntN_le S i (s : Int)
      have hset : (upTo (cntN S i) ((T + 1 : Nat) : Int)).set s (cntN S i (s : Int) + 1) = upTo (cntN S (i + 1)) ((T + 1 : Nat) : Int) := upTo_set (cntN S i) (cntN S (i + 1)) (T + 1) s _ hcs (fun k hk hne => by rw [cntN_succ S i (by omega), hs, if_neg (by omega)]; omega)
      have hrd := rd_upTo_nat (cntN S i) (T + 1) s hs2
      have hlen := upTo_length (cntN S i) ((T + 1 : Nat) : Int)
      rw [← hset] at ih
      have hw2 := Aside0.mk (show wrap64 (cntN S i (s : Int) + 1) = cntN S i (s : Int) + 1 by generalize cntN S i (s : Int) = c at *; unfold wrap64; omega)
      have hli : (decide (0 ≤ (s : Int)) && decide ((s : Int) ≤ (T : Int))) = true := by simp; omega
      refine Ev.step (f := fun k => w02_SegThere.l0 k q (T : Int) S hd O ((upTo (cntN S i) ((T + 1 : Nat) : Int)).set s (cntN S i (s : Int) + 1)) ((i + 1 : Nat) : Int)) (fun k => ?_) ih
      simp only [w02_SegThere.l0, f_Lies, Option.bind_some]
      rw [if_pos (by omega), if_pos (by omega), hs, if_pos hli, if_pos (by omega), if_pos (by rw [hlen]; omega), Int.toNat_natCast, hrd, hw2.out, wsucc hi (by omega)]) 0 (Nat.zero_le _)
  have e0 : List.replicate (T + 1) (0 : Int) = upTo (cntN S 0) ((T + 1 : Nat) : Int) := (upTo_zero (T + 1) (cntN S 0) (fun k _ => rfl)).symm
  rw [e0]
  exact H
theorem SegThere : w02_SegThere.Pure := by
  intro l0 _ h1 _
  have s0 : Sh l0 := by unfold Sh; omega
  obtain ⟨q, hq, hq1, hq2, h0⟩ := ev_some l0 s0
  obtain ⟨q1, q2, q3⟩ := chkE_ok h0
  have sq : Sh q := by unfold Sh; omega
  have H : Ev (fun k => w02_SegThere.f k l0) true := by
    unfold w02_SegThere.f
    refine Ev.bind hq ?_
    have e1 : seg_Check.g q = (((ttl q : Nat) : Int), 0) := by unfold seg_Check.g; rw [if_pos h0]
    have e2 : seg_Starts.g q = (startsL q, 0) := by unfold seg_Starts.g; rw [if_pos h0]; rfl
    have e3 : seg_Heads.g q = (upTo (cntN (startsL q) q.length) ((ttl q : Nat) + 1 : Int), 0) := by unfold seg_Heads.g; rw [if_pos h0]
    have e4 : seg_Owners.g q = (repsTo q q.length, 0) := by unfold seg_Owners.g; rw [if_pos h0]
    have hrl : (repsTo q q.length).length = ttl q := repsTo_length q q.length (Nat.le_refl _)
    have hsl := startsL_length q
    have hul := upTo_length (cntN (startsL q) q.length) ((ttl q : Nat) + 1 : Int)
    have b1 := back_lengths q h0
    have b2 := back_heads q h0
    have b3 := back_owners q h0
    have hw := Aside0.mk (show wrap64 (((ttl q : Nat) : Int) + 1) = ((ttl q + 1 : Nat) : Int) by generalize ttl q = z at *; unfold wrap64; omega)
    simp only [rCheck.f, rStarts.f, rHeads.f, rOwners.f, e1, e2, e3, e4, Option.bind_some, if_true]
    refine Ev.bind (ev_Sum q sq q2 q3) ?_
    simp only [if_true]
    have g1 : ((startsL q).length : Int) = (q.length : Int) := by omega
    have g2 : ((upTo (cntN (startsL q) q.length) ((ttl q : Nat) + 1 : Int)).length : Int) = wrap64 (((ttl q : Nat) : Int) + 1) := by rw [hul, hw.out]; omega
    simp only [if_pos g1, if_pos g2]
    have hne : (((repsTo q q.length).length : Int) != ((ttl q : Nat) : Int)) = false := by rw [hrl]; simp
    simp only [hne]
    refine Ev.step (f := fun k => w02_SegThere.j1 k q ((ttl q : Nat) : Int) (startsL q) (upTo (cntN (startsL q) q.length) ((ttl q : Nat) + 1 : Int)) (repsTo q q.length) false) (fun k => ?_) ?_
    · simp only [w02_SegThere.j0, Bool.false_eq_true, if_false, rLengths.f, rOfHeads.f, rOfOwners.f, b1, b2, b3, Option.bind_some, if_true, Eq_.f, BEq.rfl, Bool.not_true]
    · refine Ev.step (f := fun k => w02_SegThere.l0 k q ((ttl q : Nat) : Int) (startsL q) (upTo (cntN (startsL q) q.length) ((ttl q : Nat) + 1 : Int)) (repsTo q q.length) (List.replicate (ttl q + 1) 0) ((0 : Nat) : Int)) (fun k => ?_) (ev_there0 q h0)
      simp only [w02_SegThere.j1, Bool.false_eq_true, if_false, hw.out]
      rw [if_pos (by omega), Int.toNat_natCast, if_pos (by omega)]
      rfl
  exact H.rounds
end Go.Proofs.Ythalgcpohnknbaa.Pure
