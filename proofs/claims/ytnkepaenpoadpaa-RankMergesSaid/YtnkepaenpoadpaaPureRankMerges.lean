/- RankMerges: the reference's Merge is the program's, for any two lists of at most 200 numbers; it is told of numbers and lists alone. -/
import Derived.Test.YtnkepaenpoadpaaPRankMergesx
namespace Go.Proofs.Ytnkepaenpoadpaa.Pure
open Go.RowKit Go.Proofs.Ytnkepaenpoadpaa.PRankMerges Go.Proofs.Ytnkepaenpoadpaa.Hand Go.Proofs.YtnkepaenpoadpaaW.PrintWords Go.Proofs.YtnkepaenpoadpaaW.PrintLast Go.Proofs.YtnkepaenpoadpaaW.PrintMore
set_option linter.unusedVariables false
set_option linter.unusedSimpArgs false
/-- Lists so short that a place's successor is no other number. -/
def Sh {α : Type} (l : List α) : Prop := l.length ≤ 4611686018427387904
theorem wsucc {i n : Nat} (h : i < n) (hn : n ≤ 4611686018427387904) : wrap64 ((i : Int) + 1) = ((i + 1 : Nat) : Int) := by unfold wrap64; omega
theorem rd_get {l : List Int} {i : Nat} (h : i < l.length) : rd l (i : Int) = l[i] := by simp [rd, h]
theorem drop_rd {l : List Int} {i : Nat} (h : i < l.length) : l.drop i = rd l (i : Int) :: l.drop (i + 1) := by rw [List.drop_eq_getElem_cons h, rd_get h]
theorem up {n : Nat} {P : Nat → Prop} (h0 : P n) (hs : ∀ i, i < n → P (i + 1) → P i) (i : Nat) (hi : i ≤ n) : P i := by
  have key : ∀ d, ∀ i, i + d = n → P i := by
    intro d
    induction d with
    | zero => intro i h; have : i = n := by omega
              subst this; exact h0
    | succ d ih => intro i h; exact hs i (by omega) (ih (i + 1) (by omega))
  exact key (n - i) i (by omega)
theorem f_Lies (a b c : Int) : r00_Lies.f a b c = some (decide (b ≤ a) && decide (a ≤ c)) := by unfold r00_Lies.f; split <;> simp [*]
theorem f_IsWord (n : Int) : r00_IsWord.f n = some (isWordB n) := by unfold r00_IsWord.f; rw [f_Lies]; rfl
theorem ev_Words (l : List Int) (hl : Sh l) : Ev (fun k => r00_Words.f k l) (!noWords l) := by
  have H := up (n := l.length) (P := fun i => Ev (fun k => r00_Words.l0 k l (i : Int)) (!noWords (l.drop i)))
    (Ev.step (f := fun _ => some true) (fun k => by simp only [r00_Words.l0]; rw [if_neg (by omega)]) (by rw [List.drop_length]; exact Ev.now _))
    (fun i hi ih => by
      cases hw : isWordB (rd l (i : Int))
      · rw [drop_rd hi]
        refine Ev.step (f := fun _ => some false) (fun k => ?_) (by simp only [noWords, List.any_cons, hw]; exact Ev.now _)
        simp only [r00_Words.l0]; rw [if_pos (by omega), if_pos (by omega), f_IsWord, hw]; rfl
      · rw [drop_rd hi]
        refine Ev.step (f := fun k => r00_Words.l0 k l ((i + 1 : Nat) : Int)) (fun k => ?_) (by simp only [noWords, List.any_cons, hw]; exact ih)
        simp only [r00_Words.l0]; rw [if_pos (by omega), if_pos (by omega), f_IsWord, hw, wsucc hi hl]; rfl) 0 (Nat.zero_le _)
  exact H
def cn (P : Nat → Bool) : Nat → Nat
  | 0 => 0
  | k + 1 => cn P k + (if P k = true then 1 else 0)
theorem cn_le (P : Nat → Bool) : ∀ n, cn P n ≤ n
  | 0 => Nat.le_refl _
  | n + 1 => by
    have := cn_le P n
    unfold cn
    split <;> omega
theorem cn_congr {P Q : Nat → Bool} : ∀ n, (∀ k, k < n → P k = Q k) → cn P n = cn Q n
  | 0, _ => rfl
  | n + 1, h => by
    unfold cn
    rw [cn_congr n (fun k hk => h k (by omega)), h n (by omega)]
theorem cn_below (j : Nat) : ∀ n, cn (fun k => decide (k < j)) n = min j n
  | 0 => by simp [cn]
  | n + 1 => by
    unfold cn
    rw [cn_below j n]
    by_cases h : n < j
    · rw [if_pos (by simpa using h)]; omega
    · rw [if_neg (by simpa using h)]; omega
theorem cn_eq {P : Nat → Bool} {n j : Nat} (hj : j ≤ n) (h1 : ∀ k, k < j → P k = true) (h2 : ∀ k, j ≤ k → k < n → P k = false) : cn P n = j := by
  rw [cn_congr (Q := fun k => decide (k < j)) n (fun k hk => ?_), cn_below]
  · omega
  · by_cases h : k < j
    · rw [h1 k h]; simp [h]
    · rw [h2 k (by omega) hk]; simp [h]
def mgA (a b : List Int) (i : Nat) : Int := ((i + cn (fun k => decide (rd b (k : Int) < rd a (i : Int))) b.length : Nat) : Int)
def mgB (a b : List Int) (k : Nat) : Int := ((k + cn (fun i => decide (rd a (i : Int) ≤ rd b (k : Int))) a.length : Nat) : Int)
theorem sortedB_le {l : List Int} (h : sortedB l = true) (i : Nat) : ∀ d : Nat, i + d < l.length → rd l (i : Int) ≤ rd l ((i + d : Nat) : Int)
  | 0, _ => Int.le_refl _
  | d + 1, hd => by
    have h1 := sortedB_le h i d (by omega)
    have h2 := List.all_eq_true.1 h (i + d) (List.mem_range.2 (by omega))
    have e : ((i + d : Nat) : Int) + 1 = ((i + (d + 1) : Nat) : Int) := by omega
    simp only [Bool.not_eq_true', decide_eq_false_iff_not, e] at h2
    omega
theorem sortedB_mono {l : List Int} (h : sortedB l = true) (i j : Nat) (hij : i ≤ j) (hj : j < l.length) : rd l (i : Int) ≤ rd l (j : Int) := by
  obtain ⟨d, rfl⟩ : ∃ d, j = i + d := ⟨j - i, by omega⟩
  exact sortedB_le h i d hj
theorem mgOf_at (a b : List Int) (ha : sortedB a = true) (hb : sortedB b = true) : ∀ n, n ≤ a.length + b.length → ∃ i j, i + j = n ∧ i ≤ a.length ∧ j ≤ b.length ∧ mgOf a b n = ((List.range i).map (mgA a b), (List.range j).map (mgB a b)) ∧
    (i < a.length → ∀ k, k < j → rd b (k : Int) < rd a (i : Int)) ∧ (j < b.length → ∀ k, k < i → rd a (k : Int) ≤ rd b (j : Int))
  | 0, _ => ⟨0, 0, rfl, Nat.zero_le _, Nat.zero_le _, rfl, fun _ k hk => absurd hk (Nat.not_lt_zero _), fun _ k hk => absurd hk (Nat.not_lt_zero _)⟩
  | n + 1, hn => by
    obtain ⟨i, j, hij, hi, hj, e, h1, h2⟩ := mgOf_at a b ha hb n (by omega)
    have e1 : (mgOf a b n).1.length = i := by rw [e]; simp
    have e2 : (mgOf a b n).2.length = j := by rw [e]; simp
    unfold mgOf
    rw [e1, e2, e]
    cases ht : takeA a b i j
    · have ht2 : j ≠ b.length ∧ (i < a.length → rd b (j : Int) < rd a (i : Int)) := by
        unfold takeA at ht
        simp only [Bool.or_eq_false_iff, decide_eq_false_iff_not, Bool.and_eq_false_iff] at ht
        refine ⟨ht.1, fun hi2 => ?_⟩
        rcases ht.2 with h | h
        · omega
        · omega
      have hj2 : j < b.length := by omega
      have hn2 : (n : Int) = mgB a b j := by
        unfold mgB
        rw [cn_eq hi (fun k hk => decide_eq_true (h2 hj2 k hk)) (fun k hk hk2 => decide_eq_false (by
          have q1 := ht2.2 (by omega)
          have q2 := sortedB_mono ha i k hk hk2
          omega))]
        omega
      refine ⟨i, j + 1, by omega, hi, by omega, ?_, ?_, ?_⟩
      · rw [if_neg (by simp), List.range_succ, List.map_append, hn2]; rfl
      · intro hi2 k hk
        by_cases hkj : k = j
        · subst hkj; exact ht2.2 hi2
        · exact h1 hi2 k (by omega)
      · intro hj3 k hk
        have q1 := h2 hj2 k hk
        have q2 := sortedB_mono hb j (j + 1) (by omega) hj3
        omega
    · have ht2 : j = b.length ∨ (i < a.length ∧ rd a (i : Int) ≤ rd b (j : Int)) := by
        unfold takeA at ht
        simpa using ht
      have hi2 : i < a.length := by
        rcases ht2 with h | h
        · omega
        · exact h.1
      have hn2 : (n : Int) = mgA a b i := by
        unfold mgA
        rw [cn_eq hj (fun k hk => decide_eq_true (h1 hi2 k hk)) (fun k hk hk2 => decide_eq_false (by
          rcases ht2 with h | h
          · omega
          · have q2 := sortedB_mono hb j k hk hk2
            omega))]
        omega
      refine ⟨i + 1, j, by omega, by omega, hj, ?_, ?_, ?_⟩
      · rw [if_pos rfl, List.range_succ, List.map_append, hn2]; rfl
      · intro hi3 k hk
        have q1 := h1 hi2 k hk
        have q2 := sortedB_mono ha i (i + 1) (by omega) hi3
        omega
      · intro hj2 k hk
        by_cases hki : k = i
        · subst hki
          rcases ht2 with h | h
          · omega
          · exact h.2
        · exact h2 hj2 k (by omega)
theorem mgOf_closed (a b : List Int) (ha : sortedB a = true) (hb : sortedB b = true) : mgOf a b (a.length + b.length) = ((List.range a.length).map (mgA a b), (List.range b.length).map (mgB a b)) := by
  obtain ⟨i, j, hij, hi, hj, e, _⟩ := mgOf_at a b ha hb (a.length + b.length) (Nat.le_refl _)
  obtain rfl : i = a.length := by omega
  obtain rfl : j = b.length := by omega
  exact e
theorem ev_isSorted (l : List Int) (hn : l.length ≤ 1048576) : Ev (fun k => r07_isSorted.f k l) (sortedB l) := by
  have H := up (n := l.length - 1) (P := fun i => (∀ j : Nat, j < i → ¬ rd l ((j : Int) + 1) < rd l (j : Int)) → Ev (fun k => r07_isSorted.l0 k l ((i + 1 : Nat) : Int)) (sortedB l))
    (by
      intro h
      have e : sortedB l = true := by
        unfold sortedB
        rw [List.all_eq_true]
        intro j hj
        rw [decide_eq_false (h j (List.mem_range.1 hj))]; rfl
      rw [e]
      refine Ev.step (f := fun _ => some true) (fun k => ?_) (Ev.now _)
      simp only [r07_isSorted.l0]
      rw [if_neg (by omega)])
    (fun i hi ih h => by
      have hw : wrap64 (((i + 1 : Nat) : Int) - 1) = (i : Int) := by unfold wrap64; omega
      have e : ((i + 1 : Nat) : Int) = (i : Int) + 1 := by omega
      by_cases c : rd l ((i : Int) + 1) < rd l (i : Int)
      · have e2 : sortedB l = false := by
          unfold sortedB
          rw [List.all_eq_false]
          exact ⟨i, List.mem_range.2 hi, by rw [decide_eq_true c]; simp⟩
        rw [e2]
        refine Ev.step (f := fun _ => some false) (fun k => ?_) (Ev.now _)
        simp only [r07_isSorted.l0]
        rw [if_pos (by omega), if_pos (by omega), hw, if_pos (by omega), if_pos (by omega), if_pos (by rw [e]; exact c)]
      · refine Ev.step (f := fun k => r07_isSorted.l0 k l ((i + 1 + 1 : Nat) : Int)) (fun k => ?_) (ih (fun j hj => ?_))
        · simp only [r07_isSorted.l0]
          rw [if_pos (by omega), if_pos (by omega), hw, if_pos (by omega), if_pos (by omega), if_neg (by rw [e]; exact c), wsucc (n := l.length) (i := i + 1) (by omega) (by omega)]
        · by_cases hji : j = i
          · subst hji; exact c
          · exact h j (by omega)) 0 (Nat.zero_le _) (fun j hj => absurd hj (Nat.not_lt_zero _))
  exact Ev.congr (fun k => by unfold r07_isSorted.f; rfl) H
theorem ev_Merge1 {a b x7 x8 : List Int} {R : List Int × List Int × Int} (ha : a.length ≤ 1048576) (hb : b.length ≤ 1048576) (h7 : x7.length ≤ 1048576) (i : Nat) (hi : i < a.length)
    (h : Ev (fun k => r07_Merge.l0 k a b (x7 ++ [mgA a b i]) x8 ((i + 1 : Nat) : Int)) R) : Ev (fun k => r07_Merge.l1 k a b x7 x8 (i : Int) (i : Int) 0) R := by
  have H := up (n := b.length) (P := fun j => Ev (fun k => r07_Merge.l1 k a b x7 x8 (i : Int) ((i + cn (fun k => decide (rd b (k : Int) < rd a (i : Int))) j : Nat) : Int) (j : Int)) R)
    (by
      refine Ev.step (fun k => ?_) h
      simp only [r07_Merge.l1]
      rw [if_neg (by omega), if_pos (by omega), wsucc hi (by omega)]
      rfl)
    (fun j hj ih => by
      refine Ev.step (fun k => ?_) ih
      simp only [r07_Merge.l1]
      rw [if_pos (by omega), if_pos (by omega), if_pos (by omega), if_pos (by omega), wsucc hj (by omega)]
      have hc := cn_le (fun k => decide (rd b (k : Int) < rd a (i : Int))) j
      by_cases c : rd b (j : Int) < rd a (i : Int)
      · rw [if_pos c, wsucc (n := i + b.length) (by omega) (by omega)]
        have e : cn (fun k => decide (rd b (k : Int) < rd a (i : Int))) (j + 1) = cn (fun k => decide (rd b (k : Int) < rd a (i : Int))) j + 1 := by
          show _ + (if decide _ = true then 1 else 0) = _
          rw [decide_eq_true c]; rfl
        rw [e]; rfl
      · rw [if_neg c]
        have e : cn (fun k => decide (rd b (k : Int) < rd a (i : Int))) (j + 1) = cn (fun k => decide (rd b (k : Int) < rd a (i : Int))) j := by
          show _ + (if decide _ = true then 1 else 0) = _
          rw [decide_eq_false c]; rfl
        rw [e]) 0 (Nat.zero_le _)
  exact H
theorem ev_Merge3 {a b x7 x8 : List Int} {R : List Int × List Int × Int} (ha : a.length ≤ 1048576) (hb : b.length ≤ 1048576) (h8 : x8.length ≤ 1048576) (i : Nat) (hi : i < b.length)
    (h : Ev (fun k => r07_Merge.l2 k a b x7 (x8 ++ [mgB a b i]) ((i + 1 : Nat) : Int)) R) : Ev (fun k => r07_Merge.l3 k a b x7 x8 (i : Int) (i : Int) 0) R := by
  have H := up (n := a.length) (P := fun j => Ev (fun k => r07_Merge.l3 k a b x7 x8 (i : Int) ((i + cn (fun k => decide (rd a (k : Int) ≤ rd b (i : Int))) j : Nat) : Int) (j : Int)) R)
    (by
      refine Ev.step (fun k => ?_) h
      simp only [r07_Merge.l3]
      rw [if_neg (by omega), if_pos (by omega), wsucc hi (by omega)]
      rfl)
    (fun j hj ih => by
      refine Ev.step (fun k => ?_) ih
      simp only [r07_Merge.l3]
      rw [if_pos (by omega), if_pos (by omega), if_pos (by omega), if_pos (by omega), wsucc hj (by omega)]
      have hc := cn_le (fun k => decide (rd a (k : Int) ≤ rd b (i : Int))) j
      by_cases c : rd a (j : Int) ≤ rd b (i : Int)
      · rw [if_pos c, wsucc (n := i + a.length) (by omega) (by omega)]
        have e : cn (fun k => decide (rd a (k : Int) ≤ rd b (i : Int))) (j + 1) = cn (fun k => decide (rd a (k : Int) ≤ rd b (i : Int))) j + 1 := by
          show _ + (if decide _ = true then 1 else 0) = _
          rw [decide_eq_true c]; rfl
        rw [e]; rfl
      · rw [if_neg c]
        have e : cn (fun k => decide (rd a (k : Int) ≤ rd b (i : Int))) (j + 1) = cn (fun k => decide (rd a (k : Int) ≤ rd b (i : Int))) j := by
          show _ + (if decide _ = true then 1 else 0) = _
          rw [decide_eq_false c]; rfl
        rw [e]) 0 (Nat.zero_le _)
  exact H
theorem ev_Merge0 (a b : List Int) (ha : a.length ≤ 1048576) (hb : b.length ≤ 1048576) : Ev (fun k => r07_Merge.l0 k a b [] [] 0) ((List.range a.length).map (mgA a b), (List.range b.length).map (mgB a b), 0) := by
  have H2 := up (n := b.length) (P := fun i => Ev (fun k => r07_Merge.l2 k a b ((List.range a.length).map (mgA a b)) ((List.range i).map (mgB a b)) (i : Int)) ((List.range a.length).map (mgA a b), (List.range b.length).map (mgB a b), 0))
    (by
      refine Ev.step (f := fun _ => some _) (fun k => ?_) (Ev.now _)
      simp only [r07_Merge.l2]
      rw [if_neg (by omega)])
    (fun i hi ih => by
      refine Ev.step (fun k => ?_) (ev_Merge3 (x7 := (List.range a.length).map (mgA a b)) (x8 := (List.range i).map (mgB a b)) ha hb (by simp; omega) i hi (by
        rw [List.range_succ, List.map_append] at ih
        exact ih))
      simp only [r07_Merge.l2]
      rw [if_pos (by omega)]) 0 (Nat.zero_le _)
  have H0 := up (n := a.length) (P := fun i => Ev (fun k => r07_Merge.l0 k a b ((List.range i).map (mgA a b)) [] (i : Int)) ((List.range a.length).map (mgA a b), (List.range b.length).map (mgB a b), 0))
    (by
      refine Ev.step (fun k => ?_) H2
      simp only [r07_Merge.l0]
      rw [if_neg (by omega)]
      rfl)
    (fun i hi ih => by
      refine Ev.step (fun k => ?_) (ev_Merge1 (x7 := (List.range i).map (mgA a b)) (x8 := []) ha hb (by simp; omega) i hi (by
        rw [List.range_succ, List.map_append] at ih
        exact ih))
      simp only [r07_Merge.l0]
      rw [if_pos (by omega)]) 0 (Nat.zero_le _)
  exact H0
theorem ev_Merge (a b : List Int) (ha : a.length ≤ 200) (hb : b.length ≤ 200) : Ev (fun k => r07_Merge.f k a b) (rank_Merge.g a b) := by
  have hs : wrap64 ((a.length : Int) + (b.length : Int)) = (a.length : Int) + (b.length : Int) := by unfold wrap64; omega
  have j1t : Ev (fun k => r07_Merge.j1 k a b true) (([] : List Int), ([] : List Int), 7) := Ev.step (f := fun _ => some _) (fun k => rfl) (Ev.now _)
  have j0t : Ev (fun k => r07_Merge.j0 k a b true) (([] : List Int), ([] : List Int), 2) := Ev.step (f := fun _ => some _) (fun k => rfl) (Ev.now _)
  have j0f : Ev (fun k => r07_Merge.j0 k a b false) (if sortedB a && sortedB b then ((mgOf a b (a.length + b.length)).1, (mgOf a b (a.length + b.length)).2, 0) else ([], [], 7)) := by
    refine Ev.step (f := fun k => (r07_isSorted.f k a).bind fun t108 => (if t108 = true then ((r07_isSorted.f k b).bind fun t109 => (r07_Merge.j1 k a b (!t109))) else (r07_Merge.j1 k a b true))) (fun k => rfl) ?_
    refine Ev.bind (f := fun k t108 => (if t108 = true then ((r07_isSorted.f k b).bind fun t109 => (r07_Merge.j1 k a b (!t109))) else (r07_Merge.j1 k a b true))) (ev_isSorted a (by omega)) ?_
    cases ca : sortedB a
    · exact j1t
    · refine Ev.bind (f := fun k t109 => (r07_Merge.j1 k a b (!t109))) (ev_isSorted b (by omega)) ?_
      cases cb : sortedB b
      · exact j1t
      · rw [mgOf_closed a b ca cb]
        exact Ev.step (fun k => rfl) (ev_Merge0 a b (by omega) (by omega))
  have hw : wordsE [a, b] = if noWords a || noWords b then 2 else 0 := by
    unfold wordsE
    rw [if_neg (by simp; omega)]
    simp
  unfold rank_Merge.g
  rw [if_neg (by omega), hw]
  refine Ev.congr (f := fun k => (r00_Words.f k a).bind fun t106 => (if t106 = true then ((r00_Words.f k b).bind fun t107 => (r07_Merge.j0 k a b (!t107))) else (r07_Merge.j0 k a b true))) (fun k => ?_) ?_
  · unfold r07_Merge.f
    rw [hs, if_neg (by omega)]
  · refine Ev.bind (f := fun k t106 => (if t106 = true then ((r00_Words.f k b).bind fun t107 => (r07_Merge.j0 k a b (!t107))) else (r07_Merge.j0 k a b true))) (ev_Words a (by unfold Sh; omega)) ?_
    cases na : noWords a
    · refine Ev.bind (f := fun k t107 => (r07_Merge.j0 k a b (!t107))) (ev_Words b (by unfold Sh; omega)) ?_
      cases nb : noWords b
      · exact j0f
      · exact j0t
    · exact j0t
theorem jt_Merges (l0 l1 : List Int) : Ev (fun k => w07_RankMerges.j0 k l0 l1 true) true := by
  refine Ev.step (f := fun _ => some true) (fun k => ?_) (Ev.now _)
  simp only [w07_RankMerges.j0]
  simp only [if_true, law_ranked.f, Option.bind_some]
theorem jf_Merges (l0 l1 : List Int) (h1 : l0.length ≤ 200) (h2 : l1.length ≤ 200) : Ev (fun k => w07_RankMerges.j0 k l0 l1 false) true := by
  refine Ev.step (f := fun k => (rMerge.f l0 l1).bind fun bt127 => ((r07_Merge.f k l0 l1).bind fun bt134 => ((Hand.Eq_.f bt127.1 bt134.1).bind fun t141 => (if t141 = true then ((Hand.Eq_.f bt127.2.1 bt134.2.1).bind fun t142 => (if t142 = true then (if bt127.2.2 = bt134.2.2 then ((Hand.law_ranked.f).bind fun t143 => (some t143)) else (none)) else (none))) else (none))))) (fun k => ?_) ?_
  · simp only [w07_RankMerges.j0]
    rw [if_neg (by simp)]
  · have H := ev_Merge l0 l1 (by omega) (by omega)
    unfold rMerge.f Eq_.f law_ranked.f
    generalize rank_Merge.g l0 l1 = r at H
    refine Ev.bind (g := fun _ => some r) (Ev.now r) ?_
    refine Ev.bind H ?_
    simp only [if_true, BEq.rfl, Option.bind_some]
    exact Ev.now _
theorem RankMerges : w07_RankMerges.Pure := by
  intro l0 l1 _ h1 _ _ h2 _
  have H : Ev (fun k => w07_RankMerges.f k l0 l1) true := by
    by_cases c0 : (l0.length : Int) > 200
    · refine Ev.congr (fun k => ?_) (jt_Merges l0 l1)
      unfold w07_RankMerges.f
      rw [if_pos c0]
    · by_cases c1 : (l1.length : Int) > 200
      · refine Ev.congr (fun k => ?_) (jt_Merges l0 l1)
        unfold w07_RankMerges.f
        rw [if_neg c0, decide_eq_true c1]
      · refine Ev.congr (f := fun k => w07_RankMerges.j0 k l0 l1 false) (fun k => ?_) (jf_Merges l0 l1 (by omega) (by omega))
        unfold w07_RankMerges.f
        rw [if_neg c0, decide_eq_false c1]
  exact H.rounds
end Go.Proofs.Ytnkepaenpoadpaa.Pure
