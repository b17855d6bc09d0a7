/- RankSorts: Split, Passes and Order of the reference are the program's, for any list of at most 200 numbers, lengths, and number of bits; it is told of numbers and lists alone. -/
import Derived.Test.YtnkepaenpoadpaaPRankSortsx
namespace Go.Proofs.Ytnkepaenpoadpaa.Pure
open Go.RowKit Go.Proofs.Ytnkepaenpoadpaa.PRankSorts Go.Proofs.Ytnkepaenpoadpaa.Hand Go.Proofs.YtnkepaenpoadpaaW.PrintWords Go.Proofs.YtnkepaenpoadpaaW.PrintLast Go.Proofs.YtnkepaenpoadpaaW.PrintMore
set_option linter.unusedVariables false
set_option linter.unusedSimpArgs false
/-- Lists so short that a place's successor is no other number. -/
def Sh {α : Type} (l : List α) : Prop := l.length ≤ 4611686018427387904
theorem wsucc {i n : Nat} (h : i < n) (hn : n ≤ 4611686018427387904) : wrap64 ((i : Int) + 1) = ((i + 1 : Nat) : Int) := by unfold wrap64; omega
theorem rdn (l : List Int) (i : Nat) : rd l (i : Int) = l.getD i 0 := by simp [rd]
theorem rd_get {l : List Int} {i : Nat} (h : i < l.length) : rd l (i : Int) = l[i] := by simp [rd, h]
theorem drop_rd {l : List Int} {i : Nat} (h : i < l.length) : l.drop i = rd l (i : Int) :: l.drop (i + 1) := by rw [List.drop_eq_getElem_cons h, rd_get h]
theorem up {n : Nat} {P : Nat → Prop} (h0 : P n) (hs : ∀ i, i < n → P (i + 1) → P i) (i : Nat) (hi : i ≤ n) : P i := by
  have key : ∀ d, ∀ i, i + d = n → P i := by
    intro d
    induction d with
    | zero => intro i h; have : i = n := by omega
              subst this; exact h0
    | succ d ih => intro i h; exact hs i (by omega) (ih (i + 1) (by omega))
  exact key (n - i) i (by omega)
theorem f_Lies (a b c : Int) : r00_Lies.f a b c = some (decide (b ≤ a) && decide (a ≤ c)) := by unfold r00_Lies.f; split <;> simp [*]
theorem f_IsWord (n : Int) : r00_IsWord.f n = some (isWordB n) := by unfold r00_IsWord.f; rw [f_Lies]; rfl
theorem ev_Words (l : List Int) (hl : Sh l) : Ev (fun k => r00_Words.f k l) (!noWords l) := by
  have H := up (n := l.length) (P := fun i => Ev (fun k => r00_Words.l0 k l (i : Int)) (!noWords (l.drop i)))
    (Ev.step (f := fun _ => some true) (fun k => by simp only [r00_Words.l0]; rw [if_neg (by omega)]) (by rw [List.drop_length]; exact Ev.now _))
    (fun i hi ih => by
      cases hw : isWordB (rd l (i : Int))
      · rw [drop_rd hi]
        refine Ev.step (f := fun _ => some false) (fun k => ?_) (by simp only [noWords, List.any_cons, hw]; exact Ev.now _)
        simp only [r00_Words.l0]; rw [if_pos (by omega), if_pos (by omega), f_IsWord, hw]; rfl
      · rw [drop_rd hi]
        refine Ev.step (f := fun k => r00_Words.l0 k l ((i + 1 : Nat) : Int)) (fun k => ?_) (by simp only [noWords, List.any_cons, hw]; exact ih)
        simp only [r00_Words.l0]; rw [if_pos (by omega), if_pos (by omega), f_IsWord, hw, wsucc hi hl]; rfl) 0 (Nat.zero_le _)
  exact H
theorem take_rd {l : List Int} {i : Nat} (h : i < l.length) : l.take (i + 1) = l.take i ++ [rd l (i : Int)] := by
  rw [rd_get h, List.take_add_one, List.getElem?_eq_getElem h]; rfl
theorem isWordB_iff (n : Int) : isWordB n = true ↔ -2147483648 ≤ n ∧ n ≤ 2147483647 := by simp [isWordB]
theorem stands_iff (p : List Int) (m : Nat) (k : Int) : stands p m k = true ↔ ∃ j : Nat, j < m ∧ rd p (j : Int) = k := by simp [stands]
/-- A place more is taken when the next one is. -/
theorem count_new (n : Nat) (A : Nat → Bool) (c : Nat) (hc : c < n) (hA : A c = false) : ((List.range n).countP fun (v : Nat) => A v || (c == v)) = (List.range n).countP A + 1 := by
  induction n with
  | zero => omega
  | succ n ih =>
    rw [List.range_succ, List.countP_append, List.countP_append]
    by_cases e : c = n
    · subst e
      have h1 : ((List.range c).countP fun (v : Nat) => A v || (c == v)) = (List.range c).countP A := by
        apply List.countP_congr
        intro v hv
        rw [List.mem_range] at hv
        have : (c == v) = false := by simp; omega
        simp [this]
      rw [h1]
      simp [hA]
    · have h1 : (c == n) = false := by simp; omega
      rw [ih (by omega)]
      simp [h1]
      omega
/-- The places so far are right: numbers below n, each one once. -/
def okTo (n : Nat) (p : List Int) (i : Nat) : Prop := ∀ j : Nat, j < i → (decide (0 ≤ rd p (j : Int)) && decide (rd p (j : Int) < (n : Int)) && !stands p j (rd p (j : Int))) = true
theorem count_ok (n : Nat) (p : List Int) : ∀ i : Nat, okTo n p i → ((List.range n).countP fun (v : Nat) => stands p i (v : Int)) = i
  | 0, _ => by simp [stands]
  | i + 1, h => by
    have ih := count_ok n p i (fun j hj => h j (by omega))
    have hi := h i (by omega)
    simp only [Bool.and_eq_true, decide_eq_true_eq, Bool.not_eq_true'] at hi
    have hc := count_new n (fun (v : Nat) => stands p i (v : Int)) (rd p (i : Int)).toNat (by omega) (by show stands p i (((rd p (i : Int)).toNat : Nat) : Int) = false; rw [Int.toNat_of_nonneg hi.1.1]; exact hi.2)
    rw [ih] at hc
    refine (List.countP_congr ?_).trans hc
    intro v hv
    rw [stands_succ]
    have : (rd p (i : Int) == (v : Int)) = ((rd p (i : Int)).toNat == v) := by
      rw [Bool.eq_iff_iff]; simp; omega
    rw [this]
/-- If as many places are right as there are, each number stands. -/
theorem all_stand (n : Nat) (p : List Int) (h : okTo n p n) (v : Nat) (hv : v < n) : stands p n (v : Int) = true := by
  have h1 := count_ok n p n h
  have h2 : ((List.range n).countP fun (v : Nat) => stands p n (v : Int)) = (List.range n).length := by rw [h1, List.length_range]
  exact List.countP_eq_length.1 h2 v (List.mem_range.2 hv)
theorem okPlaces_iff (n : Nat) (p : List Int) : okPlaces n p = true ↔ okTo n p p.length := by
  constructor
  · intro h j hj
    cases hb : (decide (0 ≤ rd p (j : Int)) && decide (rd p (j : Int) < (n : Int)) && !stands p j (rd p (j : Int)))
    · rw [okPlaces_false n p j hj hb] at h; cases h
    · rfl
  · exact okPlaces_true n p
theorem whereIs_at (p : List Int) (m : Nat) (k : Int) (h : stands p m k = true) : 0 ≤ whereIs p m k ∧ whereIs p m k < m ∧ rd p (whereIs p m k) = k := by
  unfold whereIs
  cases hf : (List.range m).find? (fun (j : Nat) => rd p (j : Int) == k) with
  | none =>
    obtain ⟨j, hj, e⟩ := (stands_iff p m k).1 h
    have := List.find?_eq_none.1 hf j (List.mem_range.2 hj)
    simp [e] at this
  | some j =>
    have h1 := List.mem_of_find?_eq_some hf
    have h2 := List.find?_some hf
    simp only [Option.elim_some]
    rw [List.mem_range] at h1
    exact ⟨by omega, by omega, by simpa using h2⟩
def cn (P : Nat → Bool) : Nat → Nat
  | 0 => 0
  | k + 1 => cn P k + (if P k = true then 1 else 0)
theorem cn_le (P : Nat → Bool) : ∀ n, cn P n ≤ n
  | 0 => Nat.le_refl _
  | n + 1 => by
    have := cn_le P n
    unfold cn
    split <;> omega
theorem cn_congr {P Q : Nat → Bool} : ∀ n, (∀ k, k < n → P k = Q k) → cn P n = cn Q n
  | 0, _ => rfl
  | n + 1, h => by
    unfold cn
    rw [cn_congr n (fun k hk => h k (by omega)), h n (by omega)]
theorem cn_below (j : Nat) : ∀ n, cn (fun k => decide (k < j)) n = min j n
  | 0 => by simp [cn]
  | n + 1 => by
    unfold cn
    rw [cn_below j n]
    by_cases h : n < j
    · rw [if_pos (by simpa using h)]; omega
    · rw [if_neg (by simpa using h)]; omega
theorem startOf_step (lens : List Int) (i : Nat) (hi : i < lens.length) : startOf lens ((i + 1 : Nat) : Int) = startOf lens (i : Int) + (rd lens (i : Int)).toNat := by
  rw [show ((i + 1 : Nat) : Int) = (i : Int) + 1 from by omega, startOf_succ lens (i : Int) (by omega) (by omega)]
theorem startOf_up (lens : List Int) (i j : Nat) (hij : i ≤ j) (hj : j ≤ lens.length) : startOf lens (i : Int) ≤ startOf lens (j : Int) := by
  obtain ⟨d, rfl⟩ : ∃ d, j = i + d := ⟨j - i, by omega⟩
  have := startOf_mono lens (i : Int) (by omega) d (by omega)
  rw [show ((i + d : Nat) : Int) = (i : Int) + d from by omega]
  exact this
def perSeg (F : Nat → Nat → Nat → Int) (lens : List Int) : Nat → List Int
  | 0 => []
  | i + 1 => perSeg F lens i ++ (List.range (rd lens (i : Int)).toNat).map (F (startOf lens (i : Int)) (rd lens (i : Int)).toNat)
theorem perSeg_length (F : Nat → Nat → Nat → Int) (lens : List Int) : ∀ i, i ≤ lens.length → (perSeg F lens i).length = startOf lens (i : Int)
  | 0, _ => rfl
  | i + 1, h => by
    show (perSeg F lens i ++ _).length = _
    rw [List.length_append, perSeg_length F lens i (by omega), List.length_map, List.length_range, startOf_step lens i (by omega)]
theorem rd_app_lt (a b : List Int) (i : Nat) (h : i < a.length) : rd (a ++ b) (i : Int) = rd a (i : Int) := by
  rw [rdn, rdn, List.getD_eq_getElem?_getD, List.getD_eq_getElem?_getD, List.getElem?_append_left h]
theorem rd_app_ge (a b : List Int) (i : Nat) : rd (a ++ b) ((a.length + i : Nat) : Int) = rd b (i : Int) := by
  rw [rdn, rdn, List.getD_eq_getElem?_getD, List.getD_eq_getElem?_getD, List.getElem?_append_right (by omega)]
  congr 2
  omega
theorem rd_mapRange (f : Nat → Int) (n i : Nat) (h : i < n) : rd ((List.range n).map f) (i : Int) = f i := by
  rw [rdn, List.getD_eq_getElem?_getD, List.getElem?_map, List.getElem?_range h]; rfl
theorem rd_perSeg (F : Nat → Nat → Nat → Int) (lens : List Int) (s j : Nat) : ∀ m, m ≤ lens.length → s < m → j < (rd lens (s : Int)).toNat → rd (perSeg F lens m) ((startOf lens (s : Int) + j : Nat) : Int) = F (startOf lens (s : Int)) (rd lens (s : Int)).toNat j
  | 0, _, h, _ => absurd h (Nat.not_lt_zero _)
  | m + 1, hm, hs, hj => by
    show rd (perSeg F lens m ++ _) _ = _
    have hl := perSeg_length F lens m (by omega)
    by_cases c : s = m
    · subst c
      rw [← hl, rd_app_ge, rd_mapRange _ _ _ hj]
    · have h1 := startOf_up lens (s + 1) m (by omega) (by omega)
      rw [startOf_step lens s (by omega)] at h1
      rw [rd_app_lt _ _ _ (by omega)]
      exact rd_perSeg F lens s j m (by omega) (by omega) hj
theorem seg_at (lens : List Int) (p : Nat) : ∀ m, m ≤ lens.length → p < startOf lens (m : Int) → ∃ s j, s < m ∧ j < (rd lens (s : Int)).toNat ∧ p = startOf lens (s : Int) + j
  | 0, _, h => by rw [show ((0 : Nat) : Int) = 0 from rfl, startOf_zero] at h; omega
  | m + 1, hm, h => by
    rw [startOf_step lens m (by omega)] at h
    by_cases c : p < startOf lens (m : Int)
    · obtain ⟨s, j, h1, h2, h3⟩ := seg_at lens p m (by omega) c
      exact ⟨s, j, by omega, h2, h3⟩
    · exact ⟨m, p - startOf lens (m : Int), by omega, by omega, by omega⟩
theorem ext_of_rd {a b : List Int} (hl : a.length = b.length) (h : ∀ i : Nat, i < a.length → rd a (i : Int) = rd b (i : Int)) : a = b := by
  apply List.ext_getElem hl
  intro i h1 h2
  have := h i h1
  rwa [rd_get h1, rd_get h2] at this
theorem perSeg_ext (F : Nat → Nat → Nat → Int) (lens : List Int) (m : Nat) (hm : m ≤ lens.length) (X : List Int) (hl : X.length = startOf lens (m : Int))
    (h : ∀ s j, s < m → j < (rd lens (s : Int)).toNat → rd X ((startOf lens (s : Int) + j : Nat) : Int) = F (startOf lens (s : Int)) (rd lens (s : Int)).toNat j) : X = perSeg F lens m := by
  refine ext_of_rd (by rw [hl, perSeg_length F lens m hm]) (fun p hp => ?_)
  obtain ⟨s, j, h1, h2, rfl⟩ := seg_at lens p m hm (by omega)
  rw [h s j h1 h2, rd_perSeg F lens s j m hm h1 h2]
theorem perSeg_congr (F G : Nat → Nat → Nat → Int) (lens : List Int) (m : Nat) (hm : m ≤ lens.length) (h : ∀ s j, s < m → j < (rd lens (s : Int)).toNat → F (startOf lens (s : Int)) (rd lens (s : Int)).toNat j = G (startOf lens (s : Int)) (rd lens (s : Int)).toNat j) : perSeg F lens m = perSeg G lens m :=
  perSeg_ext G lens m hm _ (perSeg_length F lens m hm) (fun s j hs hj => by rw [rd_perSeg F lens s j m hm hs hj, h s j hs hj])
def ltK (K : Int → Int) (l : List Int) (i k : Nat) : Bool := decide (K (rd l (i : Int)) < K (rd l (k : Int))) || (decide (K (rd l (i : Int)) = K (rd l (k : Int))) && decide (i < k))
def plK (K : Int → Int) (l : List Int) (st n i : Nat) : Int := ((st + cn (fun j => ltK K l (st + j) (st + i)) n : Nat) : Int)
def byK (K : Int → Int) (l lens : List Int) : List Int := perSeg (plK K l) lens lens.length
theorem ltK_irrefl (K : Int → Int) (l : List Int) (i : Nat) : ltK K l i i = false := by simp [ltK]
theorem mn_min' (a b : Int) : mn a b = min a b := by unfold mn; split <;> omega
theorem ev_Check2 (lens : List Int) (hn : lens.length ≤ 1048576) (hw : ∀ x ∈ lens, isWordB x = true) : Ev (fun k => r02_Check.f k lens) (if lens.all (fun n => decide (0 ≤ n)) = true then (if 1048576 < startOf lens lens.length then (0, 9) else ((startOf lens lens.length : Int), 0)) else (0, 2)) := by
  have H := up (n := lens.length) (P := fun i => (∀ j : Nat, j < i → 0 ≤ rd lens (j : Int)) → Ev (fun k => r02_Check.l0 k lens ((min (startOf lens (i : Int)) 2097152 : Nat) : Int) (i : Int)) (if lens.all (fun n => decide (0 ≤ n)) = true then (if 1048576 < startOf lens lens.length then (0, 9) else ((startOf lens lens.length : Int), 0)) else (0, 2)))
    (by
      intro h
      have e : lens.all (fun n => decide (0 ≤ n)) = true := by
        rw [List.all_eq_true]
        intro x hx
        obtain ⟨i, hi, rfl⟩ := List.mem_iff_getElem.1 hx
        have := h i hi
        rw [rd_get hi] at this
        exact decide_eq_true this
      rw [if_pos e]
      refine Ev.step (f := fun _ => some _) (fun k => ?_) (Ev.now _)
      simp only [r02_Check.l0]
      rw [if_neg (by omega)]
      by_cases c : 1048576 < startOf lens lens.length
      · rw [if_pos (by omega), if_pos c]
      · rw [if_neg (by omega), if_neg c, Nat.min_eq_left (by omega)])
    (fun i hi ih h => by
      by_cases c : rd lens (i : Int) < 0
      · have e : ¬ lens.all (fun n => decide (0 ≤ n)) = true := by
          intro e
          have := List.all_eq_true.1 e _ (List.getElem_mem hi)
          rw [rd_get hi] at c
          simp at this
          omega
        rw [if_neg e]
        refine Ev.step (f := fun _ => some _) (fun k => ?_) (Ev.now _)
        simp only [r02_Check.l0]
        rw [if_pos (by omega), if_pos (by omega), if_pos c]
      · have hx := (isWordB_iff _).1 (hw _ (List.getElem_mem hi))
        rw [← rd_get hi] at hx
        have e : mn (wrap64 (((min (startOf lens (i : Int)) 2097152 : Nat) : Int) + mn (rd lens (i : Int)) 2097152)) 2097152 = ((min (startOf lens ((i + 1 : Nat) : Int)) 2097152 : Nat) : Int) := by
          rw [startOf_step lens i hi, mn_min', mn_min']
          generalize startOf lens (i : Int) = S
          generalize rd lens (i : Int) = x at *
          have q : wrap64 (((min S 2097152 : Nat) : Int) + min x 2097152) = ((min S 2097152 : Nat) : Int) + min x 2097152 := by unfold wrap64; omega
          rw [q]
          omega
        refine Ev.step (fun k => ?_) (ih (fun j hj => ?_))
        · simp only [r02_Check.l0]
          rw [if_pos (by omega), if_pos (by omega), if_neg c, e, wsucc hi (by omega)]
        · by_cases hji : j = i
          · subst hji; omega
          · exact h j (by omega)) 0 (Nat.zero_le _) (fun j hj => absurd hj (Nat.not_lt_zero _))
  refine Ev.congr (fun k => ?_) H
  unfold r02_Check.f
  rw [if_neg (by omega)]
  rfl
theorem noWords_false {l : List Int} (h : noWords l = false) : ∀ x ∈ l, isWordB x = true := by
  intro x hx
  have := List.any_eq_false.1 h x hx
  simpa using this
theorem ev_segments (l lens : List Int) (hl : l.length ≤ 200) (hn : lens.length ≤ 400) : Ev (fun k => r07_segments.f k l lens) (openE l lens) := by
  have j1t : Ev (fun k => r07_segments.j1 k l lens true) 2 := Ev.step (f := fun _ => some _) (fun k => rfl) (Ev.now _)
  have j0t : Ev (fun k => r07_segments.j0 k l lens false) (openE l lens) := by
    refine Ev.step (f := fun k => (r00_Words.f k l).bind fun t107 => (if t107 = true then ((r00_Words.f k lens).bind fun t108 => (r07_segments.j1 k l lens (!t108))) else (r07_segments.j1 k l lens true))) (fun k => rfl) ?_
    refine Ev.bind (f := fun k t107 => (if t107 = true then ((r00_Words.f k lens).bind fun t108 => (r07_segments.j1 k l lens (!t108))) else (r07_segments.j1 k l lens true))) (ev_Words l (by unfold Sh; omega)) ?_
    have hw : wordsE [l, lens] = if noWords l || noWords lens then 2 else 0 := by
      unfold wordsE
      rw [if_neg (by simp; omega)]
      simp
    unfold openE
    rw [hw]
    cases na : noWords l
    · refine Ev.bind (f := fun k t108 => (r07_segments.j1 k l lens (!t108))) (ev_Words lens (by unfold Sh; omega)) ?_
      cases nb : noWords lens
      · refine Ev.step (f := fun k => (r02_Check.f k lens).bind fun bt109 => (if bt109.2 = 0 then (if bt109.1 = (l.length : Int) then (some 0) else (some 6)) else (some 6))) (fun k => rfl) ?_
        refine Ev.bind (ev_Check2 lens (by omega) (noWords_false nb)) ?_
        have hk : okLens l lens = (lens.all (fun n => decide (0 ≤ n)) && (startOf lens lens.length == l.length)) := rfl
        rw [hk]
        cases ha : lens.all (fun n => decide (0 ≤ n))
        · exact Ev.now _
        · simp only [if_true, Bool.or_self, Bool.true_and, Bool.false_eq_true, if_false]
          by_cases c : 1048576 < startOf lens lens.length
          · have c2 : (startOf lens lens.length == l.length) = false := by simp; omega
            rw [if_pos c, c2]
            exact Ev.now _
          · rw [if_neg c]
            by_cases c2 : startOf lens lens.length = l.length
            · simp only [c2, BEq.rfl, if_true]; exact Ev.now _
            · have c3 : (startOf lens lens.length == l.length) = false := by simpa using c2
              have c4 : ¬ ((startOf lens lens.length : Nat) : Int) = (l.length : Int) := by omega
              simp only [c3, if_neg c4, Bool.false_eq_true, if_true, if_false]
              exact Ev.now _
      · exact j1t
    · exact j1t
  refine Ev.congr (fun k => ?_) j0t
  unfold r07_segments.f
  rw [if_neg (by omega), decide_eq_false (by omega)]
theorem lessB_ltK (l : List Int) (i k : Nat) (b : Int) : lessB l (i : Int) (k : Int) b = ltK (fun x => keyB x b) l i k := by
  unfold lessB ltK
  by_cases h1 : keyB (rd l (i : Int)) b < keyB (rd l (k : Int)) b
  · rw [if_pos h1, decide_eq_true h1]; rfl
  · rw [if_neg h1, decide_eq_false h1]
    by_cases h2 : keyB (rd l (i : Int)) b = keyB (rd l (k : Int)) b
    · rw [if_pos h2, decide_eq_true h2, Bool.false_or, Bool.true_and]
      apply decide_eq_decide.2
      omega
    · rw [if_neg h2, decide_eq_false h2]; rfl
theorem seg_in {l lens : List Int} (hok : okLens l lens = true) (s : Nat) (hs : s < lens.length) : 0 ≤ rd lens (s : Int) ∧ startOf lens (s : Int) + (rd lens (s : Int)).toNat ≤ l.length := by
  obtain ⟨h1, h2⟩ := okLens_pos hok
  have h3 := startOf_up lens (s + 1) lens.length (by omega) (Nat.le_refl _)
  rw [startOf_step lens s hs, h2] at h3
  refine ⟨?_, h3⟩
  rw [rd_get hs]
  exact h1 _ (List.getElem_mem hs)
theorem cn_succ (P : Nat → Bool) (n : Nat) : cn P (n + 1) = cn P n + (if P n = true then 1 else 0) := rfl
theorem ev_sorted2 {l lens : List Int} (bits : Int) (hb : 0 ≤ bits) {R : List Int} {out : List Int} (hl : l.length ≤ 1048576) (ho : out.length ≤ 1048576) (st n s i : Nat) (hs : s < lens.length) (hsn : s ≤ 1048576) (hn : rd lens (s : Int) = n) (hst : st + n ≤ l.length) (hi : i < n)
    (h : Ev (fun k => r07_sorted.l1 k l lens bits (out ++ [plK (fun x => keyB x bits) l st n i]) (st : Int) (s : Int) ((st + (i + 1) : Nat) : Int)) R) :
    Ev (fun k => r07_sorted.l2 k l lens bits out (st : Int) (s : Int) ((st + i : Nat) : Int) (st : Int) (st : Int)) R := by
  have hw : wrap64 ((st : Int) + rd lens (s : Int)) = ((st + n : Nat) : Int) := by rw [hn]; unfold wrap64; omega
  have H := up (n := n) (P := fun j => Ev (fun k => r07_sorted.l2 k l lens bits out (st : Int) (s : Int) ((st + i : Nat) : Int) ((st + cn (fun j => ltK (fun x => keyB x bits) l (st + j) (st + i)) j : Nat) : Int) ((st + j : Nat) : Int)) R)
    (by
      refine Ev.step (fun k => ?_) h
      simp only [r07_sorted.l2]
      rw [hw, if_pos (by omega), if_pos (by omega), if_neg (by omega), if_pos (by omega), wsucc (n := l.length) (i := st + i) (by omega) (by omega)]
      rfl)
    (fun j hj ih => by
      refine Ev.step (fun k => ?_) ih
      simp only [r07_sorted.l2]
      have hc := cn_le (fun j => ltK (fun x => keyB x bits) l (st + j) (st + i)) j
      rw [hw, if_pos (by omega), if_pos (by omega), if_pos (by omega), wsucc (n := l.length) (i := st + j) (by omega) (by omega)]
      have ea : st + j + 1 = st + (j + 1) := by omega
      rw [ea, cn_succ]
      by_cases e : j = i
      · rw [if_pos (by omega), e, ltK_irrefl]
        rfl
      · rw [if_neg (by omega)]
        have hL : refLess.f l ((st + j : Nat) : Int) ((st + i : Nat) : Int) bits = some (ltK (fun x => keyB x bits) l (st + j) (st + i)) := by
          unfold refLess.f
          rw [if_pos (by omega), if_pos (by omega), if_pos hb, if_pos (by omega), if_pos (by omega), lessB_ltK]
        rw [hL, Option.bind_some]
        cases ltK (fun x => keyB x bits) l (st + j) (st + i)
        · rfl
        · rw [if_pos rfl, if_pos rfl, wsucc (n := l.length + n) (by omega) (by omega)]
          rfl) 0 (Nat.zero_le _)
  exact H
theorem ev_sorted (l lens : List Int) (bits : Int) (hb : 0 ≤ bits) (hl : l.length ≤ 1048576) (hn : lens.length ≤ 1048576) (hok : okLens l lens = true) : Ev (fun k => r07_sorted.f k l lens bits) (byK (fun x => keyB x bits) l lens) := by
  have H := up (n := lens.length) (P := fun s => Ev (fun k => r07_sorted.l0 k l lens bits (perSeg (plK (fun x => keyB x bits) l) lens s) (startOf lens (s : Int) : Int) (s : Int)) (byK (fun x => keyB x bits) l lens))
    (by
      refine Ev.step (f := fun _ => some _) (fun k => ?_) (Ev.now _)
      simp only [r07_sorted.l0]
      rw [if_neg (by omega)]
      rfl)
    (fun s hs ih => by
      obtain ⟨h0, h1⟩ := seg_in hok s hs
      obtain ⟨n, hnn⟩ : ∃ n : Nat, rd lens (s : Int) = n := ⟨(rd lens (s : Int)).toNat, by omega⟩
      have hpl := perSeg_length (plK (fun x => keyB x bits) l) lens s (by omega)
      have ih2 := ih
      rw [startOf_step lens s hs, perSeg, hnn, Int.toNat_natCast] at ih2
      rw [hnn, Int.toNat_natCast] at h1
      generalize startOf lens (s : Int) = st at *
      generalize perSeg (plK (fun x => keyB x bits) l) lens s = out at *
      have hw : wrap64 ((st : Int) + rd lens (s : Int)) = ((st + n : Nat) : Int) := by rw [hnn]; unfold wrap64; omega
      have H1 := up (n := n) (P := fun i => Ev (fun k => r07_sorted.l1 k l lens bits (out ++ (List.range i).map (plK (fun x => keyB x bits) l st n)) (st : Int) (s : Int) ((st + i : Nat) : Int)) (byK (fun x => keyB x bits) l lens))
        (by
          refine Ev.step (fun k => ?_) ih2
          simp only [r07_sorted.l1]
          rw [hw, if_pos (by omega), if_pos (by omega), if_neg (by omega), wsucc hs (by omega)])
        (fun i hi ih => by
          have g := ev_sorted2 (l := l) (lens := lens) bits hb (R := byK (fun x => keyB x bits) l lens) (out := out ++ (List.range i).map (plK (fun x => keyB x bits) l st n)) hl (by simp; omega) st n s i hs (by omega) hnn h1 hi (by
            rw [List.range_succ, List.map_append, ← List.append_assoc] at ih
            exact ih)
          refine Ev.step (fun k => ?_) g
          simp only [r07_sorted.l1]
          rw [hw, if_pos (by omega), if_pos (by omega), if_pos (by omega)]) 0 (Nat.zero_le _)
      refine Ev.step (fun k => ?_) H1
      simp only [r07_sorted.l0]
      rw [if_pos (by omega)]
      simp) 0 (Nat.zero_le _)
  exact H
theorem cn_countP (P : Nat → Bool) : ∀ n, cn P n = (List.range n).countP P
  | 0 => rfl
  | n + 1 => by
    rw [cn_succ, cn_countP P n, List.range_succ, List.countP_append, List.countP_singleton]
theorem countP_index {α : Type} (L : List α) (P : α → Bool) (k : Nat) (hk : k ≤ L.length) (h1 : ∀ m (hm : m < L.length), m < k → P L[m] = true) (h2 : ∀ m (hm : m < L.length), k ≤ m → P L[m] = false) : L.countP P = k := by
  have e : L.countP P = (L.take k ++ L.drop k).countP P := by rw [List.take_append_drop]
  rw [e, List.countP_append]
  have e1 : (L.take k).countP P = (L.take k).length := by
    rw [List.countP_eq_length]
    intro x hx
    obtain ⟨m, hm, rfl⟩ := List.mem_iff_getElem.1 hx
    rw [List.length_take] at hm
    rw [List.getElem_take]
    exact h1 m (by omega) (by omega)
  have e2 : (L.drop k).countP P = 0 := by
    rw [List.countP_eq_zero]
    intro x hx
    obtain ⟨m, hm, rfl⟩ := List.mem_iff_getElem.1 hx
    rw [List.length_drop] at hm
    rw [List.getElem_drop, h2 (k + m) (by omega) (by omega)]
    simp
  rw [e1, e2, List.length_take]
  omega
theorem elemsOf_nodup (b : Nat) (l : List Int) (k : Nat) : (elemsOf b l k).Nodup := by
  unfold elemsOf
  rw [List.nodup_iff_pairwise_ne, List.pairwise_map]
  exact List.pairwise_lt_range.imp (fun {a c} h e => by
    have := (Prod.mk.inj e).2
    omega)
theorem ltOf_elem (b : Nat) (l : List Int) (j i : Nat) : Go.Proofs.ltOf cfE (rd l (j : Int), ((b + j : Nat) : Int)) (rd l (i : Int), ((b + i : Nat) : Int)) = ltK (fun x => x) l j i := by
  rw [ltE]
  unfold ltK
  congr 2
  apply decide_eq_decide.2
  omega
theorem sorted_lt (b : Nat) (l : List Int) (i j : Nat) (hij : i < j) (hj : j < (sortedG b l).length) : Go.Proofs.ltOf cfE (sortedG b l)[i] (sortedG b l)[j] = true := by
  have hp : (sortedG b l).Pairwise (fun a b => leE a b = true) := List.pairwise_mergeSort leE_trans leE_total _
  have hn : (sortedG b l).Nodup := (List.mergeSort_perm (elemsOf b l l.length) leE).nodup_iff.2 (elemsOf_nodup b l l.length)
  have h1 := (List.pairwise_iff_getElem.1 hp) i j (by omega) hj hij
  have h2 := (List.pairwise_iff_getElem.1 (List.nodup_iff_pairwise_ne.1 hn)) i j (by omega) hj hij
  cases h : Go.Proofs.ltOf cfE (sortedG b l)[i] (sortedG b l)[j]
  · unfold leE at h1
    exact absurd (totE _ _ h (by simpa using h1)) h2
  · rfl
theorem sorted_index (b : Nat) (l : List Int) (i : Nat) (hi : i < l.length) : ∃ k, k < l.length ∧ (sortedG b l).getD k (0, 0) = (rd l (i : Int), ((b + i : Nat) : Int)) ∧ k = cn (fun j => ltK (fun x => x) l j i) l.length := by
  have hperm := List.mergeSort_perm (elemsOf b l l.length) leE
  have hm : (rd l (i : Int), ((b + i : Nat) : Int)) ∈ sortedG b l := hperm.mem_iff.2 (List.mem_map.2 ⟨i, List.mem_range.2 hi, rfl⟩)
  obtain ⟨k, hk, he⟩ := List.mem_iff_getElem.1 hm
  have hlen := sortedG_length b l
  refine ⟨k, by omega, by rw [List.getD_eq_getElem?_getD, List.getElem?_eq_getElem hk, Option.getD_some, he], ?_⟩
  have hc : (sortedG b l).countP (fun y => Go.Proofs.ltOf cfE y (rd l (i : Int), ((b + i : Nat) : Int))) = k := by
    refine countP_index _ _ k (by omega) (fun m hm hmk => ?_) (fun m hm hkm => ?_)
    · rw [← he]; exact sorted_lt b l m k hmk hk
    · rw [← he]
      by_cases e : m = k
      · subst e; exact swoE.irrefl _
      · have := sorted_lt b l k m (by omega) hm
        rw [ltE] at this ⊢
        simp at this ⊢
        omega
  have h2 : (sortedG b l).countP (fun y => Go.Proofs.ltOf cfE y (rd l (i : Int), ((b + i : Nat) : Int))) = (elemsOf b l l.length).countP (fun y => Go.Proofs.ltOf cfE y (rd l (i : Int), ((b + i : Nat) : Int))) := hperm.countP_eq _
  rw [cn_countP, ← hc, h2]
  unfold elemsOf
  rw [List.countP_map]
  congr 1
  funext j
  exact ltOf_elem b l j i
theorem rd_set (l : List Int) (q : Nat) (v : Int) (p : Nat) (hq : q < l.length) : rd (l.set q v) (p : Int) = if p = q then v else rd l (p : Int) := by
  rw [rdn, rdn, List.getD_eq_getElem?_getD, List.getD_eq_getElem?_getD, List.getElem?_set]
  by_cases e : p = q
  · subst e; simp [hq]
  · rw [if_neg (fun h => e h.symm), if_neg e]
theorem setsTo_miss (xs : List Int) (S : List (Int × Int)) (val : Nat → Int) (p : Nat) : ∀ m, (∀ k, k < m → (S.getD k (0, 0)).2.toNat < xs.length ∧ (S.getD k (0, 0)).2.toNat ≠ p) → rd (setsTo xs S val m) (p : Int) = rd xs (p : Int)
  | 0, _ => rfl
  | m + 1, h => by
    obtain ⟨h1, h2⟩ := h m (by omega)
    rw [setsTo, rd_set _ _ _ _ (by rw [setsTo_length]; exact h1), if_neg (fun e => h2 e.symm)]
    exact setsTo_miss xs S val p m (fun k hk => h k (by omega))
theorem setsTo_hit (xs : List Int) (S : List (Int × Int)) (val : Nat → Int) (q : Nat) : ∀ m, q < m → (∀ k, k < m → (S.getD k (0, 0)).2.toNat < xs.length) → (∀ k, q < k → k < m → (S.getD k (0, 0)).2.toNat ≠ (S.getD q (0, 0)).2.toNat) → rd (setsTo xs S val m) (((S.getD q (0, 0)).2.toNat : Nat) : Int) = val q
  | 0, h, _, _ => absurd h (Nat.not_lt_zero _)
  | m + 1, hq, h1, h2 => by
    rw [setsTo, rd_set _ _ _ _ (by rw [setsTo_length]; exact h1 m (by omega))]
    by_cases e : q = m
    · subst e; rw [if_pos rfl]
    · rw [if_neg (fun x => h2 m (by omega) (by omega) x.symm)]
      exact setsTo_hit xs S val q m (by omega) (fun k hk => h1 k (by omega)) (fun k hk hk2 => h2 k hk (by omega))
theorem setsTo_seg (xs : List Int) (b : Nat) (s : List Int) (val : Nat → Int) (hx : b + s.length ≤ xs.length) (i : Nat) (hi : i < s.length) :
    ∃ k, k < s.length ∧ (sortedG b s).getD k (0, 0) = (rd s (i : Int), ((b + i : Nat) : Int)) ∧ k = cn (fun j => ltK (fun x => x) s j i) s.length ∧ rd (setsTo xs (sortedG b s) val s.length) ((b + i : Nat) : Int) = val k := by
  obtain ⟨k, hk, he, hc⟩ := sorted_index b s i hi
  refine ⟨k, hk, he, hc, ?_⟩
  have hr : ∀ k, k < s.length → (((sortedG b s).getD k (0, 0)).2.toNat < xs.length) := fun k hk => by
    obtain ⟨j, hj, e⟩ := sortedG_mem b s k hk
    rw [e]; simp only [Int.toNat_natCast]; omega
  have H := setsTo_hit xs (sortedG b s) val k s.length hk hr (fun k2 h1 h2 e => by
    obtain ⟨j, hj, e2⟩ := sortedG_mem b s k2 h2
    rw [he, e2] at e
    simp only [Int.toNat_natCast] at e
    obtain rfl : j = i := by omega
    have hlen := sortedG_length b s
    have hlt := sorted_lt b s k k2 h1 (by omega)
    have q1 : (sortedG b s)[k]'(by omega) = (sortedG b s).getD k (0, 0) := by rw [List.getD_eq_getElem?_getD, List.getElem?_eq_getElem (by omega), Option.getD_some]
    have q2 : (sortedG b s)[k2]'(by omega) = (sortedG b s).getD k2 (0, 0) := by rw [List.getD_eq_getElem?_getD, List.getElem?_eq_getElem (by omega), Option.getD_some]
    rw [q1, q2, he, e2, swoE.irrefl] at hlt
    cases hlt)
  rw [he] at H
  simp only [Int.toNat_natCast] at H
  exact H
theorem setsTo_out (xs : List Int) (b : Nat) (s : List Int) (val : Nat → Int) (hx : b + s.length ≤ xs.length) (p : Nat) (hp : p < b) : rd (setsTo xs (sortedG b s) val s.length) (p : Int) = rd xs (p : Int) :=
  setsTo_miss xs _ val p s.length (fun k hk => by
    obtain ⟨j, hj, e⟩ := sortedG_mem b s k hk
    rw [e]; simp only [Int.toNat_natCast]
    exact ⟨by omega, by omega⟩)
theorem rd_segOf (l lens : List Int) (s j : Nat) (hj : j < (rd lens (s : Int)).toNat) : rd (segOf l lens s) (j : Int) = rd l ((startOf lens (s : Int) + j : Nat) : Int) := rd_seg l _ _ j hj
theorem segOf_len {l lens : List Int} (hok : okLens l lens = true) (s : Nat) (hs : s < lens.length) : (segOf l lens s).length = (rd lens (s : Int)).toNat := by
  obtain ⟨_, h⟩ := seg_in hok s hs
  unfold segOf
  rw [List.length_take, List.length_drop]
  omega
theorem orderTo_at {l lens : List Int} (hok : okLens l lens = true) : ∀ m, m ≤ lens.length → ∀ s j, s < m → j < (rd lens (s : Int)).toNat → rd (orderTo l lens m) ((startOf lens (s : Int) + j : Nat) : Int) = plK (fun x => x) l (startOf lens (s : Int)) (rd lens (s : Int)).toNat j
  | 0, _, s, _, h, _ => absurd h (Nat.not_lt_zero _)
  | m + 1, hm, s, j, hs, hj => by
    have hsl := segOf_len hok m (by omega)
    obtain ⟨_, hin⟩ := seg_in hok m (by omega)
    have hlen := orderTo_length l lens m
    rw [orderTo, ← hsl]
    by_cases e : s = m
    · subst e
      obtain ⟨k, hk, he, hc, hv⟩ := setsTo_seg (orderTo l lens s) (startOf lens (s : Int)) (segOf l lens s) (fun k => ((startOf lens (s : Int) + k : Nat) : Int)) (by omega) j (by omega)
      rw [hv]
      unfold plK
      rw [hc, hsl]
      congr 2
      refine cn_congr _ (fun i hi => ?_)
      unfold ltK
      rw [rd_segOf l lens s i hi, rd_segOf l lens s j hj]
      congr 2
      apply decide_eq_decide.2
      omega
    · have h1 := startOf_up lens (s + 1) m (by omega) (by omega)
      rw [startOf_step lens s (by omega)] at h1
      rw [setsTo_out _ _ _ _ (by omega) _ (by omega)]
      exact orderTo_at hok m (by omega) s j (by omega) hj
theorem order_closed {l lens : List Int} (hok : okLens l lens = true) : orderTo l lens lens.length = byK (fun x => x) l lens :=
  perSeg_ext _ lens lens.length (Nat.le_refl _) _ (by rw [orderTo_length, (okLens_pos hok).2]) (fun s j hs hj => orderTo_at hok lens.length (Nat.le_refl _) s j hs hj)
theorem cn_and_below (P : Nat → Bool) (i : Nat) : ∀ n, i ≤ n → cn (fun j => P j && decide (j < i)) n = cn P i
  | 0, h => by
    obtain rfl : i = 0 := by omega
    rfl
  | n + 1, h => by
    rw [cn_succ]
    by_cases e : i = n + 1
    · subst e
      rw [cn_succ, cn_congr (Q := P) n (fun k hk => by rw [decide_eq_true (show k < n + 1 by omega), Bool.and_true])]
      rw [decide_eq_true (show n < n + 1 by omega), Bool.and_true]
    · rw [cn_and_below P i n (by omega), decide_eq_false (show ¬ n < i by omega), Bool.and_false]
      rfl
theorem cn_or (P Q : Nat → Bool) : ∀ n, (∀ k, k < n → P k = true → Q k = false) → cn (fun j => P j || Q j) n = cn P n + cn Q n
  | 0, _ => rfl
  | n + 1, h => by
    rw [cn_succ, cn_succ, cn_succ, cn_or P Q n (fun k hk => h k (by omega))]
    have := h n (by omega)
    cases hp : P n
    · cases hq : Q n <;> simp <;> omega
    · rw [this hp]; simp; omega
theorem cn_not (P : Nat → Bool) : ∀ n, cn P n + cn (fun j => !P j) n = n
  | 0 => rfl
  | n + 1 => by
    rw [cn_succ, cn_succ]
    have := cn_not P n
    cases hp : P n <;> simp <;> omega
theorem cn_imp {P Q : Nat → Bool} : ∀ n, (∀ k, k < n → P k = true → Q k = true) → cn P n ≤ cn Q n
  | 0, _ => Nat.le_refl _
  | n + 1, h => by
    rw [cn_succ, cn_succ]
    have h1 := cn_imp n (fun k hk => h k (by omega))
    have := h n (by omega)
    cases hp : P n
    · simp; omega
    · rw [this hp]; simp; omega
theorem cn_lt {P Q : Nat → Bool} : ∀ n, (∀ k, k < n → P k = true → Q k = true) → ∀ j, j < n → P j = false → Q j = true → cn P n < cn Q n
  | 0, _, j, h, _, _ => absurd h (Nat.not_lt_zero _)
  | n + 1, h, j, hj, hp, hq => by
    rw [cn_succ, cn_succ]
    by_cases e : j = n
    · subst e
      have h1 := cn_imp j (fun k hk => h k (by omega))
      rw [hp, hq]; simp; omega
    · have h1 := cn_lt n (fun k hk => h k (by omega)) j (by omega) hp hq
      have := h n (by omega)
      cases hpn : P n
      · simp; omega
      · rw [this hpn]; simp; omega
theorem ltK_iff (K : Int → Int) (l : List Int) (i k : Nat) : ltK K l i k = true ↔ K (rd l (i : Int)) < K (rd l (k : Int)) ∨ (K (rd l (i : Int)) = K (rd l (k : Int)) ∧ i < k) := by simp [ltK]
theorem ltK_trans {K : Int → Int} {l : List Int} {a b c : Nat} (h1 : ltK K l a b = true) (h2 : ltK K l b c = true) : ltK K l a c = true := by
  rw [ltK_iff] at *
  omega
theorem ltK_tri (K : Int → Int) (l : List Int) (a b : Nat) (h : a ≠ b) : ltK K l a b = true ∨ ltK K l b a = true := by
  rw [ltK_iff, ltK_iff]
  omega
/-- The number of those of a segment that go ahead of one of them. -/
def rkK (K : Int → Int) (l : List Int) (st n i : Nat) : Nat := cn (fun j => ltK K l (st + j) (st + i)) n
theorem rkK_lt {K : Int → Int} {l : List Int} {st n i j : Nat} (hi : i < n) (h : ltK K l (st + i) (st + j) = true) : rkK K l st n i < rkK K l st n j :=
  cn_lt n (fun k _ hk => ltK_trans hk h) i hi (ltK_irrefl K l (st + i)) h
theorem rkK_iff (K : Int → Int) (l : List Int) (st n i j : Nat) (hi : i < n) (hj : j < n) : rkK K l st n i < rkK K l st n j ↔ ltK K l (st + i) (st + j) = true := by
  refine ⟨fun h => ?_, rkK_lt hi⟩
  by_cases e : i = j
  · subst e; omega
  · rcases ltK_tri K l (st + i) (st + j) (by omega) with h2 | h2
    · exact h2
    · have := rkK_lt (K := K) (l := l) (st := st) (n := n) hj h2
      omega
theorem rkK_inj (K : Int → Int) (l : List Int) (st n i j : Nat) (hi : i < n) (hj : j < n) (h : rkK K l st n i = rkK K l st n j) : i = j := by
  by_cases e : i = j
  · exact e
  · rcases ltK_tri K l (st + i) (st + j) (by omega) with h2 | h2
    · have := rkK_lt (n := n) hi h2; omega
    · have := rkK_lt (n := n) hj h2; omega
theorem rkK_range (K : Int → Int) (l : List Int) (st n i : Nat) (hi : i < n) : rkK K l st n i < n := by
  have h := cn_lt (P := fun j => ltK K l (st + j) (st + i)) (Q := fun _ => true) n (fun _ _ _ => rfl) i hi (ltK_irrefl K l (st + i)) rfl
  have h2 := cn_le (fun _ => true) n
  unfold rkK
  omega
theorem onto (n : Nat) (f : Nat → Nat) (h1 : ∀ i, i < n → f i < n) (h2 : ∀ i j, i < n → j < n → f i = f j → i = j) (v : Nat) (hv : v < n) : ∃ i, i < n ∧ f i = v := by
  have hr : ∀ i : Nat, i < n → rd ((List.range n).map (fun i => (f i : Int))) (i : Int) = (f i : Int) := fun i hi => rd_mapRange _ n i hi
  have ho : okTo n ((List.range n).map (fun i => (f i : Int))) n := by
    intro j hj
    rw [hr j hj, decide_eq_true (by omega), decide_eq_true (by have := h1 j hj; omega), Bool.true_and, Bool.true_and, Bool.not_eq_true']
    cases hs : stands ((List.range n).map (fun i => (f i : Int))) j (f j : Int)
    · rfl
    · obtain ⟨q, hq, e⟩ := (stands_iff _ _ _).1 hs
      rw [hr q (by omega)] at e
      have := h2 q j (by omega) hj (by omega)
      omega
  obtain ⟨i, hi, e⟩ := (stands_iff _ _ _).1 (all_stand n _ ho v hv)
  rw [hr i hi] at e
  exact ⟨i, hi, by omega⟩
theorem cn_perm (n : Nat) (f : Nat → Nat) (h1 : ∀ i, i < n → f i < n) (h2 : ∀ i j, i < n → j < n → f i = f j → i = j) (P : Nat → Bool) : cn P n = cn (fun j => P (f j)) n := by
  have hp : ((List.range n).map f).Perm (List.range n) := by
    refine (List.perm_ext_iff_of_nodup ?_ List.nodup_range).2 (fun a => ?_)
    · rw [List.nodup_iff_pairwise_ne, List.pairwise_map, List.pairwise_iff_getElem]
      intro i j hi hj hij e
      simp only [List.length_range] at hi hj
      rw [List.getElem_range, List.getElem_range] at e
      have := h2 i j hi hj e
      omega
    · rw [List.mem_map, List.mem_range]
      constructor
      · rintro ⟨i, hi, rfl⟩
        exact h1 i (List.mem_range.1 hi)
      · intro ha
        obtain ⟨i, hi, e⟩ := onto n f h1 h2 a ha
        exact ⟨i, List.mem_range.2 hi, e⟩
  rw [cn_countP, cn_countP, ← hp.countP_eq, List.countP_map]
  rfl
theorem byK_length {K : Int → Int} {l lens : List Int} (hok : okLens l lens = true) : (byK K l lens).length = l.length := by
  rw [byK, perSeg_length _ _ _ (Nat.le_refl _), (okLens_pos hok).2]
theorem rd_byK {K : Int → Int} {l lens : List Int} (s i : Nat) (hs : s < lens.length) (hi : i < (rd lens (s : Int)).toNat) : rd (byK K l lens) ((startOf lens (s : Int) + i : Nat) : Int) = ((startOf lens (s : Int) + rkK K l (startOf lens (s : Int)) (rd lens (s : Int)).toNat i : Nat) : Int) :=
  rd_perSeg (plK K l) lens s i lens.length (Nat.le_refl _) hs hi
theorem byK_congr {K K' : Int → Int} {l lens : List Int} (hok : okLens l lens = true) (h : ∀ i j, i < l.length → j < l.length → ltK K l i j = ltK K' l i j) : byK K l lens = byK K' l lens := by
  refine perSeg_congr _ _ lens lens.length (Nat.le_refl _) (fun s j hs hj => ?_)
  obtain ⟨_, hin⟩ := seg_in hok s hs
  unfold plK
  rw [cn_congr _ (fun i hi => h _ _ (by omega) (by omega))]
theorem splitTo_perSeg (f : Int → Bool) (l lens : List Int) : ∀ m, m ≤ lens.length → splitTo f l lens m = perSeg (fun st n i => Hand.splitAt f l st n i) lens m
  | 0, _ => rfl
  | m + 1, h => by
    rw [splitTo, perSeg, splitTo_perSeg f l lens m (by omega), splitSeg_map]
theorem notsAt_cn (f : Int → Bool) (l : List Int) (st : Nat) : ∀ k, notsAt f l st k = cn (fun j => !f (rd l ((st + j : Nat) : Int))) k
  | 0 => rfl
  | k + 1 => by
    rw [notsAt, cn_succ, notsAt_cn f l st k]
    cases f (rd l ((st + k : Nat) : Int)) <;> rfl
def flK (f : Int → Bool) (x : Int) : Int := if f x = true then 1 else 0
theorem split_closed (f : Int → Bool) {l lens : List Int} (hok : okLens l lens = true) : splitG f l lens = byK (flK f) l lens := by
  unfold splitG byK
  rw [splitTo_perSeg f l lens _ (Nat.le_refl _)]
  refine perSeg_congr _ _ lens lens.length (Nat.le_refl _) (fun s i hs hi => ?_)
  generalize startOf lens (s : Int) = st at *
  generalize (rd lens (s : Int)).toNat = n at *
  unfold Hand.splitAt plK
  rw [notsAt_cn, notsAt_cn]
  have e : ∀ j, ltK (flK f) l (st + j) (st + i) = (if f (rd l ((st + i : Nat) : Int)) = true then (!f (rd l ((st + j : Nat) : Int)) || (f (rd l ((st + j : Nat) : Int)) && decide (j < i))) else (!f (rd l ((st + j : Nat) : Int)) && decide (j < i))) := by
    intro j
    unfold ltK flK
    have e2 : decide (st + j < st + i) = decide (j < i) := decide_eq_decide.2 (by omega)
    rw [e2]
    cases f (rd l ((st + i : Nat) : Int)) <;> cases f (rd l ((st + j : Nat) : Int)) <;> simp
  rw [cn_congr n (fun j _ => e j)]
  cases hf : f (rd l ((st + i : Nat) : Int))
  · simp only [Bool.false_eq_true, if_false]
    rw [cn_and_below _ i n (by omega)]
    omega
  · simp only [if_true]
    rw [cn_or _ _ n (fun k _ hk => by simp at hk; simp [hk]), cn_and_below _ i n (by omega)]
    have := cn_not (fun j => f (rd l ((st + j : Nat) : Int))) i
    omega
theorem byK_range {K : Int → Int} {l lens : List Int} (hok : okLens l lens = true) (q : Nat) (hq : q < l.length) : ∃ v : Nat, rd (byK K l lens) (q : Int) = v ∧ v < l.length := by
  obtain ⟨s, i, hs, hi, rfl⟩ := seg_at lens q lens.length (Nat.le_refl _) (by rw [(okLens_pos hok).2]; exact hq)
  obtain ⟨_, hin⟩ := seg_in hok s hs
  have := rkK_range K l (startOf lens (s : Int)) (rd lens (s : Int)).toNat i hi
  exact ⟨_, rd_byK s i hs hi, by omega⟩
/-- What was moved by places, as a list. -/
def Mv (l p b : List Int) : Prop := b.length = l.length ∧ ∀ q : Nat, q < l.length → rd b (rd p (q : Int)) = rd l (q : Int)
theorem resplit {K K' K2 : Int → Int} {l lens b : List Int} (hok : okLens l lens = true) (hb : Mv l (byK K l lens) b)
    (h : ∀ x ∈ l, ∀ y ∈ l, (K2 x < K2 y ↔ K' x < K' y ∨ (K' x = K' y ∧ K x < K y)) ∧ (K2 x = K2 y ↔ K' x = K' y ∧ K x = K y)) : compG (byK K l lens) (byK K' b lens) = byK K2 l lens := by
  have hlen : (byK K l lens).length = l.length := byK_length hok
  refine perSeg_ext _ lens lens.length (Nat.le_refl _) _ (by unfold compG; rw [upTo_length, Int.toNat_natCast, hlen, (okLens_pos hok).2]) (fun s i hs hi => ?_)
  obtain ⟨_, hin⟩ := seg_in hok s hs
  unfold compG
  rw [hlen, Hand.upTo_rd _ _ _ (by omega), rd_byK s i hs hi, rd_byK s _ hs (rkK_range K l _ _ i hi)]
  have hmem : ∀ j, j < (rd lens (s : Int)).toNat → rd l ((startOf lens (s : Int) + j : Nat) : Int) ∈ l := fun j hj => by
    rw [rd_get (by omega)]; exact List.getElem_mem _
  have hmv : ∀ j, j < (rd lens (s : Int)).toNat → rd b ((startOf lens (s : Int) + rkK K l (startOf lens (s : Int)) (rd lens (s : Int)).toNat j : Nat) : Int) = rd l ((startOf lens (s : Int) + j : Nat) : Int) := fun j hj => by
    rw [← rd_byK s j hs hj]; exact hb.2 _ (by omega)
  generalize startOf lens (s : Int) = st at *
  generalize (rd lens (s : Int)).toNat = n at *
  unfold plK
  rw [rkK, cn_perm n (rkK K l st n) (fun j hj => rkK_range K l st n j hj) (fun a c ha hc => rkK_inj K l st n a c ha hc)]
  congr 2
  refine cn_congr n (fun j hj => ?_)
  have h1 := (h _ (hmem j hj) _ (hmem i hi)).1
  have h2 := (h _ (hmem j hj) _ (hmem i hi)).2
  have h3 := rkK_iff K l st n j i hj hi
  rw [ltK_iff] at h3
  unfold ltK
  rw [hmv j hj, hmv i hi]
  rw [Bool.eq_iff_iff]
  simp only [Bool.or_eq_true, Bool.and_eq_true, decide_eq_true_eq]
  generalize rkK K l st n j = rj at *
  generalize rkK K l st n i = ri at *
  omega
theorem wrap_of {n : Int} (h0 : -9223372036854775808 ≤ n) (h1 : n ≤ 9223372036854775807) : wrap64 n = n := by unfold wrap64; omega
theorem and_nat (a b : Nat) (ha : a < 4611686018427387904) (hb : b < 4611686018427387904) : Go.bits .and .i64 (a : Int) (b : Int) = ((a &&& b : Nat) : Int) := by
  show IntKind.i64.wrap (((BitVec.ofInt 64 (a : Int) &&& BitVec.ofInt 64 (b : Int)).toNat : Nat) : Int) = _
  have h1 : (BitVec.ofInt 64 (a : Int)).toNat = a := by rw [BitVec.toNat_ofInt]; omega
  have h2 : (BitVec.ofInt 64 (b : Int)).toNat = b := by rw [BitVec.toNat_ofInt]; omega
  have h3 : a &&& b ≤ a := Nat.and_le_left
  rw [BitVec.toNat_and, h1, h2, i64_w, wrap_of (by omega) (by omega)]
def lowK (b : Nat) (x : Int) : Int := (((x + 2147483648).toNat % 2 ^ b : Nat) : Int)
theorem shl_all : (List.range 33).all (fun b => wrap64 (shl .i64 1 (b : Int) - 1) == ((2 ^ b - 1 : Nat) : Int) && decide (2 ^ b - 1 < 4611686018427387904)) = true := by decide +kernel
theorem word_nat {x : Int} (h : isWordB x = true) : ∃ u : Nat, x + 2147483648 = u ∧ u < 4294967296 := by
  have := (isWordB_iff x).1 h
  exact ⟨(x + 2147483648).toNat, by omega, by omega⟩
theorem keyB_low (b : Nat) (hb : b ≤ 32) (x : Int) (hx : isWordB x = true) : keyB x (b : Int) = lowK b x := by
  obtain ⟨u, hu, hl⟩ := word_nat hx
  have h := List.all_eq_true.1 shl_all b (List.mem_range.2 (by omega))
  rw [Bool.and_eq_true, beq_iff_eq, decide_eq_true_eq] at h
  unfold keyB lowK
  rw [hu, wrap_of (by omega) (by omega), h.1, and_nat _ _ (by omega) h.2, Nat.and_two_pow_sub_one_eq_mod, Int.toNat_natCast]
theorem bitB_low (b : Nat) (x : Int) (hx : isWordB x = true) : bitB b x = decide ((x + 2147483648).toNat / 2 ^ b % 2 = 1) := by
  obtain ⟨u, hu, hl⟩ := word_nat hx
  unfold bitB
  have e : ((u : Int) / 2 ^ b) = ((u / 2 ^ b : Nat) : Int) := by
    rw [show ((2 : Int) ^ b) = ((2 ^ b : Nat) : Int) from by simp]
    exact (Int.natCast_ediv u (2 ^ b)).symm
  have e1 : (1 : Int) = ((1 : Nat) : Int) := rfl
  have h2 : u / 2 ^ b ≤ u := Nat.div_le_self _ _
  rw [hu, wrap_of (by omega) (by omega), e, e1, and_nat _ _ (by omega) (by omega), Int.toNat_natCast, Nat.and_one_is_mod]
  rw [Bool.eq_iff_iff, beq_iff_eq, decide_eq_true_eq]
  omega
theorem low_step (b u v : Nat) : (u % 2 ^ (b + 1) < v % 2 ^ (b + 1) ↔ (u / 2 ^ b % 2 < v / 2 ^ b % 2 ∨ (u / 2 ^ b % 2 = v / 2 ^ b % 2 ∧ u % 2 ^ b < v % 2 ^ b))) ∧ (u % 2 ^ (b + 1) = v % 2 ^ (b + 1) ↔ (u / 2 ^ b % 2 = v / 2 ^ b % 2 ∧ u % 2 ^ b = v % 2 ^ b)) := by
  have hp : 0 < 2 ^ b := Nat.pow_pos (by omega)
  rw [Nat.mod_pow_succ (b := 2) (k := b) (x := u), Nat.mod_pow_succ (b := 2) (k := b) (x := v)]
  have h1 := Nat.mod_lt u hp
  have h2 := Nat.mod_lt v hp
  have h3 := Nat.mod_lt (u / 2 ^ b) (show 0 < 2 by omega)
  have h4 := Nat.mod_lt (v / 2 ^ b) (show 0 < 2 by omega)
  generalize u % 2 ^ b = a at *
  generalize v % 2 ^ b = c at *
  generalize u / 2 ^ b % 2 = d at *
  generalize v / 2 ^ b % 2 = e at *
  generalize 2 ^ b = p at *
  have q1 : d = 0 ∨ d = 1 := by omega
  have q2 : e = 0 ∨ e = 1 := by omega
  rcases q1 with rfl | rfl <;> rcases q2 with rfl | rfl <;> simp <;> omega
theorem low_succ (b : Nat) (x y : Int) (hx : isWordB x = true) (hy : isWordB y = true) :
    (lowK (b + 1) x < lowK (b + 1) y ↔ flK (bitB b) x < flK (bitB b) y ∨ (flK (bitB b) x = flK (bitB b) y ∧ lowK b x < lowK b y)) ∧ (lowK (b + 1) x = lowK (b + 1) y ↔ flK (bitB b) x = flK (bitB b) y ∧ lowK b x = lowK b y) := by
  have h := low_step b (x + 2147483648).toNat (y + 2147483648).toNat
  unfold lowK flK
  rw [bitB_low b x hx, bitB_low b y hy]
  have h3 := Nat.mod_lt ((x + 2147483648).toNat / 2 ^ b) (show 0 < 2 by omega)
  have h4 := Nat.mod_lt ((y + 2147483648).toNat / 2 ^ b) (show 0 < 2 by omega)
  generalize (x + 2147483648).toNat % 2 ^ (b + 1) = a1 at *
  generalize (y + 2147483648).toNat % 2 ^ (b + 1) = a2 at *
  generalize (x + 2147483648).toNat % 2 ^ b = a3 at *
  generalize (y + 2147483648).toNat % 2 ^ b = a4 at *
  generalize (x + 2147483648).toNat / 2 ^ b % 2 = d at *
  generalize (y + 2147483648).toNat / 2 ^ b % 2 = e at *
  have q1 : d = 0 ∨ d = 1 := by omega
  have q2 : e = 0 ∨ e = 1 := by omega
  rcases q1 with rfl | rfl <;> rcases q2 with rfl | rfl <;> simp at h ⊢ <;> omega
theorem okTo_inj' (n : Nat) (p : List Int) (h : okTo n p p.length) (i j : Nat) (hi : i < p.length) (hj : j < p.length) (e : rd p (i : Int) = rd p (j : Int)) : i = j := by
  by_cases hij : i = j
  · exact hij
  · exfalso
    rcases Nat.lt_or_gt_of_ne hij with c | c
    · have := h j hj
      rw [(stands_iff p j _).2 ⟨i, c, e⟩] at this
      simp at this
    · have := h i hi
      rw [(stands_iff p i _).2 ⟨j, c, e.symm⟩] at this
      simp at this
theorem where_of {p : List Int} (h : okPlaces p.length p = true) (q : Nat) (hq : q < p.length) : stands p p.length (rd p (q : Int)) = true ∧ whereIs p p.length (rd p (q : Int)) = q := by
  have hs : stands p p.length (rd p (q : Int)) = true := (stands_iff _ _ _).2 ⟨q, hq, rfl⟩
  obtain ⟨h0, h1, h2⟩ := whereIs_at p p.length _ hs
  refine ⟨hs, ?_⟩
  have := okTo_inj' p.length p ((okPlaces_iff _ _).1 h) (whereIs p p.length (rd p (q : Int))).toNat q (by omega) hq (by rw [Int.toNat_of_nonneg h0]; exact h2)
  omega
theorem movedAt_Mv {l p : List Int} (hl : p.length = l.length) (h : okPlaces p.length p = true) : Mv l p (movedAt l p p.length) := by
  refine ⟨by unfold movedAt; rw [upTo_length, Int.toNat_natCast], fun q hq => ?_⟩
  obtain ⟨h0, h1, _⟩ := okPlaces_pos h q (by omega)
  obtain ⟨hs, hw⟩ := where_of h q (by omega)
  obtain ⟨v, hv⟩ : ∃ v : Nat, rd p (q : Int) = v := ⟨(rd p (q : Int)).toNat, by omega⟩
  unfold movedAt
  rw [hv] at hs hw ⊢
  rw [Hand.upTo_rd _ _ _ (by omega), hs, if_pos rfl, hw]
theorem byK_ok {K : Int → Int} {l lens : List Int} (hok : okLens l lens = true) : okPlaces (byK K l lens).length (byK K l lens) = true := by
  rw [byK_length hok]
  refine okPlaces_true _ _ (fun q hq => ?_)
  rw [byK_length hok] at hq
  obtain ⟨v, hv, hvl⟩ := byK_range (K := K) hok q hq
  rw [hv, decide_eq_true (by omega), decide_eq_true (by omega), Bool.true_and, Bool.true_and, Bool.not_eq_true']
  cases hs : stands (byK K l lens) q (v : Int)
  · rfl
  · exfalso
    obtain ⟨r, hr, e⟩ := (stands_iff _ _ _).1 hs
    rw [← hv] at e
    have htot := (okLens_pos hok).2
    obtain ⟨s, i, hs1, hi, rfl⟩ := seg_at lens q lens.length (Nat.le_refl _) (by omega)
    obtain ⟨s2, j, hs2, hj, rfl⟩ := seg_at lens r lens.length (Nat.le_refl _) (by omega)
    rw [rd_byK s i hs1 hi, rd_byK s2 j hs2 hj] at e
    have r1 := rkK_range K l (startOf lens (s : Int)) (rd lens (s : Int)).toNat i hi
    have r2 := rkK_range K l (startOf lens (s2 : Int)) (rd lens (s2 : Int)).toNat j hj
    by_cases es : s = s2
    · subst es
      have := rkK_inj K l (startOf lens (s : Int)) (rd lens (s : Int)).toNat i j hi hj (by omega)
      omega
    · rcases Nat.lt_or_gt_of_ne es with c | c
      · have h1 := startOf_up lens (s + 1) s2 (by omega) (by omega)
        rw [startOf_step lens s hs1] at h1
        omega
      · have h1 := startOf_up lens (s2 + 1) s (by omega) (by omega)
        rw [startOf_step lens s2 hs2] at h1
        omega
theorem okLens_of {l l2 lens : List Int} (h : okLens l lens = true) (h2 : l2.length = l.length) : okLens l2 lens = true := okLens_length h h2
theorem pass_closed {l lens : List Int} (hok : okLens l lens = true) (hw : ∀ x ∈ l, isWordB x = true) : ∀ k, (passSt l lens k).1 = byK (lowK k) l lens ∧ Mv l (byK (lowK k) l lens) (passSt l lens k).2
  | 0 => by
    have e : upTo (fun k => k) l.length = byK (lowK 0) l lens := by
      refine perSeg_ext _ lens lens.length (Nat.le_refl _) _ (by rw [upTo_length, Int.toNat_natCast, (okLens_pos hok).2]) (fun s i hs hi => ?_)
      obtain ⟨_, hin⟩ := seg_in hok s hs
      rw [Hand.upTo_rd _ _ _ (by omega)]
      unfold plK
      congr 2
      rw [cn_congr (Q := fun j => decide (j < i)) _ (fun j hj => by
        unfold ltK lowK
        simp only [Nat.pow_zero, Nat.mod_one]
        simp), cn_below]
      omega
    refine ⟨e, rfl, fun q hq => ?_⟩
    rw [← e, Hand.upTo_rd _ _ _ hq]
    rfl
  | k + 1 => by
    obtain ⟨h1, h2⟩ := pass_closed hok hw k
    have hok2 : okLens (passSt l lens k).2 lens = true := okLens_of hok h2.1
    have hs := split_closed (bitB k) hok2
    have hR := resplit (K' := flK (bitB k)) (K2 := lowK (k + 1)) hok h2 (fun x hx y hy => low_succ k x y (hw x hx) (hw y hy))
    have h3 : (passSt l lens (k + 1)).1 = byK (lowK (k + 1)) l lens := by
      rw [passSt]
      simp only
      rw [h1, hs, hR]
    refine ⟨h3, ?_⟩
    have hm := movedAt_Mv (l := (passSt l lens k).2) (p := byK (flK (bitB k)) (passSt l lens k).2 lens) (byK_length hok2) (byK_ok hok2)
    have e2 : (passSt l lens (k + 1)).2 = movedAt (passSt l lens k).2 (byK (flK (bitB k)) (passSt l lens k).2 lens) (byK (flK (bitB k)) (passSt l lens k).2 lens).length := by
      rw [passSt]
      simp only
      rw [hs]
    rw [e2]
    refine ⟨by rw [hm.1, h2.1], fun q hq => ?_⟩
    rw [← hR]
    unfold compG
    rw [byK_length hok, Hand.upTo_rd _ _ _ hq]
    obtain ⟨v, hv, hvl⟩ := byK_range (K := lowK k) hok q hq
    have h4 := hm.2 v (by rw [h2.1]; exact hvl)
    simp only [hv]
    rw [h4, ← hv]
    exact h2.2 q hq
theorem low32 (x y : Int) (hx : isWordB x = true) (hy : isWordB y = true) : (lowK 32 x < lowK 32 y ↔ x < y) ∧ (lowK 32 x = lowK 32 y ↔ x = y) := by
  have := (isWordB_iff x).1 hx
  have := (isWordB_iff y).1 hy
  unfold lowK
  omega
theorem ltK_congr {K K' : Int → Int} {l : List Int} (h : ∀ x ∈ l, ∀ y ∈ l, (K x < K y ↔ K' x < K' y) ∧ (K x = K y ↔ K' x = K' y)) (i j : Nat) (hi : i < l.length) (hj : j < l.length) : ltK K l i j = ltK K' l i j := by
  have := h (rd l (i : Int)) (by rw [rd_get hi]; exact List.getElem_mem _) (rd l (j : Int)) (by rw [rd_get hj]; exact List.getElem_mem _)
  unfold ltK
  rw [decide_eq_decide.2 this.1, decide_eq_decide.2 this.2]
theorem ltK_of {K K' : Int → Int} {l l' : List Int} {i j : Nat} (h1 : K (rd l (i : Int)) = K' (rd l' (i : Int))) (h2 : K (rd l (j : Int)) = K' (rd l' (j : Int))) : ltK K l i j = ltK K' l' i j := by
  unfold ltK
  rw [h1, h2]
theorem ev_Order7 (l lens : List Int) (hl : l.length ≤ 200) (hn : lens.length ≤ 400) : Ev (fun k => r07_Order.f k l lens) (rank_Order.g l lens) := by
  refine Ev.bind (f := fun k t => if t = 0 then ((r07_sorted.f k l lens 32).bind fun t142 => (some (t142, 0))) else (some (([] : List Int), t))) (ev_segments l lens hl hn) ?_
  unfold rank_Order.g
  by_cases c : openE l lens = 0
  · obtain ⟨_, _, hw, _, hok⟩ := openE_ok c
    simp only [if_pos c]
    have e : byK (fun x => keyB x 32) l lens = orderTo l lens lens.length := by
      rw [order_closed hok]
      refine byK_congr hok (fun i j hi hj => ltK_congr (fun x hx y hy => ?_) i j hi hj)
      have h := low32 x y (hw x hx) (hw y hy)
      rw [← keyB_low 32 (by omega) x (hw x hx), ← keyB_low 32 (by omega) y (hw y hy)] at h
      exact h
    have H := ev_sorted l lens 32 (by omega) (by omega) (by omega) hok
    rw [e] at H
    exact Ev.bind H (Ev.now _)
  · simp only [if_neg c]
    exact Ev.now _
theorem ev_Passes7 (l lens : List Int) (bits : Int) (hl : l.length ≤ 200) (hn : lens.length ≤ 400) : Ev (fun k => r07_Passes.f k l lens bits) (rank_Passes.g l lens bits) := by
  refine Ev.bind (f := fun k t => if t = 0 then ((r00_Lies.f bits 0 32).bind fun t137 => (if t137 = true then ((r07_sorted.f k l lens bits).bind fun t138 => (some (t138, 0))) else (some (([] : List Int), 2)))) else (some (([] : List Int), t))) (ev_segments l lens hl hn) ?_
  unfold rank_Passes.g
  by_cases c : openE l lens = 0
  · obtain ⟨_, _, hw, _, hok⟩ := openE_ok c
    simp only [if_pos c]
    rw [f_Lies]
    by_cases c1 : bits < 0
    · rw [decide_eq_true c1, decide_eq_false (show ¬ (0 ≤ bits) by omega)]
      exact Ev.now _
    · by_cases c2 : 32 < bits
      · rw [decide_eq_false c1, decide_eq_true c2, decide_eq_true (show 0 ≤ bits by omega), decide_eq_false (show ¬ bits ≤ 32 by omega)]
        exact Ev.now _
      · rw [decide_eq_false c1, decide_eq_false c2, decide_eq_true (show 0 ≤ bits by omega), decide_eq_true (show bits ≤ 32 by omega)]
        obtain ⟨b, rfl⟩ : ∃ b : Nat, bits = b := ⟨bits.toNat, by omega⟩
        have e : byK (fun x => keyB x (b : Int)) l lens = (passSt l lens b).1 := by
          rw [(pass_closed hok hw b).1]
          refine byK_congr hok (fun i j hi hj => ltK_congr (fun x hx y hy => ?_) i j hi hj)
          rw [keyB_low b (by omega) x (hw x hx), keyB_low b (by omega) y (hw y hy)]
          exact ⟨Iff.rfl, Iff.rfl⟩
        have H := ev_sorted l lens (b : Int) (by omega) (by omega) (by omega) hok
        rw [e] at H
        simp only [Option.bind_some, Bool.and_self, Bool.or_self, if_true, Bool.false_eq_true, if_false, Int.toNat_natCast]
        exact Ev.bind H (Ev.now _)
  · simp only [if_neg c]
    exact Ev.now _
def flags01 (l : List Int) : List Int := l.map (fun x => if x = 0 then 0 else 1)
theorem ev_Split7 (l lens : List Int) (hl : l.length ≤ 200) (hn : lens.length ≤ 400) : Ev (fun k => r07_Split.f k l lens) (rank_Split.g l lens) := by
  refine Ev.bind (f := fun k t => if t = 0 then (r07_Split.l0 k l lens (([] : List Int)) 0) else (some (([] : List Int), t))) (ev_segments l lens hl hn) ?_
  unfold rank_Split.g
  by_cases c : openE l lens = 0
  · obtain ⟨_, _, hw, _, hok⟩ := openE_ok c
    simp only [if_pos c]
    have hfl : (flags01 l).length = l.length := by simp [flags01]
    have hok2 : okLens (flags01 l) lens = true := okLens_of hok hfl
    have hrd : ∀ i : Nat, i < l.length → rd (flags01 l) (i : Int) = if rd l (i : Int) = 0 then 0 else 1 := fun i hi => by
      rw [rd_get (by omega), rd_get hi]
      simp [flags01]
    have hkey : ∀ x : Int, x = 0 ∨ x = 1 → keyB x 1 = x := fun x hx => by
      have h := keyB_low 1 (by omega) x (by rw [isWordB_iff]; omega)
      rw [show ((1 : Nat) : Int) = 1 from rfl] at h
      rw [h]
      rcases hx with rfl | rfl <;> decide
    have e : byK (fun x => keyB x 1) (flags01 l) lens = splitG (fun n => n != 0) l lens := by
      rw [split_closed _ hok]
      refine perSeg_congr _ _ lens lens.length (Nat.le_refl _) (fun s i hs hi => ?_)
      obtain ⟨_, hin⟩ := seg_in hok s hs
      unfold plK
      congr 2
      refine cn_congr _ (fun j hj => ?_)
      have q : ∀ m : Nat, m < l.length → keyB (rd (flags01 l) (m : Int)) 1 = flK (fun n => n != 0) (rd l (m : Int)) := fun m hm => by
        rw [hkey _ (by rw [hrd m hm]; split <;> simp), hrd m hm]
        unfold flK
        by_cases e : rd l (m : Int) = 0 <;> simp [e]
      exact ltK_of (q (startOf lens (s : Int) + j) (by omega)) (q (startOf lens (s : Int) + i) (by omega))
    have H1 := ev_sorted (flags01 l) lens 1 (by omega) (by omega) (by omega) hok2
    rw [e] at H1
    have H := up (n := l.length) (P := fun i => Ev (fun k => r07_Split.l0 k l lens ((flags01 l).take i) (i : Int)) (splitG (fun n => n != 0) l lens, 0))
      (by
        have H2 : Ev (fun k => (r07_sorted.f k (flags01 l) lens 1).bind fun t133 => (some (t133, (0 : Int)))) (splitG (fun n => n != 0) l lens, 0) := Ev.bind H1 (Ev.now _)
        refine Ev.step (fun k => ?_) H2
        simp only [r07_Split.l0]
        rw [if_neg (by omega), List.take_of_length_le (by omega)])
      (fun i hi ih => by
        have e2 : (flags01 l).take (i + 1) = (flags01 l).take i ++ [if rd l (i : Int) = 0 then 0 else 1] := by
          rw [take_rd (by omega), hrd i hi]
        rw [e2] at ih
        refine Ev.step (fun k => ?_) ih
        simp only [r07_Split.l0]
        have hlen : ((flags01 l).take i).length < 17592186044416 := by rw [List.length_take]; omega
        rw [if_pos (by omega), if_pos (by omega), wsucc hi (by omega)]
        by_cases e : rd l (i : Int) = 0
        · rw [if_pos e, if_pos e, if_pos hlen]
        · rw [if_neg e, if_neg e, if_pos hlen]) 0 (Nat.zero_le _)
    exact H
  · simp only [if_neg c]
    exact Ev.now _
theorem jt_Sorts (l0 l1 : List Int) (a : Int) : Ev (fun k => w07_RankSorts.j0 k l0 l1 a true) true := by
  refine Ev.step (f := fun _ => some true) (fun k => ?_) (Ev.now _)
  simp only [w07_RankSorts.j0]
  simp only [if_true, law_ranked.f, Option.bind_some]
theorem jf_Sorts (l0 l1 : List Int) (a : Int) (h1 : l0.length ≤ 200) (h2 : l1.length ≤ 400) : Ev (fun k => w07_RankSorts.j0 k l0 l1 a false) true := by
  have H1 := ev_Split7 l0 l1 h1 h2
  have H2 := ev_Passes7 l0 l1 a h1 h2
  have H3 := ev_Order7 l0 l1 h1 h2
  refine Ev.step (fun k => by simp only [w07_RankSorts.j0, rSplit.f, rPasses.f, rOrder.f, Eq_.f, law_ranked.f]; rw [if_neg (by simp)]) ?_
  generalize rank_Split.g l0 l1 = r1 at *
  generalize rank_Passes.g l0 l1 a = r2 at *
  generalize rank_Order.g l0 l1 = r3 at *
  refine Ev.bind (g := fun _ => some r1) (Ev.now r1) ?_
  refine Ev.bind H1 ?_
  refine Ev.bind (g := fun _ => some r2) (Ev.now r2) ?_
  refine Ev.bind H2 ?_
  refine Ev.bind (g := fun _ => some r3) (Ev.now r3) ?_
  refine Ev.bind H3 ?_
  simp only [if_true, BEq.rfl, Option.bind_some]
  exact Ev.now _
theorem RankSorts : w07_RankSorts.Pure := by
  intro l0 l1 a _ h1 _ _ h2 _ _
  have H : Ev (fun k => w07_RankSorts.f k l0 l1 a) true := by
    by_cases c0 : (l0.length : Int) > 200
    · refine Ev.congr (fun k => ?_) (jt_Sorts l0 l1 a)
      unfold w07_RankSorts.f
      rw [if_pos c0]
    · by_cases c1 : (l1.length : Int) > 400
      · refine Ev.congr (fun k => ?_) (jt_Sorts l0 l1 a)
        unfold w07_RankSorts.f
        rw [if_neg c0, decide_eq_true c1]
      · refine Ev.congr (f := fun k => w07_RankSorts.j0 k l0 l1 a false) (fun k => ?_) (jf_Sorts l0 l1 a (by omega) (by omega))
        unfold w07_RankSorts.f
        rw [if_neg c0, decide_eq_false c1]
  exact H.rounds
end Go.Proofs.Ytnkepaenpoadpaa.Pure
