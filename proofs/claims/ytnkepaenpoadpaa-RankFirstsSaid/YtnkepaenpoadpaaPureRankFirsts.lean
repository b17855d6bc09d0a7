/- RankFirsts: Ranks and Firsts of the reference are the program's, for any list of at most 200 numbers, and lengths; it is told of numbers and lists alone. -/
import Derived.Test.YtnkepaenpoadpaaPRankFirstsx
namespace Go.Proofs.Ytnkepaenpoadpaa.Pure
open Go.RowKit Go.Proofs.Ytnkepaenpoadpaa.PRankFirsts Go.Proofs.Ytnkepaenpoadpaa.Hand Go.Proofs.YtnkepaenpoadpaaW.PrintWords Go.Proofs.YtnkepaenpoadpaaW.PrintLast Go.Proofs.YtnkepaenpoadpaaW.PrintMore
set_option linter.unusedVariables false
set_option linter.unusedSimpArgs false
/-- Lists so short that a place's successor is no other number. -/
def Sh {α : Type} (l : List α) : Prop := l.length ≤ 4611686018427387904
theorem wsucc {i n : Nat} (h : i < n) (hn : n ≤ 4611686018427387904) : wrap64 ((i : Int) + 1) = ((i + 1 : Nat) : Int) := by unfold wrap64; omega
theorem rdn (l : List Int) (i : Nat) : rd l (i : Int) = l.getD i 0 := by simp [rd]
theorem rd_get {l : List Int} {i : Nat} (h : i < l.length) : rd l (i : Int) = l[i] := by simp [rd, h]
theorem drop_rd {l : List Int} {i : Nat} (h : i < l.length) : l.drop i = rd l (i : Int) :: l.drop (i + 1) := by rw [List.drop_eq_getElem_cons h, rd_get h]
theorem up {n : Nat} {P : Nat → Prop} (h0 : P n) (hs : ∀ i, i < n → P (i + 1) → P i) (i : Nat) (hi : i ≤ n) : P i := by
  have key : ∀ d, ∀ i, i + d = n → P i := by
    intro d
    induction d with
    | zero => intro i h; have : i = n := by omega
              subst this; exact h0
    | succ d ih => intro i h; exact hs i (by omega) (ih (i + 1) (by omega))
  exact key (n - i) i (by omega)
theorem f_Lies (a b c : Int) : r00_Lies.f a b c = some (decide (b ≤ a) && decide (a ≤ c)) := by unfold r00_Lies.f; split <;> simp [*]
theorem f_IsWord (n : Int) : r00_IsWord.f n = some (isWordB n) := by unfold r00_IsWord.f; rw [f_Lies]; rfl
theorem ev_Words (l : List Int) (hl : Sh l) : Ev (fun k => r00_Words.f k l) (!noWords l) := by
  have H := up (n := l.length) (P := fun i => Ev (fun k => r00_Words.l0 k l (i : Int)) (!noWords (l.drop i)))
    (Ev.step (f := fun _ => some true) (fun k => by simp only [r00_Words.l0]; rw [if_neg (by omega)]) (by rw [List.drop_length]; exact Ev.now _))
    (fun i hi ih => by
      cases hw : isWordB (rd l (i : Int))
      · rw [drop_rd hi]
        refine Ev.step (f := fun _ => some false) (fun k => ?_) (by simp only [noWords, List.any_cons, hw]; exact Ev.now _)
        simp only [r00_Words.l0]; rw [if_pos (by omega), if_pos (by omega), f_IsWord, hw]; rfl
      · rw [drop_rd hi]
        refine Ev.step (f := fun k => r00_Words.l0 k l ((i + 1 : Nat) : Int)) (fun k => ?_) (by simp only [noWords, List.any_cons, hw]; exact ih)
        simp only [r00_Words.l0]; rw [if_pos (by omega), if_pos (by omega), f_IsWord, hw, wsucc hi hl]; rfl) 0 (Nat.zero_le _)
  exact H
theorem isWordB_iff (n : Int) : isWordB n = true ↔ -2147483648 ≤ n ∧ n ≤ 2147483647 := by simp [isWordB]
theorem stands_iff (p : List Int) (m : Nat) (k : Int) : stands p m k = true ↔ ∃ j : Nat, j < m ∧ rd p (j : Int) = k := by simp [stands]
theorem whereIs_at (p : List Int) (m : Nat) (k : Int) (h : stands p m k = true) : 0 ≤ whereIs p m k ∧ whereIs p m k < m ∧ rd p (whereIs p m k) = k := by
  unfold whereIs
  cases hf : (List.range m).find? (fun (j : Nat) => rd p (j : Int) == k) with
  | none =>
    obtain ⟨j, hj, e⟩ := (stands_iff p m k).1 h
    have := List.find?_eq_none.1 hf j (List.mem_range.2 hj)
    simp [e] at this
  | some j =>
    have h1 := List.mem_of_find?_eq_some hf
    have h2 := List.find?_some hf
    simp only [Option.elim_some]
    rw [List.mem_range] at h1
    exact ⟨by omega, by omega, by simpa using h2⟩
def cn (P : Nat → Bool) : Nat → Nat
  | 0 => 0
  | k + 1 => cn P k + (if P k = true then 1 else 0)
theorem startOf_step (lens : List Int) (i : Nat) (hi : i < lens.length) : startOf lens ((i + 1 : Nat) : Int) = startOf lens (i : Int) + (rd lens (i : Int)).toNat := by
  rw [show ((i + 1 : Nat) : Int) = (i : Int) + 1 from by omega, startOf_succ lens (i : Int) (by omega) (by omega)]
theorem startOf_up (lens : List Int) (i j : Nat) (hij : i ≤ j) (hj : j ≤ lens.length) : startOf lens (i : Int) ≤ startOf lens (j : Int) := by
  obtain ⟨d, rfl⟩ : ∃ d, j = i + d := ⟨j - i, by omega⟩
  have := startOf_mono lens (i : Int) (by omega) d (by omega)
  rw [show ((i + d : Nat) : Int) = (i : Int) + d from by omega]
  exact this
def perSeg (F : Nat → Nat → Nat → Int) (lens : List Int) : Nat → List Int
  | 0 => []
  | i + 1 => perSeg F lens i ++ (List.range (rd lens (i : Int)).toNat).map (F (startOf lens (i : Int)) (rd lens (i : Int)).toNat)
theorem perSeg_length (F : Nat → Nat → Nat → Int) (lens : List Int) : ∀ i, i ≤ lens.length → (perSeg F lens i).length = startOf lens (i : Int)
  | 0, _ => rfl
  | i + 1, h => by
    show (perSeg F lens i ++ _).length = _
    rw [List.length_append, perSeg_length F lens i (by omega), List.length_map, List.length_range, startOf_step lens i (by omega)]
theorem rd_app_lt (a b : List Int) (i : Nat) (h : i < a.length) : rd (a ++ b) (i : Int) = rd a (i : Int) := by
  rw [rdn, rdn, List.getD_eq_getElem?_getD, List.getD_eq_getElem?_getD, List.getElem?_append_left h]
theorem rd_app_ge (a b : List Int) (i : Nat) : rd (a ++ b) ((a.length + i : Nat) : Int) = rd b (i : Int) := by
  rw [rdn, rdn, List.getD_eq_getElem?_getD, List.getD_eq_getElem?_getD, List.getElem?_append_right (by omega)]
  congr 2
  omega
theorem rd_mapRange (f : Nat → Int) (n i : Nat) (h : i < n) : rd ((List.range n).map f) (i : Int) = f i := by
  rw [rdn, List.getD_eq_getElem?_getD, List.getElem?_map, List.getElem?_range h]; rfl
theorem rd_perSeg (F : Nat → Nat → Nat → Int) (lens : List Int) (s j : Nat) : ∀ m, m ≤ lens.length → s < m → j < (rd lens (s : Int)).toNat → rd (perSeg F lens m) ((startOf lens (s : Int) + j : Nat) : Int) = F (startOf lens (s : Int)) (rd lens (s : Int)).toNat j
  | 0, _, h, _ => absurd h (Nat.not_lt_zero _)
  | m + 1, hm, hs, hj => by
    show rd (perSeg F lens m ++ _) _ = _
    have hl := perSeg_length F lens m (by omega)
    by_cases c : s = m
    · subst c
      rw [← hl, rd_app_ge, rd_mapRange _ _ _ hj]
    · have h1 := startOf_up lens (s + 1) m (by omega) (by omega)
      rw [startOf_step lens s (by omega)] at h1
      rw [rd_app_lt _ _ _ (by omega)]
      exact rd_perSeg F lens s j m (by omega) (by omega) hj
theorem seg_at (lens : List Int) (p : Nat) : ∀ m, m ≤ lens.length → p < startOf lens (m : Int) → ∃ s j, s < m ∧ j < (rd lens (s : Int)).toNat ∧ p = startOf lens (s : Int) + j
  | 0, _, h => by rw [show ((0 : Nat) : Int) = 0 from rfl, startOf_zero] at h; omega
  | m + 1, hm, h => by
    rw [startOf_step lens m (by omega)] at h
    by_cases c : p < startOf lens (m : Int)
    · obtain ⟨s, j, h1, h2, h3⟩ := seg_at lens p m (by omega) c
      exact ⟨s, j, by omega, h2, h3⟩
    · exact ⟨m, p - startOf lens (m : Int), by omega, by omega, by omega⟩
theorem ext_of_rd {a b : List Int} (hl : a.length = b.length) (h : ∀ i : Nat, i < a.length → rd a (i : Int) = rd b (i : Int)) : a = b := by
  apply List.ext_getElem hl
  intro i h1 h2
  have := h i h1
  rwa [rd_get h1, rd_get h2] at this
theorem perSeg_ext (F : Nat → Nat → Nat → Int) (lens : List Int) (m : Nat) (hm : m ≤ lens.length) (X : List Int) (hl : X.length = startOf lens (m : Int))
    (h : ∀ s j, s < m → j < (rd lens (s : Int)).toNat → rd X ((startOf lens (s : Int) + j : Nat) : Int) = F (startOf lens (s : Int)) (rd lens (s : Int)).toNat j) : X = perSeg F lens m := by
  refine ext_of_rd (by rw [hl, perSeg_length F lens m hm]) (fun p hp => ?_)
  obtain ⟨s, j, h1, h2, rfl⟩ := seg_at lens p m hm (by omega)
  rw [h s j h1 h2, rd_perSeg F lens s j m hm h1 h2]
def ltK (K : Int → Int) (l : List Int) (i k : Nat) : Bool := decide (K (rd l (i : Int)) < K (rd l (k : Int))) || (decide (K (rd l (i : Int)) = K (rd l (k : Int))) && decide (i < k))
theorem mn_min' (a b : Int) : mn a b = min a b := by unfold mn; split <;> omega
theorem ev_Check2 (lens : List Int) (hn : lens.length ≤ 1048576) (hw : ∀ x ∈ lens, isWordB x = true) : Ev (fun k => r02_Check.f k lens) (if lens.all (fun n => decide (0 ≤ n)) = true then (if 1048576 < startOf lens lens.length then (0, 9) else ((startOf lens lens.length : Int), 0)) else (0, 2)) := by
  have H := up (n := lens.length) (P := fun i => (∀ j : Nat, j < i → 0 ≤ rd lens (j : Int)) → Ev (fun k => r02_Check.l0 k lens ((min (startOf lens (i : Int)) 2097152 : Nat) : Int) (i : Int)) (if lens.all (fun n => decide (0 ≤ n)) = true then (if 1048576 < startOf lens lens.length then (0, 9) else ((startOf lens lens.length : Int), 0)) else (0, 2)))
    (by
      intro h
      have e : lens.all (fun n => decide (0 ≤ n)) = true := by
        rw [List.all_eq_true]
        intro x hx
        obtain ⟨i, hi, rfl⟩ := List.mem_iff_getElem.1 hx
        have := h i hi
        rw [rd_get hi] at this
        exact decide_eq_true this
      rw [if_pos e]
      refine Ev.step (f := fun _ => some _) (fun k => ?_) (Ev.now _)
      simp only [r02_Check.l0]
      rw [if_neg (by omega)]
      by_cases c : 1048576 < startOf lens lens.length
      · rw [if_pos (by omega), if_pos c]
      · rw [if_neg (by omega), if_neg c, Nat.min_eq_left (by omega)])
    (fun i hi ih h => by
      by_cases c : rd lens (i : Int) < 0
      · have e : ¬ lens.all (fun n => decide (0 ≤ n)) = true := by
          intro e
          have := List.all_eq_true.1 e _ (List.getElem_mem hi)
          rw [rd_get hi] at c
          simp at this
          omega
        rw [if_neg e]
        refine Ev.step (f := fun _ => some _) (fun k => ?_) (Ev.now _)
        simp only [r02_Check.l0]
        rw [if_pos (by omega), if_pos (by omega), if_pos c]
      · have hx := (isWordB_iff _).1 (hw _ (List.getElem_mem hi))
        rw [← rd_get hi] at hx
        have e : mn (wrap64 (((min (startOf lens (i : Int)) 2097152 : Nat) : Int) + mn (rd lens (i : Int)) 2097152)) 2097152 = ((min (startOf lens ((i + 1 : Nat) : Int)) 2097152 : Nat) : Int) := by
          rw [startOf_step lens i hi, mn_min', mn_min']
          generalize startOf lens (i : Int) = S
          generalize rd lens (i : Int) = x at *
          have q : wrap64 (((min S 2097152 : Nat) : Int) + min x 2097152) = ((min S 2097152 : Nat) : Int) + min x 2097152 := by unfold wrap64; omega
          rw [q]
          omega
        refine Ev.step (fun k => ?_) (ih (fun j hj => ?_))
        · simp only [r02_Check.l0]
          rw [if_pos (by omega), if_pos (by omega), if_neg c, e, wsucc hi (by omega)]
        · by_cases hji : j = i
          · subst hji; omega
          · exact h j (by omega)) 0 (Nat.zero_le _) (fun j hj => absurd hj (Nat.not_lt_zero _))
  refine Ev.congr (fun k => ?_) H
  unfold r02_Check.f
  rw [if_neg (by omega)]
  rfl
theorem noWords_false {l : List Int} (h : noWords l = false) : ∀ x ∈ l, isWordB x = true := by
  intro x hx
  have := List.any_eq_false.1 h x hx
  simpa using this
theorem ev_segments (l lens : List Int) (hl : l.length ≤ 200) (hn : lens.length ≤ 400) : Ev (fun k => r07_segments.f k l lens) (openE l lens) := by
  have j1t : Ev (fun k => r07_segments.j1 k l lens true) 2 := Ev.step (f := fun _ => some _) (fun k => rfl) (Ev.now _)
  have j0t : Ev (fun k => r07_segments.j0 k l lens false) (openE l lens) := by
    refine Ev.step (f := fun k => (r00_Words.f k l).bind fun t107 => (if t107 = true then ((r00_Words.f k lens).bind fun t108 => (r07_segments.j1 k l lens (!t108))) else (r07_segments.j1 k l lens true))) (fun k => rfl) ?_
    refine Ev.bind (f := fun k t107 => (if t107 = true then ((r00_Words.f k lens).bind fun t108 => (r07_segments.j1 k l lens (!t108))) else (r07_segments.j1 k l lens true))) (ev_Words l (by unfold Sh; omega)) ?_
    have hw : wordsE [l, lens] = if noWords l || noWords lens then 2 else 0 := by
      unfold wordsE
      rw [if_neg (by simp; omega)]
      simp
    unfold openE
    rw [hw]
    cases na : noWords l
    · refine Ev.bind (f := fun k t108 => (r07_segments.j1 k l lens (!t108))) (ev_Words lens (by unfold Sh; omega)) ?_
      cases nb : noWords lens
      · refine Ev.step (f := fun k => (r02_Check.f k lens).bind fun bt109 => (if bt109.2 = 0 then (if bt109.1 = (l.length : Int) then (some 0) else (some 6)) else (some 6))) (fun k => rfl) ?_
        refine Ev.bind (ev_Check2 lens (by omega) (noWords_false nb)) ?_
        have hk : okLens l lens = (lens.all (fun n => decide (0 ≤ n)) && (startOf lens lens.length == l.length)) := rfl
        rw [hk]
        cases ha : lens.all (fun n => decide (0 ≤ n))
        · exact Ev.now _
        · simp only [if_true, Bool.or_self, Bool.true_and, Bool.false_eq_true, if_false]
          by_cases c : 1048576 < startOf lens lens.length
          · have c2 : (startOf lens lens.length == l.length) = false := by simp; omega
            rw [if_pos c, c2]
            exact Ev.now _
          · rw [if_neg c]
            by_cases c2 : startOf lens lens.length = l.length
            · simp only [c2, BEq.rfl, if_true]; exact Ev.now _
            · have c3 : (startOf lens lens.length == l.length) = false := by simpa using c2
              have c4 : ¬ ((startOf lens lens.length : Nat) : Int) = (l.length : Int) := by omega
              simp only [c3, if_neg c4, Bool.false_eq_true, if_true, if_false]
              exact Ev.now _
      · exact j1t
    · exact j1t
  refine Ev.congr (fun k => ?_) j0t
  unfold r07_segments.f
  rw [if_neg (by omega), decide_eq_false (by omega)]
theorem seg_in {l lens : List Int} (hok : okLens l lens = true) (s : Nat) (hs : s < lens.length) : 0 ≤ rd lens (s : Int) ∧ startOf lens (s : Int) + (rd lens (s : Int)).toNat ≤ l.length := by
  obtain ⟨h1, h2⟩ := okLens_pos hok
  have h3 := startOf_up lens (s + 1) lens.length (by omega) (Nat.le_refl _)
  rw [startOf_step lens s hs, h2] at h3
  refine ⟨?_, h3⟩
  rw [rd_get hs]
  exact h1 _ (List.getElem_mem hs)
theorem cn_succ (P : Nat → Bool) (n : Nat) : cn P (n + 1) = cn P n + (if P n = true then 1 else 0) := rfl
theorem cn_countP (P : Nat → Bool) : ∀ n, cn P n = (List.range n).countP P
  | 0 => rfl
  | n + 1 => by
    rw [cn_succ, cn_countP P n, List.range_succ, List.countP_append, List.countP_singleton]
theorem countP_index {α : Type} (L : List α) (P : α → Bool) (k : Nat) (hk : k ≤ L.length) (h1 : ∀ m (hm : m < L.length), m < k → P L[m] = true) (h2 : ∀ m (hm : m < L.length), k ≤ m → P L[m] = false) : L.countP P = k := by
  have e : L.countP P = (L.take k ++ L.drop k).countP P := by rw [List.take_append_drop]
  rw [e, List.countP_append]
  have e1 : (L.take k).countP P = (L.take k).length := by
    rw [List.countP_eq_length]
    intro x hx
    obtain ⟨m, hm, rfl⟩ := List.mem_iff_getElem.1 hx
    rw [List.length_take] at hm
    rw [List.getElem_take]
    exact h1 m (by omega) (by omega)
  have e2 : (L.drop k).countP P = 0 := by
    rw [List.countP_eq_zero]
    intro x hx
    obtain ⟨m, hm, rfl⟩ := List.mem_iff_getElem.1 hx
    rw [List.length_drop] at hm
    rw [List.getElem_drop, h2 (k + m) (by omega) (by omega)]
    simp
  rw [e1, e2, List.length_take]
  omega
theorem elemsOf_nodup (b : Nat) (l : List Int) (k : Nat) : (elemsOf b l k).Nodup := by
  unfold elemsOf
  rw [List.nodup_iff_pairwise_ne, List.pairwise_map]
  exact List.pairwise_lt_range.imp (fun {a c} h e => by
    have := (Prod.mk.inj e).2
    omega)
theorem ltOf_elem (b : Nat) (l : List Int) (j i : Nat) : Go.Proofs.ltOf cfE (rd l (j : Int), ((b + j : Nat) : Int)) (rd l (i : Int), ((b + i : Nat) : Int)) = ltK (fun x => x) l j i := by
  rw [ltE]
  unfold ltK
  congr 2
  apply decide_eq_decide.2
  omega
theorem sorted_lt (b : Nat) (l : List Int) (i j : Nat) (hij : i < j) (hj : j < (sortedG b l).length) : Go.Proofs.ltOf cfE (sortedG b l)[i] (sortedG b l)[j] = true := by
  have hp : (sortedG b l).Pairwise (fun a b => leE a b = true) := List.pairwise_mergeSort leE_trans leE_total _
  have hn : (sortedG b l).Nodup := (List.mergeSort_perm (elemsOf b l l.length) leE).nodup_iff.2 (elemsOf_nodup b l l.length)
  have h1 := (List.pairwise_iff_getElem.1 hp) i j (by omega) hj hij
  have h2 := (List.pairwise_iff_getElem.1 (List.nodup_iff_pairwise_ne.1 hn)) i j (by omega) hj hij
  cases h : Go.Proofs.ltOf cfE (sortedG b l)[i] (sortedG b l)[j]
  · unfold leE at h1
    exact absurd (totE _ _ h (by simpa using h1)) h2
  · rfl
theorem sorted_index (b : Nat) (l : List Int) (i : Nat) (hi : i < l.length) : ∃ k, k < l.length ∧ (sortedG b l).getD k (0, 0) = (rd l (i : Int), ((b + i : Nat) : Int)) ∧ k = cn (fun j => ltK (fun x => x) l j i) l.length := by
  have hperm := List.mergeSort_perm (elemsOf b l l.length) leE
  have hm : (rd l (i : Int), ((b + i : Nat) : Int)) ∈ sortedG b l := hperm.mem_iff.2 (List.mem_map.2 ⟨i, List.mem_range.2 hi, rfl⟩)
  obtain ⟨k, hk, he⟩ := List.mem_iff_getElem.1 hm
  have hlen := sortedG_length b l
  refine ⟨k, by omega, by rw [List.getD_eq_getElem?_getD, List.getElem?_eq_getElem hk, Option.getD_some, he], ?_⟩
  have hc : (sortedG b l).countP (fun y => Go.Proofs.ltOf cfE y (rd l (i : Int), ((b + i : Nat) : Int))) = k := by
    refine countP_index _ _ k (by omega) (fun m hm hmk => ?_) (fun m hm hkm => ?_)
    · rw [← he]; exact sorted_lt b l m k hmk hk
    · rw [← he]
      by_cases e : m = k
      · subst e; exact swoE.irrefl _
      · have := sorted_lt b l k m (by omega) hm
        rw [ltE] at this ⊢
        simp at this ⊢
        omega
  have h2 : (sortedG b l).countP (fun y => Go.Proofs.ltOf cfE y (rd l (i : Int), ((b + i : Nat) : Int))) = (elemsOf b l l.length).countP (fun y => Go.Proofs.ltOf cfE y (rd l (i : Int), ((b + i : Nat) : Int))) := hperm.countP_eq _
  rw [cn_countP, ← hc, h2]
  unfold elemsOf
  rw [List.countP_map]
  congr 1
  funext j
  exact ltOf_elem b l j i
theorem rd_set (l : List Int) (q : Nat) (v : Int) (p : Nat) (hq : q < l.length) : rd (l.set q v) (p : Int) = if p = q then v else rd l (p : Int) := by
  rw [rdn, rdn, List.getD_eq_getElem?_getD, List.getD_eq_getElem?_getD, List.getElem?_set]
  by_cases e : p = q
  · subst e; simp [hq]
  · rw [if_neg (fun h => e h.symm), if_neg e]
theorem setsTo_miss (xs : List Int) (S : List (Int × Int)) (val : Nat → Int) (p : Nat) : ∀ m, (∀ k, k < m → (S.getD k (0, 0)).2.toNat < xs.length ∧ (S.getD k (0, 0)).2.toNat ≠ p) → rd (setsTo xs S val m) (p : Int) = rd xs (p : Int)
  | 0, _ => rfl
  | m + 1, h => by
    obtain ⟨h1, h2⟩ := h m (by omega)
    rw [setsTo, rd_set _ _ _ _ (by rw [setsTo_length]; exact h1), if_neg (fun e => h2 e.symm)]
    exact setsTo_miss xs S val p m (fun k hk => h k (by omega))
theorem setsTo_hit (xs : List Int) (S : List (Int × Int)) (val : Nat → Int) (q : Nat) : ∀ m, q < m → (∀ k, k < m → (S.getD k (0, 0)).2.toNat < xs.length) → (∀ k, q < k → k < m → (S.getD k (0, 0)).2.toNat ≠ (S.getD q (0, 0)).2.toNat) → rd (setsTo xs S val m) (((S.getD q (0, 0)).2.toNat : Nat) : Int) = val q
  | 0, h, _, _ => absurd h (Nat.not_lt_zero _)
  | m + 1, hq, h1, h2 => by
    rw [setsTo, rd_set _ _ _ _ (by rw [setsTo_length]; exact h1 m (by omega))]
    by_cases e : q = m
    · subst e; rw [if_pos rfl]
    · rw [if_neg (fun x => h2 m (by omega) (by omega) x.symm)]
      exact setsTo_hit xs S val q m (by omega) (fun k hk => h1 k (by omega)) (fun k hk hk2 => h2 k hk (by omega))
theorem setsTo_seg (xs : List Int) (b : Nat) (s : List Int) (val : Nat → Int) (hx : b + s.length ≤ xs.length) (i : Nat) (hi : i < s.length) :
    ∃ k, k < s.length ∧ (sortedG b s).getD k (0, 0) = (rd s (i : Int), ((b + i : Nat) : Int)) ∧ k = cn (fun j => ltK (fun x => x) s j i) s.length ∧ rd (setsTo xs (sortedG b s) val s.length) ((b + i : Nat) : Int) = val k := by
  obtain ⟨k, hk, he, hc⟩ := sorted_index b s i hi
  refine ⟨k, hk, he, hc, ?_⟩
  have hr : ∀ k, k < s.length → (((sortedG b s).getD k (0, 0)).2.toNat < xs.length) := fun k hk => by
    obtain ⟨j, hj, e⟩ := sortedG_mem b s k hk
    rw [e]; simp only [Int.toNat_natCast]; omega
  have H := setsTo_hit xs (sortedG b s) val k s.length hk hr (fun k2 h1 h2 e => by
    obtain ⟨j, hj, e2⟩ := sortedG_mem b s k2 h2
    rw [he, e2] at e
    simp only [Int.toNat_natCast] at e
    obtain rfl : j = i := by omega
    have hlen := sortedG_length b s
    have hlt := sorted_lt b s k k2 h1 (by omega)
    have q1 : (sortedG b s)[k]'(by omega) = (sortedG b s).getD k (0, 0) := by rw [List.getD_eq_getElem?_getD, List.getElem?_eq_getElem (by omega), Option.getD_some]
    have q2 : (sortedG b s)[k2]'(by omega) = (sortedG b s).getD k2 (0, 0) := by rw [List.getD_eq_getElem?_getD, List.getElem?_eq_getElem (by omega), Option.getD_some]
    rw [q1, q2, he, e2, swoE.irrefl] at hlt
    cases hlt)
  rw [he] at H
  simp only [Int.toNat_natCast] at H
  exact H
theorem setsTo_out (xs : List Int) (b : Nat) (s : List Int) (val : Nat → Int) (hx : b + s.length ≤ xs.length) (p : Nat) (hp : p < b) : rd (setsTo xs (sortedG b s) val s.length) (p : Int) = rd xs (p : Int) :=
  setsTo_miss xs _ val p s.length (fun k hk => by
    obtain ⟨j, hj, e⟩ := sortedG_mem b s k hk
    rw [e]; simp only [Int.toNat_natCast]
    exact ⟨by omega, by omega⟩)
theorem rd_segOf (l lens : List Int) (s j : Nat) (hj : j < (rd lens (s : Int)).toNat) : rd (segOf l lens s) (j : Int) = rd l ((startOf lens (s : Int) + j : Nat) : Int) := rd_seg l _ _ j hj
theorem segOf_len {l lens : List Int} (hok : okLens l lens = true) (s : Nat) (hs : s < lens.length) : (segOf l lens s).length = (rd lens (s : Int)).toNat := by
  obtain ⟨_, h⟩ := seg_in hok s hs
  unfold segOf
  rw [List.length_take, List.length_drop]
  omega
/-- The first place of a word in a list, or one below none. -/
def wh (l : List Int) (x : Int) : Int := if stands l l.length x then whereIs l l.length x else -1
theorem whereIs_of {l : List Int} {x : Int} {n i : Nat} (hi : i < n) (h : rd l (i : Int) = x) (h0 : ∀ j : Nat, j < i → rd l (j : Int) ≠ x) : whereIs l n x = i := by
  obtain ⟨h1, h2, h3⟩ := whereIs_at l n x ((stands_iff _ _ _).2 ⟨i, hi, h⟩)
  obtain ⟨q, hq⟩ : ∃ q : Nat, whereIs l n x = q := ⟨(whereIs l n x).toNat, by omega⟩
  rw [hq] at h3 ⊢
  have hge : ¬ q < i := fun c => h0 q c h3
  by_cases e : q = i
  · rw [e]
  · exfalso
    have hf : (List.range n).find? (fun (j : Nat) => rd l (j : Int) == x) = some q := by
      unfold whereIs at hq
      cases hf : (List.range n).find? (fun (j : Nat) => rd l (j : Int) == x) with
      | none =>
        have := List.find?_eq_none.1 hf i (List.mem_range.2 hi)
        simp [h] at this
      | some v =>
        rw [hf] at hq
        simp only [Option.elim_some] at hq
        rw [show v = q by omega]
    rw [List.find?_range_eq_some] at hf
    have := hf.2.2 i (by omega)
    simp [h] at this
theorem ev_Where (l : List Int) (x : Int) (hl : l.length ≤ 1048576) : Ev (fun k => r00_Where.f k l x) (wh l x) := by
  have H := up (n := l.length) (P := fun i => (∀ j : Nat, j < i → rd l (j : Int) ≠ x) → Ev (fun k => r00_Where.l0 k l x (i : Int)) (wh l x))
    (by
      intro h
      have hs : stands l l.length x = false := by
        cases hs : stands l l.length x
        · rfl
        · obtain ⟨j, hj, e⟩ := (stands_iff _ _ _).1 hs
          exact absurd e (h j hj)
      have e : wh l x = -1 := by unfold wh; rw [hs]; rfl
      rw [e]
      refine Ev.step (f := fun _ => some (-1)) (fun k => ?_) (Ev.now _)
      simp only [r00_Where.l0]
      rw [if_neg (by omega)])
    (fun i hi ih h => by
      by_cases c : rd l (i : Int) = x
      · have e : wh l x = i := by
          unfold wh
          rw [(stands_iff _ _ _).2 ⟨i, hi, c⟩, if_pos rfl, whereIs_of hi c h]
        rw [e]
        refine Ev.step (f := fun _ => some (i : Int)) (fun k => ?_) (Ev.now _)
        simp only [r00_Where.l0]
        rw [if_pos (by omega), if_pos (by omega), if_pos c]
      · refine Ev.step (fun k => ?_) (ih (fun j hj => ?_))
        · simp only [r00_Where.l0]
          rw [if_pos (by omega), if_pos (by omega), if_neg c, wsucc hi (by omega)]
        · by_cases e : j = i
          · subst e; exact c
          · exact h j (by omega)) 0 (Nat.zero_le _) (fun j hj => absurd hj (Nat.not_lt_zero _))
  exact H
/-- A word put into an increasing list. -/
def insG : List Int → Int → List Int
  | [], x => [x]
  | a :: t, x => if x ≤ a then (if x < a then x :: a :: t else a :: t) else a :: insG t x
theorem insG_mem (x y : Int) : ∀ l, y ∈ insG l x ↔ y = x ∨ y ∈ l
  | [] => by simp [insG]
  | a :: t => by
    have ih := insG_mem x y t
    unfold insG
    by_cases c : x ≤ a
    · rw [if_pos c]
      by_cases c2 : x < a
      · rw [if_pos c2]; simp
      · rw [if_neg c2]
        have : x = a := by omega
        subst this
        simp
    · rw [if_neg c]
      simp only [List.mem_cons, ih]
      constructor
      · rintro (h | h | h) <;> simp [h]
      · rintro (h | h | h) <;> simp [h]
theorem insG_length (x : Int) : ∀ l, (insG l x).length ≤ l.length + 1
  | [] => by simp [insG]
  | a :: t => by
    have ih := insG_length x t
    unfold insG
    split
    · split <;> simp
    · simp; omega
theorem insG_sorted (x : Int) : ∀ l : List Int, l.Pairwise (fun a b => a < b) → (insG l x).Pairwise (fun a b => a < b)
  | [], _ => by simp [insG]
  | a :: t, h => by
    have h1 := List.pairwise_cons.1 h
    unfold insG
    by_cases c : x ≤ a
    · rw [if_pos c]
      by_cases c2 : x < a
      · rw [if_pos c2, List.pairwise_cons]
        refine ⟨fun y hy => ?_, h⟩
        rcases List.mem_cons.1 hy with e | e
        · omega
        · have := h1.1 y e; omega
      · rw [if_neg c2]; exact h
    · rw [if_neg c, List.pairwise_cons]
      refine ⟨fun y hy => ?_, insG_sorted x t h1.2⟩
      rcases (insG_mem x y t).1 hy with e | e
      · omega
      · exact h1.1 y e
theorem ev_Put1 (l : List Int) (x : Int) (hl : l.length ≤ 1048576) : ∀ i out, i ≤ l.length → out.length ≤ i + 1 → Ev (fun k => r00_Put.l0 k l x out true (i : Int)) (out ++ l.drop i) := by
  intro i out hi ho
  have H := up (n := l.length) (P := fun i => ∀ out : List Int, out.length ≤ i + 1 → Ev (fun k => r00_Put.l0 k l x out true (i : Int)) (out ++ l.drop i))
    (by
      intro out ho
      refine Ev.step (f := fun _ => some _) (fun k => ?_) (Ev.now _)
      simp only [r00_Put.l0]
      rw [if_neg (by omega), List.drop_length, List.append_nil]
      rfl)
    (fun i hi ih out ho => by
      have h1 := ih (out ++ [rd l (i : Int)]) (by simp; omega)
      rw [List.append_assoc, List.singleton_append, ← drop_rd hi] at h1
      refine Ev.step (f := fun k => r00_Put.j1 k l x out true (i : Int) false) (fun k => ?_) (Ev.step (fun k => ?_) h1)
      · simp only [r00_Put.l0]
        rw [if_pos (by omega)]
        rfl
      · simp only [r00_Put.j1]
        rw [if_neg (by simp), if_pos (by omega), if_pos (by omega), if_pos (by omega), wsucc hi (by omega)]) i hi
  exact H out ho
theorem ev_Put (l : List Int) (x : Int) (hl : l.length ≤ 1048576) : Ev (fun k => r00_Put.f k l x) (insG l x) := by
  have H := up (n := l.length) (P := fun i => ∀ out : List Int, out.length ≤ i → Ev (fun k => r00_Put.l0 k l x out false (i : Int)) (out ++ insG (l.drop i) x))
    (by
      intro out ho
      refine Ev.step (f := fun _ => some _) (fun k => ?_) (Ev.now _)
      simp only [r00_Put.l0]
      rw [if_neg (by omega), List.drop_length, if_neg (by simp), if_pos (by omega)]
      rfl)
    (fun i hi ih out ho => by
      rw [drop_rd hi, insG]
      by_cases c : x ≤ rd l (i : Int)
      · rw [if_pos c]
        by_cases c2 : x < rd l (i : Int)
        · rw [if_pos c2]
          have h1 := ev_Put1 l x hl (i + 1) (out ++ [x] ++ [rd l (i : Int)]) (by omega) (by simp; omega)
          have e : out ++ [x] ++ [rd l (i : Int)] ++ l.drop (i + 1) = out ++ x :: rd l (i : Int) :: l.drop (i + 1) := by simp
          rw [e] at h1
          refine Ev.step (f := fun k => r00_Put.j1 k l x out false (i : Int) true) (fun k => ?_) (Ev.step (fun k => ?_) h1)
          · simp only [r00_Put.l0]
            rw [if_pos (by omega), if_neg (by simp), if_pos (by omega), decide_eq_true c]
          · simp only [r00_Put.j1]
            rw [if_pos trivial, if_pos (by omega), if_pos (by omega), if_pos c2, if_pos (by omega), Option.bind_some, if_pos (by simp; omega), wsucc hi (by omega)]
        · rw [if_neg c2]
          have h1 := ev_Put1 l x hl (i + 1) (out ++ [rd l (i : Int)]) (by omega) (by simp; omega)
          rw [List.append_assoc, List.singleton_append] at h1
          refine Ev.step (f := fun k => r00_Put.j1 k l x out false (i : Int) true) (fun k => ?_) (Ev.step (fun k => ?_) h1)
          · simp only [r00_Put.l0]
            rw [if_pos (by omega), if_neg (by simp), if_pos (by omega), decide_eq_true c]
          · simp only [r00_Put.j1]
            rw [if_pos trivial, if_pos (by omega), if_pos (by omega), if_neg c2, if_pos (by omega), wsucc hi (by omega)]
      · rw [if_neg c]
        have h1 := ih (out ++ [rd l (i : Int)]) (by simp; omega)
        rw [List.append_assoc, List.singleton_append] at h1
        refine Ev.step (f := fun k => r00_Put.j1 k l x out false (i : Int) false) (fun k => ?_) (Ev.step (fun k => ?_) h1)
        · simp only [r00_Put.l0]
          rw [if_pos (by omega), if_neg (by simp), if_pos (by omega), decide_eq_false c]
        · simp only [r00_Put.j1]
          rw [if_neg (by simp), if_pos (by omega), if_pos (by omega), if_pos (by omega), wsucc hi (by omega)]) 0 (Nat.zero_le _) [] (by simp)
  exact H
/-- The words of the first elements of a list, increasing. -/
def unG (s : List Int) : Nat → List Int
  | 0 => []
  | m + 1 => insG (unG s m) (rd s (m : Int))
theorem unG_sorted (s : List Int) : ∀ m, (unG s m).Pairwise (fun a b => a < b)
  | 0 => List.Pairwise.nil
  | m + 1 => insG_sorted _ _ (unG_sorted s m)
theorem unG_length (s : List Int) : ∀ m, (unG s m).length ≤ m
  | 0 => by simp [unG]
  | m + 1 => by
    have h1 := unG_length s m
    have h2 := insG_length (rd s (m : Int)) (unG s m)
    rw [unG]
    omega
theorem unG_mem (s : List Int) (x : Int) : ∀ m, x ∈ unG s m ↔ ∃ j : Nat, j < m ∧ rd s (j : Int) = x
  | 0 => by simp [unG]
  | m + 1 => by
    rw [unG, insG_mem, unG_mem s x m]
    constructor
    · rintro (h | ⟨j, hj, e⟩)
      · exact ⟨m, by omega, h.symm⟩
      · exact ⟨j, by omega, e⟩
    · rintro ⟨j, hj, e⟩
      by_cases c : j = m
      · subst c; exact .inl e.symm
      · exact .inr ⟨j, by omega, e⟩
theorem ev_Union (s : List Int) (hl : s.length ≤ 1048576) : Ev (fun k => r00_Union.f k [] s) (unG s s.length) := by
  have H := up (n := s.length) (P := fun i => Ev (fun k => r00_Union.l0 k s (unG s i) (i : Int)) (unG s s.length))
    (by
      refine Ev.step (f := fun _ => some _) (fun k => ?_) (Ev.now _)
      simp only [r00_Union.l0]
      rw [if_neg (by omega)])
    (fun i hi ih => by
      have hle := unG_length s i
      refine Ev.step (fun k => ?_) (Ev.bind (f := fun k t => r00_Union.l0 k s t ((i + 1 : Nat) : Int)) (ev_Put (unG s i) (rd s (i : Int)) (by omega)) ih)
      simp only [r00_Union.l0]
      rw [if_pos (by omega), if_pos (by omega), wsucc hi (by omega)]) 0 (Nat.zero_le _)
  refine Ev.congr (fun k => ?_) H
  unfold r00_Union.f r00_Copy.f
  rw [Option.bind_some, if_pos (by simp)]
  rfl
theorem getElem_lt {U : List Int} (h : U.Pairwise (fun a b => a < b)) (i j : Nat) (hij : i < j) (hj : j < U.length) : rd U (i : Int) < rd U (j : Int) := by
  rw [rd_get (by omega), rd_get hj]
  exact (List.pairwise_iff_getElem.1 h) i j (by omega) hj hij
theorem wh_at {U : List Int} (h : U.Pairwise (fun a b => a < b)) (i : Nat) (hi : i < U.length) : wh U (rd U (i : Int)) = i := by
  unfold wh
  rw [(stands_iff _ _ _).2 ⟨i, hi, rfl⟩, if_pos rfl]
  exact whereIs_of hi rfl (fun j hj e => by have := getElem_lt h j i hj hi; omega)
/-- The ranks of a sorted list's elements are the places of their words. -/
theorem rkOf_at (S : List (Int × Int)) (n : Nat) (U : List Int) (hU : U.Pairwise (fun a b => a < b)) (hm : ∀ x, x ∈ U ↔ ∃ k, k < n ∧ (S.getD k (0, 0)).1 = x) (hS : ∀ a b, a ≤ b → b < n → (S.getD a (0, 0)).1 ≤ (S.getD b (0, 0)).1) :
    ∀ k, k < n → rkOf S (k + 1) < U.length ∧ rd U (rkOf S (k + 1) : Int) = (S.getD k (0, 0)).1
  | 0, hk => by
    have h1 : (S.getD 0 (0, 0)).1 ∈ U := (hm _).2 ⟨0, hk, rfl⟩
    obtain ⟨q, hq, e⟩ := List.mem_iff_getElem.1 h1
    have e0 : rkOf S (0 + 1) = 0 := by simp [rkOf]
    rw [e0]
    refine ⟨by omega, ?_⟩
    obtain ⟨j, hj, e2⟩ := (hm _).1 (List.getElem_mem (show 0 < U.length by omega))
    have h2 := hS 0 j (by omega) hj
    rw [← rd_get hq] at e
    rw [← rd_get] at e2
    by_cases c : q = 0
    · subst c; exact e
    · have := getElem_lt hU 0 q (by omega) hq
      omega
  | k + 1, hk => by
    obtain ⟨h1, h2⟩ := rkOf_at S n U hU hm hS k (by omega)
    have e0 : rkOf S (k + 1 + 1) = rkOf S (k + 1) + (if (S.getD (k + 1) (0, 0)).1 ≠ (S.getD k (0, 0)).1 then 1 else 0) := by
      rw [rkOf]
      simp
    rw [e0]
    by_cases c : (S.getD (k + 1) (0, 0)).1 = (S.getD k (0, 0)).1
    · rw [if_neg (fun h => h c), c]
      exact ⟨h1, h2⟩
    · rw [if_pos c]
      have hlt : (S.getD k (0, 0)).1 < (S.getD (k + 1) (0, 0)).1 := by
        have := hS k (k + 1) (by omega) hk
        omega
      have hmem : (S.getD (k + 1) (0, 0)).1 ∈ U := (hm _).2 ⟨k + 1, hk, rfl⟩
      obtain ⟨q, hq, e⟩ := List.mem_iff_getElem.1 hmem
      rw [← rd_get hq] at e
      generalize rkOf S (k + 1) = r at *
      have hrq : r < q := by
        by_cases c2 : r < q
        · exact c2
        · by_cases c3 : q = r
          · subst c3; omega
          · have := getElem_lt hU q r (by omega) h1
            omega
      refine ⟨by omega, ?_⟩
      by_cases c4 : q = r + 1
      · rw [← c4]; exact e
      · exfalso
        have h5 := getElem_lt hU r (r + 1) (by omega) (by omega)
        have h6 := getElem_lt hU (r + 1) q (by omega) hq
        obtain ⟨j, hj, e2⟩ := (hm _).1 (List.getElem_mem (show r + 1 < U.length by omega))
        rw [← rd_get] at e2
        by_cases c5 : j ≤ k
        · have := hS j k c5 (by omega); omega
        · have := hS (k + 1) j (by omega) hj; omega
theorem sorted_fst (b : Nat) (s : List Int) (i j : Nat) (hij : i ≤ j) (hj : j < s.length) : ((sortedG b s).getD i (0, 0)).1 ≤ ((sortedG b s).getD j (0, 0)).1 := by
  by_cases e : i = j
  · subst e; exact Int.le_refl _
  · have hlen := sortedG_length b s
    have h := sorted_lt b s i j (by omega) (by omega)
    rw [List.getD_eq_getElem?_getD, List.getD_eq_getElem?_getD, List.getElem?_eq_getElem (by omega), List.getElem?_eq_getElem (by omega), Option.getD_some, Option.getD_some]
    rw [ltE] at h
    simp at h
    omega
theorem ranksTo_at {l lens : List Int} (hok : okLens l lens = true) : ∀ m, m ≤ lens.length → ∀ s j, s < m → j < (rd lens (s : Int)).toNat → ∃ r : Nat, rd (ranksTo l lens m) ((startOf lens (s : Int) + j : Nat) : Int) = r ∧ r < (unG (segOf l lens s) (segOf l lens s).length).length ∧ rd (unG (segOf l lens s) (segOf l lens s).length) (r : Int) = rd (segOf l lens s) (j : Int)
  | 0, _, s, _, h, _ => absurd h (Nat.not_lt_zero _)
  | m + 1, hm, s, j, hs, hj => by
    have hsl := segOf_len hok m (by omega)
    obtain ⟨_, hin⟩ := seg_in hok m (by omega)
    have hlen := ranksTo_length l lens m
    rw [ranksTo, ← hsl]
    by_cases e : s = m
    · subst e
      obtain ⟨k, hk, he, hc, hv⟩ := setsTo_seg (ranksTo l lens s) (startOf lens (s : Int)) (segOf l lens s) (fun k => ((rkOf (sortedG (startOf lens (s : Int)) (segOf l lens s)) (k + 1) : Nat) : Int)) (by omega) j (by omega)
      obtain ⟨h1, h2⟩ := rkOf_at (sortedG (startOf lens (s : Int)) (segOf l lens s)) (segOf l lens s).length (unG (segOf l lens s) (segOf l lens s).length) (unG_sorted _ _) (fun x => by
        rw [unG_mem]
        constructor
        · rintro ⟨i, hi, e⟩
          obtain ⟨q, hq, e2, _⟩ := sorted_index (startOf lens (s : Int)) (segOf l lens s) i hi
          exact ⟨q, hq, by rw [e2]; exact e⟩
        · rintro ⟨q, hq, e⟩
          obtain ⟨i, hi, e2⟩ := sortedG_mem (startOf lens (s : Int)) (segOf l lens s) q hq
          rw [e2] at e
          exact ⟨i, hi, e⟩) (fun a b hab hb => sorted_fst _ _ a b hab hb) k hk
      rw [he] at h2
      exact ⟨_, hv, h1, h2⟩
    · have h1 := startOf_up lens (s + 1) m (by omega) (by omega)
      rw [startOf_step lens s (by omega)] at h1
      rw [setsTo_out _ _ _ _ (by omega) _ (by omega)]
      exact ranksTo_at hok m (by omega) s j (by omega) hj
/-- The rank of an element of a segment. -/
def rkF (l : List Int) (st n j : Nat) : Int := wh (unG ((l.drop st).take n) ((l.drop st).take n).length) (rd ((l.drop st).take n) (j : Int))
theorem ranks_closed {l lens : List Int} (hok : okLens l lens = true) : ranksTo l lens lens.length = perSeg (rkF l) lens lens.length :=
  perSeg_ext _ lens lens.length (Nat.le_refl _) _ (by rw [ranksTo_length, (okLens_pos hok).2]) (fun s j hs hj => by
    obtain ⟨r, h1, h2, h3⟩ := ranksTo_at hok lens.length (Nat.le_refl _) s j hs hj
    rw [h1]
    unfold rkF
    rw [show (l.drop (startOf lens (s : Int))).take (rd lens (s : Int)).toNat = segOf l lens s from rfl, ← h3, wh_at (unG_sorted _ _) r h2])
theorem drop_take_seg (l : List Int) (st n : Nat) : (l.take (st + n)).drop st = (l.drop st).take n := by
  rw [List.drop_take]
  congr 1
  omega
theorem rd_drop_take (l : List Int) (st n k : Nat) (hk : k < n) : rd ((l.drop st).take n) (k : Int) = rd l ((st + k : Nat) : Int) := rd_seg l st n k hk
theorem ev_Ranks7 (l lens : List Int) (hl : l.length ≤ 200) (hn : lens.length ≤ 400) : Ev (fun k => r07_Ranks.f k l lens) (rank_Ranks.g l lens) := by
  refine Ev.bind (f := fun k t147 => (if t147 = 0 then (r07_Ranks.l0 k l lens (([] : List Int)) 0 0) else (some (([] : List Int), t147)))) (ev_segments l lens hl hn) ?_
  unfold rank_Ranks.g
  by_cases c : openE l lens = 0
  · obtain ⟨_, _, hw, _, hok⟩ := openE_ok c
    simp only [if_pos c]
    rw [ranks_closed hok]
    have H := up (n := lens.length) (P := fun s => Ev (fun k => r07_Ranks.l0 k l lens (perSeg (rkF l) lens s) (startOf lens (s : Int) : Int) (s : Int)) (perSeg (rkF l) lens lens.length, 0))
      (by
        refine Ev.step (f := fun _ => some _) (fun k => ?_) (Ev.now _)
        simp only [r07_Ranks.l0]
        rw [if_neg (by omega)])
      (fun s hs ih => by
        obtain ⟨h0, h1⟩ := seg_in hok s hs
        obtain ⟨n, hnn⟩ : ∃ n : Nat, rd lens (s : Int) = n := ⟨(rd lens (s : Int)).toNat, by omega⟩
        have hpl := perSeg_length (rkF l) lens s (by omega)
        have ih2 := ih
        rw [startOf_step lens s hs, perSeg, hnn, Int.toNat_natCast] at ih2
        rw [hnn, Int.toNat_natCast] at h1
        generalize startOf lens (s : Int) = st at *
        generalize perSeg (rkF l) lens s = out at *
        have hw : wrap64 ((st : Int) + rd lens (s : Int)) = ((st + n : Nat) : Int) := by rw [hnn]; unfold wrap64; omega
        have hlen : ((l.drop st).take n).length = n := by rw [List.length_take, List.length_drop]; omega
        have hU := unG_length ((l.drop st).take n) n
        have H1 := up (n := n) (P := fun i => Ev (fun k => r07_Ranks.l1 k l lens (out ++ (List.range i).map (rkF l st n)) (st : Int) (s : Int) (unG ((l.drop st).take n) n) ((st + i : Nat) : Int)) (perSeg (rkF l) lens lens.length, 0))
          (by
            refine Ev.step (fun k => ?_) ih2
            simp only [r07_Ranks.l1]
            rw [hw, if_pos (by omega), if_pos (by omega), if_neg (by omega), wsucc hs (by omega)])
          (fun i hi ih => by
            rw [List.range_succ, List.map_append, ← List.append_assoc] at ih
            have e : rkF l st n i = wh (unG ((l.drop st).take n) n) (rd l ((st + i : Nat) : Int)) := by unfold rkF; rw [hlen, rd_drop_take l st n i hi]
            have g := ev_Where (unG ((l.drop st).take n) n) (rd l ((st + i : Nat) : Int)) (by omega)
            rw [← e] at g
            have hlo : (out ++ (List.range i).map (rkF l st n)).length < 17592186044416 := by simp; omega
            refine Ev.step (fun k => ?_) (Ev.bind (f := fun k t => r07_Ranks.l1 k l lens (out ++ (List.range i).map (rkF l st n) ++ [t]) (st : Int) (s : Int) (unG ((l.drop st).take n) n) ((st + (i + 1) : Nat) : Int)) g ih)
            simp only [r07_Ranks.l1]
            rw [hw, if_pos (by omega), if_pos (by omega), if_pos (by omega), if_pos (by omega), if_pos (by omega)]
            congr 1
            funext t
            rw [if_pos hlo, wsucc (n := l.length) (i := st + i) (by omega) (by omega)]
            rfl) 0 (Nat.zero_le _)
        have g := ev_Union ((l.drop st).take n) (by omega)
        rw [hlen] at g
        have H2 : Ev (fun k => r07_Ranks.l1 k l lens out (st : Int) (s : Int) (unG ((l.drop st).take n) n) (st : Int)) (perSeg (rkF l) lens lens.length, 0) := by
          have e : out ++ (List.range 0).map (rkF l st n) = out := by simp
          rw [e] at H1
          exact H1
        refine Ev.step (fun k => ?_) (Ev.bind (f := fun k t => r07_Ranks.l1 k l lens out (st : Int) (s : Int) t (st : Int)) g H2)
        simp only [r07_Ranks.l0]
        rw [hw, if_pos (by omega), if_pos (by omega), if_pos (by omega), if_pos (by omega), if_pos (by omega), Int.toNat_natCast, Int.toNat_natCast, drop_take_seg]) 0 (Nat.zero_le _)
    exact H
  · simp only [if_neg c]
    exact Ev.now _
theorem stands_congr {p q : List Int} {m : Nat} (h : ∀ j : Nat, j < m → rd p (j : Int) = rd q (j : Int)) (x : Int) : stands p m x = stands q m x := by
  rw [Bool.eq_iff_iff, stands_iff, stands_iff]
  constructor
  · rintro ⟨j, hj, e⟩
    exact ⟨j, hj, by rw [← h j hj]; exact e⟩
  · rintro ⟨j, hj, e⟩
    exact ⟨j, hj, by rw [h j hj]; exact e⟩
theorem wh_neg (l : List Int) (x : Int) : wh l x < 0 ↔ stands l l.length x = false := by
  unfold wh
  cases h : stands l l.length x
  · simp
  · have := whereIs_at l l.length x h
    simp
    omega
theorem ev_Firsts7 (l lens : List Int) (hl : l.length ≤ 200) (hn : lens.length ≤ 400) : Ev (fun k => r07_Firsts.f k l lens) (rank_Firsts.g l lens) := by
  refine Ev.bind (f := fun k t163 => (if t163 = 0 then (r07_Firsts.l0 k l lens (([] : List Int)) (([] : List Int)) 0 0) else (some (([] : List Int), ([] : List Int), t163)))) (ev_segments l lens hl hn) ?_
  unfold rank_Firsts.g
  by_cases c : openE l lens = 0
  · obtain ⟨_, _, hw, _, hok⟩ := openE_ok c
    simp only [if_pos c]
    obtain ⟨hpos, htot⟩ := okLens_pos hok
    have H := up (n := lens.length) (P := fun s => Ev (fun k => r07_Firsts.l0 k l lens (firstsTo l lens s) (manyTo l lens s) (startOf lens (s : Int) : Int) (s : Int)) (firstsTo l lens lens.length, manyTo l lens lens.length, 0))
      (by
        refine Ev.step (f := fun _ => some _) (fun k => ?_) (Ev.now _)
        simp only [r07_Firsts.l0]
        rw [if_neg (by omega)])
      (fun s hs ih => by
        obtain ⟨h0, h1⟩ := seg_in hok s hs
        obtain ⟨n, hnn⟩ : ∃ n : Nat, rd lens (s : Int) = n := ⟨(rd lens (s : Int)).toNat, by omega⟩
        have hfl := firstsTo_length hpos htot s (by omega)
        have hml := manyTo_length l lens s
        have hsl := segOf_len hok s hs
        have hseg : ∀ j : Nat, j < n → rd (segOf l lens s) (j : Int) = rd l ((startOf lens (s : Int) + j : Nat) : Int) := fun j hj => rd_segOf l lens s j (by omega)
        have ih2 := ih
        rw [startOf_step lens s hs, firstsTo, manyTo, hsl, hnn, Int.toNat_natCast] at ih2
        rw [hnn, Int.toNat_natCast] at h1
        rw [hnn, Int.toNat_natCast] at hsl
        generalize startOf lens (s : Int) = st at *
        generalize firstsTo l lens s = F at *
        generalize manyTo l lens s = M at *
        generalize segOf l lens s = sg at *
        have hw : wrap64 ((st : Int) + rd lens (s : Int)) = ((st + n : Nat) : Int) := by rw [hnn]; unfold wrap64; omega
        have H1 := up (n := n) (P := fun i => Ev (fun k => r07_Firsts.l1 k l lens (F ++ fstAt st sg i) M (st : Int) (s : Int) (((fstAt st sg i).length : Nat) : Int) ((st + i : Nat) : Int)) (firstsTo l lens lens.length, manyTo l lens lens.length, 0))
          (by
            refine Ev.step (fun k => ?_) ih2
            simp only [r07_Firsts.l1]
            rw [hw, if_pos (by omega), if_pos (by omega), if_neg (by omega), if_pos (by omega), wsucc hs (by omega)])
          (fun i hi ih => by
            have hfa := fstAt_length st sg i
            have hdl : ((l.drop st).take i).length = i := by rw [List.length_take, List.length_drop]; omega
            have g := ev_Where ((l.drop st).take i) (rd l ((st + i : Nat) : Int)) (by omega)
            have e1 : wh ((l.drop st).take i) (rd l ((st + i : Nat) : Int)) < 0 ↔ stands sg i (rd sg (i : Int)) = false := by
              rw [wh_neg, hdl, hseg i hi, stands_congr (q := sg) (fun j hj => by rw [rd_drop_take l st i j hj, hseg j (by omega)])]
            have hlo : (F ++ fstAt st sg i).length < 17592186044416 := by simp; omega
            have e2 : fstAt st sg (i + 1) = if stands sg i (rd sg (i : Int)) then fstAt st sg i else fstAt st sg i ++ [((st + i : Nat) : Int)] := rfl
            rw [e2] at ih
            have g2 := Ev.bind (f := fun k t => if t < 0 then (if (F ++ fstAt st sg i).length < 17592186044416 then (r07_Firsts.l1 k l lens (F ++ fstAt st sg i ++ [((st + i : Nat) : Int)]) M (st : Int) (s : Int) ((((fstAt st sg i).length + 1 : Nat) : Nat) : Int) ((st + (i + 1) : Nat) : Int)) else none) else (r07_Firsts.l1 k l lens (F ++ fstAt st sg i) M (st : Int) (s : Int) (((fstAt st sg i).length : Nat) : Int) ((st + (i + 1) : Nat) : Int))) (r := (firstsTo l lens lens.length, manyTo l lens lens.length, 0)) g (by
              cases hst : stands sg i (rd sg (i : Int))
              · rw [hst] at ih
                simp only [if_pos (e1.2 hst), if_pos hlo]
                simp only [Bool.false_eq_true, if_false, List.length_append, List.length_singleton, ← List.append_assoc] at ih
                exact ih
              · rw [hst] at ih
                have : ¬ wh ((l.drop st).take i) (rd l ((st + i : Nat) : Int)) < 0 := fun h => by rw [e1.1 h] at hst; cases hst
                simp only [if_neg this]
                simp only [if_true] at ih
                exact ih)
            refine Ev.step (fun k => ?_) g2
            simp only [r07_Firsts.l1]
            rw [hw, if_pos (by omega), if_pos (by omega), if_pos (by omega), if_pos (by omega), if_pos (by omega), if_pos (by omega), if_pos (by omega), if_pos (by omega), Int.toNat_natCast, Int.toNat_natCast, drop_take_seg, wsucc (n := l.length) (i := st + i) (by omega) (by omega), wsucc (n := i + 1) (i := (fstAt st sg i).length) (by omega) (by omega)]
            rfl) 0 (Nat.zero_le _)
        have e : F ++ fstAt st sg 0 = F := by simp [fstAt]
        rw [e] at H1
        refine Ev.step (fun k => ?_) H1
        simp only [r07_Firsts.l0]
        rw [if_pos (by omega)]
        rfl) 0 (Nat.zero_le _)
    exact H
  · simp only [if_neg c]
    exact Ev.now _
theorem jt_Firsts (l0 l1 : List Int) : Ev (fun k => w07_RankFirsts.j0 k l0 l1 true) true := by
  refine Ev.step (f := fun _ => some true) (fun k => ?_) (Ev.now _)
  simp only [w07_RankFirsts.j0]
  simp only [if_true, law_ranked.f, Option.bind_some]
theorem jf_Firsts (l0 l1 : List Int) (h1 : l0.length ≤ 200) (h2 : l1.length ≤ 400) : Ev (fun k => w07_RankFirsts.j0 k l0 l1 false) true := by
  have H1 := ev_Ranks7 l0 l1 h1 h2
  have H2 := ev_Firsts7 l0 l1 h1 h2
  refine Ev.step (fun k => by simp only [w07_RankFirsts.j0, rRanks.f, rFirsts.f, Eq_.f, law_ranked.f]; rw [if_neg (by simp)]) ?_
  generalize rank_Ranks.g l0 l1 = r1 at *
  generalize rank_Firsts.g l0 l1 = r2 at *
  refine Ev.bind (g := fun _ => some r1) (Ev.now r1) ?_
  refine Ev.bind H1 ?_
  refine Ev.bind (g := fun _ => some r2) (Ev.now r2) ?_
  refine Ev.bind H2 ?_
  simp only [if_true, BEq.rfl, Option.bind_some]
  exact Ev.now _
theorem RankFirsts : w07_RankFirsts.Pure := by
  intro l0 l1 _ h1 _ _ h2 _
  have H : Ev (fun k => w07_RankFirsts.f k l0 l1) true := by
    by_cases c0 : (l0.length : Int) > 200
    · refine Ev.congr (fun k => ?_) (jt_Firsts l0 l1)
      unfold w07_RankFirsts.f
      rw [if_pos c0]
    · by_cases c1 : (l1.length : Int) > 400
      · refine Ev.congr (fun k => ?_) (jt_Firsts l0 l1)
        unfold w07_RankFirsts.f
        rw [if_neg c0, decide_eq_true c1]
      · refine Ev.congr (f := fun k => w07_RankFirsts.j0 k l0 l1 false) (fun k => ?_) (jf_Firsts l0 l1 (by omega) (by omega))
        unfold w07_RankFirsts.f
        rw [if_neg c0, decide_eq_false c1]
  exact H.rounds
end Go.Proofs.Ytnkepaenpoadpaa.Pure
