/- RankMerged: two sorted lists are merged as both together, as one segment, are sorted; so a list is sorted by sorting two parts of it, and merging them; it is told of numbers and lists alone. -/
import Derived.Test.YtnkepaenpoadpaaPRankMergedx
namespace Go.Proofs.Ytnkepaenpoadpaa.Pure
open Go.RowKit Go.Proofs.Ytnkepaenpoadpaa.PRankMerged Go.Proofs.Ytnkepaenpoadpaa.Hand Go.Proofs.YtnkepaenpoadpaaW.PrintWords Go.Proofs.YtnkepaenpoadpaaW.PrintLast Go.Proofs.YtnkepaenpoadpaaW.PrintMore
set_option linter.unusedVariables false
set_option linter.unusedSimpArgs false
/-- Lists so short that a place's successor is no other number. -/
def Sh {α : Type} (l : List α) : Prop := l.length ≤ 4611686018427387904
theorem wsucc {i n : Nat} (h : i < n) (hn : n ≤ 4611686018427387904) : wrap64 ((i : Int) + 1) = ((i + 1 : Nat) : Int) := by unfold wrap64; omega
theorem rdn (l : List Int) (i : Nat) : rd l (i : Int) = l.getD i 0 := by simp [rd]
theorem rd_get {l : List Int} {i : Nat} (h : i < l.length) : rd l (i : Int) = l[i] := by simp [rd, h]
theorem up {n : Nat} {P : Nat → Prop} (h0 : P n) (hs : ∀ i, i < n → P (i + 1) → P i) (i : Nat) (hi : i ≤ n) : P i := by
  have key : ∀ d, ∀ i, i + d = n → P i := by
    intro d
    induction d with
    | zero => intro i h; have : i = n := by omega
              subst this; exact h0
    | succ d ih => intro i h; exact hs i (by omega) (ih (i + 1) (by omega))
  exact key (n - i) i (by omega)
theorem f_Lies (a b c : Int) : r00_Lies.f a b c = some (decide (b ≤ a) && decide (a ≤ c)) := by unfold r00_Lies.f; split <;> simp [*]
theorem f_Word (n : Int) : r00_Word.f n = some (wrap64 (wrap32 n)) := by
  unfold r00_Word.f
  congr 2
  unfold wrap32 IntKind.wrap
  simp only [IntKind.signed, IntKind.bits]
  simp
def upInts (n : Nat) : List Int := (List.range n).map (fun (i : Nat) => (i : Int))
theorem upInts_length (n : Nat) : (upInts n).length = n := by simp [upInts]
theorem isWordB_iff (n : Int) : isWordB n = true ↔ -2147483648 ≤ n ∧ n ≤ 2147483647 := by simp [isWordB]
theorem stands_iff (p : List Int) (m : Nat) (k : Int) : stands p m k = true ↔ ∃ j : Nat, j < m ∧ rd p (j : Int) = k := by simp [stands]
theorem stands_zero (p : List Int) (k : Int) : stands p 0 k = false := by simp [stands]
/-- A place more is taken when the next one is. -/
theorem count_new (n : Nat) (A : Nat → Bool) (c : Nat) (hc : c < n) (hA : A c = false) : ((List.range n).countP fun (v : Nat) => A v || (c == v)) = (List.range n).countP A + 1 := by
  induction n with
  | zero => omega
  | succ n ih =>
    rw [List.range_succ, List.countP_append, List.countP_append]
    by_cases e : c = n
    · subst e
      have h1 : ((List.range c).countP fun (v : Nat) => A v || (c == v)) = (List.range c).countP A := by
        apply List.countP_congr
        intro v hv
        rw [List.mem_range] at hv
        have : (c == v) = false := by simp; omega
        simp [this]
      rw [h1]
      simp [hA]
    · have h1 : (c == n) = false := by simp; omega
      rw [ih (by omega)]
      simp [h1]
      omega
/-- The places so far are right: numbers below n, each one once. -/
def okTo (n : Nat) (p : List Int) (i : Nat) : Prop := ∀ j : Nat, j < i → (decide (0 ≤ rd p (j : Int)) && decide (rd p (j : Int) < (n : Int)) && !stands p j (rd p (j : Int))) = true
theorem count_ok (n : Nat) (p : List Int) : ∀ i : Nat, okTo n p i → ((List.range n).countP fun (v : Nat) => stands p i (v : Int)) = i
  | 0, _ => by simp [stands]
  | i + 1, h => by
    have ih := count_ok n p i (fun j hj => h j (by omega))
    have hi := h i (by omega)
    simp only [Bool.and_eq_true, decide_eq_true_eq, Bool.not_eq_true'] at hi
    have hc := count_new n (fun (v : Nat) => stands p i (v : Int)) (rd p (i : Int)).toNat (by omega) (by show stands p i (((rd p (i : Int)).toNat : Nat) : Int) = false; rw [Int.toNat_of_nonneg hi.1.1]; exact hi.2)
    rw [ih] at hc
    refine (List.countP_congr ?_).trans hc
    intro v hv
    rw [stands_succ]
    have : (rd p (i : Int) == (v : Int)) = ((rd p (i : Int)).toNat == v) := by
      rw [Bool.eq_iff_iff]; simp; omega
    rw [this]
/-- If as many places are right as there are, each number stands. -/
theorem all_stand (n : Nat) (p : List Int) (h : okTo n p n) (v : Nat) (hv : v < n) : stands p n (v : Int) = true := by
  have h1 := count_ok n p n h
  have h2 : ((List.range n).countP fun (v : Nat) => stands p n (v : Int)) = (List.range n).length := by rw [h1, List.length_range]
  exact List.countP_eq_length.1 h2 v (List.mem_range.2 hv)
theorem okPlaces_iff (n : Nat) (p : List Int) : okPlaces n p = true ↔ okTo n p p.length := by
  constructor
  · intro h j hj
    cases hb : (decide (0 ≤ rd p (j : Int)) && decide (rd p (j : Int) < (n : Int)) && !stands p j (rd p (j : Int)))
    · rw [okPlaces_false n p j hj hb] at h; cases h
    · rfl
  · exact okPlaces_true n p
theorem rdB (l : List Bool) (i : Int) : rdOf false l i = l.getD i.toNat false := rfl
theorem seen_get (n : Nat) (A : Nat → Bool) (v : Nat) (hv : v < n) : ((List.range n).map A).getD v false = A v := by
  rw [List.getD_eq_getElem?_getD, List.getElem?_map, List.getElem?_range hv]; rfl
theorem map_set {α : Type} (n : Nat) (A B : Nat → α) (c : Nat) (hB : ∀ v, v < n → v ≠ c → B v = A v) : ((List.range n).map A).set c (B c) = (List.range n).map B := by
  apply List.ext_getElem?
  intro v
  by_cases hv : v < n
  · rw [List.getElem?_set, List.getElem?_map, List.getElem?_map, List.getElem?_range hv]
    by_cases e : c = v
    · subst e; simp [hv]
    · rw [if_neg e]
      simp [hB v hv (fun h => e h.symm)]
  · rw [List.getElem?_eq_none (by simp; omega), List.getElem?_eq_none (by simp; omega)]
theorem ev_Order (p : List Int) (n : Nat) (hp : p.length ≤ 1048576) (hn : n ≤ 1048576) : Ev (fun k => r00_Order.f k p (n : Int)) (decide (p.length = n) && okPlaces n p) := by
  by_cases hl : p.length = n
  · have hw : wrap64 ((n : Int) - 1) = (n : Int) - 1 := by unfold wrap64; omega
    have hL : ∀ x : Int, r00_Lies.f x 0 (wrap64 ((n : Int) - 1)) = some (decide (0 ≤ x) && decide (x < (n : Int))) := by
      intro x
      rw [f_Lies, hw]
      congr 1
      congr 1
      by_cases h : x < (n : Int) <;> simp [h] <;> omega
    have H := up (n := p.length) (P := fun i => okTo n p i → Ev (fun k => r00_Order.l0 k p (n : Int) ((List.range n).map (fun (v : Nat) => stands p i (v : Int))) (i : Int)) (okPlaces n p))
      (fun h => by
        rw [(okPlaces_iff n p).2 h]
        exact Ev.step (f := fun _ => some true) (fun k => by simp only [r00_Order.l0]; rw [if_neg (by omega)]) (Ev.now _))
      (fun i hi ih hok => by
        cases hb : (decide (0 ≤ rd p (i : Int)) && decide (rd p (i : Int) < (n : Int)))
        · rw [okPlaces_false n p i hi (by rw [hb]; rfl)]
          refine Ev.step (f := fun _ => some false) (fun k => ?_) (Ev.now _)
          simp only [r00_Order.l0]; rw [if_pos (by omega), if_pos (by omega), hL, hb]; rfl
        · have hb2 := hb
          simp only [Bool.and_eq_true, decide_eq_true_eq] at hb2
          have hg : rdOf false ((List.range n).map (fun (v : Nat) => stands p i (v : Int))) (rd p (i : Int)) = stands p i (rd p (i : Int)) := by
            rw [rdB, seen_get n (fun (v : Nat) => stands p i (v : Int)) _ (by omega), Int.toNat_of_nonneg hb2.1]
          have hlen : ((List.range n).map (fun (v : Nat) => stands p i (v : Int))).length = n := by simp
          cases hs : stands p i (rd p (i : Int))
          · rw [hs] at hg
            have e : ((List.range n).map (fun (v : Nat) => stands p i (v : Int))).set (rd p (i : Int)).toNat true = (List.range n).map (fun (v : Nat) => stands p (i + 1) (v : Int)) := by
              have e1 : true = (fun v : Nat => stands p (i + 1) (v : Int)) (rd p (i : Int)).toNat := by
                simp only
                rw [Int.toNat_of_nonneg hb2.1, stands_succ]; simp
              rw [e1]
              refine map_set n _ (fun v : Nat => stands p (i + 1) (v : Int)) _ (fun v hv hne => ?_)
              rw [stands_succ]
              have : (rd p (i : Int) == (v : Int)) = false := by simp; omega
              rw [this, Bool.or_false]
            refine Ev.step (f := fun k => r00_Order.l0 k p (n : Int) ((List.range n).map (fun (v : Nat) => stands p (i + 1) (v : Int))) ((i + 1 : Nat) : Int)) (fun k => ?_) (ih (fun j hj => ?_))
            · simp only [r00_Order.l0]; rw [if_pos (by omega), if_pos (by omega), hL, hb]
              simp only [Option.bind_some, if_true]
              rw [if_pos hb2.1, if_pos (by rw [hlen]; exact hb2.2), hg, if_neg (by simp), e, wsucc hi (by omega)]
            · by_cases ej : j = i
              · subst ej; rw [hb, hs]; rfl
              · exact hok j (by omega)
          · rw [hs] at hg
            rw [okPlaces_false n p i hi (by rw [hb, hs]; rfl)]
            refine Ev.step (f := fun _ => some false) (fun k => ?_) (Ev.now _)
            simp only [r00_Order.l0]; rw [if_pos (by omega), if_pos (by omega), hL, hb]
            simp only [Option.bind_some, if_true]
            rw [if_pos hb2.1, if_pos (by rw [hlen]; exact hb2.2), hg]; simp) 0 (Nat.zero_le _) (fun j hj => by omega)
    have e0 : (List.range n).map (fun (v : Nat) => stands p 0 (v : Int)) = List.replicate n false := by
      apply List.ext_getElem?
      intro v
      by_cases hv : v < n
      · rw [List.getElem?_map, List.getElem?_range hv, List.getElem?_replicate, if_pos hv]; simp [stands]
      · rw [List.getElem?_eq_none (by simp; omega), List.getElem?_eq_none (by simp; omega)]
    rw [e0] at H
    simp only [hl, decide_true, Bool.true_and]
    refine Ev.congr (fun k => ?_) H
    unfold r00_Order.f
    rw [if_pos (by omega), if_pos (by omega), if_pos (by omega)]
    simp
  · simp only [hl, decide_false, Bool.false_and]
    refine Ev.congr (f := fun _ => some false) (fun k => ?_) (Ev.now _)
    unfold r00_Order.f
    rw [if_neg (by omega)]
theorem whereIs_at (p : List Int) (m : Nat) (k : Int) (h : stands p m k = true) : 0 ≤ whereIs p m k ∧ whereIs p m k < m ∧ rd p (whereIs p m k) = k := by
  unfold whereIs
  cases hf : (List.range m).find? (fun (j : Nat) => rd p (j : Int) == k) with
  | none =>
    obtain ⟨j, hj, e⟩ := (stands_iff p m k).1 h
    have := List.find?_eq_none.1 hf j (List.mem_range.2 hj)
    simp [e] at this
  | some j =>
    have h1 := List.mem_of_find?_eq_some hf
    have h2 := List.find?_some hf
    simp only [Option.elim_some]
    rw [List.mem_range] at h1
    exact ⟨by omega, by omega, by simpa using h2⟩
theorem f_Turn (n m : Int) (hm : m ≤ 4611686018427387904) : ∃ t, r00_Turn.f n m = some t ∧ 0 ≤ t ∧ (0 < m → t < m) := by
  unfold r00_Turn.f
  by_cases h1 : m < 1
  · exact ⟨0, by rw [if_pos h1], by omega, fun h => by omega⟩
  · rw [if_neg h1, if_neg (by omega)]
    have hlt := Int.tmod_lt_of_pos n (show 0 < m by omega)
    have hgt : -m < n.tmod m := by
      have := Int.lt_tmod_of_pos n (show 0 < m by omega)
      exact this
    by_cases h2 : n.tmod m < 0
    · rw [if_pos h2]
      exact ⟨_, rfl, by unfold wrap64; omega, fun _ => by unfold wrap64; omega⟩
    · rw [if_neg h2]
      exact ⟨_, rfl, by omega, fun _ => hlt⟩
theorem wrap32_word (x : Int) : isWordB (wrap64 (wrap32 x)) = true := by
  rw [isWordB_iff]; unfold wrap64 wrap32; omega
theorem f_Copy (a : List Int) (h : a.length < 17592186044416) : r00_Copy.f a = some a := by
  unfold r00_Copy.f
  simp only [Option.bind_some]
  rw [if_pos (by simp; omega)]; rfl
theorem upInts_mem (n : Nat) (x : Int) : x ∈ upInts n ↔ 0 ≤ x ∧ x < n := by
  unfold upInts
  rw [List.mem_map]
  constructor
  · rintro ⟨i, hi, rfl⟩
    rw [List.mem_range] at hi
    omega
  · rintro ⟨h0, h1⟩
    exact ⟨x.toNat, by rw [List.mem_range]; omega, by omega⟩
theorem upInts_nodup (n : Nat) : (upInts n).Nodup := by
  unfold upInts
  rw [List.Nodup, List.pairwise_map]
  exact List.Pairwise.imp (fun h => by omega) List.pairwise_lt_range
theorem perm_ok (p : List Int) (n : Nat) (h : p.Perm (upInts n)) : p.length = n ∧ okTo n p p.length := by
  have hl := h.length_eq
  rw [upInts_length] at hl
  refine ⟨hl, fun j hj => ?_⟩
  have hm := (upInts_mem n (rd p (j : Int))).1 (h.mem_iff.1 (rd_mem p (j : Int) (by omega) (by omega)))
  have hnd := h.nodup_iff.2 (upInts_nodup n)
  simp only [Bool.and_eq_true, decide_eq_true_eq, Bool.not_eq_true']
  refine ⟨hm, ?_⟩
  cases hs : stands p j (rd p (j : Int))
  · rfl
  · obtain ⟨i, hi, e⟩ := (stands_iff _ _ _).1 hs
    rw [rd_get (by omega), rd_get hj] at e
    have := (List.nodup_iff_pairwise_ne.1 hnd)
    have := (List.pairwise_iff_getElem.1 this) i j (by omega) hj hi
    exact absurd e this
theorem mem_rd {l : List Int} {x : Int} (h : x ∈ l) : ∃ i : Nat, i < l.length ∧ x = rd l (i : Int) := by
  obtain ⟨i, hi, e⟩ := List.getElem_of_mem h
  exact ⟨i, hi, by rw [rd_get hi, e]⟩
def cn (P : Nat → Bool) : Nat → Nat
  | 0 => 0
  | k + 1 => cn P k + (if P k = true then 1 else 0)
theorem cn_le (P : Nat → Bool) : ∀ n, cn P n ≤ n
  | 0 => Nat.le_refl _
  | n + 1 => by
    have := cn_le P n
    unfold cn
    split <;> omega
theorem cn_congr {P Q : Nat → Bool} : ∀ n, (∀ k, k < n → P k = Q k) → cn P n = cn Q n
  | 0, _ => rfl
  | n + 1, h => by
    unfold cn
    rw [cn_congr n (fun k hk => h k (by omega)), h n (by omega)]
theorem cn_below (j : Nat) : ∀ n, cn (fun k => decide (k < j)) n = min j n
  | 0 => by simp [cn]
  | n + 1 => by
    unfold cn
    rw [cn_below j n]
    by_cases h : n < j
    · rw [if_pos (by simpa using h)]; omega
    · rw [if_neg (by simpa using h)]; omega
theorem cn_eq {P : Nat → Bool} {n j : Nat} (hj : j ≤ n) (h1 : ∀ k, k < j → P k = true) (h2 : ∀ k, j ≤ k → k < n → P k = false) : cn P n = j := by
  rw [cn_congr (Q := fun k => decide (k < j)) n (fun k hk => ?_), cn_below]
  · omega
  · by_cases h : k < j
    · rw [h1 k h]; simp [h]
    · rw [h2 k (by omega) hk]; simp [h]
def mgA (a b : List Int) (i : Nat) : Int := ((i + cn (fun k => decide (rd b (k : Int) < rd a (i : Int))) b.length : Nat) : Int)
def mgB (a b : List Int) (k : Nat) : Int := ((k + cn (fun i => decide (rd a (i : Int) ≤ rd b (k : Int))) a.length : Nat) : Int)
theorem sortedB_le {l : List Int} (h : sortedB l = true) (i : Nat) : ∀ d : Nat, i + d < l.length → rd l (i : Int) ≤ rd l ((i + d : Nat) : Int)
  | 0, _ => Int.le_refl _
  | d + 1, hd => by
    have h1 := sortedB_le h i d (by omega)
    have h2 := List.all_eq_true.1 h (i + d) (List.mem_range.2 (by omega))
    have e : ((i + d : Nat) : Int) + 1 = ((i + (d + 1) : Nat) : Int) := by omega
    simp only [Bool.not_eq_true', decide_eq_false_iff_not, e] at h2
    omega
theorem sortedB_mono {l : List Int} (h : sortedB l = true) (i j : Nat) (hij : i ≤ j) (hj : j < l.length) : rd l (i : Int) ≤ rd l (j : Int) := by
  obtain ⟨d, rfl⟩ : ∃ d, j = i + d := ⟨j - i, by omega⟩
  exact sortedB_le h i d hj
theorem mgOf_at (a b : List Int) (ha : sortedB a = true) (hb : sortedB b = true) : ∀ n, n ≤ a.length + b.length → ∃ i j, i + j = n ∧ i ≤ a.length ∧ j ≤ b.length ∧ mgOf a b n = ((List.range i).map (mgA a b), (List.range j).map (mgB a b)) ∧
    (i < a.length → ∀ k, k < j → rd b (k : Int) < rd a (i : Int)) ∧ (j < b.length → ∀ k, k < i → rd a (k : Int) ≤ rd b (j : Int))
  | 0, _ => ⟨0, 0, rfl, Nat.zero_le _, Nat.zero_le _, rfl, fun _ k hk => absurd hk (Nat.not_lt_zero _), fun _ k hk => absurd hk (Nat.not_lt_zero _)⟩
  | n + 1, hn => by
    obtain ⟨i, j, hij, hi, hj, e, h1, h2⟩ := mgOf_at a b ha hb n (by omega)
    have e1 : (mgOf a b n).1.length = i := by rw [e]; simp
    have e2 : (mgOf a b n).2.length = j := by rw [e]; simp
    unfold mgOf
    rw [e1, e2, e]
    cases ht : takeA a b i j
    · have ht2 : j ≠ b.length ∧ (i < a.length → rd b (j : Int) < rd a (i : Int)) := by
        unfold takeA at ht
        simp only [Bool.or_eq_false_iff, decide_eq_false_iff_not, Bool.and_eq_false_iff] at ht
        refine ⟨ht.1, fun hi2 => ?_⟩
        rcases ht.2 with h | h
        · omega
        · omega
      have hj2 : j < b.length := by omega
      have hn2 : (n : Int) = mgB a b j := by
        unfold mgB
        rw [cn_eq hi (fun k hk => decide_eq_true (h2 hj2 k hk)) (fun k hk hk2 => decide_eq_false (by
          have q1 := ht2.2 (by omega)
          have q2 := sortedB_mono ha i k hk hk2
          omega))]
        omega
      refine ⟨i, j + 1, by omega, hi, by omega, ?_, ?_, ?_⟩
      · rw [if_neg (by simp), List.range_succ, List.map_append, hn2]; rfl
      · intro hi2 k hk
        by_cases hkj : k = j
        · subst hkj; exact ht2.2 hi2
        · exact h1 hi2 k (by omega)
      · intro hj3 k hk
        have q1 := h2 hj2 k hk
        have q2 := sortedB_mono hb j (j + 1) (by omega) hj3
        omega
    · have ht2 : j = b.length ∨ (i < a.length ∧ rd a (i : Int) ≤ rd b (j : Int)) := by
        unfold takeA at ht
        simpa using ht
      have hi2 : i < a.length := by
        rcases ht2 with h | h
        · omega
        · exact h.1
      have hn2 : (n : Int) = mgA a b i := by
        unfold mgA
        rw [cn_eq hj (fun k hk => decide_eq_true (h1 hi2 k hk)) (fun k hk hk2 => decide_eq_false (by
          rcases ht2 with h | h
          · omega
          · have q2 := sortedB_mono hb j k hk hk2
            omega))]
        omega
      refine ⟨i + 1, j, by omega, by omega, hj, ?_, ?_, ?_⟩
      · rw [if_pos rfl, List.range_succ, List.map_append, hn2]; rfl
      · intro hi3 k hk
        have q1 := h1 hi2 k hk
        have q2 := sortedB_mono ha i (i + 1) (by omega) hi3
        omega
      · intro hj2 k hk
        by_cases hki : k = i
        · subst hki
          rcases ht2 with h | h
          · omega
          · exact h.2
        · exact h2 hj2 k (by omega)
theorem mgOf_closed (a b : List Int) (ha : sortedB a = true) (hb : sortedB b = true) : mgOf a b (a.length + b.length) = ((List.range a.length).map (mgA a b), (List.range b.length).map (mgB a b)) := by
  obtain ⟨i, j, hij, hi, hj, e, _⟩ := mgOf_at a b ha hb (a.length + b.length) (Nat.le_refl _)
  obtain rfl : i = a.length := by omega
  obtain rfl : j = b.length := by omega
  exact e
theorem startOf_step (lens : List Int) (i : Nat) (hi : i < lens.length) : startOf lens ((i + 1 : Nat) : Int) = startOf lens (i : Int) + (rd lens (i : Int)).toNat := by
  rw [show ((i + 1 : Nat) : Int) = (i : Int) + 1 from by omega, startOf_succ lens (i : Int) (by omega) (by omega)]
theorem startOf_up (lens : List Int) (i j : Nat) (hij : i ≤ j) (hj : j ≤ lens.length) : startOf lens (i : Int) ≤ startOf lens (j : Int) := by
  obtain ⟨d, rfl⟩ : ∃ d, j = i + d := ⟨j - i, by omega⟩
  have := startOf_mono lens (i : Int) (by omega) d (by omega)
  rw [show ((i + d : Nat) : Int) = (i : Int) + d from by omega]
  exact this
def perSeg (F : Nat → Nat → Nat → Int) (lens : List Int) : Nat → List Int
  | 0 => []
  | i + 1 => perSeg F lens i ++ (List.range (rd lens (i : Int)).toNat).map (F (startOf lens (i : Int)) (rd lens (i : Int)).toNat)
theorem perSeg_length (F : Nat → Nat → Nat → Int) (lens : List Int) : ∀ i, i ≤ lens.length → (perSeg F lens i).length = startOf lens (i : Int)
  | 0, _ => rfl
  | i + 1, h => by
    show (perSeg F lens i ++ _).length = _
    rw [List.length_append, perSeg_length F lens i (by omega), List.length_map, List.length_range, startOf_step lens i (by omega)]
theorem rd_app_lt (a b : List Int) (i : Nat) (h : i < a.length) : rd (a ++ b) (i : Int) = rd a (i : Int) := by
  rw [rdn, rdn, List.getD_eq_getElem?_getD, List.getD_eq_getElem?_getD, List.getElem?_append_left h]
theorem rd_app_ge (a b : List Int) (i : Nat) : rd (a ++ b) ((a.length + i : Nat) : Int) = rd b (i : Int) := by
  rw [rdn, rdn, List.getD_eq_getElem?_getD, List.getD_eq_getElem?_getD, List.getElem?_append_right (by omega)]
  congr 2
  omega
theorem rd_mapRange (f : Nat → Int) (n i : Nat) (h : i < n) : rd ((List.range n).map f) (i : Int) = f i := by
  rw [rdn, List.getD_eq_getElem?_getD, List.getElem?_map, List.getElem?_range h]; rfl
theorem rd_perSeg (F : Nat → Nat → Nat → Int) (lens : List Int) (s j : Nat) : ∀ m, m ≤ lens.length → s < m → j < (rd lens (s : Int)).toNat → rd (perSeg F lens m) ((startOf lens (s : Int) + j : Nat) : Int) = F (startOf lens (s : Int)) (rd lens (s : Int)).toNat j
  | 0, _, h, _ => absurd h (Nat.not_lt_zero _)
  | m + 1, hm, hs, hj => by
    show rd (perSeg F lens m ++ _) _ = _
    have hl := perSeg_length F lens m (by omega)
    by_cases c : s = m
    · subst c
      rw [← hl, rd_app_ge, rd_mapRange _ _ _ hj]
    · have h1 := startOf_up lens (s + 1) m (by omega) (by omega)
      rw [startOf_step lens s (by omega)] at h1
      rw [rd_app_lt _ _ _ (by omega)]
      exact rd_perSeg F lens s j m (by omega) (by omega) hj
theorem seg_at (lens : List Int) (p : Nat) : ∀ m, m ≤ lens.length → p < startOf lens (m : Int) → ∃ s j, s < m ∧ j < (rd lens (s : Int)).toNat ∧ p = startOf lens (s : Int) + j
  | 0, _, h => by rw [show ((0 : Nat) : Int) = 0 from rfl, startOf_zero] at h; omega
  | m + 1, hm, h => by
    rw [startOf_step lens m (by omega)] at h
    by_cases c : p < startOf lens (m : Int)
    · obtain ⟨s, j, h1, h2, h3⟩ := seg_at lens p m (by omega) c
      exact ⟨s, j, by omega, h2, h3⟩
    · exact ⟨m, p - startOf lens (m : Int), by omega, by omega, by omega⟩
theorem ext_of_rd {a b : List Int} (hl : a.length = b.length) (h : ∀ i : Nat, i < a.length → rd a (i : Int) = rd b (i : Int)) : a = b := by
  apply List.ext_getElem hl
  intro i h1 h2
  have := h i h1
  rwa [rd_get h1, rd_get h2] at this
theorem perSeg_ext (F : Nat → Nat → Nat → Int) (lens : List Int) (m : Nat) (hm : m ≤ lens.length) (X : List Int) (hl : X.length = startOf lens (m : Int))
    (h : ∀ s j, s < m → j < (rd lens (s : Int)).toNat → rd X ((startOf lens (s : Int) + j : Nat) : Int) = F (startOf lens (s : Int)) (rd lens (s : Int)).toNat j) : X = perSeg F lens m := by
  refine ext_of_rd (by rw [hl, perSeg_length F lens m hm]) (fun p hp => ?_)
  obtain ⟨s, j, h1, h2, rfl⟩ := seg_at lens p m hm (by omega)
  rw [h s j h1 h2, rd_perSeg F lens s j m hm h1 h2]
def ltK (K : Int → Int) (l : List Int) (i k : Nat) : Bool := decide (K (rd l (i : Int)) < K (rd l (k : Int))) || (decide (K (rd l (i : Int)) = K (rd l (k : Int))) && decide (i < k))
def plK (K : Int → Int) (l : List Int) (st n i : Nat) : Int := ((st + cn (fun j => ltK K l (st + j) (st + i)) n : Nat) : Int)
def byK (K : Int → Int) (l lens : List Int) : List Int := perSeg (plK K l) lens lens.length
theorem ltK_irrefl (K : Int → Int) (l : List Int) (i : Nat) : ltK K l i i = false := by simp [ltK]
theorem seg_in {l lens : List Int} (hok : okLens l lens = true) (s : Nat) (hs : s < lens.length) : 0 ≤ rd lens (s : Int) ∧ startOf lens (s : Int) + (rd lens (s : Int)).toNat ≤ l.length := by
  obtain ⟨h1, h2⟩ := okLens_pos hok
  have h3 := startOf_up lens (s + 1) lens.length (by omega) (Nat.le_refl _)
  rw [startOf_step lens s hs, h2] at h3
  refine ⟨?_, h3⟩
  rw [rd_get hs]
  exact h1 _ (List.getElem_mem hs)
theorem cn_succ (P : Nat → Bool) (n : Nat) : cn P (n + 1) = cn P n + (if P n = true then 1 else 0) := rfl
theorem cn_countP (P : Nat → Bool) : ∀ n, cn P n = (List.range n).countP P
  | 0 => rfl
  | n + 1 => by
    rw [cn_succ, cn_countP P n, List.range_succ, List.countP_append, List.countP_singleton]
theorem countP_index {α : Type} (L : List α) (P : α → Bool) (k : Nat) (hk : k ≤ L.length) (h1 : ∀ m (hm : m < L.length), m < k → P L[m] = true) (h2 : ∀ m (hm : m < L.length), k ≤ m → P L[m] = false) : L.countP P = k := by
  have e : L.countP P = (L.take k ++ L.drop k).countP P := by rw [List.take_append_drop]
  rw [e, List.countP_append]
  have e1 : (L.take k).countP P = (L.take k).length := by
    rw [List.countP_eq_length]
    intro x hx
    obtain ⟨m, hm, rfl⟩ := List.mem_iff_getElem.1 hx
    rw [List.length_take] at hm
    rw [List.getElem_take]
    exact h1 m (by omega) (by omega)
  have e2 : (L.drop k).countP P = 0 := by
    rw [List.countP_eq_zero]
    intro x hx
    obtain ⟨m, hm, rfl⟩ := List.mem_iff_getElem.1 hx
    rw [List.length_drop] at hm
    rw [List.getElem_drop, h2 (k + m) (by omega) (by omega)]
    simp
  rw [e1, e2, List.length_take]
  omega
theorem elemsOf_nodup (b : Nat) (l : List Int) (k : Nat) : (elemsOf b l k).Nodup := by
  unfold elemsOf
  rw [List.nodup_iff_pairwise_ne, List.pairwise_map]
  exact List.pairwise_lt_range.imp (fun {a c} h e => by
    have := (Prod.mk.inj e).2
    omega)
theorem ltOf_elem (b : Nat) (l : List Int) (j i : Nat) : Go.Proofs.ltOf cfE (rd l (j : Int), ((b + j : Nat) : Int)) (rd l (i : Int), ((b + i : Nat) : Int)) = ltK (fun x => x) l j i := by
  rw [ltE]
  unfold ltK
  congr 2
  apply decide_eq_decide.2
  omega
theorem sorted_lt (b : Nat) (l : List Int) (i j : Nat) (hij : i < j) (hj : j < (sortedG b l).length) : Go.Proofs.ltOf cfE (sortedG b l)[i] (sortedG b l)[j] = true := by
  have hp : (sortedG b l).Pairwise (fun a b => leE a b = true) := List.pairwise_mergeSort leE_trans leE_total _
  have hn : (sortedG b l).Nodup := (List.mergeSort_perm (elemsOf b l l.length) leE).nodup_iff.2 (elemsOf_nodup b l l.length)
  have h1 := (List.pairwise_iff_getElem.1 hp) i j (by omega) hj hij
  have h2 := (List.pairwise_iff_getElem.1 (List.nodup_iff_pairwise_ne.1 hn)) i j (by omega) hj hij
  cases h : Go.Proofs.ltOf cfE (sortedG b l)[i] (sortedG b l)[j]
  · unfold leE at h1
    exact absurd (totE _ _ h (by simpa using h1)) h2
  · rfl
theorem sorted_index (b : Nat) (l : List Int) (i : Nat) (hi : i < l.length) : ∃ k, k < l.length ∧ (sortedG b l).getD k (0, 0) = (rd l (i : Int), ((b + i : Nat) : Int)) ∧ k = cn (fun j => ltK (fun x => x) l j i) l.length := by
  have hperm := List.mergeSort_perm (elemsOf b l l.length) leE
  have hm : (rd l (i : Int), ((b + i : Nat) : Int)) ∈ sortedG b l := hperm.mem_iff.2 (List.mem_map.2 ⟨i, List.mem_range.2 hi, rfl⟩)
  obtain ⟨k, hk, he⟩ := List.mem_iff_getElem.1 hm
  have hlen := sortedG_length b l
  refine ⟨k, by omega, by rw [List.getD_eq_getElem?_getD, List.getElem?_eq_getElem hk, Option.getD_some, he], ?_⟩
  have hc : (sortedG b l).countP (fun y => Go.Proofs.ltOf cfE y (rd l (i : Int), ((b + i : Nat) : Int))) = k := by
    refine countP_index _ _ k (by omega) (fun m hm hmk => ?_) (fun m hm hkm => ?_)
    · rw [← he]; exact sorted_lt b l m k hmk hk
    · rw [← he]
      by_cases e : m = k
      · subst e; exact swoE.irrefl _
      · have := sorted_lt b l k m (by omega) hm
        rw [ltE] at this ⊢
        simp at this ⊢
        omega
  have h2 : (sortedG b l).countP (fun y => Go.Proofs.ltOf cfE y (rd l (i : Int), ((b + i : Nat) : Int))) = (elemsOf b l l.length).countP (fun y => Go.Proofs.ltOf cfE y (rd l (i : Int), ((b + i : Nat) : Int))) := hperm.countP_eq _
  rw [cn_countP, ← hc, h2]
  unfold elemsOf
  rw [List.countP_map]
  congr 1
  funext j
  exact ltOf_elem b l j i
theorem rd_set (l : List Int) (q : Nat) (v : Int) (p : Nat) (hq : q < l.length) : rd (l.set q v) (p : Int) = if p = q then v else rd l (p : Int) := by
  rw [rdn, rdn, List.getD_eq_getElem?_getD, List.getD_eq_getElem?_getD, List.getElem?_set]
  by_cases e : p = q
  · subst e; simp [hq]
  · rw [if_neg (fun h => e h.symm), if_neg e]
theorem setsTo_miss (xs : List Int) (S : List (Int × Int)) (val : Nat → Int) (p : Nat) : ∀ m, (∀ k, k < m → (S.getD k (0, 0)).2.toNat < xs.length ∧ (S.getD k (0, 0)).2.toNat ≠ p) → rd (setsTo xs S val m) (p : Int) = rd xs (p : Int)
  | 0, _ => rfl
  | m + 1, h => by
    obtain ⟨h1, h2⟩ := h m (by omega)
    rw [setsTo, rd_set _ _ _ _ (by rw [setsTo_length]; exact h1), if_neg (fun e => h2 e.symm)]
    exact setsTo_miss xs S val p m (fun k hk => h k (by omega))
theorem setsTo_hit (xs : List Int) (S : List (Int × Int)) (val : Nat → Int) (q : Nat) : ∀ m, q < m → (∀ k, k < m → (S.getD k (0, 0)).2.toNat < xs.length) → (∀ k, q < k → k < m → (S.getD k (0, 0)).2.toNat ≠ (S.getD q (0, 0)).2.toNat) → rd (setsTo xs S val m) (((S.getD q (0, 0)).2.toNat : Nat) : Int) = val q
  | 0, h, _, _ => absurd h (Nat.not_lt_zero _)
  | m + 1, hq, h1, h2 => by
    rw [setsTo, rd_set _ _ _ _ (by rw [setsTo_length]; exact h1 m (by omega))]
    by_cases e : q = m
    · subst e; rw [if_pos rfl]
    · rw [if_neg (fun x => h2 m (by omega) (by omega) x.symm)]
      exact setsTo_hit xs S val q m (by omega) (fun k hk => h1 k (by omega)) (fun k hk hk2 => h2 k hk (by omega))
theorem setsTo_seg (xs : List Int) (b : Nat) (s : List Int) (val : Nat → Int) (hx : b + s.length ≤ xs.length) (i : Nat) (hi : i < s.length) :
    ∃ k, k < s.length ∧ (sortedG b s).getD k (0, 0) = (rd s (i : Int), ((b + i : Nat) : Int)) ∧ k = cn (fun j => ltK (fun x => x) s j i) s.length ∧ rd (setsTo xs (sortedG b s) val s.length) ((b + i : Nat) : Int) = val k := by
  obtain ⟨k, hk, he, hc⟩ := sorted_index b s i hi
  refine ⟨k, hk, he, hc, ?_⟩
  have hr : ∀ k, k < s.length → (((sortedG b s).getD k (0, 0)).2.toNat < xs.length) := fun k hk => by
    obtain ⟨j, hj, e⟩ := sortedG_mem b s k hk
    rw [e]; simp only [Int.toNat_natCast]; omega
  have H := setsTo_hit xs (sortedG b s) val k s.length hk hr (fun k2 h1 h2 e => by
    obtain ⟨j, hj, e2⟩ := sortedG_mem b s k2 h2
    rw [he, e2] at e
    simp only [Int.toNat_natCast] at e
    obtain rfl : j = i := by omega
    have hlen := sortedG_length b s
    have hlt := sorted_lt b s k k2 h1 (by omega)
    have q1 : (sortedG b s)[k]'(by omega) = (sortedG b s).getD k (0, 0) := by rw [List.getD_eq_getElem?_getD, List.getElem?_eq_getElem (by omega), Option.getD_some]
    have q2 : (sortedG b s)[k2]'(by omega) = (sortedG b s).getD k2 (0, 0) := by rw [List.getD_eq_getElem?_getD, List.getElem?_eq_getElem (by omega), Option.getD_some]
    rw [q1, q2, he, e2, swoE.irrefl] at hlt
    cases hlt)
  rw [he] at H
  simp only [Int.toNat_natCast] at H
  exact H
theorem setsTo_out (xs : List Int) (b : Nat) (s : List Int) (val : Nat → Int) (hx : b + s.length ≤ xs.length) (p : Nat) (hp : p < b) : rd (setsTo xs (sortedG b s) val s.length) (p : Int) = rd xs (p : Int) :=
  setsTo_miss xs _ val p s.length (fun k hk => by
    obtain ⟨j, hj, e⟩ := sortedG_mem b s k hk
    rw [e]; simp only [Int.toNat_natCast]
    exact ⟨by omega, by omega⟩)
theorem rd_segOf (l lens : List Int) (s j : Nat) (hj : j < (rd lens (s : Int)).toNat) : rd (segOf l lens s) (j : Int) = rd l ((startOf lens (s : Int) + j : Nat) : Int) := rd_seg l _ _ j hj
theorem segOf_len {l lens : List Int} (hok : okLens l lens = true) (s : Nat) (hs : s < lens.length) : (segOf l lens s).length = (rd lens (s : Int)).toNat := by
  obtain ⟨_, h⟩ := seg_in hok s hs
  unfold segOf
  rw [List.length_take, List.length_drop]
  omega
theorem orderTo_at {l lens : List Int} (hok : okLens l lens = true) : ∀ m, m ≤ lens.length → ∀ s j, s < m → j < (rd lens (s : Int)).toNat → rd (orderTo l lens m) ((startOf lens (s : Int) + j : Nat) : Int) = plK (fun x => x) l (startOf lens (s : Int)) (rd lens (s : Int)).toNat j
  | 0, _, s, _, h, _ => absurd h (Nat.not_lt_zero _)
  | m + 1, hm, s, j, hs, hj => by
    have hsl := segOf_len hok m (by omega)
    obtain ⟨_, hin⟩ := seg_in hok m (by omega)
    have hlen := orderTo_length l lens m
    rw [orderTo, ← hsl]
    by_cases e : s = m
    · subst e
      obtain ⟨k, hk, he, hc, hv⟩ := setsTo_seg (orderTo l lens s) (startOf lens (s : Int)) (segOf l lens s) (fun k => ((startOf lens (s : Int) + k : Nat) : Int)) (by omega) j (by omega)
      rw [hv]
      unfold plK
      rw [hc, hsl]
      congr 2
      refine cn_congr _ (fun i hi => ?_)
      unfold ltK
      rw [rd_segOf l lens s i hi, rd_segOf l lens s j hj]
      congr 2
      apply decide_eq_decide.2
      omega
    · have h1 := startOf_up lens (s + 1) m (by omega) (by omega)
      rw [startOf_step lens s (by omega)] at h1
      rw [setsTo_out _ _ _ _ (by omega) _ (by omega)]
      exact orderTo_at hok m (by omega) s j (by omega) hj
theorem order_closed {l lens : List Int} (hok : okLens l lens = true) : orderTo l lens lens.length = byK (fun x => x) l lens :=
  perSeg_ext _ lens lens.length (Nat.le_refl _) _ (by rw [orderTo_length, (okLens_pos hok).2]) (fun s j hs hj => orderTo_at hok lens.length (Nat.le_refl _) s j hs hj)
theorem cn_imp {P Q : Nat → Bool} : ∀ n, (∀ k, k < n → P k = true → Q k = true) → cn P n ≤ cn Q n
  | 0, _ => Nat.le_refl _
  | n + 1, h => by
    rw [cn_succ, cn_succ]
    have h1 := cn_imp n (fun k hk => h k (by omega))
    have := h n (by omega)
    cases hp : P n
    · simp; omega
    · rw [this hp]; simp; omega
theorem cn_lt {P Q : Nat → Bool} : ∀ n, (∀ k, k < n → P k = true → Q k = true) → ∀ j, j < n → P j = false → Q j = true → cn P n < cn Q n
  | 0, _, j, h, _, _ => absurd h (Nat.not_lt_zero _)
  | n + 1, h, j, hj, hp, hq => by
    rw [cn_succ, cn_succ]
    by_cases e : j = n
    · subst e
      have h1 := cn_imp j (fun k hk => h k (by omega))
      rw [hp, hq]; simp; omega
    · have h1 := cn_lt n (fun k hk => h k (by omega)) j (by omega) hp hq
      have := h n (by omega)
      cases hpn : P n
      · simp; omega
      · rw [this hpn]; simp; omega
theorem ltK_iff (K : Int → Int) (l : List Int) (i k : Nat) : ltK K l i k = true ↔ K (rd l (i : Int)) < K (rd l (k : Int)) ∨ (K (rd l (i : Int)) = K (rd l (k : Int)) ∧ i < k) := by simp [ltK]
theorem ltK_trans {K : Int → Int} {l : List Int} {a b c : Nat} (h1 : ltK K l a b = true) (h2 : ltK K l b c = true) : ltK K l a c = true := by
  rw [ltK_iff] at *
  omega
theorem ltK_tri (K : Int → Int) (l : List Int) (a b : Nat) (h : a ≠ b) : ltK K l a b = true ∨ ltK K l b a = true := by
  rw [ltK_iff, ltK_iff]
  omega
/-- The number of those of a segment that go ahead of one of them. -/
def rkK (K : Int → Int) (l : List Int) (st n i : Nat) : Nat := cn (fun j => ltK K l (st + j) (st + i)) n
theorem rkK_lt {K : Int → Int} {l : List Int} {st n i j : Nat} (hi : i < n) (h : ltK K l (st + i) (st + j) = true) : rkK K l st n i < rkK K l st n j :=
  cn_lt n (fun k _ hk => ltK_trans hk h) i hi (ltK_irrefl K l (st + i)) h
theorem rkK_iff (K : Int → Int) (l : List Int) (st n i j : Nat) (hi : i < n) (hj : j < n) : rkK K l st n i < rkK K l st n j ↔ ltK K l (st + i) (st + j) = true := by
  refine ⟨fun h => ?_, rkK_lt hi⟩
  by_cases e : i = j
  · subst e; omega
  · rcases ltK_tri K l (st + i) (st + j) (by omega) with h2 | h2
    · exact h2
    · have := rkK_lt (K := K) (l := l) (st := st) (n := n) hj h2
      omega
theorem rkK_inj (K : Int → Int) (l : List Int) (st n i j : Nat) (hi : i < n) (hj : j < n) (h : rkK K l st n i = rkK K l st n j) : i = j := by
  by_cases e : i = j
  · exact e
  · rcases ltK_tri K l (st + i) (st + j) (by omega) with h2 | h2
    · have := rkK_lt (n := n) hi h2; omega
    · have := rkK_lt (n := n) hj h2; omega
theorem rkK_range (K : Int → Int) (l : List Int) (st n i : Nat) (hi : i < n) : rkK K l st n i < n := by
  have h := cn_lt (P := fun j => ltK K l (st + j) (st + i)) (Q := fun _ => true) n (fun _ _ _ => rfl) i hi (ltK_irrefl K l (st + i)) rfl
  have h2 := cn_le (fun _ => true) n
  unfold rkK
  omega
theorem onto (n : Nat) (f : Nat → Nat) (h1 : ∀ i, i < n → f i < n) (h2 : ∀ i j, i < n → j < n → f i = f j → i = j) (v : Nat) (hv : v < n) : ∃ i, i < n ∧ f i = v := by
  have hr : ∀ i : Nat, i < n → rd ((List.range n).map (fun i => (f i : Int))) (i : Int) = (f i : Int) := fun i hi => rd_mapRange _ n i hi
  have ho : okTo n ((List.range n).map (fun i => (f i : Int))) n := by
    intro j hj
    rw [hr j hj, decide_eq_true (by omega), decide_eq_true (by have := h1 j hj; omega), Bool.true_and, Bool.true_and, Bool.not_eq_true']
    cases hs : stands ((List.range n).map (fun i => (f i : Int))) j (f j : Int)
    · rfl
    · obtain ⟨q, hq, e⟩ := (stands_iff _ _ _).1 hs
      rw [hr q (by omega)] at e
      have := h2 q j (by omega) hj (by omega)
      omega
  obtain ⟨i, hi, e⟩ := (stands_iff _ _ _).1 (all_stand n _ ho v hv)
  rw [hr i hi] at e
  exact ⟨i, hi, by omega⟩
theorem cn_perm (n : Nat) (f : Nat → Nat) (h1 : ∀ i, i < n → f i < n) (h2 : ∀ i j, i < n → j < n → f i = f j → i = j) (P : Nat → Bool) : cn P n = cn (fun j => P (f j)) n := by
  have hp : ((List.range n).map f).Perm (List.range n) := by
    refine (List.perm_ext_iff_of_nodup ?_ List.nodup_range).2 (fun a => ?_)
    · rw [List.nodup_iff_pairwise_ne, List.pairwise_map, List.pairwise_iff_getElem]
      intro i j hi hj hij e
      simp only [List.length_range] at hi hj
      rw [List.getElem_range, List.getElem_range] at e
      have := h2 i j hi hj e
      omega
    · rw [List.mem_map, List.mem_range]
      constructor
      · rintro ⟨i, hi, rfl⟩
        exact h1 i (List.mem_range.1 hi)
      · intro ha
        obtain ⟨i, hi, e⟩ := onto n f h1 h2 a ha
        exact ⟨i, List.mem_range.2 hi, e⟩
  rw [cn_countP, cn_countP, ← hp.countP_eq, List.countP_map]
  rfl
theorem byK_length {K : Int → Int} {l lens : List Int} (hok : okLens l lens = true) : (byK K l lens).length = l.length := by
  rw [byK, perSeg_length _ _ _ (Nat.le_refl _), (okLens_pos hok).2]
theorem rd_byK {K : Int → Int} {l lens : List Int} (s i : Nat) (hs : s < lens.length) (hi : i < (rd lens (s : Int)).toNat) : rd (byK K l lens) ((startOf lens (s : Int) + i : Nat) : Int) = ((startOf lens (s : Int) + rkK K l (startOf lens (s : Int)) (rd lens (s : Int)).toNat i : Nat) : Int) :=
  rd_perSeg (plK K l) lens s i lens.length (Nat.le_refl _) hs hi
theorem byK_range {K : Int → Int} {l lens : List Int} (hok : okLens l lens = true) (q : Nat) (hq : q < l.length) : ∃ v : Nat, rd (byK K l lens) (q : Int) = v ∧ v < l.length := by
  obtain ⟨s, i, hs, hi, rfl⟩ := seg_at lens q lens.length (Nat.le_refl _) (by rw [(okLens_pos hok).2]; exact hq)
  obtain ⟨_, hin⟩ := seg_in hok s hs
  have := rkK_range K l (startOf lens (s : Int)) (rd lens (s : Int)).toNat i hi
  exact ⟨_, rd_byK s i hs hi, by omega⟩
/-- What was moved by places, as a list. -/
def Mv (l p b : List Int) : Prop := b.length = l.length ∧ ∀ q : Nat, q < l.length → rd b (rd p (q : Int)) = rd l (q : Int)
theorem okTo_inj' (n : Nat) (p : List Int) (h : okTo n p p.length) (i j : Nat) (hi : i < p.length) (hj : j < p.length) (e : rd p (i : Int) = rd p (j : Int)) : i = j := by
  by_cases hij : i = j
  · exact hij
  · exfalso
    rcases Nat.lt_or_gt_of_ne hij with c | c
    · have := h j hj
      rw [(stands_iff p j _).2 ⟨i, c, e⟩] at this
      simp at this
    · have := h i hi
      rw [(stands_iff p i _).2 ⟨j, c, e.symm⟩] at this
      simp at this
theorem where_of {p : List Int} (h : okPlaces p.length p = true) (q : Nat) (hq : q < p.length) : stands p p.length (rd p (q : Int)) = true ∧ whereIs p p.length (rd p (q : Int)) = q := by
  have hs : stands p p.length (rd p (q : Int)) = true := (stands_iff _ _ _).2 ⟨q, hq, rfl⟩
  obtain ⟨h0, h1, h2⟩ := whereIs_at p p.length _ hs
  refine ⟨hs, ?_⟩
  have := okTo_inj' p.length p ((okPlaces_iff _ _).1 h) (whereIs p p.length (rd p (q : Int))).toNat q (by omega) hq (by rw [Int.toNat_of_nonneg h0]; exact h2)
  omega
theorem movedAt_Mv {l p : List Int} (hl : p.length = l.length) (h : okPlaces p.length p = true) : Mv l p (movedAt l p p.length) := by
  refine ⟨by unfold movedAt; rw [upTo_length, Int.toNat_natCast], fun q hq => ?_⟩
  obtain ⟨h0, h1, _⟩ := okPlaces_pos h q (by omega)
  obtain ⟨hs, hw⟩ := where_of h q (by omega)
  obtain ⟨v, hv⟩ : ∃ v : Nat, rd p (q : Int) = v := ⟨(rd p (q : Int)).toNat, by omega⟩
  unfold movedAt
  rw [hv] at hs hw ⊢
  rw [Hand.upTo_rd _ _ _ (by omega), hs, if_pos rfl, hw]
theorem byK_ok {K : Int → Int} {l lens : List Int} (hok : okLens l lens = true) : okPlaces (byK K l lens).length (byK K l lens) = true := by
  rw [byK_length hok]
  refine okPlaces_true _ _ (fun q hq => ?_)
  rw [byK_length hok] at hq
  obtain ⟨v, hv, hvl⟩ := byK_range (K := K) hok q hq
  rw [hv, decide_eq_true (by omega), decide_eq_true (by omega), Bool.true_and, Bool.true_and, Bool.not_eq_true']
  cases hs : stands (byK K l lens) q (v : Int)
  · rfl
  · exfalso
    obtain ⟨r, hr, e⟩ := (stands_iff _ _ _).1 hs
    rw [← hv] at e
    have htot := (okLens_pos hok).2
    obtain ⟨s, i, hs1, hi, rfl⟩ := seg_at lens q lens.length (Nat.le_refl _) (by omega)
    obtain ⟨s2, j, hs2, hj, rfl⟩ := seg_at lens r lens.length (Nat.le_refl _) (by omega)
    rw [rd_byK s i hs1 hi, rd_byK s2 j hs2 hj] at e
    have r1 := rkK_range K l (startOf lens (s : Int)) (rd lens (s : Int)).toNat i hi
    have r2 := rkK_range K l (startOf lens (s2 : Int)) (rd lens (s2 : Int)).toNat j hj
    by_cases es : s = s2
    · subst es
      have := rkK_inj K l (startOf lens (s : Int)) (rd lens (s : Int)).toNat i j hi hj (by omega)
      omega
    · rcases Nat.lt_or_gt_of_ne es with c | c
      · have h1 := startOf_up lens (s + 1) s2 (by omega) (by omega)
        rw [startOf_step lens s hs1] at h1
        omega
      · have h1 := startOf_up lens (s2 + 1) s (by omega) (by omega)
        rw [startOf_step lens s2 hs2] at h1
        omega
/-- Places: all numbers below a length, each once. -/
structure Pl (n : Nat) (p : List Int) : Prop where
  len : p.length = n
  ok : okPlaces n p = true
theorem Pl.check {n : Nat} {p : List Int} (h : Pl n p) (hn : n ≤ 1048576) : rank_Check.g p = 0 := by
  have h1 := h.len
  subst h1
  unfold rank_Check.g
  rw [if_neg (by omega), h.ok]
  rfl
theorem Pl.at {n : Nat} {p : List Int} (h : Pl n p) (i : Nat) (hi : i < n) : ∃ v : Nat, rd p (i : Int) = v ∧ v < n := by
  obtain ⟨h0, h1, _⟩ := okPlaces_pos h.ok i (by rw [h.len]; exact hi)
  exact ⟨(rd p (i : Int)).toNat, by omega, by omega⟩
theorem Pl.inj {n : Nat} {p : List Int} (h : Pl n p) (i j : Nat) (hi : i < n) (hj : j < n) (e : rd p (i : Int) = rd p (j : Int)) : i = j :=
  okTo_inj' n p ((okPlaces_iff n p).1 h.ok) i j (by rw [h.len]; exact hi) (by rw [h.len]; exact hj) e
theorem Pl.mk2 {n : Nat} {p : List Int} (hl : p.length = n) (h1 : ∀ i, i < n → ∃ v : Nat, rd p (i : Int) = v ∧ v < n) (h2 : ∀ i j : Nat, i < n → j < n → rd p (i : Int) = rd p (j : Int) → i = j) : Pl n p := by
  refine ⟨hl, okPlaces_true n p (fun i hi => ?_)⟩
  rw [hl] at hi
  obtain ⟨v, hv, hvn⟩ := h1 i hi
  rw [hv, decide_eq_true (by omega), decide_eq_true (by omega), Bool.true_and, Bool.true_and, Bool.not_eq_true']
  cases hs : stands p i (v : Int)
  · rfl
  · exfalso
    obtain ⟨j, hj, e⟩ := (stands_iff _ _ _).1 hs
    have := h2 j i (by omega) hi (by rw [e, hv])
    omega
theorem Pl.of_perm {n : Nat} {p : List Int} (h : p.Perm (upInts n)) : Pl n p := by
  obtain ⟨h1, h2⟩ := perm_ok p n h
  exact ⟨h1, (okPlaces_iff n p).2 h2⟩
theorem Pl.find {n : Nat} {p : List Int} (h : Pl n p) (v : Nat) (hv : v < n) : ∃ i : Nat, i < n ∧ rd p (i : Int) = v := by
  have h1 := (okPlaces_iff n p).1 h.ok
  rw [h.len] at h1
  obtain ⟨i, hi, e⟩ := (stands_iff _ _ _).1 (all_stand n p h1 v hv)
  exact ⟨i, hi, e⟩
theorem Pl.where_rd {n : Nat} {p : List Int} (h : Pl n p) (i : Nat) (hi : i < n) : whereIs p n (rd p (i : Int)) = i := by
  have h1 := h.len
  subst h1
  exact (where_of h.ok i hi).2
theorem rd_invG {n : Nat} {p : List Int} (h : Pl n p) (i : Nat) (hi : i < n) : ∃ v : Nat, rd p (i : Int) = v ∧ v < n ∧ rd (invG p) (v : Int) = i := by
  obtain ⟨v, hv, hvn⟩ := h.at i hi
  refine ⟨v, hv, hvn, ?_⟩
  unfold invG
  rw [h.len, Hand.upTo_rd _ _ _ hvn, ← hv]
  exact h.where_rd i hi
theorem invG_length (p : List Int) : (invG p).length = p.length := by unfold invG; rw [upTo_length, Int.toNat_natCast]
theorem Pl.inv {n : Nat} {p : List Int} (h : Pl n p) : Pl n (invG p) := by
  have hat : ∀ v : Nat, v < n → ∃ i : Nat, i < n ∧ rd p (i : Int) = v ∧ rd (invG p) (v : Int) = i := fun v hv => by
    obtain ⟨i, hi, e⟩ := h.find v hv
    obtain ⟨v2, h1, _, h3⟩ := rd_invG h i hi
    obtain rfl : v2 = v := by omega
    exact ⟨i, hi, e, h3⟩
  refine Pl.mk2 (by rw [invG_length, h.len]) (fun v hv => ?_) (fun v u hv hu e => ?_)
  · obtain ⟨i, hi, _, h3⟩ := hat v hv
    exact ⟨i, h3, hi⟩
  · obtain ⟨i, hi, e1, h1⟩ := hat v hv
    obtain ⟨j, hj, e2, h2⟩ := hat u hu
    obtain rfl : i = j := by omega
    omega
theorem compG_length (f s : List Int) : (compG f s).length = f.length := by unfold compG; rw [upTo_length, Int.toNat_natCast]
theorem rd_compG (f s : List Int) (i : Nat) (hi : i < f.length) : rd (compG f s) (i : Int) = rd s (rd f (i : Int)) := by
  unfold compG
  rw [Hand.upTo_rd _ _ _ hi]
theorem Pl.comp {n : Nat} {p q : List Int} (h : Pl n p) (h2 : Pl n q) : Pl n (compG p q) := by
  refine Pl.mk2 (by rw [compG_length, h.len]) (fun i hi => ?_) (fun i j hi hj e => ?_)
  · obtain ⟨v, hv, hvn⟩ := h.at i hi
    obtain ⟨u, hu, hun⟩ := h2.at v hvn
    exact ⟨u, by rw [rd_compG _ _ _ (by rw [h.len]; exact hi), hv, hu], hun⟩
  · rw [rd_compG _ _ _ (by rw [h.len]; exact hi), rd_compG _ _ _ (by rw [h.len]; exact hj)] at e
    obtain ⟨v, hv, hvn⟩ := h.at i hi
    obtain ⟨u, hu, hun⟩ := h.at j hj
    rw [hv, hu] at e
    have := h2.inj v u hvn hun e
    exact h.inj i j hi hj (by omega)
theorem Pl.inverse_g {n : Nat} {p : List Int} (h : Pl n p) (hn : n ≤ 1048576) : rank_Inverse.g p = (invG p, 0) := by
  unfold rank_Inverse.g
  rw [if_pos (h.check hn)]
theorem Pl.compose_g {n : Nat} {p q : List Int} (h : Pl n p) (h2 : Pl n q) (hn : n ≤ 1048576) : rank_Compose.g p q = (compG p q, 0) := by
  unfold rank_Compose.g
  rw [if_pos (h.check hn), if_pos (h2.check hn), if_pos (by rw [h.len, h2.len])]
theorem ev_Wrap (l : List Int) (most : Nat) (hm : most ≤ 1000) (hl : Sh l) : ∃ a, Ev (fun k => r00_Wrap.f k l (most : Int)) a ∧ a.length ≤ most ∧ a.length ≤ l.length ∧ (∀ x ∈ a, isWordB x = true) ∧ a.length = min l.length most := by
  let g : Nat → Int := fun i => wrap64 (wrap32 (rd l (i : Int)))
  have H := up (n := min l.length most) (P := fun i => Ev (fun k => r00_Wrap.l0 k l (most : Int) ((List.range i).map g) (i : Int)) ((List.range (min l.length most)).map g))
    (Ev.step (f := fun _ => some ((List.range (min l.length most)).map g)) (fun k => by
      simp only [r00_Wrap.l0]
      by_cases h : ((min l.length most : Nat) : Int) < (l.length : Int)
      · rw [if_pos h, if_neg (by omega)]
      · rw [if_neg h]) (Ev.now _))
    (fun i hi ih => by
      refine Ev.step (f := fun k => r00_Wrap.l0 k l (most : Int) ((List.range (i + 1)).map g) ((i + 1 : Nat) : Int)) (fun k => ?_) ih
      simp only [r00_Wrap.l0]; rw [if_pos (by omega), if_pos (by omega), if_pos (by omega), f_Word]
      simp only [Option.bind_some]
      rw [if_pos (by simp; omega), wsucc hi (by omega), List.range_succ, List.map_append]
      rfl) 0 (Nat.zero_le _)
  refine ⟨(List.range (min l.length most)).map g, H, ?_, ?_, ?_, ?_⟩
  · simp; omega
  · simp; omega
  · intro x hx
    obtain ⟨i, _, rfl⟩ := List.mem_map.1 hx
    exact wrap32_word _
  · simp
def tot (lens : List Int) : Nat := startOf lens lens.length
/-- Lengths whose total is a number. -/
structure Ln (T : Nat) (lens : List Int) : Prop where
  len : lens.length ≤ 201
  pos : ∀ x ∈ lens, 0 ≤ x ∧ x ≤ T
  tot : tot lens = T
theorem Ln.okLens {T : Nat} {l lens : List Int} (h : Ln T lens) (hl : l.length = T) : okLens l lens = true := by
  have h1 := h.tot
  unfold Pure.tot at h1
  unfold Hand.okLens
  rw [h1, hl, BEq.rfl, Bool.and_true, List.all_eq_true]
  intro x hx
  exact decide_eq_true (h.pos x hx).1
theorem Ln.openE {T : Nat} {l lens : List Int} (h : Ln T lens) (hT : T ≤ 1000) (hl : l.length = T) (hw : ∀ x ∈ l, isWordB x = true) : openE l lens = 0 := by
  have h1 : wordsE [l, lens] = 0 := by
    unfold wordsE
    have e1 : (List.any [l, lens] fun l => decide (1048576 < l.length)) = false := by
      have := h.len
      simp; omega
    have e2 : (List.any [l, lens] noWords) = false := by
      simp only [List.any_cons, List.any_nil, Bool.or_false, Bool.or_eq_false_iff]
      refine ⟨List.any_eq_false.2 (fun x hx => by rw [hw x hx]; simp), List.any_eq_false.2 (fun x hx => ?_)⟩
      have := h.pos x hx
      rw [(isWordB_iff x).2 (by omega)]
      simp
    rw [e1, e2]
    rfl
  unfold Hand.openE
  rw [if_pos h1, h.okLens hl]
  rfl
theorem ev_moved (l p : List Int) (n : Nat) (hl : l.length = n) (hn : n ≤ 1048576) (hp : Pl n p) : Ev (fun k => w07_moved.f k l p) (movedAt l p p.length, true) := by
  have hok : okPlaces p.length p = true := by rw [hp.len]; exact hp.ok
  have hlen := hp.len
  have H := up (n := n) (P := fun i => Ev (fun k => w07_moved.l0 k l p (movedAt l p i) (i : Int)) (movedAt l p p.length, true))
    (by
      rw [hlen]
      refine Ev.step (f := fun _ => some _) (fun k => ?_) (Ev.now _)
      simp only [w07_moved.l0]
      rw [if_neg (by omega)])
    (fun i hi ih => by
      obtain ⟨q, hq, hqn⟩ := hp.at i hi
      have hm : (movedAt l p i).length = n := by unfold movedAt; rw [upTo_length, Int.toNat_natCast, hl]
      refine Ev.step (fun k => ?_) ih
      simp only [w07_moved.l0]
      rw [if_pos (by omega), if_pos (by omega), if_pos (by omega), hq, if_pos (by omega), if_pos (by omega), Int.toNat_natCast, moved_step l hok i (by omega) q hq, wsucc hi (by omega)]) 0 (Nat.zero_le _)
  have e0 : movedAt l p 0 = List.replicate n 0 := by
    unfold movedAt
    rw [hl]
    exact upTo_zero _ _ (fun k _ => by rw [stands_zero]; rfl)
  have ho := ev_Order p n (by omega) (by omega)
  rw [hlen, hp.ok, decide_eq_true rfl, Bool.true_and] at ho
  rw [e0] at H
  unfold w07_moved.f
  rw [hl]
  refine Ev.bind (f := fun k t137 => (if t137 = true then (if 0 ≤ (n : Int) then (if ((n : Int) : Int).toNat ≤ 35184372088832 then (w07_moved.l0 k l p (List.replicate ((n : Int) : Int).toNat 0) 0) else (none)) else (none)) else (some (([] : List Int), false)))) ho ?_
  refine Ev.congr (fun k => ?_) H
  rw [if_pos rfl, if_pos (by omega), if_pos (by omega), Int.toNat_natCast]
  rfl
theorem byK_Pl {K : Int → Int} {l lens : List Int} (hok : okLens l lens = true) : Pl l.length (byK K l lens) := by
  refine ⟨byK_length hok, ?_⟩
  have := byK_ok (K := K) hok
  rwa [byK_length hok] at this
theorem Mv_of {l p : List Int} (hp : Pl l.length p) : Mv l p (movedAt l p p.length) := by
  refine movedAt_Mv hp.len ?_
  rw [hp.len]; exact hp.ok
/-- Who stands at a place of a segment. -/
theorem seg_who {K : Int → Int} {l lens : List Int} (hok : okLens l lens = true) (s r : Nat) (hs : s < lens.length) (hr : r < (rd lens (s : Int)).toNat) :
    ∃ j, j < (rd lens (s : Int)).toNat ∧ rkK K l (startOf lens (s : Int)) (rd lens (s : Int)).toNat j = r ∧ (∀ m b : List Int, m.length = l.length → Mv m (byK K l lens) b → rd b ((startOf lens (s : Int) + r : Nat) : Int) = rd m ((startOf lens (s : Int) + j : Nat) : Int)) := by
  obtain ⟨_, hin⟩ := seg_in hok s hs
  obtain ⟨j, hj, e⟩ := onto _ (rkK K l (startOf lens (s : Int)) (rd lens (s : Int)).toNat) (fun i hi => rkK_range K l _ _ i hi) (fun i j hi hj e => rkK_inj K l _ _ i j hi hj e) r hr
  refine ⟨j, hj, e, fun m b hm hb => ?_⟩
  have := hb.2 (startOf lens (s : Int) + j) (by omega)
  rw [rd_byK s j hs hj, e] at this
  exact this
theorem Mv_words {l p b : List Int} (hp : Pl l.length p) (hb : Mv l p b) (hw : ∀ x ∈ l, isWordB x = true) : ∀ x ∈ b, isWordB x = true := by
  intro x hx
  obtain ⟨i, hi, rfl⟩ := mem_rd hx
  rw [hb.1] at hi
  obtain ⟨q, hq, e⟩ := hp.find i hi
  have := hb.2 q hq
  rw [e] at this
  rw [this, rd_get hq]
  exact hw _ (List.getElem_mem hq)
theorem Ln.one (n : Nat) : Ln n [(n : Int)] := by
  refine ⟨by simp, fun x hx => ?_, by simp [Pure.tot, startOf]⟩
  rw [List.mem_singleton] at hx
  omega
theorem one_at (K : Int → Int) (l : List Int) (n : Nat) (hl : l.length = n) (i : Nat) (hi : i < n) : rd (byK K l [(n : Int)]) (i : Int) = ((cn (fun j => ltK K l j i) n : Nat) : Int) := by
  have h := rd_byK (K := K) (l := l) (lens := [(n : Int)]) 0 i (by simp) (by simpa [rd] using hi)
  have e0 : startOf [(n : Int)] ((0 : Nat) : Int) = 0 := rfl
  have e1 : (rd [(n : Int)] ((0 : Nat) : Int)).toNat = n := by simp [rd]
  rw [e0, e1] at h
  simp only [Nat.zero_add, rkK] at h
  exact h
theorem one_who (l : List Int) (n : Nat) (hl : l.length = n) (r : Nat) (hr : r < n) : ∃ j, j < n ∧ cn (fun i => ltK (fun x => x) l i j) n = r ∧ (∀ b, Mv l (byK (fun x => x) l [(n : Int)]) b → rd b (r : Int) = rd l (j : Int)) := by
  have hok := (Ln.one n).okLens (l := l) hl
  obtain ⟨j, h1, h2, h3⟩ := seg_who (K := fun x => x) hok 0 r (by simp) (by simpa [rd] using hr)
  have e0 : startOf [(n : Int)] ((0 : Nat) : Int) = 0 := rfl
  have e1 : (rd [(n : Int)] ((0 : Nat) : Int)).toNat = n := by simp [rd]
  rw [e0, e1] at h2
  rw [e0] at h3
  rw [e1] at h1
  simp only [Nat.zero_add, rkK] at h2 h3
  exact ⟨j, h1, h2, fun b hb => h3 l b rfl hb⟩
theorem one_sorted (l b : List Int) (n : Nat) (hl : l.length = n) (hb : Mv l (byK (fun x => x) l [(n : Int)]) b) : sortedB b = true := by
  unfold sortedB
  rw [List.all_eq_true]
  intro i hi
  rw [List.mem_range, hb.1, hl] at hi
  obtain ⟨j, hj, ej, b1⟩ := one_who l n hl i (by omega)
  obtain ⟨j2, hj2, ej2, b2⟩ := one_who l n hl (i + 1) (by omega)
  have h := (rkK_iff (fun x => x) l 0 n j j2 hj hj2).1 (by unfold rkK; simp only [Nat.zero_add]; omega)
  rw [ltK_iff] at h
  simp only [Nat.zero_add] at h
  rw [show (i : Int) + 1 = ((i + 1 : Nat) : Int) from by omega, b1 b hb, b2 b hb, decide_eq_false (by omega)]
  rfl
theorem cn_split (P : Nat → Bool) (m : Nat) : ∀ n, cn P (m + n) = cn P m + cn (fun j => P (m + j)) n
  | 0 => rfl
  | n + 1 => by
    rw [← Nat.add_assoc, cn_succ, cn_succ, cn_split P m n]
    omega
theorem mv_cn {n : Nat} {l p b : List Int} (hp : Pl n p) (hl : l.length = n) (hb : Mv l p b) (P : Int → Bool) : cn (fun k => P (rd b (k : Int))) n = cn (fun k => P (rd l (k : Int))) n := by
  rw [cn_perm n (fun k => (rd p (k : Int)).toNat) (fun i hi => by
    obtain ⟨v, hv, hvn⟩ := hp.at i hi
    simp only [hv, Int.toNat_natCast]
    exact hvn) (fun i j hi hj e => by
    obtain ⟨v, hv, hvn⟩ := hp.at i hi
    obtain ⟨u, hu, hun⟩ := hp.at j hj
    simp only [hv, hu, Int.toNat_natCast] at e
    exact hp.inj i j hi hj (by rw [hv, hu, e]))]
  refine cn_congr n (fun k hk => ?_)
  obtain ⟨v, hv, hvn⟩ := hp.at k hk
  have := hb.2 k (by omega)
  rw [hv] at this
  simp only [hv, Int.toNat_natCast]
  rw [this]
theorem sorted_cn {b : List Int} (n : Nat) (hl : b.length = n) (hs : sortedB b = true) (i : Nat) (hi : i < n) : cn (fun j => ltK (fun x => x) b j i) n = i := by
  refine cn_eq (by omega) (fun k hk => ?_) (fun k hk hk2 => ?_)
  · rw [ltK_iff]
    have := sortedB_mono hs k i (by omega) (by omega)
    omega
  · cases h : ltK (fun x => x) b k i
    · rfl
    · rw [ltK_iff] at h
      have := sortedB_mono hs i k (by omega) (by omega)
      omega
theorem le_dec (x y : Int) : (decide (x < y) || decide (x = y)) = decide (x ≤ y) := by
  rw [Bool.eq_iff_iff, Bool.or_eq_true, decide_eq_true_eq, decide_eq_true_eq, decide_eq_true_eq]
  omega
/-- The places of two sorted lists, put together, are those of their merging. -/
theorem merged_whole {b c : List Int} (m n : Nat) (hb : b.length = m) (hc : c.length = n) (sb : sortedB b = true) (sc : sortedB c = true) :
    byK (fun x => x) (b ++ c) [((m + n : Nat) : Int)] = (List.range m).map (mgA b c) ++ (List.range n).map (mgB b c) := by
  have hl : (b ++ c).length = m + n := by rw [List.length_append, hb, hc]
  have hok := (Ln.one (m + n)).okLens (l := b ++ c) hl
  have r1 : ∀ i : Nat, i < m → rd (b ++ c) (i : Int) = rd b (i : Int) := fun i hi => rd_app_lt b c i (by omega)
  have r2 : ∀ i : Nat, rd (b ++ c) ((m + i : Nat) : Int) = rd c (i : Int) := fun i => by
    have := rd_app_ge b c i
    rwa [hb] at this
  refine ext_of_rd (by rw [byK_length hok, hl]; simp) (fun i hi => ?_)
  rw [byK_length hok, hl] at hi
  rw [one_at _ _ _ hl i hi, cn_split]
  by_cases him : i < m
  · rw [rd_app_lt _ _ _ (by simp; exact him), rd_mapRange _ _ _ him]
    unfold mgA
    rw [hc, cn_congr (Q := fun j => ltK (fun x => x) b j i) m (fun j hj => by unfold ltK; rw [r1 j hj, r1 i him]), sorted_cn m hb sb i him,
      cn_congr (P := fun j => ltK (fun x => x) (b ++ c) (m + j) i) (Q := fun k => decide (rd c (k : Int) < rd b (i : Int))) n (fun j hj => by
        unfold ltK
        rw [r2 j, r1 i him, decide_eq_false (show ¬ m + j < i by omega), Bool.and_false, Bool.or_false])]
  · obtain ⟨k, rfl⟩ : ∃ k, i = m + k := ⟨i - m, by omega⟩
    have e : (((List.range m).map (mgA b c)).length : Nat) = m := by simp
    have h2 := rd_app_ge ((List.range m).map (mgA b c)) ((List.range n).map (mgB b c)) k
    rw [e] at h2
    rw [h2, rd_mapRange _ _ _ (by omega)]
    unfold mgB
    rw [hb, cn_congr (Q := fun i => decide (rd b (i : Int) ≤ rd c (k : Int))) m (fun j hj => by
        unfold ltK
        rw [r1 j hj, r2 k, decide_eq_true (show j < m + k by omega), Bool.and_true]
        exact le_dec _ _),
      cn_congr (P := fun j => ltK (fun x => x) (b ++ c) (m + j) (m + k)) (Q := fun j => ltK (fun x => x) c j k) n (fun j hj => by
        unfold ltK
        rw [r2 j, r2 k]
        congr 2
        exact decide_eq_decide.2 (by omega)), sorted_cn n hc sc k (by omega)]
    congr 1
    omega
theorem all_first {u v b c : List Int} (m n : Nat) (hu : u.length = m) (hv : v.length = n) (hb : Mv u (byK (fun x => x) u [(m : Int)]) b) (hc : Mv v (byK (fun x => x) v [(n : Int)]) c) (i : Nat) (hi : i < m) :
    ∃ q : Nat, rd (byK (fun x => x) u [(m : Int)]) (i : Int) = q ∧ q < m ∧ rd (byK (fun x => x) (u ++ v) [((m + n : Nat) : Int)]) (i : Int) = mgA b c q := by
  have hokU := (Ln.one m).okLens (l := u) hu
  have hokV := (Ln.one n).okLens (l := v) hv
  have hpV : Pl n (byK (fun x => x) v [(n : Int)]) := by have := byK_Pl (K := fun x => x) hokV; rwa [hv] at this
  have hpU : Pl m (byK (fun x => x) u [(m : Int)]) := by have := byK_Pl (K := fun x => x) hokU; rwa [hu] at this
  obtain ⟨q, hq, hqm⟩ := hpU.at i hi
  refine ⟨q, hq, hqm, ?_⟩
  have hl : (u ++ v).length = m + n := by rw [List.length_append, hu, hv]
  have hbq := hb.2 i (by omega)
  rw [hq] at hbq
  have h1 := one_at (fun x => x) u m hu i hi
  rw [hq] at h1
  have r1 : ∀ i : Nat, i < m → rd (u ++ v) (i : Int) = rd u (i : Int) := fun i hi => rd_app_lt u v i (by omega)
  have r2 : ∀ i : Nat, rd (u ++ v) ((m + i : Nat) : Int) = rd v (i : Int) := fun i => by
    have := rd_app_ge u v i
    rwa [hu] at this
  rw [one_at _ _ _ hl i (by omega), cn_split]
  unfold mgA
  have hcl : c.length = n := by rw [hc.1, hv]
  rw [hcl, hbq, mv_cn hpV hv hc (fun x => decide (x < rd u (i : Int))),
    cn_congr (Q := fun j => ltK (fun x => x) u j i) m (fun j hj => by unfold ltK; rw [r1 j hj, r1 i hi]),
    cn_congr (P := fun j => ltK (fun x => x) (u ++ v) (m + j) i) (Q := fun k => decide (rd v (k : Int) < rd u (i : Int))) n (fun j hj => by
        unfold ltK
        rw [r2 j, r1 i hi, decide_eq_false (show ¬ m + j < i by omega), Bool.and_false, Bool.or_false])]
  omega
theorem all_second {u v b c : List Int} (m n : Nat) (hu : u.length = m) (hv : v.length = n) (hb : Mv u (byK (fun x => x) u [(m : Int)]) b) (hc : Mv v (byK (fun x => x) v [(n : Int)]) c) (k : Nat) (hk : k < n) :
    ∃ q : Nat, rd (byK (fun x => x) v [(n : Int)]) (k : Int) = q ∧ q < n ∧ rd (byK (fun x => x) (u ++ v) [((m + n : Nat) : Int)]) ((m + k : Nat) : Int) = mgB b c q := by
  have hokU := (Ln.one m).okLens (l := u) hu
  have hokV := (Ln.one n).okLens (l := v) hv
  have hpV : Pl n (byK (fun x => x) v [(n : Int)]) := by have := byK_Pl (K := fun x => x) hokV; rwa [hv] at this
  have hpU : Pl m (byK (fun x => x) u [(m : Int)]) := by have := byK_Pl (K := fun x => x) hokU; rwa [hu] at this
  obtain ⟨q, hq, hqn⟩ := hpV.at k hk
  refine ⟨q, hq, hqn, ?_⟩
  have hl : (u ++ v).length = m + n := by rw [List.length_append, hu, hv]
  have hcq := hc.2 k (by omega)
  rw [hq] at hcq
  have h1 := one_at (fun x => x) v n hv k hk
  rw [hq] at h1
  have r1 : ∀ i : Nat, i < m → rd (u ++ v) (i : Int) = rd u (i : Int) := fun i hi => rd_app_lt u v i (by omega)
  have r2 : ∀ i : Nat, rd (u ++ v) ((m + i : Nat) : Int) = rd v (i : Int) := fun i => by
    have := rd_app_ge u v i
    rwa [hu] at this
  rw [one_at _ _ _ hl (m + k) (by omega), cn_split]
  unfold mgB
  have hbl : b.length = m := by rw [hb.1, hu]
  rw [hbl, hcq, mv_cn hpU hu hb (fun x => decide (x ≤ rd v (k : Int))),
    cn_congr (Q := fun i => decide (rd u (i : Int) ≤ rd v (k : Int))) m (fun j hj => by
        unfold ltK
        rw [r1 j hj, r2 k, decide_eq_true (show j < m + k by omega), Bool.and_true]
        exact le_dec _ _),
    cn_congr (P := fun j => ltK (fun x => x) (u ++ v) (m + j) (m + k)) (Q := fun j => ltK (fun x => x) v j k) n (fun j hj => by
        unfold ltK
        rw [r2 j, r2 k]
        congr 2
        exact decide_eq_decide.2 (by omega))]
  omega
theorem order_one (l : List Int) (n : Nat) (hl : l.length = n) (hn : n ≤ 1000) (hw : ∀ x ∈ l, isWordB x = true) : rank_Order.g l [(n : Int)] = (byK (fun x => x) l [(n : Int)], 0) := by
  have hok := (Ln.one n).okLens (l := l) hl
  have hE := (Ln.one n).openE (l := l) hn hl hw
  unfold rank_Order.g
  rw [if_pos hE, order_closed hok]
theorem merge_one {b c : List Int} (m n : Nat) (hb : b.length = m) (hc : c.length = n) (hm : m + n ≤ 1000) (wb : ∀ x ∈ b, isWordB x = true) (wc : ∀ x ∈ c, isWordB x = true) (sb : sortedB b = true) (sc : sortedB c = true) :
    rank_Merge.g b c = ((List.range m).map (mgA b c), (List.range n).map (mgB b c), 0) := by
  have h1 : wordsE [b, c] = 0 := by
    unfold wordsE
    have e1 : (List.any [b, c] fun l => decide (1048576 < l.length)) = false := by simp; omega
    have e2 : (List.any [b, c] noWords) = false := by
      simp only [List.any_cons, List.any_nil, Bool.or_false, Bool.or_eq_false_iff]
      exact ⟨List.any_eq_false.2 (fun x hx => by rw [wb x hx]; simp), List.any_eq_false.2 (fun x hx => by rw [wc x hx]; simp)⟩
    rw [e1, e2]
    rfl
  unfold rank_Merge.g
  rw [if_neg (by omega), if_pos h1, sb, sc, mgOf_closed b c sb sc, hb, hc]
  rfl
theorem RankMerged : w07_RankMerged.Pure := by
  intro l0 n0 _ h1 _ _
  have s0 : Sh l0 := by unfold Sh; omega
  obtain ⟨a, ea, ha, _, haw, _⟩ := ev_Wrap l0 60 (by omega) s0
  have hw1 : wrap64 ((a.length : Int) + 1) = ((a.length + 1 : Nat) : Int) := by unfold wrap64; omega
  obtain ⟨t, ht, t0, t1⟩ := f_Turn n0 ((a.length + 1 : Nat) : Int) (by omega)
  have t1 := t1 (by omega)
  obtain ⟨m, rfl⟩ : ∃ m : Nat, t = m := ⟨t.toNat, by omega⟩
  obtain ⟨n, hN⟩ : ∃ n, a.length = m + n := ⟨a.length - m, by omega⟩
  have hw2 : wrap64 ((a.length : Int) - (m : Int)) = (n : Int) := by rw [hN]; unfold wrap64; omega
  have hul : (a.take m).length = m := by rw [List.length_take]; omega
  have hvl : (a.drop m).length = n := by rw [List.length_drop]; omega
  have haw1 : ∀ x ∈ a.take m, isWordB x = true := fun x hx => haw x (List.mem_of_mem_take hx)
  have haw2 : ∀ x ∈ a.drop m, isWordB x = true := fun x hx => haw x (List.mem_of_mem_drop hx)
  have hcat : a.take m ++ a.drop m = a := List.take_append_drop m a
  have o1 := order_one (a.take m) m hul (by omega) haw1
  have o2 := order_one (a.drop m) n hvl (by omega) haw2
  have p1 : Pl m (byK (fun x => x) (a.take m) [(m : Int)]) := by have := byK_Pl (K := fun x => x) ((Ln.one m).okLens hul); rwa [hul] at this
  have p2 : Pl n (byK (fun x => x) (a.drop m) [(n : Int)]) := by have := byK_Pl (K := fun x => x) ((Ln.one n).okLens hvl); rwa [hvl] at this
  have m1 := ev_moved (a.take m) _ m hul (by omega) p1
  have m2 := ev_moved (a.drop m) _ n hvl (by omega) p2
  have b1 := Mv_of (l := a.take m) (by rw [hul]; exact p1)
  have b2 := Mv_of (l := a.drop m) (by rw [hvl]; exact p2)
  generalize movedAt (a.take m) (byK (fun x => x) (a.take m) [(m : Int)]) (byK (fun x => x) (a.take m) [(m : Int)]).length = b at *
  generalize movedAt (a.drop m) (byK (fun x => x) (a.drop m) [(n : Int)]) (byK (fun x => x) (a.drop m) [(n : Int)]).length = c at *
  have hbl : b.length = m := by rw [b1.1, hul]
  have hcl : c.length = n := by rw [b2.1, hvl]
  have wb := Mv_words (by rw [hul]; exact p1) b1 haw1
  have wc := Mv_words (by rw [hvl]; exact p2) b2 haw2
  have sb := one_sorted _ b m hul b1
  have sc := one_sorted _ c n hvl b2
  have g1 := merge_one m n hbl hcl (by omega) wb wc sb sc
  have g2 := order_one (b ++ c) (m + n) (by rw [List.length_append, hbl, hcl]) (by omega) (fun x hx => by
    rcases List.mem_append.1 hx with h | h
    · exact wb x h
    · exact wc x h)
  rw [merged_whole m n hbl hcl sb sc] at g2
  have g3 := order_one a (m + n) hN (by omega) haw
  have A1 := all_first m n hul hvl b1 b2
  have A2 := all_second m n hul hvl b1 b2
  rw [hcat] at A1 A2
  have hall : (byK (fun x => x) a [((m + n : Nat) : Int)]).length = m + n := by
    rw [byK_length ((Ln.one (m + n)).okLens hN), hN]
  have hfl : ((List.range m).map (mgA b c)).length = m := by simp
  have hsl : ((List.range n).map (mgB b c)).length = n := by simp
  have fA : ∀ q : Nat, q < m → rd ((List.range m).map (mgA b c)) (q : Int) = mgA b c q := fun q hq => rd_mapRange _ _ _ hq
  have fB : ∀ q : Nat, q < n → rd ((List.range n).map (mgB b c)) (q : Int) = mgB b c q := fun q hq => rd_mapRange _ _ _ hq
  have c1 := f_Copy b (by omega)
  have c2 := f_Copy ((List.range m).map (mgA b c)) (by omega)
  generalize (List.range m).map (mgA b c) = F at *
  generalize (List.range n).map (mgB b c) = G at *
  generalize byK (fun x => x) a [((m + n : Nat) : Int)] = all at *
  generalize byK (fun x => x) (a.take m) [(m : Int)] = x at *
  generalize byK (fun x => x) (a.drop m) [(n : Int)] = y at *
  have hxl := p1.len
  have hyl := p2.len
  have HL := up (n := m + n) (P := fun i => Ev (fun k => w07_RankMerged.l0 k a (m : Int) x y F G all (i : Int)) true)
    (by
      refine Ev.step (f := fun _ => some true) (fun k => ?_) (Ev.now _)
      simp only [w07_RankMerged.l0]
      rw [if_neg (by omega), law_ranked.f, Option.bind_some])
    (fun i hi ih => by
      refine Ev.step (fun k => ?_) ih
      simp only [w07_RankMerged.l0]
      rw [if_pos (by omega), wsucc (n := m + n) hi (by omega)]
      by_cases him : i < m
      · obtain ⟨q, hq, hqm, he⟩ := A1 i him
        rw [if_pos (by omega), if_pos (by omega), if_pos (by omega), if_pos (by omega), hq, if_pos (by omega), if_pos (by omega), fA q hqm, if_pos he, if_neg (by omega)]
      · obtain ⟨k2, rfl⟩ : ∃ k2, i = m + k2 := ⟨i - m, by omega⟩
        obtain ⟨q, hq, hqn, he⟩ := A2 k2 (by omega)
        have hw3 : wrap64 (((m + k2 : Nat) : Int) - (m : Int)) = (k2 : Int) := by unfold wrap64; omega
        rw [if_neg (by omega), if_pos (by omega), if_pos (by omega), if_pos (by omega), hw3, if_pos (by omega), if_pos (by omega), hq, if_pos (by omega), if_pos (by omega), fB q hqn, if_pos he]) 0 (Nat.zero_le _)
  have HJ1 : Ev (fun k => w07_RankMerged.j1 k a (m : Int) x y F G all false) true := by
    refine Ev.step (fun k => ?_) HL
    simp only [w07_RankMerged.j1]
    rw [if_neg (by simp)]
    rfl
  have HJ0 : Ev (fun k => w07_RankMerged.j0 k a (m : Int) x y b c false) true := by
    refine Ev.step (fun k => ?_) HJ1
    have e1 : (F.length : Int) = (m : Int) := by omega
    have e2 : (G.length : Int) = (n : Int) := by omega
    have e3 : (all.length : Int) = ((m + n : Nat) : Int) := by omega
    have e4 : b.length + c.length < 17592186044416 := by omega
    have e5 : F.length + G.length < 17592186044416 := by omega
    have e6 : (a.length : Int) = ((m + n : Nat) : Int) := by omega
    have e7 : wrap64 (((m + n : Nat) : Int) - (m : Int)) = (n : Int) := by unfold wrap64; omega
    simp only [w07_RankMerged.j0]
    rw [if_neg (by simp), rMerge.f, g1, Option.bind_some, c1, Option.bind_some, if_pos e4, e6, rOrder.f, g2, Option.bind_some, rOrder.f, g3, Option.bind_some]
    simp only [if_true, e1, e2, e3, e7]
    rw [c2, Option.bind_some, if_pos e5, Eq_.f, Option.bind_some, BEq.rfl]
    rfl
  have H : Ev (fun k => w07_RankMerged.f k l0 n0) true := by
    unfold w07_RankMerged.f
    refine Ev.bind ea ?_
    simp only [hw1, ht]
    refine Ev.bind (g := fun _ => some ((m : Nat) : Int)) (Ev.now _) ?_
    have q1 : (0 : Int) ≤ (m : Int) := by omega
    have q2 : (m : Int) ≤ (a.length : Int) := by omega
    simp only [if_pos q1, if_pos q2, Int.toNat_natCast, hw2, rOrder.f, o1, o2, Option.bind_some]
    refine Ev.bind m1 ?_
    refine Ev.bind m2 ?_
    simp only [if_true, Bool.not_true]
    exact HJ0
  exact H.rounds
end Go.Proofs.Ytnkepaenpoadpaa.Pure
