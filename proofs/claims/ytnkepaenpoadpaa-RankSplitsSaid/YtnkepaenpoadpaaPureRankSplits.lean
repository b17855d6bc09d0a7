/- RankSplits: split by one bit more is split by the bits so far, and what comes of that by the next bit alone; a split keeps segments, has those without a flag ahead, and keeps all else in order; it is told of numbers and lists alone. -/
import Derived.Test.YtnkepaenpoadpaaPRankSplitsx
namespace Go.Proofs.Ytnkepaenpoadpaa.Pure
open Go.RowKit Go.Proofs.Ytnkepaenpoadpaa.PRankSplits Go.Proofs.Ytnkepaenpoadpaa.Hand Go.Proofs.YtnkepaenpoadpaaW.PrintWords Go.Proofs.YtnkepaenpoadpaaW.PrintLast Go.Proofs.YtnkepaenpoadpaaW.PrintMore
set_option linter.unusedVariables false
set_option linter.unusedSimpArgs false
/-- Lists so short that a place's successor is no other number. -/
def Sh {α : Type} (l : List α) : Prop := l.length ≤ 4611686018427387904
theorem wsucc {i n : Nat} (h : i < n) (hn : n ≤ 4611686018427387904) : wrap64 ((i : Int) + 1) = ((i + 1 : Nat) : Int) := by unfold wrap64; omega
theorem rdn (l : List Int) (i : Nat) : rd l (i : Int) = l.getD i 0 := by simp [rd]
theorem rd_get {l : List Int} {i : Nat} (h : i < l.length) : rd l (i : Int) = l[i] := by simp [rd, h]
theorem up {n : Nat} {P : Nat → Prop} (h0 : P n) (hs : ∀ i, i < n → P (i + 1) → P i) (i : Nat) (hi : i ≤ n) : P i := by
  have key : ∀ d, ∀ i, i + d = n → P i := by
    intro d
    induction d with
    | zero => intro i h; have : i = n := by omega
              subst this; exact h0
    | succ d ih => intro i h; exact hs i (by omega) (ih (i + 1) (by omega))
  exact key (n - i) i (by omega)
theorem f_Lies (a b c : Int) : r00_Lies.f a b c = some (decide (b ≤ a) && decide (a ≤ c)) := by unfold r00_Lies.f; split <;> simp [*]
theorem f_Word (n : Int) : r00_Word.f n = some (wrap64 (wrap32 n)) := by
  unfold r00_Word.f
  congr 2
  unfold wrap32 IntKind.wrap
  simp only [IntKind.signed, IntKind.bits]
  simp
def upInts (n : Nat) : List Int := (List.range n).map (fun (i : Nat) => (i : Int))
theorem upInts_length (n : Nat) : (upInts n).length = n := by simp [upInts]
theorem upInts_succ (n : Nat) : upInts (n + 1) = upInts n ++ [(n : Int)] := by simp [upInts, List.range_succ]
theorem f_Upto (n : Int) (hn : n ≤ 4611686018427) : Ev (fun k => r00_Upto.f k n) (upInts n.toNat) := by
  have H := up (n := n.toNat) (P := fun i => Ev (fun k => r00_Upto.l0 k n (upInts i) (i : Int)) (upInts n.toNat))
    (Ev.step (f := fun _ => some (upInts n.toNat)) (fun k => by simp only [r00_Upto.l0]; rw [if_neg (by omega)]) (Ev.now _))
    (fun i hi ih => by
      refine Ev.step (f := fun k => r00_Upto.l0 k n (upInts (i + 1)) ((i + 1 : Nat) : Int)) (fun k => ?_) ih
      simp only [r00_Upto.l0]; rw [if_pos (by omega), if_pos (by rw [upInts_length]; omega), upInts_succ, wsucc hi (by omega)]) 0 (Nat.zero_le _)
  exact H
theorem take_rd {l : List Int} {i : Nat} (h : i < l.length) : l.take (i + 1) = l.take i ++ [rd l (i : Int)] := by
  rw [rd_get h, List.take_add_one, List.getElem?_eq_getElem h]; rfl
theorem isWordB_iff (n : Int) : isWordB n = true ↔ -2147483648 ≤ n ∧ n ≤ 2147483647 := by simp [isWordB]
theorem stands_iff (p : List Int) (m : Nat) (k : Int) : stands p m k = true ↔ ∃ j : Nat, j < m ∧ rd p (j : Int) = k := by simp [stands]
theorem stands_zero (p : List Int) (k : Int) : stands p 0 k = false := by simp [stands]
/-- A place more is taken when the next one is. -/
theorem count_new (n : Nat) (A : Nat → Bool) (c : Nat) (hc : c < n) (hA : A c = false) : ((List.range n).countP fun (v : Nat) => A v || (c == v)) = (List.range n).countP A + 1 := by
  induction n with
  | zero => omega
  | succ n ih =>
    rw [List.range_succ, List.countP_append, List.countP_append]
    by_cases e : c = n
    · subst e
      have h1 : ((List.range c).countP fun (v : Nat) => A v || (c == v)) = (List.range c).countP A := by
        apply List.countP_congr
        intro v hv
        rw [List.mem_range] at hv
        have : (c == v) = false := by simp; omega
        simp [this]
      rw [h1]
      simp [hA]
    · have h1 : (c == n) = false := by simp; omega
      rw [ih (by omega)]
      simp [h1]
      omega
/-- The places so far are right: numbers below n, each one once. -/
def okTo (n : Nat) (p : List Int) (i : Nat) : Prop := ∀ j : Nat, j < i → (decide (0 ≤ rd p (j : Int)) && decide (rd p (j : Int) < (n : Int)) && !stands p j (rd p (j : Int))) = true
theorem count_ok (n : Nat) (p : List Int) : ∀ i : Nat, okTo n p i → ((List.range n).countP fun (v : Nat) => stands p i (v : Int)) = i
  | 0, _ => by simp [stands]
  | i + 1, h => by
    have ih := count_ok n p i (fun j hj => h j (by omega))
    have hi := h i (by omega)
    simp only [Bool.and_eq_true, decide_eq_true_eq, Bool.not_eq_true'] at hi
    have hc := count_new n (fun (v : Nat) => stands p i (v : Int)) (rd p (i : Int)).toNat (by omega) (by show stands p i (((rd p (i : Int)).toNat : Nat) : Int) = false; rw [Int.toNat_of_nonneg hi.1.1]; exact hi.2)
    rw [ih] at hc
    refine (List.countP_congr ?_).trans hc
    intro v hv
    rw [stands_succ]
    have : (rd p (i : Int) == (v : Int)) = ((rd p (i : Int)).toNat == v) := by
      rw [Bool.eq_iff_iff]; simp; omega
    rw [this]
/-- If as many places are right as there are, each number stands. -/
theorem all_stand (n : Nat) (p : List Int) (h : okTo n p n) (v : Nat) (hv : v < n) : stands p n (v : Int) = true := by
  have h1 := count_ok n p n h
  have h2 : ((List.range n).countP fun (v : Nat) => stands p n (v : Int)) = (List.range n).length := by rw [h1, List.length_range]
  exact List.countP_eq_length.1 h2 v (List.mem_range.2 hv)
theorem okPlaces_iff (n : Nat) (p : List Int) : okPlaces n p = true ↔ okTo n p p.length := by
  constructor
  · intro h j hj
    cases hb : (decide (0 ≤ rd p (j : Int)) && decide (rd p (j : Int) < (n : Int)) && !stands p j (rd p (j : Int)))
    · rw [okPlaces_false n p j hj hb] at h; cases h
    · rfl
  · exact okPlaces_true n p
theorem rdB (l : List Bool) (i : Int) : rdOf false l i = l.getD i.toNat false := rfl
theorem seen_get (n : Nat) (A : Nat → Bool) (v : Nat) (hv : v < n) : ((List.range n).map A).getD v false = A v := by
  rw [List.getD_eq_getElem?_getD, List.getElem?_map, List.getElem?_range hv]; rfl
theorem map_set {α : Type} (n : Nat) (A B : Nat → α) (c : Nat) (hB : ∀ v, v < n → v ≠ c → B v = A v) : ((List.range n).map A).set c (B c) = (List.range n).map B := by
  apply List.ext_getElem?
  intro v
  by_cases hv : v < n
  · rw [List.getElem?_set, List.getElem?_map, List.getElem?_map, List.getElem?_range hv]
    by_cases e : c = v
    · subst e; simp [hv]
    · rw [if_neg e]
      simp [hB v hv (fun h => e h.symm)]
  · rw [List.getElem?_eq_none (by simp; omega), List.getElem?_eq_none (by simp; omega)]
theorem ev_Order (p : List Int) (n : Nat) (hp : p.length ≤ 1048576) (hn : n ≤ 1048576) : Ev (fun k => r00_Order.f k p (n : Int)) (decide (p.length = n) && okPlaces n p) := by
  by_cases hl : p.length = n
  · have hw : wrap64 ((n : Int) - 1) = (n : Int) - 1 := by unfold wrap64; omega
    have hL : ∀ x : Int, r00_Lies.f x 0 (wrap64 ((n : Int) - 1)) = some (decide (0 ≤ x) && decide (x < (n : Int))) := by
      intro x
      rw [f_Lies, hw]
      congr 1
      congr 1
      by_cases h : x < (n : Int) <;> simp [h] <;> omega
    have H := up (n := p.length) (P := fun i => okTo n p i → Ev (fun k => r00_Order.l0 k p (n : Int) ((List.range n).map (fun (v : Nat) => stands p i (v : Int))) (i : Int)) (okPlaces n p))
      (fun h => by
        rw [(okPlaces_iff n p).2 h]
        exact Ev.step (f := fun _ => some true) (fun k => by simp only [r00_Order.l0]; rw [if_neg (by omega)]) (Ev.now _))
      (fun i hi ih hok => by
        cases hb : (decide (0 ≤ rd p (i : Int)) && decide (rd p (i : Int) < (n : Int)))
        · rw [okPlaces_false n p i hi (by rw [hb]; rfl)]
          refine Ev.step (f := fun _ => some false) (fun k => ?_) (Ev.now _)
          simp only [r00_Order.l0]; rw [if_pos (by omega), if_pos (by omega), hL, hb]; rfl
        · have hb2 := hb
          simp only [Bool.and_eq_true, decide_eq_true_eq] at hb2
          have hg : rdOf false ((List.range n).map (fun (v : Nat) => stands p i (v : Int))) (rd p (i : Int)) = stands p i (rd p (i : Int)) := by
            rw [rdB, seen_get n (fun (v : Nat) => stands p i (v : Int)) _ (by omega), Int.toNat_of_nonneg hb2.1]
          have hlen : ((List.range n).map (fun (v : Nat) => stands p i (v : Int))).length = n := by simp
          cases hs : stands p i (rd p (i : Int))
          · rw [hs] at hg
            have e : ((List.range n).map (fun (v : Nat) => stands p i (v : Int))).set (rd p (i : Int)).toNat true = (List.range n).map (fun (v : Nat) => stands p (i + 1) (v : Int)) := by
              have e1 : true = (fun v : Nat => stands p (i + 1) (v : Int)) (rd p (i : Int)).toNat := by
                simp only
                rw [Int.toNat_of_nonneg hb2.1, stands_succ]; simp
              rw [e1]
              refine map_set n _ (fun v : Nat => stands p (i + 1) (v : Int)) _ (fun v hv hne => ?_)
              rw [stands_succ]
              have : (rd p (i : Int) == (v : Int)) = false := by simp; omega
              rw [this, Bool.or_false]
            refine Ev.step (f := fun k => r00_Order.l0 k p (n : Int) ((List.range n).map (fun (v : Nat) => stands p (i + 1) (v : Int))) ((i + 1 : Nat) : Int)) (fun k => ?_) (ih (fun j hj => ?_))
            · simp only [r00_Order.l0]; rw [if_pos (by omega), if_pos (by omega), hL, hb]
              simp only [Option.bind_some, if_true]
              rw [if_pos hb2.1, if_pos (by rw [hlen]; exact hb2.2), hg, if_neg (by simp), e, wsucc hi (by omega)]
            · by_cases ej : j = i
              · subst ej; rw [hb, hs]; rfl
              · exact hok j (by omega)
          · rw [hs] at hg
            rw [okPlaces_false n p i hi (by rw [hb, hs]; rfl)]
            refine Ev.step (f := fun _ => some false) (fun k => ?_) (Ev.now _)
            simp only [r00_Order.l0]; rw [if_pos (by omega), if_pos (by omega), hL, hb]
            simp only [Option.bind_some, if_true]
            rw [if_pos hb2.1, if_pos (by rw [hlen]; exact hb2.2), hg]; simp) 0 (Nat.zero_le _) (fun j hj => by omega)
    have e0 : (List.range n).map (fun (v : Nat) => stands p 0 (v : Int)) = List.replicate n false := by
      apply List.ext_getElem?
      intro v
      by_cases hv : v < n
      · rw [List.getElem?_map, List.getElem?_range hv, List.getElem?_replicate, if_pos hv]; simp [stands]
      · rw [List.getElem?_eq_none (by simp; omega), List.getElem?_eq_none (by simp; omega)]
    rw [e0] at H
    simp only [hl, decide_true, Bool.true_and]
    refine Ev.congr (fun k => ?_) H
    unfold r00_Order.f
    rw [if_pos (by omega), if_pos (by omega), if_pos (by omega)]
    simp
  · simp only [hl, decide_false, Bool.false_and]
    refine Ev.congr (f := fun _ => some false) (fun k => ?_) (Ev.now _)
    unfold r00_Order.f
    rw [if_neg (by omega)]
theorem whereIs_at (p : List Int) (m : Nat) (k : Int) (h : stands p m k = true) : 0 ≤ whereIs p m k ∧ whereIs p m k < m ∧ rd p (whereIs p m k) = k := by
  unfold whereIs
  cases hf : (List.range m).find? (fun (j : Nat) => rd p (j : Int) == k) with
  | none =>
    obtain ⟨j, hj, e⟩ := (stands_iff p m k).1 h
    have := List.find?_eq_none.1 hf j (List.mem_range.2 hj)
    simp [e] at this
  | some j =>
    have h1 := List.mem_of_find?_eq_some hf
    have h2 := List.find?_some hf
    simp only [Option.elim_some]
    rw [List.mem_range] at h1
    exact ⟨by omega, by omega, by simpa using h2⟩
theorem f_Turn (n m : Int) (hm : m ≤ 4611686018427387904) : ∃ t, r00_Turn.f n m = some t ∧ 0 ≤ t ∧ (0 < m → t < m) := by
  unfold r00_Turn.f
  by_cases h1 : m < 1
  · exact ⟨0, by rw [if_pos h1], by omega, fun h => by omega⟩
  · rw [if_neg h1, if_neg (by omega)]
    have hlt := Int.tmod_lt_of_pos n (show 0 < m by omega)
    have hgt : -m < n.tmod m := by
      have := Int.lt_tmod_of_pos n (show 0 < m by omega)
      exact this
    by_cases h2 : n.tmod m < 0
    · rw [if_pos h2]
      exact ⟨_, rfl, by unfold wrap64; omega, fun _ => by unfold wrap64; omega⟩
    · rw [if_neg h2]
      exact ⟨_, rfl, by omega, fun _ => hlt⟩
theorem f_Nth (l : List Int) (at_ : Int) (hl : Sh l) : ∃ x, r00_Nth.f l at_ = some x := by
  unfold r00_Nth.f
  by_cases h0 : (l.length : Int) = 0
  · exact ⟨0, by rw [if_pos h0]⟩
  · obtain ⟨t, h1, h2, h3⟩ := f_Turn at_ (l.length : Int) (by unfold Sh at hl; omega)
    exact ⟨rd l t, by rw [if_neg h0, h1]; simp only [Option.bind_some]; rw [if_pos h2, if_pos (h3 (by omega))]⟩
theorem wrap32_word (x : Int) : isWordB (wrap64 (wrap32 x)) = true := by
  rw [isWordB_iff]; unfold wrap64 wrap32; omega
theorem upInts_mem (n : Nat) (x : Int) : x ∈ upInts n ↔ 0 ≤ x ∧ x < n := by
  unfold upInts
  rw [List.mem_map]
  constructor
  · rintro ⟨i, hi, rfl⟩
    rw [List.mem_range] at hi
    omega
  · rintro ⟨h0, h1⟩
    exact ⟨x.toNat, by rw [List.mem_range]; omega, by omega⟩
theorem upInts_nodup (n : Nat) : (upInts n).Nodup := by
  unfold upInts
  rw [List.Nodup, List.pairwise_map]
  exact List.Pairwise.imp (fun h => by omega) List.pairwise_lt_range
theorem rd_upInts (n i : Nat) (h : i < n) : rd (upInts n) (i : Int) = i := by
  rw [rd_get (by rw [upInts_length]; exact h)]
  simp [upInts]
theorem perm_ok (p : List Int) (n : Nat) (h : p.Perm (upInts n)) : p.length = n ∧ okTo n p p.length := by
  have hl := h.length_eq
  rw [upInts_length] at hl
  refine ⟨hl, fun j hj => ?_⟩
  have hm := (upInts_mem n (rd p (j : Int))).1 (h.mem_iff.1 (rd_mem p (j : Int) (by omega) (by omega)))
  have hnd := h.nodup_iff.2 (upInts_nodup n)
  simp only [Bool.and_eq_true, decide_eq_true_eq, Bool.not_eq_true']
  refine ⟨hm, ?_⟩
  cases hs : stands p j (rd p (j : Int))
  · rfl
  · obtain ⟨i, hi, e⟩ := (stands_iff _ _ _).1 hs
    rw [rd_get (by omega), rd_get hj] at e
    have := (List.nodup_iff_pairwise_ne.1 hnd)
    have := (List.pairwise_iff_getElem.1 this) i j (by omega) hj hi
    exact absurd e this
theorem mem_rd {l : List Int} {x : Int} (h : x ∈ l) : ∃ i : Nat, i < l.length ∧ x = rd l (i : Int) := by
  obtain ⟨i, hi, e⟩ := List.getElem_of_mem h
  exact ⟨i, hi, by rw [rd_get hi, e]⟩
def cn (P : Nat → Bool) : Nat → Nat
  | 0 => 0
  | k + 1 => cn P k + (if P k = true then 1 else 0)
theorem cn_le (P : Nat → Bool) : ∀ n, cn P n ≤ n
  | 0 => Nat.le_refl _
  | n + 1 => by
    have := cn_le P n
    unfold cn
    split <;> omega
theorem cn_congr {P Q : Nat → Bool} : ∀ n, (∀ k, k < n → P k = Q k) → cn P n = cn Q n
  | 0, _ => rfl
  | n + 1, h => by
    unfold cn
    rw [cn_congr n (fun k hk => h k (by omega)), h n (by omega)]
theorem cn_below (j : Nat) : ∀ n, cn (fun k => decide (k < j)) n = min j n
  | 0 => by simp [cn]
  | n + 1 => by
    unfold cn
    rw [cn_below j n]
    by_cases h : n < j
    · rw [if_pos (by simpa using h)]; omega
    · rw [if_neg (by simpa using h)]; omega
theorem startOf_step (lens : List Int) (i : Nat) (hi : i < lens.length) : startOf lens ((i + 1 : Nat) : Int) = startOf lens (i : Int) + (rd lens (i : Int)).toNat := by
  rw [show ((i + 1 : Nat) : Int) = (i : Int) + 1 from by omega, startOf_succ lens (i : Int) (by omega) (by omega)]
theorem startOf_up (lens : List Int) (i j : Nat) (hij : i ≤ j) (hj : j ≤ lens.length) : startOf lens (i : Int) ≤ startOf lens (j : Int) := by
  obtain ⟨d, rfl⟩ : ∃ d, j = i + d := ⟨j - i, by omega⟩
  have := startOf_mono lens (i : Int) (by omega) d (by omega)
  rw [show ((i + d : Nat) : Int) = (i : Int) + d from by omega]
  exact this
def perSeg (F : Nat → Nat → Nat → Int) (lens : List Int) : Nat → List Int
  | 0 => []
  | i + 1 => perSeg F lens i ++ (List.range (rd lens (i : Int)).toNat).map (F (startOf lens (i : Int)) (rd lens (i : Int)).toNat)
theorem perSeg_length (F : Nat → Nat → Nat → Int) (lens : List Int) : ∀ i, i ≤ lens.length → (perSeg F lens i).length = startOf lens (i : Int)
  | 0, _ => rfl
  | i + 1, h => by
    show (perSeg F lens i ++ _).length = _
    rw [List.length_append, perSeg_length F lens i (by omega), List.length_map, List.length_range, startOf_step lens i (by omega)]
theorem rd_app_lt (a b : List Int) (i : Nat) (h : i < a.length) : rd (a ++ b) (i : Int) = rd a (i : Int) := by
  rw [rdn, rdn, List.getD_eq_getElem?_getD, List.getD_eq_getElem?_getD, List.getElem?_append_left h]
theorem rd_app_ge (a b : List Int) (i : Nat) : rd (a ++ b) ((a.length + i : Nat) : Int) = rd b (i : Int) := by
  rw [rdn, rdn, List.getD_eq_getElem?_getD, List.getD_eq_getElem?_getD, List.getElem?_append_right (by omega)]
  congr 2
  omega
theorem rd_mapRange (f : Nat → Int) (n i : Nat) (h : i < n) : rd ((List.range n).map f) (i : Int) = f i := by
  rw [rdn, List.getD_eq_getElem?_getD, List.getElem?_map, List.getElem?_range h]; rfl
theorem rd_perSeg (F : Nat → Nat → Nat → Int) (lens : List Int) (s j : Nat) : ∀ m, m ≤ lens.length → s < m → j < (rd lens (s : Int)).toNat → rd (perSeg F lens m) ((startOf lens (s : Int) + j : Nat) : Int) = F (startOf lens (s : Int)) (rd lens (s : Int)).toNat j
  | 0, _, h, _ => absurd h (Nat.not_lt_zero _)
  | m + 1, hm, hs, hj => by
    show rd (perSeg F lens m ++ _) _ = _
    have hl := perSeg_length F lens m (by omega)
    by_cases c : s = m
    · subst c
      rw [← hl, rd_app_ge, rd_mapRange _ _ _ hj]
    · have h1 := startOf_up lens (s + 1) m (by omega) (by omega)
      rw [startOf_step lens s (by omega)] at h1
      rw [rd_app_lt _ _ _ (by omega)]
      exact rd_perSeg F lens s j m (by omega) (by omega) hj
theorem seg_at (lens : List Int) (p : Nat) : ∀ m, m ≤ lens.length → p < startOf lens (m : Int) → ∃ s j, s < m ∧ j < (rd lens (s : Int)).toNat ∧ p = startOf lens (s : Int) + j
  | 0, _, h => by rw [show ((0 : Nat) : Int) = 0 from rfl, startOf_zero] at h; omega
  | m + 1, hm, h => by
    rw [startOf_step lens m (by omega)] at h
    by_cases c : p < startOf lens (m : Int)
    · obtain ⟨s, j, h1, h2, h3⟩ := seg_at lens p m (by omega) c
      exact ⟨s, j, by omega, h2, h3⟩
    · exact ⟨m, p - startOf lens (m : Int), by omega, by omega, by omega⟩
theorem ext_of_rd {a b : List Int} (hl : a.length = b.length) (h : ∀ i : Nat, i < a.length → rd a (i : Int) = rd b (i : Int)) : a = b := by
  apply List.ext_getElem hl
  intro i h1 h2
  have := h i h1
  rwa [rd_get h1, rd_get h2] at this
theorem perSeg_ext (F : Nat → Nat → Nat → Int) (lens : List Int) (m : Nat) (hm : m ≤ lens.length) (X : List Int) (hl : X.length = startOf lens (m : Int))
    (h : ∀ s j, s < m → j < (rd lens (s : Int)).toNat → rd X ((startOf lens (s : Int) + j : Nat) : Int) = F (startOf lens (s : Int)) (rd lens (s : Int)).toNat j) : X = perSeg F lens m := by
  refine ext_of_rd (by rw [hl, perSeg_length F lens m hm]) (fun p hp => ?_)
  obtain ⟨s, j, h1, h2, rfl⟩ := seg_at lens p m hm (by omega)
  rw [h s j h1 h2, rd_perSeg F lens s j m hm h1 h2]
theorem perSeg_congr (F G : Nat → Nat → Nat → Int) (lens : List Int) (m : Nat) (hm : m ≤ lens.length) (h : ∀ s j, s < m → j < (rd lens (s : Int)).toNat → F (startOf lens (s : Int)) (rd lens (s : Int)).toNat j = G (startOf lens (s : Int)) (rd lens (s : Int)).toNat j) : perSeg F lens m = perSeg G lens m :=
  perSeg_ext G lens m hm _ (perSeg_length F lens m hm) (fun s j hs hj => by rw [rd_perSeg F lens s j m hm hs hj, h s j hs hj])
def ltK (K : Int → Int) (l : List Int) (i k : Nat) : Bool := decide (K (rd l (i : Int)) < K (rd l (k : Int))) || (decide (K (rd l (i : Int)) = K (rd l (k : Int))) && decide (i < k))
def plK (K : Int → Int) (l : List Int) (st n i : Nat) : Int := ((st + cn (fun j => ltK K l (st + j) (st + i)) n : Nat) : Int)
def byK (K : Int → Int) (l lens : List Int) : List Int := perSeg (plK K l) lens lens.length
theorem ltK_irrefl (K : Int → Int) (l : List Int) (i : Nat) : ltK K l i i = false := by simp [ltK]
theorem mn_min' (a b : Int) : mn a b = min a b := by unfold mn; split <;> omega
theorem seg_in {l lens : List Int} (hok : okLens l lens = true) (s : Nat) (hs : s < lens.length) : 0 ≤ rd lens (s : Int) ∧ startOf lens (s : Int) + (rd lens (s : Int)).toNat ≤ l.length := by
  obtain ⟨h1, h2⟩ := okLens_pos hok
  have h3 := startOf_up lens (s + 1) lens.length (by omega) (Nat.le_refl _)
  rw [startOf_step lens s hs, h2] at h3
  refine ⟨?_, h3⟩
  rw [rd_get hs]
  exact h1 _ (List.getElem_mem hs)
theorem cn_succ (P : Nat → Bool) (n : Nat) : cn P (n + 1) = cn P n + (if P n = true then 1 else 0) := rfl
theorem cn_countP (P : Nat → Bool) : ∀ n, cn P n = (List.range n).countP P
  | 0 => rfl
  | n + 1 => by
    rw [cn_succ, cn_countP P n, List.range_succ, List.countP_append, List.countP_singleton]
theorem cn_and_below (P : Nat → Bool) (i : Nat) : ∀ n, i ≤ n → cn (fun j => P j && decide (j < i)) n = cn P i
  | 0, h => by
    obtain rfl : i = 0 := by omega
    rfl
  | n + 1, h => by
    rw [cn_succ]
    by_cases e : i = n + 1
    · subst e
      rw [cn_succ, cn_congr (Q := P) n (fun k hk => by rw [decide_eq_true (show k < n + 1 by omega), Bool.and_true])]
      rw [decide_eq_true (show n < n + 1 by omega), Bool.and_true]
    · rw [cn_and_below P i n (by omega), decide_eq_false (show ¬ n < i by omega), Bool.and_false]
      rfl
theorem cn_or (P Q : Nat → Bool) : ∀ n, (∀ k, k < n → P k = true → Q k = false) → cn (fun j => P j || Q j) n = cn P n + cn Q n
  | 0, _ => rfl
  | n + 1, h => by
    rw [cn_succ, cn_succ, cn_succ, cn_or P Q n (fun k hk => h k (by omega))]
    have := h n (by omega)
    cases hp : P n
    · cases hq : Q n <;> simp <;> omega
    · rw [this hp]; simp; omega
theorem cn_not (P : Nat → Bool) : ∀ n, cn P n + cn (fun j => !P j) n = n
  | 0 => rfl
  | n + 1 => by
    rw [cn_succ, cn_succ]
    have := cn_not P n
    cases hp : P n <;> simp <;> omega
theorem cn_imp {P Q : Nat → Bool} : ∀ n, (∀ k, k < n → P k = true → Q k = true) → cn P n ≤ cn Q n
  | 0, _ => Nat.le_refl _
  | n + 1, h => by
    rw [cn_succ, cn_succ]
    have h1 := cn_imp n (fun k hk => h k (by omega))
    have := h n (by omega)
    cases hp : P n
    · simp; omega
    · rw [this hp]; simp; omega
theorem cn_lt {P Q : Nat → Bool} : ∀ n, (∀ k, k < n → P k = true → Q k = true) → ∀ j, j < n → P j = false → Q j = true → cn P n < cn Q n
  | 0, _, j, h, _, _ => absurd h (Nat.not_lt_zero _)
  | n + 1, h, j, hj, hp, hq => by
    rw [cn_succ, cn_succ]
    by_cases e : j = n
    · subst e
      have h1 := cn_imp j (fun k hk => h k (by omega))
      rw [hp, hq]; simp; omega
    · have h1 := cn_lt n (fun k hk => h k (by omega)) j (by omega) hp hq
      have := h n (by omega)
      cases hpn : P n
      · simp; omega
      · rw [this hpn]; simp; omega
theorem ltK_iff (K : Int → Int) (l : List Int) (i k : Nat) : ltK K l i k = true ↔ K (rd l (i : Int)) < K (rd l (k : Int)) ∨ (K (rd l (i : Int)) = K (rd l (k : Int)) ∧ i < k) := by simp [ltK]
theorem ltK_trans {K : Int → Int} {l : List Int} {a b c : Nat} (h1 : ltK K l a b = true) (h2 : ltK K l b c = true) : ltK K l a c = true := by
  rw [ltK_iff] at *
  omega
theorem ltK_tri (K : Int → Int) (l : List Int) (a b : Nat) (h : a ≠ b) : ltK K l a b = true ∨ ltK K l b a = true := by
  rw [ltK_iff, ltK_iff]
  omega
/-- The number of those of a segment that go ahead of one of them. -/
def rkK (K : Int → Int) (l : List Int) (st n i : Nat) : Nat := cn (fun j => ltK K l (st + j) (st + i)) n
theorem rkK_lt {K : Int → Int} {l : List Int} {st n i j : Nat} (hi : i < n) (h : ltK K l (st + i) (st + j) = true) : rkK K l st n i < rkK K l st n j :=
  cn_lt n (fun k _ hk => ltK_trans hk h) i hi (ltK_irrefl K l (st + i)) h
theorem rkK_iff (K : Int → Int) (l : List Int) (st n i j : Nat) (hi : i < n) (hj : j < n) : rkK K l st n i < rkK K l st n j ↔ ltK K l (st + i) (st + j) = true := by
  refine ⟨fun h => ?_, rkK_lt hi⟩
  by_cases e : i = j
  · subst e; omega
  · rcases ltK_tri K l (st + i) (st + j) (by omega) with h2 | h2
    · exact h2
    · have := rkK_lt (K := K) (l := l) (st := st) (n := n) hj h2
      omega
theorem rkK_inj (K : Int → Int) (l : List Int) (st n i j : Nat) (hi : i < n) (hj : j < n) (h : rkK K l st n i = rkK K l st n j) : i = j := by
  by_cases e : i = j
  · exact e
  · rcases ltK_tri K l (st + i) (st + j) (by omega) with h2 | h2
    · have := rkK_lt (n := n) hi h2; omega
    · have := rkK_lt (n := n) hj h2; omega
theorem rkK_range (K : Int → Int) (l : List Int) (st n i : Nat) (hi : i < n) : rkK K l st n i < n := by
  have h := cn_lt (P := fun j => ltK K l (st + j) (st + i)) (Q := fun _ => true) n (fun _ _ _ => rfl) i hi (ltK_irrefl K l (st + i)) rfl
  have h2 := cn_le (fun _ => true) n
  unfold rkK
  omega
theorem onto (n : Nat) (f : Nat → Nat) (h1 : ∀ i, i < n → f i < n) (h2 : ∀ i j, i < n → j < n → f i = f j → i = j) (v : Nat) (hv : v < n) : ∃ i, i < n ∧ f i = v := by
  have hr : ∀ i : Nat, i < n → rd ((List.range n).map (fun i => (f i : Int))) (i : Int) = (f i : Int) := fun i hi => rd_mapRange _ n i hi
  have ho : okTo n ((List.range n).map (fun i => (f i : Int))) n := by
    intro j hj
    rw [hr j hj, decide_eq_true (by omega), decide_eq_true (by have := h1 j hj; omega), Bool.true_and, Bool.true_and, Bool.not_eq_true']
    cases hs : stands ((List.range n).map (fun i => (f i : Int))) j (f j : Int)
    · rfl
    · obtain ⟨q, hq, e⟩ := (stands_iff _ _ _).1 hs
      rw [hr q (by omega)] at e
      have := h2 q j (by omega) hj (by omega)
      omega
  obtain ⟨i, hi, e⟩ := (stands_iff _ _ _).1 (all_stand n _ ho v hv)
  rw [hr i hi] at e
  exact ⟨i, hi, by omega⟩
theorem cn_perm (n : Nat) (f : Nat → Nat) (h1 : ∀ i, i < n → f i < n) (h2 : ∀ i j, i < n → j < n → f i = f j → i = j) (P : Nat → Bool) : cn P n = cn (fun j => P (f j)) n := by
  have hp : ((List.range n).map f).Perm (List.range n) := by
    refine (List.perm_ext_iff_of_nodup ?_ List.nodup_range).2 (fun a => ?_)
    · rw [List.nodup_iff_pairwise_ne, List.pairwise_map, List.pairwise_iff_getElem]
      intro i j hi hj hij e
      simp only [List.length_range] at hi hj
      rw [List.getElem_range, List.getElem_range] at e
      have := h2 i j hi hj e
      omega
    · rw [List.mem_map, List.mem_range]
      constructor
      · rintro ⟨i, hi, rfl⟩
        exact h1 i (List.mem_range.1 hi)
      · intro ha
        obtain ⟨i, hi, e⟩ := onto n f h1 h2 a ha
        exact ⟨i, List.mem_range.2 hi, e⟩
  rw [cn_countP, cn_countP, ← hp.countP_eq, List.countP_map]
  rfl
theorem byK_length {K : Int → Int} {l lens : List Int} (hok : okLens l lens = true) : (byK K l lens).length = l.length := by
  rw [byK, perSeg_length _ _ _ (Nat.le_refl _), (okLens_pos hok).2]
theorem rd_byK {K : Int → Int} {l lens : List Int} (s i : Nat) (hs : s < lens.length) (hi : i < (rd lens (s : Int)).toNat) : rd (byK K l lens) ((startOf lens (s : Int) + i : Nat) : Int) = ((startOf lens (s : Int) + rkK K l (startOf lens (s : Int)) (rd lens (s : Int)).toNat i : Nat) : Int) :=
  rd_perSeg (plK K l) lens s i lens.length (Nat.le_refl _) hs hi
theorem splitTo_perSeg (f : Int → Bool) (l lens : List Int) : ∀ m, m ≤ lens.length → splitTo f l lens m = perSeg (fun st n i => Hand.splitAt f l st n i) lens m
  | 0, _ => rfl
  | m + 1, h => by
    rw [splitTo, perSeg, splitTo_perSeg f l lens m (by omega), splitSeg_map]
theorem notsAt_cn (f : Int → Bool) (l : List Int) (st : Nat) : ∀ k, notsAt f l st k = cn (fun j => !f (rd l ((st + j : Nat) : Int))) k
  | 0 => rfl
  | k + 1 => by
    rw [notsAt, cn_succ, notsAt_cn f l st k]
    cases f (rd l ((st + k : Nat) : Int)) <;> rfl
def flK (f : Int → Bool) (x : Int) : Int := if f x = true then 1 else 0
theorem split_closed (f : Int → Bool) {l lens : List Int} (hok : okLens l lens = true) : splitG f l lens = byK (flK f) l lens := by
  unfold splitG byK
  rw [splitTo_perSeg f l lens _ (Nat.le_refl _)]
  refine perSeg_congr _ _ lens lens.length (Nat.le_refl _) (fun s i hs hi => ?_)
  generalize startOf lens (s : Int) = st at *
  generalize (rd lens (s : Int)).toNat = n at *
  unfold Hand.splitAt plK
  rw [notsAt_cn, notsAt_cn]
  have e : ∀ j, ltK (flK f) l (st + j) (st + i) = (if f (rd l ((st + i : Nat) : Int)) = true then (!f (rd l ((st + j : Nat) : Int)) || (f (rd l ((st + j : Nat) : Int)) && decide (j < i))) else (!f (rd l ((st + j : Nat) : Int)) && decide (j < i))) := by
    intro j
    unfold ltK flK
    have e2 : decide (st + j < st + i) = decide (j < i) := decide_eq_decide.2 (by omega)
    rw [e2]
    cases f (rd l ((st + i : Nat) : Int)) <;> cases f (rd l ((st + j : Nat) : Int)) <;> simp
  rw [cn_congr n (fun j _ => e j)]
  cases hf : f (rd l ((st + i : Nat) : Int))
  · simp only [Bool.false_eq_true, if_false]
    rw [cn_and_below _ i n (by omega)]
    omega
  · simp only [if_true]
    rw [cn_or _ _ n (fun k _ hk => by simp at hk; simp [hk]), cn_and_below _ i n (by omega)]
    have := cn_not (fun j => f (rd l ((st + j : Nat) : Int))) i
    omega
theorem byK_range {K : Int → Int} {l lens : List Int} (hok : okLens l lens = true) (q : Nat) (hq : q < l.length) : ∃ v : Nat, rd (byK K l lens) (q : Int) = v ∧ v < l.length := by
  obtain ⟨s, i, hs, hi, rfl⟩ := seg_at lens q lens.length (Nat.le_refl _) (by rw [(okLens_pos hok).2]; exact hq)
  obtain ⟨_, hin⟩ := seg_in hok s hs
  have := rkK_range K l (startOf lens (s : Int)) (rd lens (s : Int)).toNat i hi
  exact ⟨_, rd_byK s i hs hi, by omega⟩
/-- What was moved by places, as a list. -/
def Mv (l p b : List Int) : Prop := b.length = l.length ∧ ∀ q : Nat, q < l.length → rd b (rd p (q : Int)) = rd l (q : Int)
theorem resplit {K K' K2 : Int → Int} {l lens b : List Int} (hok : okLens l lens = true) (hb : Mv l (byK K l lens) b)
    (h : ∀ x ∈ l, ∀ y ∈ l, (K2 x < K2 y ↔ K' x < K' y ∨ (K' x = K' y ∧ K x < K y)) ∧ (K2 x = K2 y ↔ K' x = K' y ∧ K x = K y)) : compG (byK K l lens) (byK K' b lens) = byK K2 l lens := by
  have hlen : (byK K l lens).length = l.length := byK_length hok
  refine perSeg_ext _ lens lens.length (Nat.le_refl _) _ (by unfold compG; rw [upTo_length, Int.toNat_natCast, hlen, (okLens_pos hok).2]) (fun s i hs hi => ?_)
  obtain ⟨_, hin⟩ := seg_in hok s hs
  unfold compG
  rw [hlen, Hand.upTo_rd _ _ _ (by omega), rd_byK s i hs hi, rd_byK s _ hs (rkK_range K l _ _ i hi)]
  have hmem : ∀ j, j < (rd lens (s : Int)).toNat → rd l ((startOf lens (s : Int) + j : Nat) : Int) ∈ l := fun j hj => by
    rw [rd_get (by omega)]; exact List.getElem_mem _
  have hmv : ∀ j, j < (rd lens (s : Int)).toNat → rd b ((startOf lens (s : Int) + rkK K l (startOf lens (s : Int)) (rd lens (s : Int)).toNat j : Nat) : Int) = rd l ((startOf lens (s : Int) + j : Nat) : Int) := fun j hj => by
    rw [← rd_byK s j hs hj]; exact hb.2 _ (by omega)
  generalize startOf lens (s : Int) = st at *
  generalize (rd lens (s : Int)).toNat = n at *
  unfold plK
  rw [rkK, cn_perm n (rkK K l st n) (fun j hj => rkK_range K l st n j hj) (fun a c ha hc => rkK_inj K l st n a c ha hc)]
  congr 2
  refine cn_congr n (fun j hj => ?_)
  have h1 := (h _ (hmem j hj) _ (hmem i hi)).1
  have h2 := (h _ (hmem j hj) _ (hmem i hi)).2
  have h3 := rkK_iff K l st n j i hj hi
  rw [ltK_iff] at h3
  unfold ltK
  rw [hmv j hj, hmv i hi]
  rw [Bool.eq_iff_iff]
  simp only [Bool.or_eq_true, Bool.and_eq_true, decide_eq_true_eq]
  generalize rkK K l st n j = rj at *
  generalize rkK K l st n i = ri at *
  omega
theorem wrap_of {n : Int} (h0 : -9223372036854775808 ≤ n) (h1 : n ≤ 9223372036854775807) : wrap64 n = n := by unfold wrap64; omega
theorem and_nat (a b : Nat) (ha : a < 4611686018427387904) (hb : b < 4611686018427387904) : Go.bits .and .i64 (a : Int) (b : Int) = ((a &&& b : Nat) : Int) := by
  show IntKind.i64.wrap (((BitVec.ofInt 64 (a : Int) &&& BitVec.ofInt 64 (b : Int)).toNat : Nat) : Int) = _
  have h1 : (BitVec.ofInt 64 (a : Int)).toNat = a := by rw [BitVec.toNat_ofInt]; omega
  have h2 : (BitVec.ofInt 64 (b : Int)).toNat = b := by rw [BitVec.toNat_ofInt]; omega
  have h3 : a &&& b ≤ a := Nat.and_le_left
  rw [BitVec.toNat_and, h1, h2, i64_w, wrap_of (by omega) (by omega)]
def lowK (b : Nat) (x : Int) : Int := (((x + 2147483648).toNat % 2 ^ b : Nat) : Int)
theorem word_nat {x : Int} (h : isWordB x = true) : ∃ u : Nat, x + 2147483648 = u ∧ u < 4294967296 := by
  have := (isWordB_iff x).1 h
  exact ⟨(x + 2147483648).toNat, by omega, by omega⟩
theorem bitB_low (b : Nat) (x : Int) (hx : isWordB x = true) : bitB b x = decide ((x + 2147483648).toNat / 2 ^ b % 2 = 1) := by
  obtain ⟨u, hu, hl⟩ := word_nat hx
  unfold bitB
  have e : ((u : Int) / 2 ^ b) = ((u / 2 ^ b : Nat) : Int) := by
    rw [show ((2 : Int) ^ b) = ((2 ^ b : Nat) : Int) from by simp]
    exact (Int.natCast_ediv u (2 ^ b)).symm
  have e1 : (1 : Int) = ((1 : Nat) : Int) := rfl
  have h2 : u / 2 ^ b ≤ u := Nat.div_le_self _ _
  rw [hu, wrap_of (by omega) (by omega), e, e1, and_nat _ _ (by omega) (by omega), Int.toNat_natCast, Nat.and_one_is_mod]
  rw [Bool.eq_iff_iff, beq_iff_eq, decide_eq_true_eq]
  omega
theorem low_step (b u v : Nat) : (u % 2 ^ (b + 1) < v % 2 ^ (b + 1) ↔ (u / 2 ^ b % 2 < v / 2 ^ b % 2 ∨ (u / 2 ^ b % 2 = v / 2 ^ b % 2 ∧ u % 2 ^ b < v % 2 ^ b))) ∧ (u % 2 ^ (b + 1) = v % 2 ^ (b + 1) ↔ (u / 2 ^ b % 2 = v / 2 ^ b % 2 ∧ u % 2 ^ b = v % 2 ^ b)) := by
  have hp : 0 < 2 ^ b := Nat.pow_pos (by omega)
  rw [Nat.mod_pow_succ (b := 2) (k := b) (x := u), Nat.mod_pow_succ (b := 2) (k := b) (x := v)]
  have h1 := Nat.mod_lt u hp
  have h2 := Nat.mod_lt v hp
  have h3 := Nat.mod_lt (u / 2 ^ b) (show 0 < 2 by omega)
  have h4 := Nat.mod_lt (v / 2 ^ b) (show 0 < 2 by omega)
  generalize u % 2 ^ b = a at *
  generalize v % 2 ^ b = c at *
  generalize u / 2 ^ b % 2 = d at *
  generalize v / 2 ^ b % 2 = e at *
  generalize 2 ^ b = p at *
  have q1 : d = 0 ∨ d = 1 := by omega
  have q2 : e = 0 ∨ e = 1 := by omega
  rcases q1 with rfl | rfl <;> rcases q2 with rfl | rfl <;> simp <;> omega
theorem low_succ (b : Nat) (x y : Int) (hx : isWordB x = true) (hy : isWordB y = true) :
    (lowK (b + 1) x < lowK (b + 1) y ↔ flK (bitB b) x < flK (bitB b) y ∨ (flK (bitB b) x = flK (bitB b) y ∧ lowK b x < lowK b y)) ∧ (lowK (b + 1) x = lowK (b + 1) y ↔ flK (bitB b) x = flK (bitB b) y ∧ lowK b x = lowK b y) := by
  have h := low_step b (x + 2147483648).toNat (y + 2147483648).toNat
  unfold lowK flK
  rw [bitB_low b x hx, bitB_low b y hy]
  have h3 := Nat.mod_lt ((x + 2147483648).toNat / 2 ^ b) (show 0 < 2 by omega)
  have h4 := Nat.mod_lt ((y + 2147483648).toNat / 2 ^ b) (show 0 < 2 by omega)
  generalize (x + 2147483648).toNat % 2 ^ (b + 1) = a1 at *
  generalize (y + 2147483648).toNat % 2 ^ (b + 1) = a2 at *
  generalize (x + 2147483648).toNat % 2 ^ b = a3 at *
  generalize (y + 2147483648).toNat % 2 ^ b = a4 at *
  generalize (x + 2147483648).toNat / 2 ^ b % 2 = d at *
  generalize (y + 2147483648).toNat / 2 ^ b % 2 = e at *
  have q1 : d = 0 ∨ d = 1 := by omega
  have q2 : e = 0 ∨ e = 1 := by omega
  rcases q1 with rfl | rfl <;> rcases q2 with rfl | rfl <;> simp at h ⊢ <;> omega
theorem okTo_inj' (n : Nat) (p : List Int) (h : okTo n p p.length) (i j : Nat) (hi : i < p.length) (hj : j < p.length) (e : rd p (i : Int) = rd p (j : Int)) : i = j := by
  by_cases hij : i = j
  · exact hij
  · exfalso
    rcases Nat.lt_or_gt_of_ne hij with c | c
    · have := h j hj
      rw [(stands_iff p j _).2 ⟨i, c, e⟩] at this
      simp at this
    · have := h i hi
      rw [(stands_iff p i _).2 ⟨j, c, e.symm⟩] at this
      simp at this
theorem where_of {p : List Int} (h : okPlaces p.length p = true) (q : Nat) (hq : q < p.length) : stands p p.length (rd p (q : Int)) = true ∧ whereIs p p.length (rd p (q : Int)) = q := by
  have hs : stands p p.length (rd p (q : Int)) = true := (stands_iff _ _ _).2 ⟨q, hq, rfl⟩
  obtain ⟨h0, h1, h2⟩ := whereIs_at p p.length _ hs
  refine ⟨hs, ?_⟩
  have := okTo_inj' p.length p ((okPlaces_iff _ _).1 h) (whereIs p p.length (rd p (q : Int))).toNat q (by omega) hq (by rw [Int.toNat_of_nonneg h0]; exact h2)
  omega
theorem movedAt_Mv {l p : List Int} (hl : p.length = l.length) (h : okPlaces p.length p = true) : Mv l p (movedAt l p p.length) := by
  refine ⟨by unfold movedAt; rw [upTo_length, Int.toNat_natCast], fun q hq => ?_⟩
  obtain ⟨h0, h1, _⟩ := okPlaces_pos h q (by omega)
  obtain ⟨hs, hw⟩ := where_of h q (by omega)
  obtain ⟨v, hv⟩ : ∃ v : Nat, rd p (q : Int) = v := ⟨(rd p (q : Int)).toNat, by omega⟩
  unfold movedAt
  rw [hv] at hs hw ⊢
  rw [Hand.upTo_rd _ _ _ (by omega), hs, if_pos rfl, hw]
theorem byK_ok {K : Int → Int} {l lens : List Int} (hok : okLens l lens = true) : okPlaces (byK K l lens).length (byK K l lens) = true := by
  rw [byK_length hok]
  refine okPlaces_true _ _ (fun q hq => ?_)
  rw [byK_length hok] at hq
  obtain ⟨v, hv, hvl⟩ := byK_range (K := K) hok q hq
  rw [hv, decide_eq_true (by omega), decide_eq_true (by omega), Bool.true_and, Bool.true_and, Bool.not_eq_true']
  cases hs : stands (byK K l lens) q (v : Int)
  · rfl
  · exfalso
    obtain ⟨r, hr, e⟩ := (stands_iff _ _ _).1 hs
    rw [← hv] at e
    have htot := (okLens_pos hok).2
    obtain ⟨s, i, hs1, hi, rfl⟩ := seg_at lens q lens.length (Nat.le_refl _) (by omega)
    obtain ⟨s2, j, hs2, hj, rfl⟩ := seg_at lens r lens.length (Nat.le_refl _) (by omega)
    rw [rd_byK s i hs1 hi, rd_byK s2 j hs2 hj] at e
    have r1 := rkK_range K l (startOf lens (s : Int)) (rd lens (s : Int)).toNat i hi
    have r2 := rkK_range K l (startOf lens (s2 : Int)) (rd lens (s2 : Int)).toNat j hj
    by_cases es : s = s2
    · subst es
      have := rkK_inj K l (startOf lens (s : Int)) (rd lens (s : Int)).toNat i j hi hj (by omega)
      omega
    · rcases Nat.lt_or_gt_of_ne es with c | c
      · have h1 := startOf_up lens (s + 1) s2 (by omega) (by omega)
        rw [startOf_step lens s hs1] at h1
        omega
      · have h1 := startOf_up lens (s2 + 1) s (by omega) (by omega)
        rw [startOf_step lens s2 hs2] at h1
        omega
theorem okLens_of {l l2 lens : List Int} (h : okLens l lens = true) (h2 : l2.length = l.length) : okLens l2 lens = true := okLens_length h h2
theorem pass_closed {l lens : List Int} (hok : okLens l lens = true) (hw : ∀ x ∈ l, isWordB x = true) : ∀ k, (passSt l lens k).1 = byK (lowK k) l lens ∧ Mv l (byK (lowK k) l lens) (passSt l lens k).2
  | 0 => by
    have e : upTo (fun k => k) l.length = byK (lowK 0) l lens := by
      refine perSeg_ext _ lens lens.length (Nat.le_refl _) _ (by rw [upTo_length, Int.toNat_natCast, (okLens_pos hok).2]) (fun s i hs hi => ?_)
      obtain ⟨_, hin⟩ := seg_in hok s hs
      rw [Hand.upTo_rd _ _ _ (by omega)]
      unfold plK
      congr 2
      rw [cn_congr (Q := fun j => decide (j < i)) _ (fun j hj => by
        unfold ltK lowK
        simp only [Nat.pow_zero, Nat.mod_one]
        simp), cn_below]
      omega
    refine ⟨e, rfl, fun q hq => ?_⟩
    rw [← e, Hand.upTo_rd _ _ _ hq]
    rfl
  | k + 1 => by
    obtain ⟨h1, h2⟩ := pass_closed hok hw k
    have hok2 : okLens (passSt l lens k).2 lens = true := okLens_of hok h2.1
    have hs := split_closed (bitB k) hok2
    have hR := resplit (K' := flK (bitB k)) (K2 := lowK (k + 1)) hok h2 (fun x hx y hy => low_succ k x y (hw x hx) (hw y hy))
    have h3 : (passSt l lens (k + 1)).1 = byK (lowK (k + 1)) l lens := by
      rw [passSt]
      simp only
      rw [h1, hs, hR]
    refine ⟨h3, ?_⟩
    have hm := movedAt_Mv (l := (passSt l lens k).2) (p := byK (flK (bitB k)) (passSt l lens k).2 lens) (byK_length hok2) (byK_ok hok2)
    have e2 : (passSt l lens (k + 1)).2 = movedAt (passSt l lens k).2 (byK (flK (bitB k)) (passSt l lens k).2 lens) (byK (flK (bitB k)) (passSt l lens k).2 lens).length := by
      rw [passSt]
      simp only
      rw [hs]
    rw [e2]
    refine ⟨by rw [hm.1, h2.1], fun q hq => ?_⟩
    rw [← hR]
    unfold compG
    rw [byK_length hok, Hand.upTo_rd _ _ _ hq]
    obtain ⟨v, hv, hvl⟩ := byK_range (K := lowK k) hok q hq
    have h4 := hm.2 v (by rw [h2.1]; exact hvl)
    simp only [hv]
    rw [h4, ← hv]
    exact h2.2 q hq
theorem ltK_of {K K' : Int → Int} {l l' : List Int} {i j : Nat} (h1 : K (rd l (i : Int)) = K' (rd l' (i : Int))) (h2 : K (rd l (j : Int)) = K' (rd l' (j : Int))) : ltK K l i j = ltK K' l' i j := by
  unfold ltK
  rw [h1, h2]
/-- Places: all numbers below a length, each once. -/
structure Pl (n : Nat) (p : List Int) : Prop where
  len : p.length = n
  ok : okPlaces n p = true
theorem Pl.check {n : Nat} {p : List Int} (h : Pl n p) (hn : n ≤ 1048576) : rank_Check.g p = 0 := by
  have h1 := h.len
  subst h1
  unfold rank_Check.g
  rw [if_neg (by omega), h.ok]
  rfl
theorem Pl.at {n : Nat} {p : List Int} (h : Pl n p) (i : Nat) (hi : i < n) : ∃ v : Nat, rd p (i : Int) = v ∧ v < n := by
  obtain ⟨h0, h1, _⟩ := okPlaces_pos h.ok i (by rw [h.len]; exact hi)
  exact ⟨(rd p (i : Int)).toNat, by omega, by omega⟩
theorem Pl.inj {n : Nat} {p : List Int} (h : Pl n p) (i j : Nat) (hi : i < n) (hj : j < n) (e : rd p (i : Int) = rd p (j : Int)) : i = j :=
  okTo_inj' n p ((okPlaces_iff n p).1 h.ok) i j (by rw [h.len]; exact hi) (by rw [h.len]; exact hj) e
theorem Pl.mk2 {n : Nat} {p : List Int} (hl : p.length = n) (h1 : ∀ i, i < n → ∃ v : Nat, rd p (i : Int) = v ∧ v < n) (h2 : ∀ i j : Nat, i < n → j < n → rd p (i : Int) = rd p (j : Int) → i = j) : Pl n p := by
  refine ⟨hl, okPlaces_true n p (fun i hi => ?_)⟩
  rw [hl] at hi
  obtain ⟨v, hv, hvn⟩ := h1 i hi
  rw [hv, decide_eq_true (by omega), decide_eq_true (by omega), Bool.true_and, Bool.true_and, Bool.not_eq_true']
  cases hs : stands p i (v : Int)
  · rfl
  · exfalso
    obtain ⟨j, hj, e⟩ := (stands_iff _ _ _).1 hs
    have := h2 j i (by omega) hi (by rw [e, hv])
    omega
theorem Pl.of_perm {n : Nat} {p : List Int} (h : p.Perm (upInts n)) : Pl n p := by
  obtain ⟨h1, h2⟩ := perm_ok p n h
  exact ⟨h1, (okPlaces_iff n p).2 h2⟩
theorem Pl.find {n : Nat} {p : List Int} (h : Pl n p) (v : Nat) (hv : v < n) : ∃ i : Nat, i < n ∧ rd p (i : Int) = v := by
  have h1 := (okPlaces_iff n p).1 h.ok
  rw [h.len] at h1
  obtain ⟨i, hi, e⟩ := (stands_iff _ _ _).1 (all_stand n p h1 v hv)
  exact ⟨i, hi, e⟩
theorem Pl.where_rd {n : Nat} {p : List Int} (h : Pl n p) (i : Nat) (hi : i < n) : whereIs p n (rd p (i : Int)) = i := by
  have h1 := h.len
  subst h1
  exact (where_of h.ok i hi).2
theorem rd_invG {n : Nat} {p : List Int} (h : Pl n p) (i : Nat) (hi : i < n) : ∃ v : Nat, rd p (i : Int) = v ∧ v < n ∧ rd (invG p) (v : Int) = i := by
  obtain ⟨v, hv, hvn⟩ := h.at i hi
  refine ⟨v, hv, hvn, ?_⟩
  unfold invG
  rw [h.len, Hand.upTo_rd _ _ _ hvn, ← hv]
  exact h.where_rd i hi
theorem invG_length (p : List Int) : (invG p).length = p.length := by unfold invG; rw [upTo_length, Int.toNat_natCast]
theorem Pl.inv {n : Nat} {p : List Int} (h : Pl n p) : Pl n (invG p) := by
  have hat : ∀ v : Nat, v < n → ∃ i : Nat, i < n ∧ rd p (i : Int) = v ∧ rd (invG p) (v : Int) = i := fun v hv => by
    obtain ⟨i, hi, e⟩ := h.find v hv
    obtain ⟨v2, h1, _, h3⟩ := rd_invG h i hi
    obtain rfl : v2 = v := by omega
    exact ⟨i, hi, e, h3⟩
  refine Pl.mk2 (by rw [invG_length, h.len]) (fun v hv => ?_) (fun v u hv hu e => ?_)
  · obtain ⟨i, hi, _, h3⟩ := hat v hv
    exact ⟨i, h3, hi⟩
  · obtain ⟨i, hi, e1, h1⟩ := hat v hv
    obtain ⟨j, hj, e2, h2⟩ := hat u hu
    obtain rfl : i = j := by omega
    omega
theorem compG_length (f s : List Int) : (compG f s).length = f.length := by unfold compG; rw [upTo_length, Int.toNat_natCast]
theorem rd_compG (f s : List Int) (i : Nat) (hi : i < f.length) : rd (compG f s) (i : Int) = rd s (rd f (i : Int)) := by
  unfold compG
  rw [Hand.upTo_rd _ _ _ hi]
theorem Pl.comp {n : Nat} {p q : List Int} (h : Pl n p) (h2 : Pl n q) : Pl n (compG p q) := by
  refine Pl.mk2 (by rw [compG_length, h.len]) (fun i hi => ?_) (fun i j hi hj e => ?_)
  · obtain ⟨v, hv, hvn⟩ := h.at i hi
    obtain ⟨u, hu, hun⟩ := h2.at v hvn
    exact ⟨u, by rw [rd_compG _ _ _ (by rw [h.len]; exact hi), hv, hu], hun⟩
  · rw [rd_compG _ _ _ (by rw [h.len]; exact hi), rd_compG _ _ _ (by rw [h.len]; exact hj)] at e
    obtain ⟨v, hv, hvn⟩ := h.at i hi
    obtain ⟨u, hu, hun⟩ := h.at j hj
    rw [hv, hu] at e
    have := h2.inj v u hvn hun e
    exact h.inj i j hi hj (by omega)
theorem Pl.inverse_g {n : Nat} {p : List Int} (h : Pl n p) (hn : n ≤ 1048576) : rank_Inverse.g p = (invG p, 0) := by
  unfold rank_Inverse.g
  rw [if_pos (h.check hn)]
theorem Pl.compose_g {n : Nat} {p q : List Int} (h : Pl n p) (h2 : Pl n q) (hn : n ≤ 1048576) : rank_Compose.g p q = (compG p q, 0) := by
  unfold rank_Compose.g
  rw [if_pos (h.check hn), if_pos (h2.check hn), if_pos (by rw [h.len, h2.len])]
theorem ev_Wrap (l : List Int) (most : Nat) (hm : most ≤ 1000) (hl : Sh l) : ∃ a, Ev (fun k => r00_Wrap.f k l (most : Int)) a ∧ a.length ≤ most ∧ a.length ≤ l.length ∧ (∀ x ∈ a, isWordB x = true) ∧ a.length = min l.length most := by
  let g : Nat → Int := fun i => wrap64 (wrap32 (rd l (i : Int)))
  have H := up (n := min l.length most) (P := fun i => Ev (fun k => r00_Wrap.l0 k l (most : Int) ((List.range i).map g) (i : Int)) ((List.range (min l.length most)).map g))
    (Ev.step (f := fun _ => some ((List.range (min l.length most)).map g)) (fun k => by
      simp only [r00_Wrap.l0]
      by_cases h : ((min l.length most : Nat) : Int) < (l.length : Int)
      · rw [if_pos h, if_neg (by omega)]
      · rw [if_neg h]) (Ev.now _))
    (fun i hi ih => by
      refine Ev.step (f := fun k => r00_Wrap.l0 k l (most : Int) ((List.range (i + 1)).map g) ((i + 1 : Nat) : Int)) (fun k => ?_) ih
      simp only [r00_Wrap.l0]; rw [if_pos (by omega), if_pos (by omega), if_pos (by omega), f_Word]
      simp only [Option.bind_some]
      rw [if_pos (by simp; omega), wsucc hi (by omega), List.range_succ, List.map_append]
      rfl) 0 (Nat.zero_le _)
  refine ⟨(List.range (min l.length most)).map g, H, ?_, ?_, ?_, ?_⟩
  · simp; omega
  · simp; omega
  · intro x hx
    obtain ⟨i, _, rfl⟩ := List.mem_map.1 hx
    exact wrap32_word _
  · simp
def tot (lens : List Int) : Nat := startOf lens lens.length
theorem tot_snoc (lens : List Int) (x : Int) : tot (lens ++ [x]) = tot lens + x.toNat := by
  unfold tot startOf
  rw [Int.toNat_natCast, Int.toNat_natCast, List.take_of_length_le (Nat.le_refl _), List.take_of_length_le (Nat.le_refl _), List.foldl_append]
  rfl
/-- Lengths whose total is a number. -/
structure Ln (T : Nat) (lens : List Int) : Prop where
  len : lens.length ≤ 201
  pos : ∀ x ∈ lens, 0 ≤ x ∧ x ≤ T
  tot : tot lens = T
theorem ev_lensOf (l : List Int) (T : Nat) (hT : T ≤ 1000) (hl : Sh l) : ∃ lens, Ev (fun k => w07_lensOf.f k l (T : Int)) lens ∧ Ln T lens := by
  have hend : ∀ (x : Nat) (out : List Int) (i : Nat), out.length ≤ 200 → (∀ y ∈ out, 0 ≤ y ∧ y ≤ T) → tot out + x = T → ∃ lens, Ev (fun k => w07_lensOf.j1 k l (x : Int) out (i : Int) false) lens ∧ Ln T lens := by
    intro x out i h1 h2 h3
    by_cases c : 0 < x
    · refine ⟨out ++ [(x : Int)], Ev.step (f := fun _ => some _) (fun k => ?_) (Ev.now _), by simp; omega, fun y hy => ?_, by rw [tot_snoc, Int.toNat_natCast]; exact h3⟩
      · simp only [w07_lensOf.j1]
        rw [if_neg (by simp), if_pos (by omega), if_pos (by omega)]
      · rcases List.mem_append.1 hy with h | h
        · exact h2 y h
        · rw [List.mem_singleton] at h; omega
    · refine ⟨out, Ev.step (f := fun _ => some _) (fun k => ?_) (Ev.now _), by omega, h2, by omega⟩
      simp only [w07_lensOf.j1]
      rw [if_neg (by simp), if_neg (by omega)]
  have H := up (n := 200) (P := fun i => ∀ (x : Nat) (out : List Int), out.length ≤ i → (∀ y ∈ out, 0 ≤ y ∧ y ≤ T) → tot out + x = T → ∃ lens, Ev (fun k => w07_lensOf.l0 k l (x : Int) out (i : Int)) lens ∧ Ln T lens)
    (fun x out h1 h2 h3 => by
      obtain ⟨lens, g1, g2⟩ := hend x out 200 h1 h2 h3
      refine ⟨lens, Ev.step (fun k => ?_) g1, g2⟩
      simp only [w07_lensOf.l0]
      by_cases c : (x : Int) > 0
      · rw [if_pos c, decide_eq_false (by omega)]
      · rw [if_neg c])
    (fun i hi ih x out h1 h2 h3 => by
      by_cases c : (x : Int) > 0
      · obtain ⟨v, hv⟩ := f_Nth l (i : Int) hl
        obtain ⟨t, t1, t2, t3⟩ := f_Turn (wrap64 (v + i)) 7 (by omega)
        have t3 := t3 (by omega)
        obtain ⟨y, hy⟩ : ∃ y : Nat, mn (x : Int) t = y := ⟨(mn (x : Int) t).toNat, by rw [mn_min']; omega⟩
        have hyx : y ≤ x := by rw [mn_min'] at hy; omega
        have hw : wrap64 ((x : Int) - mn (x : Int) t) = ((x - y : Nat) : Int) := by rw [hy]; unfold wrap64; omega
        obtain ⟨lens, g1, g2⟩ := ih (x - y) (out ++ [(y : Int)]) (by simp; omega) (fun z hz => by
          rcases List.mem_append.1 hz with h | h
          · exact h2 z h
          · rw [List.mem_singleton] at h; omega) (by rw [tot_snoc, Int.toNat_natCast]; omega)
        refine ⟨lens, Ev.step (f := fun k => w07_lensOf.j1 k l (x : Int) out (i : Int) true) (fun k => ?_) (Ev.step (fun k => ?_) g1), g2⟩
        · simp only [w07_lensOf.l0]
          rw [if_pos c, decide_eq_true (by omega)]
        · simp only [w07_lensOf.j1]
          rw [if_pos trivial, hv, Option.bind_some, t1, Option.bind_some, hw, hy, if_pos (by omega), wsucc hi (by omega)]
      · obtain ⟨lens, g1, g2⟩ := hend x out i (by omega) h2 h3
        refine ⟨lens, Ev.step (fun k => ?_) g1, g2⟩
        simp only [w07_lensOf.l0]
        rw [if_neg c]) 0 (Nat.zero_le _) T [] (by simp) (by simp) (by simp [tot, startOf])
  exact H
theorem Ln.okLens {T : Nat} {l lens : List Int} (h : Ln T lens) (hl : l.length = T) : okLens l lens = true := by
  have h1 := h.tot
  unfold Pure.tot at h1
  unfold Hand.okLens
  rw [h1, hl, BEq.rfl, Bool.and_true, List.all_eq_true]
  intro x hx
  exact decide_eq_true (h.pos x hx).1
theorem Ln.openE {T : Nat} {l lens : List Int} (h : Ln T lens) (hT : T ≤ 1000) (hl : l.length = T) (hw : ∀ x ∈ l, isWordB x = true) : openE l lens = 0 := by
  have h1 : wordsE [l, lens] = 0 := by
    unfold wordsE
    have e1 : (List.any [l, lens] fun l => decide (1048576 < l.length)) = false := by
      have := h.len
      simp; omega
    have e2 : (List.any [l, lens] noWords) = false := by
      simp only [List.any_cons, List.any_nil, Bool.or_false, Bool.or_eq_false_iff]
      refine ⟨List.any_eq_false.2 (fun x hx => by rw [hw x hx]; simp), List.any_eq_false.2 (fun x hx => ?_)⟩
      have := h.pos x hx
      rw [(isWordB_iff x).2 (by omega)]
      simp
    rw [e1, e2]
    rfl
  unfold Hand.openE
  rw [if_pos h1, h.okLens hl]
  rfl
theorem ev_moved (l p : List Int) (n : Nat) (hl : l.length = n) (hn : n ≤ 1048576) (hp : Pl n p) : Ev (fun k => w07_moved.f k l p) (movedAt l p p.length, true) := by
  have hok : okPlaces p.length p = true := by rw [hp.len]; exact hp.ok
  have hlen := hp.len
  have H := up (n := n) (P := fun i => Ev (fun k => w07_moved.l0 k l p (movedAt l p i) (i : Int)) (movedAt l p p.length, true))
    (by
      rw [hlen]
      refine Ev.step (f := fun _ => some _) (fun k => ?_) (Ev.now _)
      simp only [w07_moved.l0]
      rw [if_neg (by omega)])
    (fun i hi ih => by
      obtain ⟨q, hq, hqn⟩ := hp.at i hi
      have hm : (movedAt l p i).length = n := by unfold movedAt; rw [upTo_length, Int.toNat_natCast, hl]
      refine Ev.step (fun k => ?_) ih
      simp only [w07_moved.l0]
      rw [if_pos (by omega), if_pos (by omega), if_pos (by omega), hq, if_pos (by omega), if_pos (by omega), Int.toNat_natCast, moved_step l hok i (by omega) q hq, wsucc hi (by omega)]) 0 (Nat.zero_le _)
  have e0 : movedAt l p 0 = List.replicate n 0 := by
    unfold movedAt
    rw [hl]
    exact upTo_zero _ _ (fun k _ => by rw [stands_zero]; rfl)
  have ho := ev_Order p n (by omega) (by omega)
  rw [hlen, hp.ok, decide_eq_true rfl, Bool.true_and] at ho
  rw [e0] at H
  unfold w07_moved.f
  rw [hl]
  refine Ev.bind (f := fun k t137 => (if t137 = true then (if 0 ≤ (n : Int) then (if ((n : Int) : Int).toNat ≤ 35184372088832 then (w07_moved.l0 k l p (List.replicate ((n : Int) : Int).toNat 0) 0) else (none)) else (none)) else (some (([] : List Int), false)))) ho ?_
  refine Ev.congr (fun k => ?_) H
  rw [if_pos rfl, if_pos (by omega), if_pos (by omega), Int.toNat_natCast]
  rfl
theorem byK_Pl {K : Int → Int} {l lens : List Int} (hok : okLens l lens = true) : Pl l.length (byK K l lens) := by
  refine ⟨byK_length hok, ?_⟩
  have := byK_ok (K := K) hok
  rwa [byK_length hok] at this
theorem Mv_of {l p : List Int} (hp : Pl l.length p) : Mv l p (movedAt l p p.length) := by
  refine movedAt_Mv hp.len ?_
  rw [hp.len]; exact hp.ok
/-- Who stands at a place of a segment. -/
theorem seg_who {K : Int → Int} {l lens : List Int} (hok : okLens l lens = true) (s r : Nat) (hs : s < lens.length) (hr : r < (rd lens (s : Int)).toNat) :
    ∃ j, j < (rd lens (s : Int)).toNat ∧ rkK K l (startOf lens (s : Int)) (rd lens (s : Int)).toNat j = r ∧ (∀ m b : List Int, m.length = l.length → Mv m (byK K l lens) b → rd b ((startOf lens (s : Int) + r : Nat) : Int) = rd m ((startOf lens (s : Int) + j : Nat) : Int)) := by
  obtain ⟨_, hin⟩ := seg_in hok s hs
  obtain ⟨j, hj, e⟩ := onto _ (rkK K l (startOf lens (s : Int)) (rd lens (s : Int)).toNat) (fun i hi => rkK_range K l _ _ i hi) (fun i j hi hj e => rkK_inj K l _ _ i j hi hj e) r hr
  refine ⟨j, hj, e, fun m b hm hb => ?_⟩
  have := hb.2 (startOf lens (s : Int) + j) (by omega)
  rw [rd_byK s j hs hj, e] at this
  exact this
theorem Mv_words {l p b : List Int} (hp : Pl l.length p) (hb : Mv l p b) (hw : ∀ x ∈ l, isWordB x = true) : ∀ x ∈ b, isWordB x = true := by
  intro x hx
  obtain ⟨i, hi, rfl⟩ := mem_rd hx
  rw [hb.1] at hi
  obtain ⟨q, hq, e⟩ := hp.find i hi
  have := hb.2 q hq
  rw [e] at this
  rw [this, rd_get hq]
  exact hw _ (List.getElem_mem hq)
def flagOf (b : Nat) (x : Int) : Int := if bitB b x = true then 5 else 0
theorem flag_at (b : Nat) (hb : b < 32) (x : Int) (hx : isWordB x = true) : wrap64 ((Go.bits .and .i64 (shr .i64 (wrap64 (x - (-2147483648))) (b : Int)) 1) * 5) = flagOf b x := by
  obtain ⟨u, hu, hl⟩ := word_nat hx
  unfold flagOf
  rw [bitB_low b x hx, hu, Int.toNat_natCast]
  have e0 : x - (-2147483648) = (u : Int) := by omega
  have e1 : shr .i64 (u : Int) (b : Int) = ((u / 2 ^ b : Nat) : Int) := by
    unfold shr
    rw [Int.toNat_natCast, Nat.min_eq_left (show b ≤ IntKind.i64.bits from by show b ≤ 64; omega)]
    rw [show ((2 : Int) ^ b) = ((2 ^ b : Nat) : Int) from by simp]
    exact (Int.natCast_ediv u (2 ^ b)).symm
  have h2 : u / 2 ^ b ≤ u := Nat.div_le_self _ _
  rw [e0, wrap_of (n := (u : Int)) (by omega) (by omega), e1, show (1 : Int) = ((1 : Nat) : Int) from rfl, and_nat _ _ (by omega) (by omega), Nat.and_one_is_mod]
  have h3 := Nat.mod_lt (u / 2 ^ b) (show 0 < 2 by omega)
  generalize u / 2 ^ b % 2 = d at *
  have q1 : d = 0 ∨ d = 1 := by omega
  rcases q1 with rfl | rfl <;> decide +kernel
theorem splits_l2 {fl lens fr : List Int} (N : Nat) (hN : fl.length = N) (hN2 : N ≤ 60) (hok : okLens fl lens = true) (hf : Mv (upInts N) (byK (flK (fun n => n != 0)) fl lens) fr) (hv : ∀ i : Nat, i < N → rd fl (i : Int) = 5 * flK (fun n => n != 0) (rd fl (i : Int))) (s : Nat) (hs : s < lens.length) (hs2 : lens.length ≤ 201)
    (h : Ev (fun k => w07_RankSplits.l1 k lens fl fr (startOf lens ((s + 1 : Nat) : Int) : Int) ((s + 1 : Nat) : Int)) true) : Ev (fun k => w07_RankSplits.l2 k lens fl fr (startOf lens (s : Int) : Int) (s : Int) (startOf lens (s : Int) : Int)) true := by
  obtain ⟨h0, h1⟩ := seg_in hok s hs
  have hwho := fun r hr => seg_who (K := flK (fun n => n != 0)) hok s r hs hr
  obtain ⟨n, hnn⟩ : ∃ n : Nat, rd lens (s : Int) = n := ⟨(rd lens (s : Int)).toNat, by omega⟩
  have hfl := hf.1
  rw [upInts_length] at hfl
  rw [startOf_step lens s hs] at h
  simp only [hnn, Int.toNat_natCast] at h h1 hwho
  generalize startOf lens (s : Int) = st at *
  have hw : wrap64 ((st : Int) + rd lens (s : Int)) = ((st + n : Nat) : Int) := by rw [hnn]; unfold wrap64; omega
  have hw2 : wrap64 (((st + n : Nat) : Int) - 1) = ((st + n : Nat) : Int) - 1 := by unfold wrap64; omega
  have H := up (n := n) (P := fun r => Ev (fun k => w07_RankSplits.l2 k lens fl fr (st : Int) (s : Int) ((st + r : Nat) : Int)) true)
    (by
      refine Ev.step (fun k => ?_) h
      simp only [w07_RankSplits.l2]
      rw [hw, if_pos (by omega), if_pos (by omega), if_neg (by omega), wsucc hs (by omega)])
    (fun r hr ih => by
      obtain ⟨j, hj, ej, hmv⟩ := hwho r hr
      have f1 := hmv (upInts N) fr (by rw [upInts_length, hN]) hf
      rw [rd_upInts _ _ (by omega)] at f1
      have hL : r00_Lies.f (((st + j : Nat) : Int)) (st : Int) (((st + n : Nat) : Int) - 1) = some true := by
        rw [f_Lies, decide_eq_true (by omega), decide_eq_true (by omega)]; rfl
      refine Ev.step (fun k => ?_) ih
      simp only [w07_RankSplits.l2]
      rw [hw, hw2, if_pos (by omega), if_pos (by omega), if_pos (by omega), if_pos (by omega), if_pos (by omega), f1, hL, Option.bind_some, if_pos rfl, wsucc (n := N) (i := st + r) (by omega) (by omega)]
      by_cases c : r = 0
      · subst c
        rw [if_neg (by omega)]
        try rfl
      · obtain ⟨j2, hj2, ej2, hmv2⟩ := hwho (r - 1) (by omega)
        have f2 := hmv2 (upInts N) fr (by rw [upInts_length, hN]) hf
        rw [rd_upInts _ _ (by omega)] at f2
        have hlt := (rkK_iff (flK (fun n => n != 0)) fl st n j2 j hj2 hj).1 (by omega)
        rw [ltK_iff] at hlt
        have v1 := hv (st + j) (by omega)
        have v2 := hv (st + j2) (by omega)
        have hw3 : wrap64 (((st + r : Nat) : Int) - 1) = ((st + (r - 1) : Nat) : Int) := by unfold wrap64; omega
        rw [hw3, if_pos (by omega), if_pos (by omega), if_pos (by omega), if_pos (by omega), if_pos (by omega), f2, if_pos (by omega), if_pos (by omega)]
        generalize flK (fun n => n != 0) (rd fl ((st + j : Nat) : Int)) = k1 at *
        generalize flK (fun n => n != 0) (rd fl ((st + j2 : Nat) : Int)) = k2 at *
        rw [if_neg (by omega)]
        by_cases e : rd fl ((st + j : Nat) : Int) = rd fl ((st + j2 : Nat) : Int)
        · rw [if_pos e, if_neg (by omega)]
          try rfl
        · rw [if_neg e]
          try rfl) 0 (Nat.zero_le _)
  exact H
theorem RankSplits : w07_RankSplits.Pure := by
  intro l0 l1 n0 _ h1 _ _ h2 _ _
  have s0 : Sh l0 := by unfold Sh; omega
  have s1 : Sh l1 := by unfold Sh; omega
  obtain ⟨a, ea, ha, _, haw, _⟩ := ev_Wrap l0 60 (by omega) s0
  obtain ⟨t, ht, t0, t1⟩ := f_Turn n0 32 (by omega)
  have t1 := t1 (by omega)
  obtain ⟨bit, rfl⟩ : ∃ b : Nat, t = b := ⟨t.toNat, by omega⟩
  obtain ⟨lens, el, hL⟩ := ev_lensOf l1 a.length (by omega) s1
  have hok := hL.okLens (l := a) rfl
  have hE := hL.openE (by omega) rfl haw
  have hlen := hL.len
  have hp : Pl a.length (byK (lowK bit) a lens) := byK_Pl hok
  have hpass : ∀ k : Nat, k ≤ 32 → rank_Passes.g a lens (k : Int) = (byK (lowK k) a lens, 0) := fun k hk => by
    unfold rank_Passes.g
    rw [if_pos hE, decide_eq_false (by omega), decide_eq_false (by omega), Bool.or_self, if_neg (by simp), Int.toNat_natCast, (pass_closed hok haw k).1]
  have g1 := hpass bit (by omega)
  have g2 := hpass (bit + 1) (by omega)
  have hw1 : wrap64 ((bit : Int) + 1) = ((bit + 1 : Nat) : Int) := by unfold wrap64; omega
  have m1 := ev_moved a _ a.length rfl (by omega) hp
  have hb := Mv_of hp
  generalize movedAt a (byK (lowK bit) a lens) (byK (lowK bit) a lens).length = b at *
  have hbw := Mv_words hp hb haw
  have hbl := hb.1
  have hokb := okLens_of hok hb.1
  have hfll : (b.map (flagOf bit)).length = a.length := by rw [List.length_map, hbl]
  have hrd : ∀ i : Nat, i < a.length → rd (b.map (flagOf bit)) (i : Int) = flagOf bit (rd b (i : Int)) := fun i hi => by
    rw [rd_get (by omega), rd_get (by omega), List.getElem_map]
  have hflw : ∀ x ∈ b.map (flagOf bit), isWordB x = true := by
    intro x hx
    obtain ⟨y, _, rfl⟩ := List.mem_map.1 hx
    unfold flagOf
    split <;> rfl
  have hoke := hL.openE (by omega) hfll hflw
  have hokf := hL.okLens hfll
  have hkey : ∀ i : Nat, i < a.length → flK (fun n => n != 0) (rd (b.map (flagOf bit)) (i : Int)) = flK (bitB bit) (rd b (i : Int)) := fun i hi => by
    rw [hrd i hi]
    unfold flK flagOf
    cases bitB bit (rd b (i : Int)) <;> rfl
  have hval : ∀ i : Nat, i < a.length → rd (b.map (flagOf bit)) (i : Int) = 5 * flK (fun n => n != 0) (rd (b.map (flagOf bit)) (i : Int)) := fun i hi => by
    rw [hkey i hi, hrd i hi]
    unfold flK flagOf
    cases bitB bit (rd b (i : Int)) <;> rfl
  have e1 : byK (flK (fun n => n != 0)) (b.map (flagOf bit)) lens = byK (flK (bitB bit)) b lens := by
    refine perSeg_congr _ _ lens lens.length (Nat.le_refl _) (fun s i hs hi => ?_)
    obtain ⟨_, hin⟩ := seg_in hok s hs
    unfold plK
    congr 2
    exact cn_congr _ (fun j hj => ltK_of (hkey _ (by omega)) (hkey _ (by omega)))
  have g3 : rank_Split.g (b.map (flagOf bit)) lens = (byK (flK (fun n => n != 0)) (b.map (flagOf bit)) lens, 0) := by
    unfold rank_Split.g
    rw [if_pos hoke, split_closed _ hokf]
  have hq : Pl a.length (byK (flK (fun n => n != 0)) (b.map (flagOf bit)) lens) := by
    have := byK_Pl (K := flK (fun n => n != 0)) hokf
    rwa [hfll] at this
  have g4 := hp.compose_g hq (by omega)
  rw [e1, resplit (K2 := lowK (bit + 1)) hok hb (fun x hx y hy => low_succ bit x y (haw x hx) (haw y hy)), ← e1] at g4
  have m2 := ev_moved (upInts a.length) _ a.length (upInts_length _) (by omega) hq
  have hf := Mv_of (l := upInts a.length) (by rw [upInts_length]; exact hq)
  generalize hfr : movedAt (upInts a.length) (byK (flK (fun n => n != 0)) (b.map (flagOf bit)) lens) (byK (flK (fun n => n != 0)) (b.map (flagOf bit)) lens).length = fr at *
  have hu := f_Upto (a.length : Int) (by omega)
  rw [Int.toNat_natCast] at hu
  have HJ2 : Ev (fun k => w07_RankSplits.j2 k lens (b.map (flagOf bit)) fr false) true := by
    have H := up (n := lens.length) (P := fun s => Ev (fun k => w07_RankSplits.l1 k lens (b.map (flagOf bit)) fr (startOf lens (s : Int) : Int) (s : Int)) true)
      (by
        refine Ev.step (f := fun _ => some true) (fun k => ?_) (Ev.now _)
        simp only [w07_RankSplits.l1]
        rw [if_neg (by omega), law_ranked.f, Option.bind_some])
      (fun s hs ih => by
        refine Ev.step (fun k => ?_) (splits_l2 a.length hfll ha hokf hf hval s hs hlen ih)
        simp only [w07_RankSplits.l1]
        rw [if_pos (by omega)]) 0 (Nat.zero_le _)
    refine Ev.step (fun k => ?_) H
    simp only [w07_RankSplits.j2]
    rw [if_neg (by simp)]
    try rfl
  have HJ : Ev (fun k => w07_RankSplits.j0 k a (bit : Int) lens (byK (lowK bit) a lens) (byK (lowK (bit + 1)) a lens) b false) true := by
    have H := up (n := a.length) (P := fun i => Ev (fun k => w07_RankSplits.l0 k a (bit : Int) lens (byK (lowK bit) a lens) (byK (lowK (bit + 1)) a lens) b ((b.map (flagOf bit)).take i) (i : Int)) true)
      (by
        have H2 : Ev (fun k => (r00_Upto.f k (a.length : Int)).bind fun t178 => ((w07_moved.f k t178 (byK (flK (fun n => n != 0)) (b.map (flagOf bit)) lens)).bind fun bt181 => (if bt181.2 = true then ((Hand.Eq_.f (byK (lowK (bit + 1)) a lens) (byK (lowK (bit + 1)) a lens)).bind fun t185 => (w07_RankSplits.j2 k lens (b.map (flagOf bit)) bt181.1 (!t185))) else (w07_RankSplits.j2 k lens (b.map (flagOf bit)) bt181.1 true)))) true := by
          refine Ev.bind hu ?_
          refine Ev.bind m2 ?_
          simp only [Eq_.f, BEq.rfl, Option.bind_some, if_true, Bool.not_true]
          exact HJ2
        refine Ev.step (fun k => ?_) H2
        simp only [w07_RankSplits.l0]
        rw [if_neg (by omega), List.take_of_length_le (by omega), rSplit.f, g3, Option.bind_some, rCompose.f, g4, Option.bind_some]
        simp only [if_true])
      (fun i hi ih => by
        have e2 : (b.map (flagOf bit)).take (i + 1) = (b.map (flagOf bit)).take i ++ [flagOf bit (rd b (i : Int))] := by
          rw [take_rd (by omega), hrd i hi]
        rw [e2] at ih
        refine Ev.step (fun k => ?_) ih
        simp only [w07_RankSplits.l0]
        have hx := hbw (rd b (i : Int)) (by rw [rd_get (by omega)]; exact List.getElem_mem _)
        rw [if_pos (by omega), if_pos (by omega), if_pos (by omega), if_pos (by rw [List.length_take]; omega), flag_at bit (by omega) _ hx, wsucc hi (by omega)]) 0 (Nat.zero_le _)
    refine Ev.step (fun k => ?_) H
    simp only [w07_RankSplits.j0]
    rw [if_neg (by simp)]
    rfl
  have H : Ev (fun k => w07_RankSplits.f k l0 l1 n0) true := by
    unfold w07_RankSplits.f
    refine Ev.bind ea ?_
    simp only [ht]
    refine Ev.bind (g := fun _ => some ((bit : Nat) : Int)) (Ev.now _) ?_
    refine Ev.bind el ?_
    simp only [rPasses.f, g1, hw1, g2, Option.bind_some]
    refine Ev.bind m1 ?_
    simp only [if_true, Bool.not_true]
    exact HJ
  exact H.rounds
end Go.Proofs.Ytnkepaenpoadpaa.Pure
