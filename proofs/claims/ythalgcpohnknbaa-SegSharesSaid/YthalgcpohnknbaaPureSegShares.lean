/- SegShares: Shared, Depth, Touched, Places and Compact of the reference are the program's; it is told of numbers and lists alone. -/
import Derived.Test.YthalgcpohnknbaaPSegSharesx
namespace Go.Proofs.Ythalgcpohnknbaa.Pure
open Go.RowKit Go.Proofs.Ythalgcpohnknbaa.PSegShares Go.Proofs.Ythalgcpohnknbaa.Hand Go.Proofs.YthalgcpohnknbaaW.PrintWords Go.Proofs.YthalgcpohnknbaaW.PrintLast Go.Proofs.YthalgcpohnknbaaW.PrintMore
set_option linter.unusedVariables false
set_option linter.unusedSimpArgs false
theorem wsucc {i n : Nat} (h : i < n) (hn : n ≤ 4611686018427387904) : wrap64 ((i : Int) + 1) = ((i + 1 : Nat) : Int) := by unfold wrap64; omega
theorem rd_get {l : List Int} {i : Nat} (h : i < l.length) : rd l (i : Int) = l[i] := by simp [rd, h]
theorem up {n : Nat} {P : Nat → Prop} (h0 : P n) (hs : ∀ i, i < n → P (i + 1) → P i) (i : Nat) (hi : i ≤ n) : P i := by
  have key : ∀ d, ∀ i, i + d = n → P i := by
    intro d
    induction d with
    | zero => intro i h; have : i = n := by omega
              subst this; exact h0
    | succ d ih => intro i h; exact hs i (by omega) (ih (i + 1) (by omega))
  exact key (n - i) i (by omega)
theorem f_Lies (a b c : Int) : r00_Lies.f a b c = some (decide (b ≤ a) && decide (a ≤ c)) := by unfold r00_Lies.f; split <;> simp [*]
theorem rd_upTo_nat (f : Int → Int) (n k : Nat) (h : k < n) : rd (upTo f (n : Int)) (k : Int) = f k := upTo_rd f n k h
def allFrom (p : Nat → Bool) (n i : Nat) : Bool := (List.range n).all fun j => decide (j < i) || p j
theorem allFrom_end (p : Nat → Bool) (n : Nat) : allFrom p n n = true := by
  unfold allFrom
  rw [List.all_eq_true]
  intro j hj
  simp [List.mem_range.1 hj]
theorem allFrom_true {p : Nat → Bool} {n i : Nat} : allFrom p n i = true ↔ ∀ j, i ≤ j → j < n → p j = true := by
  unfold allFrom
  rw [List.all_eq_true]
  constructor
  · intro h j h1 h2
    have := h j (List.mem_range.2 h2)
    rw [decide_eq_false (by omega), Bool.false_or] at this
    exact this
  · intro h j hj
    by_cases h1 : j < i
    · simp [h1]
    · rw [h j (by omega) (List.mem_range.1 hj)]; simp
theorem allFrom_step (p : Nat → Bool) {n i : Nat} (h : i < n) : allFrom p n i = (p i && allFrom p n (i + 1)) := by
  rw [Bool.eq_iff_iff, Bool.and_eq_true, allFrom_true, allFrom_true]
  constructor
  · intro h1
    exact ⟨h1 i (Nat.le_refl _) h, fun j h2 h3 => h1 j (by omega) h3⟩
  · rintro ⟨h1, h2⟩ j h3 h4
    by_cases hj : j = i
    · subst hj; exact h1
    · exact h2 j (by omega) h4
theorem upTo_rd (a : List Int) (val : Int → Int) (h : ∀ i : Nat, i < a.length → val (i : Int) = rd a (i : Int)) : upTo val a.length = a := by
  apply List.ext_getElem
  · rw [upTo_length]; simp
  · intro i h1 h2
    rw [← rd_get h2, ← h i h2]
    simp [upTo]
theorem startOf_step (lens : List Int) (i : Nat) (hi : i < lens.length) : startOf lens ((i + 1 : Nat) : Int) = startOf lens (i : Int) + (rd lens (i : Int)).toNat := by
  rw [show ((i + 1 : Nat) : Int) = (i : Int) + 1 by omega]; exact startOf_succ lens (i : Int) (by omega) (by omega)
/-- Of how many of the first n segments a place is an element. -/
def cov (s l : List Int) : Nat → Int → Int
  | 0, _ => 0
  | n + 1, k => cov s l n k + (if rd s (n : Int) ≤ k ∧ k < rd s (n : Int) + rd l (n : Int) then 1 else 0)
theorem cov_le (s l : List Int) : ∀ (n : Nat) (k : Int), 0 ≤ cov s l n k ∧ cov s l n k ≤ n
  | 0, _ => by simp [cov]
  | n + 1, k => by
    have := cov_le s l n k
    unfold cov
    split <;> omega
theorem cov_pos (s l : List Int) : ∀ (n : Nat) (k : Int), 0 < cov s l n k ↔ ∃ i : Nat, i < n ∧ rd s (i : Int) ≤ k ∧ k < rd s (i : Int) + rd l (i : Int)
  | 0, _ => by simp [cov]
  | n + 1, k => by
    have ih := cov_pos s l n k
    have hle := cov_le s l n k
    unfold cov
    constructor
    · intro h
      by_cases h1 : rd s (n : Int) ≤ k ∧ k < rd s (n : Int) + rd l (n : Int)
      · exact ⟨n, by omega, h1⟩
      · rw [if_neg h1] at h
        obtain ⟨i, h2, h3⟩ := ih.1 (by omega)
        exact ⟨i, by omega, h3⟩
    · rintro ⟨i, h2, h3⟩
      by_cases hi : i = n
      · subst hi
        rw [if_pos h3]
        omega
      · have := ih.2 ⟨i, by omega, h3⟩
        split <;> omega
def nowN (s l : List Int) (n : Nat) : Nat → Int
  | 0 => 0
  | k + 1 => nowN s l n k + chAt s l n (k : Int)
theorem nowN_now (s l : List Int) : ∀ k : Nat, nowTo s l k = nowN s l s.length k
  | 0 => rfl
  | k + 1 => by unfold nowTo nowN; rw [nowN_now s l k]
theorem chAt_zero (s l : List Int) (k : Int) : chAt s l 0 k = 0 := by unfold chAt cntN; simp
theorem chAt_succ (s l : List Int) (n : Nat) (hn : n < s.length) (k : Int) : chAt s l (n + 1) k = chAt s l n k + ((if rd s (n : Int) = k then 1 else 0) - (if rd s (n : Int) + rd l (n : Int) = k then 1 else 0)) := by
  unfold chAt
  rw [cntN_succ s n hn, cntN_succ (endsOf s l) n (by rw [endsOf_length]; omega), endsOf_rd s l n hn]
  omega
theorem nowN_succ (s l : List Int) (n : Nat) (hn : n < s.length) (h1 : 0 ≤ rd s (n : Int)) (h2 : 0 ≤ rd l (n : Int)) : ∀ k : Nat, nowN s l (n + 1) k = nowN s l n k + (if rd s (n : Int) < k ∧ (k : Int) ≤ rd s (n : Int) + rd l (n : Int) then 1 else 0)
  | 0 => by
    unfold nowN
    rw [if_neg (by omega)]
    rfl
  | k + 1 => by
    unfold nowN
    rw [nowN_succ s l n hn h1 h2 k, chAt_succ s l n hn]
    generalize rd s (n : Int) = a at *
    generalize rd l (n : Int) = b at *
    generalize nowN s l n k = x
    generalize chAt s l n (k : Int) = y
    by_cases c1 : a < k ∧ (k : Int) ≤ a + b <;> by_cases c2 : a = k <;> by_cases c3 : a + b = k <;> by_cases c4 : a < ((k + 1 : Nat) : Int) ∧ ((k + 1 : Nat) : Int) ≤ a + b <;> (first | rw [if_pos c1] | rw [if_neg c1]) <;> (first | rw [if_pos c2] | rw [if_neg c2]) <;> (first | rw [if_pos c3] | rw [if_neg c3]) <;> (first | rw [if_pos c4] | rw [if_neg c4]) <;> omega
theorem nowN_cov (s l : List Int) (h : ∀ i : Nat, i < s.length → 0 ≤ rd s (i : Int) ∧ 0 ≤ rd l (i : Int)) : ∀ n : Nat, n ≤ s.length → ∀ k : Nat, nowN s l n (k + 1) = cov s l n (k : Int)
  | 0, _, k => by
    have : ∀ k : Nat, nowN s l 0 k = 0 := fun k => by
      induction k with
      | zero => rfl
      | succ k ih => unfold nowN; rw [ih, chAt_zero]; rfl
    rw [this]
    rfl
  | n + 1, hn, k => by
    have h1 := h n (by omega)
    rw [nowN_succ s l n (by omega) h1.1 h1.2, nowN_cov s l h n (by omega) k]
    show _ = cov s l n (k : Int) + (if rd s (n : Int) ≤ (k : Int) ∧ (k : Int) < rd s (n : Int) + rd l (n : Int) then 1 else 0)
    by_cases c : rd s (n : Int) ≤ k ∧ (k : Int) < rd s (n : Int) + rd l (n : Int)
    · rw [if_pos c, if_pos (by omega)]
    · rw [if_neg c, if_neg (by omega)]
theorem now_cov (s l : List Int) (h : ∀ i : Nat, i < s.length → 0 ≤ rd s (i : Int) ∧ 0 ≤ rd l (i : Int)) (k : Nat) : nowTo s l (k + 1) = cov s l s.length (k : Int) := by
  rw [nowN_now, nowN_cov s l h _ (Nat.le_refl _)]
/-- Spans, each of at least one place, that do not touch, and increase. -/
def Canon (o : List (Int × Int)) : Prop := o.Pairwise (fun a b => a.1 + a.2 < b.1) ∧ ∀ p ∈ o, 1 ≤ p.2
def inSp (o : List (Int × Int)) (p : Int) : Prop := ∃ q ∈ o, q.1 ≤ p ∧ p < q.1 + q.2
theorem inSp_nil (p : Int) : ¬ inSp [] p := by rintro ⟨q, h, _⟩; simp at h
theorem inSp_cons (a : Int × Int) (o : List (Int × Int)) (p : Int) : inSp (a :: o) p ↔ (a.1 ≤ p ∧ p < a.1 + a.2) ∨ inSp o p := by
  unfold inSp
  constructor
  · rintro ⟨q, h, h2⟩
    rcases List.mem_cons.1 h with rfl | h
    · exact .inl h2
    · exact .inr ⟨q, h, h2⟩
  · rintro (h | ⟨q, h, h2⟩)
    · exact ⟨a, by simp, h⟩
    · exact ⟨q, by simp [h], h2⟩
theorem inSp_app (a b : List (Int × Int)) (p : Int) : inSp (a ++ b) p ↔ inSp a p ∨ inSp b p := by
  induction a with
  | nil => simp [inSp_nil]
  | cons x t ih => rw [List.cons_append, inSp_cons, inSp_cons, ih, or_assoc]
theorem inSp_one (a : Int × Int) (p : Int) : inSp [a] p ↔ (a.1 ≤ p ∧ p < a.1 + a.2) := by
  rw [inSp_cons]
  constructor
  · rintro (h | h)
    · exact h
    · exact absurd h (inSp_nil p)
  · exact .inl
theorem canon_tail {a : Int × Int} {o : List (Int × Int)} (h : Canon (a :: o)) : Canon o ∧ 1 ≤ a.2 ∧ ∀ p, inSp o p → a.1 + a.2 < p := by
  obtain ⟨h1, h2⟩ := h
  obtain ⟨h3, h4⟩ := List.pairwise_cons.1 h1
  refine ⟨⟨h4, fun p hp => h2 p (by simp [hp])⟩, h2 a (by simp), ?_⟩
  rintro p ⟨q, hq, h5, h6⟩
  have := h3 q hq
  omega
theorem Canon.uniq : ∀ {a b : List (Int × Int)}, Canon a → Canon b → (∀ p, inSp a p ↔ inSp b p) → a = b
  | [], [], _, _, _ => rfl
  | [], (x :: t), _, hb, h => by
    obtain ⟨_, h2, _⟩ := canon_tail hb
    exact absurd ((h x.1).2 ((inSp_cons _ _ _).2 (.inl ⟨by omega, by omega⟩))) (inSp_nil _)
  | (x :: t), [], ha, _, h => by
    obtain ⟨_, h2, _⟩ := canon_tail ha
    exact absurd ((h x.1).1 ((inSp_cons _ _ _).2 (.inl ⟨by omega, by omega⟩))) (inSp_nil _)
  | (x :: t), (y :: u), ha, hb, h => by
    obtain ⟨a1, a2, a3⟩ := canon_tail ha
    obtain ⟨b1, b2, b3⟩ := canon_tail hb
    have hx : ∀ p, inSp (x :: t) p → x.1 ≤ p := fun p hp => by
      rcases (inSp_cons _ _ _).1 hp with hp | hp
      · exact hp.1
      · have := a3 p hp; omega
    have hy : ∀ p, inSp (y :: u) p → y.1 ≤ p := fun p hp => by
      rcases (inSp_cons _ _ _).1 hp with hp | hp
      · exact hp.1
      · have := b3 p hp; omega
    have e1 : x.1 = y.1 := by
      have := hy x.1 ((h _).1 ((inSp_cons _ _ _).2 (.inl ⟨by omega, by omega⟩)))
      have := hx y.1 ((h _).2 ((inSp_cons _ _ _).2 (.inl ⟨by omega, by omega⟩)))
      omega
    have e2 : x.2 = y.2 := by
      by_cases c : x.2 < y.2
      · have := (h (x.1 + x.2)).2 ((inSp_cons _ _ _).2 (.inl ⟨by omega, by omega⟩))
        rcases (inSp_cons _ _ _).1 this with hp | hp
        · omega
        · have := a3 _ hp; omega
      · by_cases c2 : y.2 < x.2
        · have := (h (y.1 + y.2)).1 ((inSp_cons _ _ _).2 (.inl ⟨by omega, by omega⟩))
          rcases (inSp_cons _ _ _).1 this with hp | hp
          · omega
          · have := b3 _ hp; omega
        · omega
    have e : x = y := Prod.ext e1 e2
    subst e
    rw [Canon.uniq a1 b1 fun p => ?_]
    constructor
    · intro hp
      have h5 := a3 p hp
      rcases (inSp_cons _ _ _).1 ((h p).1 ((inSp_cons _ _ _).2 (.inr hp))) with h6 | h6
      · omega
      · exact h6
    · intro hp
      have h5 := b3 p hp
      rcases (inSp_cons _ _ _).1 ((h p).2 ((inSp_cons _ _ _).2 (.inr hp))) with h6 | h6
      · omega
      · exact h6
/-- A list with a last element. -/
theorem split_last (o : List (Int × Int)) (h : 0 < o.length) : ∃ t, o = t ++ [spanLast o] := by
  refine ⟨o.take (o.length - 1), ?_⟩
  have hd : o.drop (o.length - 1) = [spanLast o] := by
    unfold spanLast
    rw [List.drop_eq_getElem_cons (by omega), show o.length - 1 + 1 = o.length by omega, List.drop_length, List.getD_eq_getElem?_getD, List.getElem?_eq_getElem (by omega)]
    rfl
  rw [← hd, List.take_append_drop]
theorem Canon.snoc {t : List (Int × Int)} {x : Int × Int} : Canon (t ++ [x]) ↔ Canon t ∧ 1 ≤ x.2 ∧ ∀ q ∈ t, q.1 + q.2 < x.1 := by
  unfold Canon
  rw [List.pairwise_append]
  constructor
  · rintro ⟨⟨h1, _, h2⟩, h3⟩
    exact ⟨⟨h1, fun p hp => h3 p (by simp [hp])⟩, h3 x (by simp), fun q hq => h2 q hq x (by simp)⟩
  · rintro ⟨⟨h1, h2⟩, h3, h4⟩
    refine ⟨⟨h1, List.pairwise_singleton _ _, fun a ha b hb => ?_⟩, fun p hp => ?_⟩
    · rw [List.mem_singleton.1 hb]; exact h4 a ha
    · rcases List.mem_append.1 hp with hp | hp
      · exact h2 p hp
      · rw [List.mem_singleton.1 hp]; exact h3
theorem set_last (t : List (Int × Int)) (x y : Int × Int) : (t ++ [x]).set ((t ++ [x]).length - 1) y = t ++ [y] := by
  rw [List.length_append, List.length_singleton, Nat.add_sub_cancel, List.set_append_right _ _ (Nat.le_refl _), Nat.sub_self]
  rfl
/-- The spans that are merged so far: canonical, of just the places of the spans that were taken in. -/
theorem merge_canon (all : List (Int × Int)) (h0 : ∀ p ∈ all, 0 ≤ p.2) (hs : all.Pairwise (fun a b => a.1 ≤ b.1)) : ∀ k : Nat, k ≤ all.length →
    Canon (mergeTo all k).1 ∧ (∀ p, inSp (mergeTo all k).1 p ↔ inSp (all.take k) p) ∧ (∀ q ∈ (mergeTo all k).1, ∀ x ∈ all.drop k, q.1 ≤ x.1) ∧ (0 < (mergeTo all k).2.2 → (mergeTo all k).2 ∈ all.take k)
  | 0, _ => ⟨⟨List.Pairwise.nil, by simp [mergeTo]⟩, fun p => by simp [mergeTo], by simp [mergeTo], by simp [mergeTo]⟩
  | k + 1, hk => by
    obtain ⟨h1, h2, h3, h4⟩ := merge_canon all h0 hs k (by omega)
    have hd : all.drop k = all[k] :: all.drop (k + 1) := List.drop_eq_getElem_cons (by omega)
    have ht : all.take (k + 1) = all.take k ++ [all[k]] := List.take_succ_eq_append_getElem (by omega)
    have hg : all.getD k (0, 0) = all[k] := by rw [List.getD_eq_getElem?_getD, List.getElem?_eq_getElem (show k < all.length by omega)]; rfl
    have hx0 : 0 ≤ all[k].2 := h0 _ (List.getElem_mem _)
    have hsd : ∀ x ∈ all.drop (k + 1), all[k].1 ≤ x.1 := by
      have := hs.drop (i := k)
      rw [hd] at this
      exact (List.pairwise_cons.1 this).1
    have h3a : ∀ q ∈ (mergeTo all k).1, q.1 ≤ all[k].1 := fun q hq => h3 q hq _ (by rw [hd]; exact List.mem_cons_self)
    have h3b : ∀ q ∈ (mergeTo all k).1, ∀ x ∈ all.drop (k + 1), q.1 ≤ x.1 := fun q hq x hx => h3 q hq x (by rw [hd]; exact List.mem_cons_of_mem _ hx)
    rw [ht]
    unfold mergeTo
    rw [hg]
    generalize mergeTo all k = st at *
    generalize all[k] = x at *
    have hin : ∀ p, inSp (all.take k ++ [x]) p ↔ inSp st.1 p ∨ (x.1 ≤ p ∧ p < x.1 + x.2) := fun p => by rw [inSp_app, inSp_one, h2 p]
    unfold mergeStep
    split
    · rename_i hc
      refine ⟨h1, fun p => ?_, h3b, fun h => by simp [h4 h]⟩
      rw [hin]
      refine ⟨.inl, ?_⟩
      rintro (h | h)
      · exact h
      · simp only [Bool.or_eq_true, beq_iff_eq, Bool.and_eq_true] at hc
        rcases hc with hc | hc
        · omega
        · exact (h2 p).2 ⟨st.2, h4 (by omega), by omega, by omega⟩
    · rename_i hc
      have hx1 : 1 ≤ x.2 := by
        simp only [Bool.or_eq_true, beq_iff_eq, not_or] at hc
        omega
      split
      · rename_i hq
        simp only [Bool.or_eq_true, decide_eq_true_eq] at hq
        have hsep : ∀ q ∈ st.1, q.1 + q.2 < x.1 := by
          rcases hq with hq | hq
          · have : st.1 = [] := List.length_eq_zero_iff.1 hq
            rw [this]
            simp
          · by_cases he : st.1.length = 0
            · have : st.1 = [] := List.length_eq_zero_iff.1 he
              rw [this]
              simp
            · obtain ⟨t, ht2⟩ := split_last st.1 (by omega)
              generalize spanLast st.1 = z at *
              rw [ht2] at h1 ⊢
              obtain ⟨c1, c2, c3⟩ := Canon.snoc.1 h1
              intro q hq2
              rcases List.mem_append.1 hq2 with hq2 | hq2
              · have := c3 q hq2; omega
              · rw [List.mem_singleton.1 hq2]; exact hq
        refine ⟨Canon.snoc.2 ⟨h1, hx1, hsep⟩, fun p => ?_, ?_, fun _ => by simp⟩
        · rw [hin, inSp_app, inSp_one]
        · intro q hq2 y hy
          rcases List.mem_append.1 hq2 with hq2 | hq2
          · exact h3b q hq2 y hy
          · rw [List.mem_singleton.1 hq2]; exact hsd y hy
      · rename_i hq
        simp only [Bool.or_eq_true, decide_eq_true_eq, not_or] at hq
        obtain ⟨t, ht2⟩ := split_last st.1 (by omega)
        have hz1 := h3a _ (spanLast_mem (show 0 < st.1.length by omega))
        generalize spanLast st.1 = z at *
        rw [ht2, set_last]
        rw [ht2] at h1 h3b hin
        obtain ⟨c1, c2, c3⟩ := Canon.snoc.1 h1
        refine ⟨Canon.snoc.2 ⟨c1, by simp only; omega, c3⟩, fun p => ?_, ?_, fun _ => by simp⟩
        · rw [hin, inSp_app, inSp_app, inSp_one, inSp_one, or_assoc]
          refine or_congr Iff.rfl ?_
          simp only
          omega
        · intro q hq2 y hy
          rcases List.mem_append.1 hq2 with hq2 | hq2
          · exact h3b q (by simp [hq2]) y hy
          · rw [List.mem_singleton.1 hq2]
            have := hsd y hy
            simp only
            omega
theorem sorted_perm (s l : List Int) : (sortedSpans s l).Perm (spansTo s l s.length) := List.mergeSort_perm _ _
theorem sorted_pair (s l : List Int) : (sortedSpans s l).Pairwise (fun a b => a.1 ≤ b.1) := by
  refine (List.pairwise_mergeSort leE_trans leE_total _).imp ?_
  intro a b h
  unfold leE at h
  rw [ltE] at h
  simp only [Bool.not_eq_true', Bool.or_eq_false_iff, decide_eq_false_iff_not] at h
  omega
theorem inSp_perm {a b : List (Int × Int)} (h : a.Perm b) (p : Int) : inSp a p ↔ inSp b p := by
  unfold inSp
  constructor
  · rintro ⟨q, hq, h2⟩; exact ⟨q, h.mem_iff.1 hq, h2⟩
  · rintro ⟨q, hq, h2⟩; exact ⟨q, h.mem_iff.2 hq, h2⟩
theorem inSp_spans (s l : List Int) (n : Nat) (p : Int) : inSp (spansTo s l n) p ↔ 0 < cov s l n p := by
  rw [cov_pos]
  unfold inSp spansTo
  constructor
  · rintro ⟨q, hq, h2⟩
    obtain ⟨i, hi, rfl⟩ := List.mem_map.1 hq
    exact ⟨i, List.mem_range.1 hi, h2⟩
  · rintro ⟨i, hi, h2⟩
    exact ⟨_, List.mem_map.2 ⟨i, List.mem_range.2 hi, rfl⟩, h2⟩
theorem spans_pos (s l : List Int) (h : ∀ i : Nat, i < s.length → 0 ≤ rd s (i : Int) ∧ 0 ≤ rd l (i : Int)) : ∀ p ∈ sortedSpans s l, 0 ≤ p.2 := by
  intro p hp
  have := (sorted_perm s l).mem_iff.1 hp
  unfold spansTo at this
  obtain ⟨i, hi, rfl⟩ := List.mem_map.1 this
  exact (h i (List.mem_range.1 hi)).2
/-- What seg.Touched returns: the spans, in canonical form, of the places that are touched. -/
theorem touched_canon (s l : List Int) (h : ∀ i : Nat, i < s.length → 0 ≤ rd s (i : Int) ∧ 0 ≤ rd l (i : Int)) : Canon (touchedG s l) ∧ ∀ p, inSp (touchedG s l) p ↔ 0 < cov s l s.length p := by
  have hl := sortedSpans_length s l
  obtain ⟨h1, h2, _, _⟩ := merge_canon (sortedSpans s l) (spans_pos s l h) (sorted_pair s l) s.length (by omega)
  refine ⟨h1, fun p => ?_⟩
  unfold touchedG
  rw [h2 p, show List.take s.length (sortedSpans s l) = sortedSpans s l from List.take_of_length_le (by omega), inSp_perm (sorted_perm s l), inSp_spans]
theorem incr_uniq : ∀ {a b : List Int}, a.Pairwise (· < ·) → b.Pairwise (· < ·) → (∀ p, p ∈ a ↔ p ∈ b) → a = b
  | [], [], _, _, _ => rfl
  | [], (x :: t), _, _, h => absurd ((h x).2 (by simp)) (by simp)
  | (x :: t), [], _, _, h => absurd ((h x).1 (by simp)) (by simp)
  | (x :: t), (y :: u), ha, hb, h => by
    obtain ⟨a1, a2⟩ := List.pairwise_cons.1 ha
    obtain ⟨b1, b2⟩ := List.pairwise_cons.1 hb
    have e : x = y := by
      rcases List.mem_cons.1 ((h x).1 (by simp)) with h1 | h1
      · exact h1
      · rcases List.mem_cons.1 ((h y).2 (by simp)) with h2 | h2
        · exact h2.symm
        · have := a1 y h2; have := b1 x h1; omega
    subst e
    rw [incr_uniq a2 b2 fun p => ?_]
    constructor
    · intro hp
      have := a1 p hp
      rcases List.mem_cons.1 ((h p).1 (by simp [hp])) with h1 | h1
      · omega
      · exact h1
    · intro hp
      have := b1 p hp
      rcases List.mem_cons.1 ((h p).2 (by simp [hp])) with h1 | h1
      · omega
      · exact h1
/-- The numbers below k of which something is true, increasing. -/
def filtTo (f : Int → Bool) : Nat → List Int
  | 0 => []
  | k + 1 => filtTo f k ++ (if f (k : Int) then [(k : Int)] else [])
theorem filtTo_mem (f : Int → Bool) : ∀ (k : Nat) (x : Int), x ∈ filtTo f k ↔ 0 ≤ x ∧ x < k ∧ f x = true
  | 0, x => by simp [filtTo]; omega
  | k + 1, x => by
    unfold filtTo
    rw [List.mem_append, filtTo_mem f k x]
    cases hf : f (k : Int)
    · simp only [Bool.false_eq_true, if_false, List.not_mem_nil, or_false]
      constructor
      · rintro ⟨h1, h2, h3⟩; exact ⟨h1, by omega, h3⟩
      · rintro ⟨h1, h2, h3⟩
        refine ⟨h1, ?_, h3⟩
        by_cases e : x = (k : Int)
        · rw [e, hf] at h3; cases h3
        · omega
    · simp only [if_true, List.mem_singleton]
      constructor
      · rintro (⟨h1, h2, h3⟩ | rfl)
        · exact ⟨h1, by omega, h3⟩
        · exact ⟨by omega, by omega, hf⟩
      · rintro ⟨h1, h2, h3⟩
        by_cases e : x = (k : Int)
        · exact .inr e
        · exact .inl ⟨h1, by omega, h3⟩
theorem filtTo_incr (f : Int → Bool) : ∀ k : Nat, (filtTo f k).Pairwise (· < ·)
  | 0 => List.Pairwise.nil
  | k + 1 => by
    unfold filtTo
    rw [List.pairwise_append]
    refine ⟨filtTo_incr f k, by split <;> simp, fun a ha b hb => ?_⟩
    have h1 := ((filtTo_mem f k a).1 ha).2.1
    split at hb
    · rw [List.mem_singleton.1 hb]; exact h1
    · simp at hb
theorem filtTo_length_le (f : Int → Bool) : ∀ k : Nat, (filtTo f k).length ≤ k
  | 0 => by simp [filtTo]
  | k + 1 => by
    have := filtTo_length_le f k
    unfold filtTo
    rw [List.length_append]
    split <;> simp <;> omega
def spotsL (o : List (Int × Int)) : List Int := o.flatMap fun q => upTo (fun j => q.1 + j) q.2
theorem spotsTo_eq (sp : List (Int × Int)) : ∀ k : Nat, k ≤ sp.length → spotsTo sp k = spotsL (sp.take k)
  | 0, _ => rfl
  | k + 1, h => by
    rw [spotsTo_succ, spotsTo_eq sp k (by omega), List.take_succ_eq_append_getElem (by omega)]
    unfold spotsL
    rw [List.flatMap_append, List.flatMap_singleton, List.getD_eq_getElem?_getD, List.getElem?_eq_getElem (show k < sp.length by omega)]
    rfl
theorem run_mem (a n x : Int) : x ∈ upTo (fun j => a + j) n ↔ a ≤ x ∧ x < a + n := by
  unfold upTo
  rw [List.mem_map]
  constructor
  · rintro ⟨i, hi, rfl⟩
    have := List.mem_range.1 hi
    simp only
    omega
  · rintro ⟨h1, h2⟩
    exact ⟨(x - a).toNat, List.mem_range.2 (by omega), by simp only; omega⟩
theorem run_incr (a n : Int) : (upTo (fun j => a + j) n).Pairwise (· < ·) := by
  unfold upTo
  rw [List.pairwise_map]
  refine List.pairwise_lt_range.imp ?_
  intro i j h
  simp only
  omega
theorem spots_mem (o : List (Int × Int)) (x : Int) : x ∈ spotsL o ↔ inSp o x := by
  unfold spotsL inSp
  rw [List.mem_flatMap]
  constructor
  · rintro ⟨q, hq, h⟩; exact ⟨q, hq, (run_mem _ _ _).1 h⟩
  · rintro ⟨q, hq, h⟩; exact ⟨q, hq, (run_mem _ _ _).2 h⟩
theorem spots_incr : ∀ o : List (Int × Int), Canon o → (spotsL o).Pairwise (· < ·)
  | [], _ => List.Pairwise.nil
  | q :: o, h => by
    obtain ⟨h1, h2, h3⟩ := canon_tail h
    show (_ ++ spotsL o).Pairwise _
    rw [List.pairwise_append]
    refine ⟨run_incr _ _, spots_incr o h1, fun a ha b hb => ?_⟩
    have := (run_mem _ _ _).1 ha
    have := h3 b ((spots_mem o b).1 hb)
    omega
/-- Is a place touched? -/
def touB (s l : List Int) (k : Int) : Bool := decide (0 < cov s l s.length k)
theorem tou_in (s l : List Int) (size : Int) (hE : sharedE s l size = 0) (k : Int) (h : touB s l k = true) : 0 ≤ k ∧ k < size := by
  obtain ⟨_, e2, e3, e4, e5, e6⟩ := sharedE_ok hE
  unfold touB at h
  obtain ⟨i, h1, h2, h3⟩ := (cov_pos s l s.length k).1 (of_decide_eq_true h)
  have := e6 i h1
  omega
theorem shared_pos (s l : List Int) (size : Int) (hE : sharedE s l size = 0) : ∀ i : Nat, i < s.length → 0 ≤ rd s (i : Int) ∧ 0 ≤ rd l (i : Int) := by
  obtain ⟨_, e2, e3, e4, e5, e6⟩ := sharedE_ok hE
  intro i hi
  have := e6 i hi
  omega
theorem spots_touched (s l : List Int) (size : Nat) (hE : sharedE s l (size : Int) = 0) : spotsTo (touchedG s l) (touchedG s l).length = filtTo (touB s l) size := by
  obtain ⟨h1, h2⟩ := touched_canon s l (shared_pos s l _ hE)
  rw [spotsTo_eq _ _ (Nat.le_refl _), List.take_length]
  refine incr_uniq (spots_incr _ h1) (filtTo_incr _ _) fun p => ?_
  rw [spots_mem, h2, filtTo_mem]
  constructor
  · intro h
    have h3 : touB s l p = true := decide_eq_true h
    have := tou_in s l _ hE p h3
    exact ⟨by omega, by omega, h3⟩
  · rintro ⟨_, _, h⟩
    exact of_decide_eq_true h
def preS (m : List Int) : Nat → Int
  | 0 => 0
  | k + 1 => preS m k + rd m (k : Int)
theorem rd_setn (l : List Int) (i j : Nat) (v : Int) (h : i < l.length) : rd (l.set i v) (j : Int) = if j = i then v else rd l (j : Int) := by
  unfold rd
  rw [Int.toNat_natCast, List.getD_eq_getElem?_getD, List.getElem?_set]
  by_cases e : i = j
  · subst e
    rw [if_pos rfl, if_pos h, if_pos rfl]
    rfl
  · rw [if_neg e, if_neg (fun h => e h.symm), List.getD_eq_getElem?_getD]
theorem sums_rd (m : List Int) : ∀ k : Nat, k < m.length → (sumsTo m k).length = m.length ∧ ∀ x : Nat, rd (sumsTo m k) (x : Int) = if x ≤ k then preS m (x + 1) else rd m (x : Int)
  | 0, _ => ⟨rfl, fun x => by
      by_cases h : x ≤ 0
      · have : x = 0 := by omega
        subst this
        rw [if_pos h]
        unfold preS preS
        rw [Int.zero_add]
        rfl
      · rw [if_neg h]; rfl⟩
  | k + 1, hk => by
    obtain ⟨h1, h2⟩ := sums_rd m k (by omega)
    unfold sumsTo
    refine ⟨by rw [List.length_set, h1], fun x => ?_⟩
    rw [rd_setn (sumsTo m k) (k + 1) x _ (by omega), h2 (k + 1), h2 k, if_neg (show ¬ k + 1 ≤ k by omega), if_pos (show k ≤ k from Nat.le_refl _)]
    by_cases e : x = k + 1
    · subst e
      rw [if_pos rfl, if_pos (Nat.le_refl _)]
      show _ = preS m (k + 1) + rd m ((k + 1 : Nat) : Int)
      omega
    · rw [if_neg e, h2 x]
      by_cases c : x ≤ k
      · rw [if_pos c, if_pos (by omega)]
      · rw [if_neg c, if_neg (by omega)]
theorem marks_rd (n : Nat) (p : List Int) (x : Nat) (h : x < n) : rd (marks (n : Int) p) (x : Int) = if p.any (fun q => q + 1 == (x : Int)) then 1 else 0 := by
  unfold marks
  exact rd_upTo_nat _ n x h
theorem pre_marks (f : Int → Bool) (n : Nat) : ∀ x : Nat, x ≤ n → preS (marks ((n + 1 : Nat) : Int) (filtTo f n)) (x + 1) = (((filtTo f x).length : Nat) : Int)
  | 0, _ => by
    unfold preS preS
    rw [marks_rd _ _ 0 (by omega)]
    have : (filtTo f n).any (fun q => q + 1 == ((0 : Nat) : Int)) = false := by
      rw [List.any_eq_false]
      intro q hq
      have := (filtTo_mem f n q).1 hq
      simp
      omega
    rw [this]
    rfl
  | x + 1, h => by
    unfold preS
    rw [pre_marks f n x (by omega), marks_rd _ _ (x + 1) (by omega)]
    have : (filtTo f n).any (fun q => q + 1 == ((x + 1 : Nat) : Int)) = f (x : Int) := by
      rw [Bool.eq_iff_iff, List.any_eq_true]
      constructor
      · rintro ⟨q, hq, h2⟩
        have e : q = (x : Int) := by have := beq_iff_eq.1 h2; omega
        subst e
        exact ((filtTo_mem f n _).1 hq).2.2
      · intro h2
        exact ⟨(x : Int), (filtTo_mem f n _).2 ⟨by omega, by omega, h2⟩, beq_iff_eq.2 (by omega)⟩
    rw [this]
    show _ = (((_ ++ _ : List Int).length : Nat) : Int)
    rw [List.length_append]
    cases f (x : Int) <;> simp
theorem ahead_rd (s l : List Int) (size : Nat) (hE : sharedE s l (size : Int) = 0) (x : Nat) (hx : x ≤ size) : rd (aheadG s l size) (x : Int) = (((filtTo (touB s l) x).length : Nat) : Int) := by
  unfold aheadG
  rw [spots_touched s l size hE, show (size : Int) + 1 = ((size + 1 : Nat) : Int) by omega]
  have hl : (marks ((size + 1 : Nat) : Int) (filtTo (touB s l) size)).length = size + 1 := by unfold marks; rw [upTo_length]; omega
  rw [(sums_rd _ size (by omega)).2 x, if_pos hx, pre_marks _ _ x hx]
def beginL (s l : List Int) : List Int := upTo (fun i => (((filtTo (touB s l) (rd s i).toNat).length : Nat) : Int)) (s.length : Int)
theorem compact_g (s l : List Int) (size : Nat) (hE : sharedE s l (size : Int) = 0) : seg_Compact.g s l (size : Int) = (beginL s l, filtTo (touB s l) size, 0) := by
  unfold seg_Compact.g
  rw [if_pos hE, Int.toNat_natCast, spots_touched s l size hE]
  have : upTo (fun i => rd (aheadG s l size) (rd s i)) (s.length : Int) = beginL s l := by
    unfold beginL
    refine upTo_ext _ _ _ fun i hi => ?_
    obtain ⟨_, e2, e3, e4, e5, e6⟩ := sharedE_ok hE
    have := e6 i hi
    obtain ⟨q, hq⟩ : ∃ q : Nat, rd s (i : Int) = q := ⟨(rd s (i : Int)).toNat, by omega⟩
    rw [hq, ahead_rd s l size hE q (by omega), Int.toNat_natCast]
  rw [this]
theorem depth_g (s l : List Int) (size : Nat) (hE : sharedE s l (size : Int) = 0) : seg_Depth.g s l (size : Int) = (mostTo s l size, 0) := by
  unfold seg_Depth.g
  rw [if_pos hE, Int.toNat_natCast]
theorem most_succ (s l : List Int) (h : ∀ i : Nat, i < s.length → 0 ≤ rd s (i : Int) ∧ 0 ≤ rd l (i : Int)) (k : Nat) : mostTo s l (k + 1) = max (mostTo s l k) (cov s l s.length (k : Int)) := by
  show max (mostTo s l k) (nowTo s l (k + 1)) = _
  rw [now_cov s l h]
/-- Does the segment j lie in the pool? -/
def okS (s l : List Int) (size : Int) (j : Nat) : Bool := (decide (0 ≤ rd s (j : Int)) && decide (rd s (j : Int) ≤ size)) && (decide (0 ≤ rd l (j : Int)) && decide (rd l (j : Int) ≤ size - rd s (j : Int)))
theorem okS_iff (s l : List Int) (size : Int) (j : Nat) : okS s l size j = true ↔ (0 ≤ rd s (j : Int) ∧ rd s (j : Int) ≤ size) ∧ 0 ≤ rd l (j : Int) ∧ rd l (j : Int) ≤ size - rd s (j : Int) := by
  unfold okS
  simp only [Bool.and_eq_true, decide_eq_true_eq]
theorem shared_le (s l : List Int) (size : Int) (h4 : size ≤ 1048576) : ∀ i : Nat, i ≤ l.length → (∀ j, j < i → okS s l size j = true) → startOf l (i : Int) ≤ 1048576 * i
  | 0, _, _ => by rw [show ((0 : Nat) : Int) = 0 from rfl, startOf_zero]; omega
  | i + 1, hi, h => by
    have ih := shared_le s l size h4 i (by omega) (fun j hj => h j (by omega))
    have h1 := (okS_iff s l size i).1 (h i (by omega))
    rw [startOf_step l i (by omega)]
    omega
set_option maxHeartbeats 1000000 in
theorem ev_SharedL (s l : List Int) (size : Int) (h1 : s.length ≤ 1048576) (h2 : s.length = l.length) (h3 : 0 ≤ size) (h4 : size ≤ 1048576) :
    Ev (fun k => r02_Shared.l0 k s l size 0 0) (if allFrom (okS s l size) l.length 0 then (if 1048576 < ttl l then (0, 9) else (((ttl l : Nat) : Int), 0)) else (0, 2)) := by
  have H := up (n := l.length) (P := fun i => (∀ j, j < i → okS s l size j = true) → Ev (fun k => r02_Shared.l0 k s l size ((startOf l (i : Int) : Nat) : Int) (i : Int)) (if allFrom (okS s l size) l.length i then (if 1048576 < ttl l then (0, 9) else (((ttl l : Nat) : Int), 0)) else (0, 2)))
    (fun _ => by
      rw [allFrom_end, if_pos rfl, show startOf l (l.length : Int) = ttl l from rfl]
      by_cases hb : 1048576 < ttl l
      · rw [if_pos hb]
        refine Ev.step (f := fun _ => some (0, 9)) (fun k => ?_) (Ev.now _)
        simp only [r02_Shared.l0]
        rw [if_neg (by omega), if_pos (by omega)]
      · rw [if_neg hb]
        refine Ev.step (f := fun _ => some (((ttl l : Nat) : Int), 0)) (fun k => ?_) (Ev.now _)
        simp only [r02_Shared.l0]
        rw [if_neg (by omega), if_neg (by omega)])
    (fun i hi ih hj => by
      rw [allFrom_step _ hi]
      have hle := shared_le s l size h4 i (by omega) hj
      cases hok : okS s l size i
      · rw [Bool.false_and, if_neg (by simp)]
        refine Ev.step (f := fun _ => some (0, 2)) (fun k => ?_) (Ev.now _)
        simp only [r02_Shared.l0, f_Lies, Option.bind_some]
        rw [if_pos (by omega), if_pos (by omega), if_pos (by omega)]
        unfold okS at hok
        by_cases c1 : (decide (0 ≤ rd s (i : Int)) && decide (rd s (i : Int) ≤ size)) = true
        · rw [if_pos c1]
          rw [c1, Bool.true_and] at hok
          have c2 : 0 ≤ rd s (i : Int) ∧ rd s (i : Int) ≤ size := by simpa using c1
          have hw := Aside0.mk (show wrap64 (size - rd s (i : Int)) = size - rd s (i : Int) by generalize rd s (i : Int) = z at *; unfold wrap64; omega)
          rw [hw.out, hok, if_neg (by simp)]
        · rw [if_neg c1]
      · have hjs : ∀ j, j < i + 1 → okS s l size j = true := fun j hj2 => by
          by_cases e : j = i
          · subst e; exact hok
          · exact hj j (by omega)
        have h5 := (okS_iff s l size i).1 hok
        rw [Bool.true_and]
        have c1 : (decide (0 ≤ rd s (i : Int)) && decide (rd s (i : Int) ≤ size)) = true := by
          rw [Bool.and_eq_true, decide_eq_true_eq, decide_eq_true_eq]; exact h5.1
        have c2 : (decide (0 ≤ rd l (i : Int)) && decide (rd l (i : Int) ≤ size - rd s (i : Int))) = true := by
          rw [Bool.and_eq_true, decide_eq_true_eq, decide_eq_true_eq]; exact h5.2
        have hw := Aside0.mk (show wrap64 (size - rd s (i : Int)) = size - rd s (i : Int) by generalize rd s (i : Int) = z at *; unfold wrap64; omega)
        have hs := startOf_step l i hi
        have hw2 := Aside0.mk (show wrap64 (((startOf l (i : Int) : Nat) : Int) + rd l (i : Int)) = ((startOf l ((i + 1 : Nat) : Int) : Nat) : Int) by
          rw [hs]
          generalize startOf l (i : Int) = z at *
          generalize rd l (i : Int) = y at *
          unfold wrap64
          omega)
        refine Ev.step (f := fun k => r02_Shared.l0 k s l size ((startOf l ((i + 1 : Nat) : Int) : Nat) : Int) ((i + 1 : Nat) : Int)) (fun k => ?_) (ih hjs)
        simp only [r02_Shared.l0, f_Lies, Option.bind_some]
        rw [if_pos (by omega), if_pos (by omega), if_pos (by omega), if_pos c1, hw.out, if_pos c2, hw2.out, wsucc hi (by omega)]) 0 (Nat.zero_le _) (fun j hj => absurd hj (Nat.not_lt_zero _))
  exact H
theorem sharedE_eq (s l : List Int) (size : Int) (h1 : s.length ≤ 1048576) (h2 : s.length = l.length) (h3 : 0 ≤ size) (h4 : size ≤ 1048576) : sharedE s l size = if allFrom (okS s l size) l.length 0 then (if 1048576 < ttl l then 9 else 0) else 2 := by
  unfold sharedE
  rw [if_neg (by simp; omega), if_neg (by omega)]
  by_cases c : allFrom (okS s l size) l.length 0 = true
  · rw [if_pos c]
    have hok := allFrom_true.1 c
    have ho : outB size l = false := by
      unfold outB
      rw [List.any_eq_false]
      intro x hx
      obtain ⟨i, hi, rfl⟩ := List.mem_iff_getElem.1 hx
      have := (okS_iff s l size i).1 (hok i (Nat.zero_le _) hi)
      rw [rd_get hi] at this
      simp
      omega
    have hb : (List.range s.length).any (badAt s l size) = false := by
      rw [List.any_eq_false]
      intro i hi
      have := (okS_iff s l size i).1 (hok i (Nat.zero_le _) (by have := List.mem_range.1 hi; omega))
      unfold badAt
      simp
      omega
    rw [ho, hb, if_neg (by simp; omega), if_neg (by simp)]
  · rw [if_neg c]
    have hex : ∃ i, i < l.length ∧ okS s l size i = false := by
      apply Classical.byContradiction
      intro hn
      apply c
      rw [allFrom_true]
      intro j _ hj
      cases hj2 : okS s l size j
      · exact absurd ⟨j, hj, hj2⟩ hn
      · rfl
    obtain ⟨i, hi, hf⟩ := hex
    by_cases c2 : (decide (size < 0) || decide (1048576 < size) || outB size l) = true
    · rw [if_pos c2]
    · rw [if_neg c2]
      have hb : (List.range s.length).any (badAt s l size) = true := by
        rw [List.any_eq_true]
        refine ⟨i, List.mem_range.2 (by omega), ?_⟩
        have ho : outB size l = false := by
          cases h : outB size l
          · rfl
          · rw [h] at c2; simp at c2
        have hl := List.any_eq_false.1 ho _ (rd_mem l (i : Int) (by omega) (by omega))
        simp at hl
        unfold badAt
        have hn : ¬ ((0 ≤ rd s (i : Int) ∧ rd s (i : Int) ≤ size) ∧ 0 ≤ rd l (i : Int) ∧ rd l (i : Int) ≤ size - rd s (i : Int)) := fun h => by
          rw [(okS_iff s l size i).2 h] at hf
          cases hf
        simp
        omega
      rw [hb, if_pos rfl]
theorem ev_SharedR (s l : List Int) (size : Int) : Ev (fun k => r02_Shared.f k s l size) (seg_Shared.g s l size) := by
  have hJ : ∀ b : Bool, b = (decide ((1048576 : Int) < (s.length : Int)) || decide ((1048576 : Int) < (l.length : Int))) → Ev (fun k => r02_Shared.j0 k s l size b) (seg_Shared.g s l size) := by
    intro b hb
    cases b
    · have hb1 : ¬ (1048576 : Int) < (s.length : Int) ∧ ¬ (1048576 : Int) < (l.length : Int) := by
        have := hb.symm
        rw [Bool.or_eq_false_iff, decide_eq_false_iff_not, decide_eq_false_iff_not] at this
        exact this
      by_cases h2 : s.length = l.length
      · by_cases h3 : 0 ≤ size ∧ size ≤ 1048576
        · have hL := ev_SharedL s l size (by omega) h2 h3.1 h3.2
          have hE := sharedE_eq s l size (by omega) h2 h3.1 h3.2
          have e : seg_Shared.g s l size = (if allFrom (okS s l size) l.length 0 then (if 1048576 < ttl l then (0, 9) else (((ttl l : Nat) : Int), 0)) else (0, 2)) := by
            unfold seg_Shared.g
            rw [hE]
            cases allFrom (okS s l size) l.length 0 <;> by_cases h9 : 1048576 < ttl l <;> simp [h9]
          rw [e]
          refine Ev.step (f := fun k => r02_Shared.l0 k s l size 0 0) (fun k => ?_) hL
          simp only [r02_Shared.j0, Bool.false_eq_true, if_false, f_Lies, Option.bind_some]
          rw [if_pos (by omega), if_pos (by rw [Bool.and_eq_true, decide_eq_true_eq, decide_eq_true_eq]; exact h3)]
        · have hE : sharedE s l size = 2 := by
            unfold sharedE
            rw [if_neg (by simp; omega), if_neg (by omega), if_pos]
            simp
            omega
          have e : seg_Shared.g s l size = (0, 2) := by unfold seg_Shared.g; rw [hE]; rfl
          rw [e]
          refine Ev.step (f := fun _ => some (0, 2)) (fun k => ?_) (Ev.now _)
          simp only [r02_Shared.j0, Bool.false_eq_true, if_false, f_Lies, Option.bind_some]
          rw [if_pos (by omega), if_neg (by rw [Bool.and_eq_true, decide_eq_true_eq, decide_eq_true_eq]; exact h3)]
      · have hE : sharedE s l size = 1 := by
          unfold sharedE
          rw [if_neg (by simp; omega), if_pos h2]
        have e : seg_Shared.g s l size = (0, 1) := by unfold seg_Shared.g; rw [hE]; rfl
        rw [e]
        refine Ev.step (f := fun _ => some (0, 1)) (fun k => ?_) (Ev.now _)
        simp only [r02_Shared.j0, Bool.false_eq_true, if_false]
        rw [if_neg (by omega)]
    · have hE : sharedE s l size = 3 := by
        unfold sharedE
        rw [← hb, if_pos rfl]
      have e : seg_Shared.g s l size = (0, 3) := by unfold seg_Shared.g; rw [hE]; rfl
      rw [e]
      refine Ev.step (f := fun _ => some (0, 3)) (fun k => ?_) (Ev.now _)
      simp only [r02_Shared.j0, if_true]
  unfold r02_Shared.f
  by_cases h1 : (s.length : Int) > 1048576
  · simp only [h1, if_true]
    exact hJ true (by rw [decide_eq_true (show (1048576 : Int) < (s.length : Int) from h1), Bool.true_or])
  · simp only [h1, if_false]
    exact hJ _ (by rw [decide_eq_false (show ¬ (1048576 : Int) < (s.length : Int) from h1), Bool.false_or])
def covJ (s l : List Int) (i j : Nat) (k : Int) : Int := cov s l i k + (if rd s (i : Int) ≤ k ∧ k < rd s (i : Int) + (j : Int) then 1 else 0)
set_option maxHeartbeats 1000000 in
theorem ev_counts (s l : List Int) (size : Nat) (hE : sharedE s l (size : Int) = 0) : Ev (fun k => r02_counts.f k s l (size : Int)) (upTo (cov s l s.length) (size : Int)) := by
  obtain ⟨e1, e2, e3, e4, e5, e6⟩ := sharedE_ok hE
  have H := up (n := l.length) (P := fun i => Ev (fun k => r02_counts.l0 k s l (upTo (cov s l i) (size : Int)) (i : Int)) (upTo (cov s l s.length) (size : Int)))
    (by
      rw [e2]
      refine Ev.step (f := fun _ => some (upTo (cov s l s.length) (size : Int))) (fun k => ?_) (Ev.now _)
      simp only [r02_counts.l0]
      rw [if_neg (by omega)])
    (fun i hi ih => by
      have h6 := e6 i (by omega)
      obtain ⟨n, hn⟩ : ∃ n : Nat, rd l (i : Int) = n := ⟨(rd l (i : Int)).toNat, by omega⟩
      obtain ⟨a, ha⟩ : ∃ a : Nat, rd s (i : Int) = a := ⟨(rd s (i : Int)).toNat, by omega⟩
      have hfin : cov s l (i + 1) = covJ s l i n := by
        funext k
        unfold covJ
        rw [← hn]
        rfl
      rw [hfin] at ih
      have H2 := up (n := n) (P := fun j => Ev (fun k => r02_counts.l1 k s l (upTo (covJ s l i j) (size : Int)) (i : Int) (j : Int)) (upTo (cov s l s.length) (size : Int)))
        (by
          refine Ev.step (f := fun k => r02_counts.l0 k s l (upTo (covJ s l i n) (size : Int)) ((i + 1 : Nat) : Int)) (fun k => ?_) ih
          simp only [r02_counts.l1]
          rw [if_pos (by omega), if_pos (by omega), hn, if_neg (by omega), wsucc hi (by omega)])
        (fun j hj ih2 => by
          have hlen := upTo_length (covJ s l i j) (size : Int)
          have hrd := rd_upTo_nat (covJ s l i j) size (a + j) (by omega)
          have hcl := cov_le s l i ((a + j : Nat) : Int)
          have hv : covJ s l i j ((a + j : Nat) : Int) = cov s l i ((a + j : Nat) : Int) := by
            unfold covJ
            rw [ha, if_neg (by omega)]
            omega
          have hv2 : covJ s l i (j + 1) ((a + j : Nat) : Int) = cov s l i ((a + j : Nat) : Int) + 1 := by
            unfold covJ
            rw [ha, if_pos (by omega)]
          have hset : (upTo (covJ s l i j) (size : Int)).set (a + j) (cov s l i ((a + j : Nat) : Int) + 1) = upTo (covJ s l i (j + 1)) (size : Int) := upTo_set (covJ s l i j) (covJ s l i (j + 1)) size (a + j) _ hv2 (fun k hk hne => by
            unfold covJ
            rw [ha]
            congr 1
            by_cases c : (a : Int) ≤ (k : Int) ∧ (k : Int) < (a : Int) + (j : Int)
            · rw [if_pos c, if_pos (by omega)]
            · rw [if_neg c, if_neg (by omega)])
          rw [← hset] at ih2
          have hw := Aside0.mk (show wrap64 ((a : Int) + (j : Int)) = ((a + j : Nat) : Int) by unfold wrap64; omega)
          have hw2 := Aside0.mk (show wrap64 (cov s l i ((a + j : Nat) : Int) + 1) = cov s l i ((a + j : Nat) : Int) + 1 by generalize cov s l i ((a + j : Nat) : Int) = z at *; unfold wrap64; omega)
          refine Ev.step (f := fun k => r02_counts.l1 k s l ((upTo (covJ s l i j) (size : Int)).set (a + j) (cov s l i ((a + j : Nat) : Int) + 1)) (i : Int) ((j + 1 : Nat) : Int)) (fun k => ?_) ih2
          simp only [r02_counts.l1]
          rw [if_pos (by omega), if_pos (by omega), hn, if_pos (by omega), if_pos (by omega), ha, hw.out, if_pos (by omega), if_pos (by rw [hlen]; omega), Int.toNat_natCast, hrd, hv, hw2.out, wsucc hj (by omega)]) 0 (Nat.zero_le _)
      have h0 : covJ s l i 0 = cov s l i := by
        funext k
        unfold covJ
        rw [if_neg (by omega)]
        omega
      rw [h0] at H2
      refine Ev.step (f := fun k => r02_counts.l1 k s l (upTo (cov s l i) (size : Int)) (i : Int) ((0 : Nat) : Int)) (fun k => ?_) H2
      simp only [r02_counts.l0]
      rw [if_pos (by omega)]
      rfl) 0 (Nat.zero_le _)
  have e0 : List.replicate size (0 : Int) = upTo (cov s l 0) (size : Int) := (upTo_zero size (cov s l 0) (fun k _ => rfl)).symm
  unfold r02_counts.f
  simp only [show (0 : Int) ≤ (size : Int) from by omega, Int.toNat_natCast, show size ≤ 35184372088832 from by omega, if_true, e0]
  exact H
theorem shared_g0 (s l : List Int) (size : Int) (hE : sharedE s l size = 0) : seg_Shared.g s l size = (((ttl l : Nat) : Int), 0) := by unfold seg_Shared.g; rw [if_pos hE]
theorem shared_g1 (s l : List Int) (size : Int) (hE : ¬ sharedE s l size = 0) : seg_Shared.g s l size = (0, sharedE s l size) := by unfold seg_Shared.g; rw [if_neg hE]
theorem shared_nat {s l : List Int} {size : Int} (hE : sharedE s l size = 0) : ∃ q : Nat, size = q := ⟨size.toNat, by have := (sharedE_ok hE).2.2.1; omega⟩
theorem ev_DepthR (s l : List Int) (size : Int) : Ev (fun k => r02_Depth.f k s l size) (seg_Depth.g s l size) := by
  unfold r02_Depth.f
  refine Ev.bind (ev_SharedR s l size) ?_
  by_cases hE : sharedE s l size = 0
  · obtain ⟨q, rfl⟩ := shared_nat hE
    rw [shared_g0 _ _ _ hE, depth_g _ _ _ hE]
    simp only [if_true]
    refine Ev.bind (ev_counts s l q hE) ?_
    obtain ⟨e1, e2, e3, e4, e5, e6⟩ := sharedE_ok hE
    have hlen := upTo_length (cov s l s.length) (q : Int)
    have H := up (n := q) (P := fun i => Ev (fun k => r02_Depth.l0 k (upTo (cov s l s.length) (q : Int)) (mostTo s l i) (i : Int)) (mostTo s l q, 0))
      (by
        refine Ev.step (f := fun _ => some (mostTo s l q, 0)) (fun k => ?_) (Ev.now _)
        simp only [r02_Depth.l0]
        rw [if_neg (by omega)])
      (fun i hi ih => by
        rw [most_succ s l (shared_pos s l _ hE)] at ih
        refine Ev.step (f := fun k => r02_Depth.l0 k (upTo (cov s l s.length) (q : Int)) (max (mostTo s l i) (cov s l s.length (i : Int))) ((i + 1 : Nat) : Int)) (fun k => ?_) ih
        have hmx : mx (mostTo s l i) (cov s l s.length (i : Int)) = max (mostTo s l i) (cov s l s.length (i : Int)) := by unfold mx; split <;> omega
        simp only [r02_Depth.l0]
        rw [if_pos (by omega), if_pos (by omega), rd_upTo_nat _ q i hi, hmx, wsucc hi (by omega)]) 0 (Nat.zero_le _)
    exact H
  · have e : seg_Depth.g s l size = (0, sharedE s l size) := by unfold seg_Depth.g; rw [if_neg hE]
    rw [shared_g1 _ _ _ hE, e]
    simp only [hE, if_false]
    exact Ev.now _
theorem rd_map_ofP (o : List (Int × Int)) (t : List (Int × Int)) (z : Int × Int) (h : o = t ++ [z]) : rd_T52 (o.map ofP) (((o.map ofP).length : Int) - 1) = ofP z := by
  subst h
  unfold rd_T52
  rw [List.length_map, List.length_append, List.length_singleton, show (((t.length + 1 : Nat) : Int) - 1).toNat = t.length by omega, List.map_append, List.getD_eq_getElem?_getD, List.getElem?_append_right (by rw [List.length_map]; omega), List.length_map, Nat.sub_self]
  rfl
theorem set_map_ofP (t : List (Int × Int)) (z y : Int × Int) : ((t ++ [z]).map ofP).set t.length (ofP y) = (t ++ [y]).map ofP := by
  rw [List.map_append, List.map_append, List.set_append_right _ _ (by rw [List.length_map]; omega), List.length_map, Nat.sub_self]
  rfl
set_option maxHeartbeats 1000000 in
theorem ev_TouchedL (s l : List Int) (size : Nat) (hE : sharedE s l (size : Int) = 0) : Ev (fun k => r02_Touched.l0 k (upTo (cov s l s.length) (size : Int)) ([] : List SpanS) 0) ((touchedG s l).map ofP, 0) := by
  obtain ⟨e1, e2, e3, e4, e5, e6⟩ := sharedE_ok hE
  obtain ⟨g1, g2⟩ := touched_canon s l (shared_pos s l _ hE)
  have hlen := upTo_length (cov s l s.length) (size : Int)
  have hin : ∀ p, 0 < cov s l s.length p → 0 ≤ p ∧ p < (size : Int) := fun p hp => tou_in s l _ hE p (decide_eq_true hp)
  have hcl := fun p => cov_le s l s.length p
  generalize cov s l s.length = C at *
  generalize touchedG s l = G at *
  have H := up (n := size) (P := fun i => ∀ o : List (Int × Int), Canon o → (∀ p, inSp o p ↔ (p < (i : Int) ∧ 0 < C p)) → o.length ≤ i → Ev (fun k => r02_Touched.l0 k (upTo C (size : Int)) (o.map ofP) (i : Int)) (G.map ofP, 0))
    (fun o ho hm hl => by
      have e : o = G := Canon.uniq ho g1 fun p => by
        rw [hm, g2]
        exact ⟨fun h => h.2, fun h => ⟨(hin p h).2, h⟩⟩
      subst e
      refine Ev.step (f := fun _ => some (o.map ofP, 0)) (fun k => ?_) (Ev.now _)
      simp only [r02_Touched.l0]
      rw [if_neg (by omega)])
    (fun i hi ih o ho hm hl => by
      have hrd := rd_upTo_nat C size i hi
      have hml : (o.map ofP).length = o.length := List.length_map _
      by_cases c0 : C (i : Int) = 0
      · have ih2 := ih o ho (fun p => by
          rw [hm]
          constructor
          · rintro ⟨a, b⟩; exact ⟨by omega, b⟩
          · rintro ⟨a, b⟩
            refine ⟨?_, b⟩
            by_cases e : p = (i : Int)
            · subst e; omega
            · omega) (by omega)
        refine Ev.step (f := fun k => r02_Touched.l0 k (upTo C (size : Int)) (o.map ofP) ((i + 1 : Nat) : Int)) (fun k => ?_) ih2
        simp only [r02_Touched.l0]
        rw [if_pos (by omega), if_pos (by omega), hrd, if_pos c0, wsucc hi (by omega)]
      · have cp : 0 < C (i : Int) := by have := hcl (i : Int); omega
        have hstep : ∀ p, (p < ((i + 1 : Nat) : Int) ∧ 0 < C p) ↔ ((p < (i : Int) ∧ 0 < C p) ∨ p = (i : Int)) := fun p => by
          constructor
          · rintro ⟨a, b⟩
            by_cases e : p = (i : Int)
            · exact .inr e
            · exact .inl ⟨by omega, b⟩
          · rintro (⟨a, b⟩ | rfl)
            · exact ⟨by omega, b⟩
            · exact ⟨by omega, cp⟩
        have hends : ∀ q ∈ o, q.1 + q.2 ≤ (i : Int) ∧ 0 ≤ q.1 := fun q hq => by
          have h1 := ho.2 q hq
          have h2 := (hm (q.1 + q.2 - 1)).1 ⟨q, hq, by omega, by omega⟩
          have h3 := (hm q.1).1 ⟨q, hq, by omega, by omega⟩
          have h4 := hin _ h3.2
          omega
        -- a new span
        have hnew : (∀ q ∈ o, q.1 + q.2 ≠ (i : Int)) → Ev (fun k => r02_Touched.l0 k (upTo C (size : Int)) ((o ++ [((i : Int), 1)]).map ofP) ((i + 1 : Nat) : Int)) (G.map ofP, 0) := fun hne => by
          refine ih (o ++ [((i : Int), 1)]) (Canon.snoc.2 ⟨ho, by simp only; omega, fun q hq => by have := hends q hq; have := hne q hq; simp only; omega⟩) (fun p => ?_) (by simp; omega)
          rw [inSp_app, inSp_one, hm, hstep]
          simp only
          refine or_congr Iff.rfl ?_
          omega
        have happ : ∀ k, ((some ((o.map ofP) ++ [(⟨(i : Int), 0⟩ : SpanS)] : List SpanS)).bind fun y130 => (if 0 ≤ (wrap64 ((y130.length : Int) - 1)) then (if (wrap64 ((y130.length : Int) - 1)) < (y130.length : Int) then (r02_Touched.l0 k (upTo C (size : Int)) (y130.set ((wrap64 ((y130.length : Int) - 1)) : Int).toNat (⟨(rd_T52 y130 (wrap64 ((y130.length : Int) - 1))).f0, wrap64 (((rd_T52 y130 (wrap64 ((y130.length : Int) - 1))).f1) + 1)⟩ : SpanS)) (wrap64 ((i : Int) + 1))) else (none)) else (none))) = r02_Touched.l0 k (upTo C (size : Int)) ((o ++ [((i : Int), 1)]).map ofP) ((i + 1 : Nat) : Int) := fun k => by
          have ey : (o.map ofP) ++ [(⟨(i : Int), 0⟩ : SpanS)] = (o ++ [((i : Int), 0)]).map ofP := by rw [List.map_append]; rfl
          rw [Option.bind_some, ey]
          have hr := rd_map_ofP (o ++ [((i : Int), 0)]) o ((i : Int), 0) rfl
          have hl2 : ((o ++ [((i : Int), 0)]).map ofP).length = o.length + 1 := by rw [List.length_map, List.length_append]; rfl
          have hw := Aside0.mk (show wrap64 ((((o ++ [((i : Int), 0)]).map ofP).length : Int) - 1) = (((o ++ [((i : Int), 0)]).map ofP).length : Int) - 1 by rw [hl2]; unfold wrap64; omega)
          rw [hw.out, hr, if_pos (by rw [hl2]; omega), if_pos (by omega), hl2, show (((o.length + 1 : Nat) : Int) - 1).toNat = o.length by omega, wsucc hi (by omega)]
          have := set_map_ofP o ((i : Int), 0) ((i : Int), 1)
          rw [← this]
          show r02_Touched.l0 k _ (((o ++ [((i : Int), 0)]).map ofP).set o.length ⟨(i : Int), wrap64 (0 + 1)⟩) _ = _
          rw [show wrap64 (0 + 1) = 1 by decide +kernel]
          rfl
        by_cases ci : i = 0
        · have hz : (i : Int) = 0 := by omega
          refine Ev.step (f := fun k => r02_Touched.l0 k (upTo C (size : Int)) ((o ++ [((i : Int), 1)]).map ofP) ((i + 1 : Nat) : Int)) (fun k => ?_) (hnew (fun q hq => by have := hends q hq; have := ho.2 q hq; omega))
          simp only [r02_Touched.l0]
          rw [if_pos (by omega), if_pos (by omega), hrd, if_neg c0, if_pos hz, if_pos (by omega)]
          exact happ k
        · have hrd2 := rd_upTo_nat C size (i - 1) (by omega)
          have hwm := Aside0.mk (show wrap64 ((i : Int) - 1) = ((i - 1 : Nat) : Int) by unfold wrap64; omega)
          by_cases cm : C ((i - 1 : Nat) : Int) = 0
          · refine Ev.step (f := fun k => r02_Touched.l0 k (upTo C (size : Int)) ((o ++ [((i : Int), 1)]).map ofP) ((i + 1 : Nat) : Int)) (fun k => ?_) (hnew (fun q hq e => by
              have h1 := ho.2 q hq
              have := (hm ((i - 1 : Nat) : Int)).1 ⟨q, hq, by omega, by omega⟩
              omega))
            simp only [r02_Touched.l0]
            rw [if_pos (by omega), if_pos (by omega), hrd, if_neg c0, if_neg (by omega), hwm.out, if_pos (by omega), if_pos (by omega), hrd2, if_pos cm, if_pos (by omega)]
            exact happ k
          · have cmp : 0 < C ((i - 1 : Nat) : Int) := by have := hcl ((i - 1 : Nat) : Int); omega
            obtain ⟨q0, hq0, hq1, hq2⟩ := (hm ((i - 1 : Nat) : Int)).2 ⟨by omega, cmp⟩
            have hol : 0 < o.length := List.length_pos_of_mem hq0
            obtain ⟨t, ht⟩ := split_last o hol
            generalize spanLast o = z at ht
            subst ht
            obtain ⟨s1, s2, s3⟩ := Canon.snoc.1 ho
            have hz := hends z (by simp)
            have hzi : z.1 + z.2 = (i : Int) := by
              rcases List.mem_append.1 hq0 with h | h
              · have h5 := s3 q0 h
                omega
              · rw [List.mem_singleton.1 h] at hq1 hq2
                omega
            have ih2 := ih (t ++ [(z.1, z.2 + 1)]) (Canon.snoc.2 ⟨s1, by simp only; omega, s3⟩) (fun p => by
              rw [inSp_app, inSp_one, hstep, ← hm, inSp_app, inSp_one, or_assoc]
              refine or_congr Iff.rfl ?_
              simp only
              omega) (by simp at hl ⊢; omega)
            have hr := rd_map_ofP (t ++ [z]) t z rfl
            have hl2 : ((t ++ [z]).map ofP).length = t.length + 1 := by rw [List.length_map, List.length_append]; rfl
            have hw := Aside0.mk (show wrap64 ((((t ++ [z]).map ofP).length : Int) - 1) = (((t ++ [z]).map ofP).length : Int) - 1 by rw [hl2]; simp at hl; unfold wrap64; omega)
            have hw2 := Aside0.mk (show wrap64 (z.2 + 1) = z.2 + 1 by unfold wrap64; omega)
            refine Ev.step (f := fun k => r02_Touched.l0 k (upTo C (size : Int)) ((t ++ [(z.1, z.2 + 1)]).map ofP) ((i + 1 : Nat) : Int)) (fun k => ?_) ih2
            simp only [r02_Touched.l0]
            rw [if_pos (by omega), if_pos (by omega), hrd, if_neg c0, if_neg (by omega), hwm.out, if_pos (by omega), if_pos (by omega), hrd2, if_neg cm, hw.out, hr, if_pos (by rw [hl2]; omega), if_pos (by omega), hl2, show (((t.length + 1 : Nat) : Int) - 1).toNat = t.length by omega, wsucc hi (by omega)]
            have h7 := set_map_ofP t z (z.1, z.2 + 1)
            rw [← h7]
            show r02_Touched.l0 k _ (((t ++ [z]).map ofP).set t.length ⟨z.1, wrap64 (z.2 + 1)⟩) _ = _
            rw [hw2.out]
            rfl) 0 (Nat.zero_le _) [] ⟨List.Pairwise.nil, by simp⟩ (fun p => by
      constructor
      · intro h; exact absurd h (inSp_nil p)
      · rintro ⟨a, b⟩; have := hin p b; omega) (by simp)
  exact H
theorem ev_TouchedR (s l : List Int) (size : Int) : Ev (fun k => r02_Touched.f k s l size) ((seg_Touched.g s l size).1.map ofP, (seg_Touched.g s l size).2) := by
  unfold r02_Touched.f
  refine Ev.bind (ev_SharedR s l size) ?_
  by_cases hE : sharedE s l size = 0
  · obtain ⟨q, rfl⟩ := shared_nat hE
    have e : seg_Touched.g s l (q : Int) = (touchedG s l, 0) := by unfold seg_Touched.g; rw [if_pos hE]
    rw [shared_g0 _ _ _ hE, e]
    simp only [if_true]
    exact Ev.bind (ev_counts s l q hE) (ev_TouchedL s l q hE)
  · have e : seg_Touched.g s l size = ([], sharedE s l size) := by unfold seg_Touched.g; rw [if_neg hE]
    rw [shared_g1 _ _ _ hE, e]
    simp only [hE, if_false]
    exact Ev.now _
set_option maxHeartbeats 1000000 in
theorem ev_PlacesR (s l : List Int) (size : Int) : Ev (fun k => r02_Places.f k s l size) (seg_Places.g s l size) := by
  unfold r02_Places.f
  refine Ev.bind (ev_SharedR s l size) ?_
  by_cases hE : sharedE s l size = 0
  · have e : seg_Places.g s l size = (placesTo s l s.length, 0) := by unfold seg_Places.g; rw [if_pos hE]
    rw [shared_g0 _ _ _ hE, e]
    simp only [if_true]
    obtain ⟨e1, e2, e3, e4, e5, e6⟩ := sharedE_ok hE
    have H := up (n := l.length) (P := fun i => Ev (fun k => r02_Places.l0 k s l (placesTo s l i) (i : Int)) (placesTo s l s.length, 0))
      (by
        rw [e2]
        refine Ev.step (f := fun _ => some (placesTo s l s.length, 0)) (fun k => ?_) (Ev.now _)
        simp only [r02_Places.l0]
        rw [if_neg (by omega)])
      (fun i hi ih => by
        have h6 := e6 i (by omega)
        have hle := startOf_le_ttl l (i + 1) (by omega)
        have hs := startOf_step l i hi
        have hpl := placesTo_length s l i (by omega)
        obtain ⟨n, hn⟩ : ∃ n : Nat, rd l (i : Int) = n := ⟨(rd l (i : Int)).toNat, by omega⟩
        rw [placesTo_succ, hn] at ih
        have H2 := up (n := n) (P := fun j => Ev (fun k => r02_Places.l1 k s l (placesTo s l i ++ upTo (fun x => rd s (i : Int) + x) (j : Int)) (i : Int) (j : Int)) (placesTo s l s.length, 0))
          (by
            refine Ev.step (f := fun k => r02_Places.l0 k s l (placesTo s l i ++ upTo (fun x => rd s (i : Int) + x) (n : Int)) ((i + 1 : Nat) : Int)) (fun k => ?_) ih
            simp only [r02_Places.l1]
            rw [if_pos (by omega), if_pos (by omega), hn, if_neg (by omega), wsucc hi (by omega)])
          (fun j hj ih2 => by
            have hup : upTo (fun x => rd s (i : Int) + x) ((j + 1 : Nat) : Int) = upTo (fun x => rd s (i : Int) + x) (j : Int) ++ [rd s (i : Int) + (j : Int)] := by rw [show ((j + 1 : Nat) : Int) = (j : Int) + 1 by omega]; exact upTo_succ _ _ (by omega)
            rw [hup, ← List.append_assoc] at ih2
            have hb : (placesTo s l i ++ upTo (fun x => rd s (i : Int) + x) (j : Int)).length < 17592186044416 := by rw [List.length_append, upTo_length]; omega
            have hw := Aside0.mk (show wrap64 (rd s (i : Int) + (j : Int)) = rd s (i : Int) + (j : Int) by generalize rd s (i : Int) = z at *; unfold wrap64; omega)
            refine Ev.step (f := fun k => r02_Places.l1 k s l (placesTo s l i ++ upTo (fun x => rd s (i : Int) + x) (j : Int) ++ [rd s (i : Int) + (j : Int)]) (i : Int) ((j + 1 : Nat) : Int)) (fun k => ?_) ih2
            simp only [r02_Places.l1]
            rw [if_pos (by omega), if_pos (by omega), hn, if_pos (by omega), if_pos (by omega), if_pos hb, hw.out, wsucc hj (by omega)]) 0 (Nat.zero_le _)
        rw [show upTo (fun x => rd s (i : Int) + x) ((0 : Nat) : Int) = [] from rfl, List.append_nil] at H2
        refine Ev.step (f := fun k => r02_Places.l1 k s l (placesTo s l i) (i : Int) ((0 : Nat) : Int)) (fun k => ?_) H2
        simp only [r02_Places.l0]
        rw [if_pos (by omega)]
        rfl) 0 (Nat.zero_le _)
    exact H
  · have e : seg_Places.g s l size = ([], sharedE s l size) := by unfold seg_Places.g; rw [if_neg hE]
    rw [shared_g1 _ _ _ hE, e]
    simp only [hE, if_false]
    exact Ev.now _
/-- How many touched places stand ahead of each place, as far as it is known. -/
def ahN (f : Int → Bool) (i : Nat) (x : Int) : Int := if x ≤ (i : Int) then (((filtTo f x.toNat).length : Nat) : Int) else 0
theorem ahN_step (f : Int → Bool) (size i : Nat) (hi : i < size) (v : Int) (hv : v = (((filtTo f (i + 1)).length : Nat) : Int)) : (upTo (ahN f i) ((size + 1 : Nat) : Int)).set (i + 1) v = upTo (ahN f (i + 1)) ((size + 1 : Nat) : Int) :=
  upTo_set (ahN f i) (ahN f (i + 1)) (size + 1) (i + 1) _ (by unfold ahN; rw [if_pos (by omega), Int.toNat_natCast, hv]) (fun k hk hne => by
    unfold ahN
    by_cases c : (k : Int) ≤ (i : Int)
    · rw [if_pos c, if_pos (by omega)]
    · rw [if_neg c, if_neg (by omega)])
theorem filt_succ_len (f : Int → Bool) (i : Nat) : (filtTo f (i + 1)).length = (filtTo f i).length + (if f (i : Int) then 1 else 0) := by
  show (filtTo f i ++ (if f (i : Int) then [(i : Int)] else [])).length = _
  rw [List.length_append]
  cases f (i : Int) <;> rfl
set_option maxHeartbeats 1000000 in
theorem ev_Compact1 (s l : List Int) (size : Nat) (hE : sharedE s l (size : Int) = 0) : Ev (fun k => r02_Compact.l1 k s (filtTo (touB s l) size) (upTo (ahN (touB s l) size) ((size + 1 : Nat) : Int)) ([] : List Int) 0) (beginL s l, filtTo (touB s l) size, 0) := by
  obtain ⟨e1, e2, e3, e4, e5, e6⟩ := sharedE_ok hE
  have hlen := upTo_length (ahN (touB s l) size) ((size + 1 : Nat) : Int)
  have H := up (n := s.length) (P := fun i => Ev (fun k => r02_Compact.l1 k s (filtTo (touB s l) size) (upTo (ahN (touB s l) size) ((size + 1 : Nat) : Int)) (upTo (fun i => (((filtTo (touB s l) (rd s i).toNat).length : Nat) : Int)) (i : Int)) (i : Int)) (beginL s l, filtTo (touB s l) size, 0))
    (by
      refine Ev.step (f := fun _ => some (beginL s l, filtTo (touB s l) size, 0)) (fun k => ?_) (Ev.now _)
      simp only [r02_Compact.l1]
      rw [if_neg (by omega)]
      rfl)
    (fun i hi ih => by
      have h6 := e6 i hi
      obtain ⟨a, ha⟩ : ∃ a : Nat, rd s (i : Int) = a := ⟨(rd s (i : Int)).toNat, by omega⟩
      have hup : upTo (fun i => (((filtTo (touB s l) (rd s i).toNat).length : Nat) : Int)) ((i + 1 : Nat) : Int) = upTo (fun i => (((filtTo (touB s l) (rd s i).toNat).length : Nat) : Int)) (i : Int) ++ [(((filtTo (touB s l) (rd s (i : Int)).toNat).length : Nat) : Int)] := by rw [show ((i + 1 : Nat) : Int) = (i : Int) + 1 by omega]; exact upTo_succ _ _ (by omega)
      have hb : (upTo (fun i => (((filtTo (touB s l) (rd s i).toNat).length : Nat) : Int)) (i : Int)).length < 17592186044416 := by rw [upTo_length]; omega
      have hrd := rd_upTo_nat (ahN (touB s l) size) (size + 1) a (by omega)
      have hv : ahN (touB s l) size (a : Int) = (((filtTo (touB s l) a).length : Nat) : Int) := by unfold ahN; rw [if_pos (by omega), Int.toNat_natCast]
      rw [hup, ha, Int.toNat_natCast] at ih
      refine Ev.step (f := fun k => r02_Compact.l1 k s (filtTo (touB s l) size) (upTo (ahN (touB s l) size) ((size + 1 : Nat) : Int)) (upTo (fun i => (((filtTo (touB s l) (rd s i).toNat).length : Nat) : Int)) (i : Int) ++ [(((filtTo (touB s l) a).length : Nat) : Int)]) ((i + 1 : Nat) : Int)) (fun k => ?_) ih
      simp only [r02_Compact.l1]
      rw [if_pos (by omega), if_pos (by omega), ha, if_pos (by omega), if_pos (by rw [hlen]; omega), if_pos hb, hrd, hv, wsucc hi (by omega)]) 0 (Nat.zero_le _)
  exact H
set_option maxHeartbeats 1000000 in
theorem ev_CompactR (s l : List Int) (size : Int) : Ev (fun k => r02_Compact.f k s l size) (seg_Compact.g s l size) := by
  unfold r02_Compact.f
  refine Ev.bind (ev_SharedR s l size) ?_
  by_cases hE : sharedE s l size = 0
  · obtain ⟨q, rfl⟩ := shared_nat hE
    rw [shared_g0 _ _ _ hE, compact_g _ _ _ hE]
    simp only [if_true]
    refine Ev.bind (ev_counts s l q hE) ?_
    obtain ⟨e1, e2, e3, e4, e5, e6⟩ := sharedE_ok hE
    have hL1 := ev_Compact1 s l q hE
    have hcl := fun p => cov_le s l s.length p
    have hf : ∀ p, touB s l p = decide (0 < cov s l s.length p) := fun p => rfl
    have hlt := upTo_length (cov s l s.length) (q : Int)
    generalize cov s l s.length = C at *
    generalize touB s l = F at *
    have H := up (n := q) (P := fun i => Ev (fun k => r02_Compact.l0 k s (q : Int) (upTo C (q : Int)) (filtTo F i) (upTo (ahN F i) ((q + 1 : Nat) : Int)) (i : Int)) (beginL s l, filtTo F q, 0))
      (by
        refine Ev.step (f := fun k => r02_Compact.l1 k s (filtTo F q) (upTo (ahN F q) ((q + 1 : Nat) : Int)) ([] : List Int) 0) (fun k => ?_) hL1
        simp only [r02_Compact.l0]
        rw [if_neg (by omega)])
      (fun i hi ih => by
        have hlen := upTo_length (ahN F i) ((q + 1 : Nat) : Int)
        have hws := Aside0.mk (wsucc hi (show q ≤ 4611686018427387904 by omega))
        have hrd0 : rd (upTo (ahN F i) ((q + 1 : Nat) : Int)) (i : Int) = (((filtTo F i).length : Nat) : Int) := by
          rw [rd_upTo_nat _ (q + 1) i (by omega)]
          unfold ahN
          rw [if_pos (Int.le_refl _), Int.toNat_natCast]
        have hfl := filtTo_length_le F i
        have hrdC := rd_upTo_nat C q i hi
        have hsl := filt_succ_len F i
        have hFi := hf (i : Int)
        by_cases c0 : C (i : Int) > 0
        · have hF1 : F (i : Int) = true := by rw [hFi]; exact decide_eq_true c0
          have hfs : filtTo F (i + 1) = filtTo F i ++ [(i : Int)] := by show filtTo F i ++ (if F (i : Int) then [(i : Int)] else []) = _; rw [if_pos hF1]
          rw [hF1, if_pos rfl] at hsl
          have hst := ahN_step F q i hi ((((filtTo F i).length : Nat) : Int) + 1) (by rw [hsl]; omega)
          rw [hfs, ← hst] at ih
          have hw := Aside0.mk (show wrap64 ((((filtTo F i).length : Nat) : Int) + 1) = (((filtTo F i).length : Nat) : Int) + 1 by unfold wrap64; omega)
          have hrd1 : rd ((upTo (ahN F i) ((q + 1 : Nat) : Int)).set (i + 1) (((filtTo F i).length : Nat) : Int)) (i : Int) = (((filtTo F i).length : Nat) : Int) := by
            rw [rd_setn _ _ _ _ (by rw [hlen]; omega), if_neg (by omega), hrd0]
          refine Ev.step (f := fun k => r02_Compact.l0 k s (q : Int) (upTo C (q : Int)) (filtTo F i ++ [(i : Int)]) ((upTo (ahN F i) ((q + 1 : Nat) : Int)).set (i + 1) ((((filtTo F i).length : Nat) : Int) + 1)) ((i + 1 : Nat) : Int)) (fun k => ?_) ih
          simp only [r02_Compact.l0]
          rw [if_pos (by omega), if_pos (by omega), if_pos (by rw [hlen]; omega), hws.out, if_pos (by omega), if_pos (by rw [hlen]; omega), Option.bind_some, Int.toNat_natCast, hrd0, if_pos (by omega), hrdC, if_pos c0, if_pos (by omega), hrd1, hw.out, List.set_set]
        · have hF0 : F (i : Int) = false := by rw [hFi]; exact decide_eq_false c0
          have hfs : filtTo F (i + 1) = filtTo F i := by show filtTo F i ++ (if F (i : Int) then [(i : Int)] else []) = _; rw [hF0, if_neg (by simp), List.append_nil]
          have hst := ahN_step F q i hi (((filtTo F i).length : Nat) : Int) (by rw [hfs])
          rw [hfs, ← hst] at ih
          refine Ev.step (f := fun k => r02_Compact.l0 k s (q : Int) (upTo C (q : Int)) (filtTo F i) ((upTo (ahN F i) ((q + 1 : Nat) : Int)).set (i + 1) (((filtTo F i).length : Nat) : Int)) ((i + 1 : Nat) : Int)) (fun k => ?_) ih
          simp only [r02_Compact.l0]
          rw [if_pos (by omega), if_pos (by omega), if_pos (by rw [hlen]; omega), hws.out, if_pos (by omega), if_pos (by rw [hlen]; omega), Option.bind_some, Int.toNat_natCast, hrd0, if_pos (by omega), hrdC, if_neg c0]) 0 (Nat.zero_le _)
    have hw := Aside0.mk (show wrap64 ((q : Int) + 1) = ((q + 1 : Nat) : Int) by unfold wrap64; omega)
    have e0 : List.replicate (q + 1) (0 : Int) = upTo (ahN F 0) ((q + 1 : Nat) : Int) := (upTo_zero (q + 1) (ahN F 0) (fun k _ => by
      unfold ahN
      by_cases c : (k : Int) ≤ ((0 : Nat) : Int)
      · rw [if_pos c, show ((k : Int)).toNat = 0 by omega]; rfl
      · rw [if_neg c])).symm
    simp only [hw.out, show (0 : Int) ≤ ((q + 1 : Nat) : Int) from by omega, Int.toNat_natCast, show q + 1 ≤ 35184372088832 from by omega, if_true, e0]
    exact H
  · have e : seg_Compact.g s l size = ([], [], sharedE s l size) := by unfold seg_Compact.g; rw [if_neg hE]
    rw [shared_g1 _ _ _ hE, e]
    simp only [hE, if_false]
    exact Ev.now _
theorem ev_sameL (x : List SpanS) (hx : x.length ≤ 4611686018427387904) : Ev (fun k => w02_same.f k x x) true := by
  have H := up (n := x.length) (P := fun i => Ev (fun k => w02_same.l0 k x x true (i : Int)) true)
    (by
      refine Ev.step (f := fun _ => some true) (fun k => ?_) (Ev.now _)
      simp only [w02_same.l0, if_true]
      rw [if_neg (by omega)])
    (fun i hi ih => by
      refine Ev.step (f := fun k => w02_same.l0 k x x true ((i + 1 : Nat) : Int)) (fun k => ?_) ih
      simp only [w02_same.l0, if_true]
      rw [if_pos (by omega), if_pos (by omega), if_pos (by omega), wsucc hi hx]
      simp only [BEq.rfl, Bool.and_self]) 0 (Nat.zero_le _)
  refine Ev.congr (f := fun k => w02_same.l0 k x x true 0) (fun k => ?_) H
  unfold w02_same.f
  rw [show ((x.length : Int) == (x.length : Int)) = true from BEq.rfl]
theorem SegShares : w02_SegShares.Pure := by
  intro s l size _ h1 _ _ h2 _ _
  have hT : ∀ b, Ev (fun k => w02_SegShares.j1 k s l size b) true := by
    intro b
    cases b
    · have hsp : ((seg_Touched.g s l size).1.map ofP).length ≤ 4611686018427387904 := by
        rw [List.length_map]
        unfold seg_Touched.g
        by_cases hE : sharedE s l size = 0
        · rw [if_pos hE]
          obtain ⟨e1, e2, e3, e4, e5, e6⟩ := sharedE_ok hE
          have := (mergeTo_ok (sortedSpans s l) (fun p hp => by
            have hp2 := (sorted_perm s l).mem_iff.1 hp
            unfold spansTo at hp2
            obtain ⟨i, hi, rfl⟩ := List.mem_map.1 hp2
            have := e6 i (List.mem_range.1 hi)
            unfold okSp
            simp only
            omega) s.length (by rw [sortedSpans_length]; omega)).2
          unfold touchedG
          simp only
          omega
        · rw [if_neg hE]; simp
      refine Ev.step (f := fun k => (r02_Shared.f k s l size).bind fun bt189 => ((r02_Depth.f k s l size).bind fun bt193 => ((r02_Touched.f k s l size).bind fun bt199 => (if (seg_Shared.g s l size).1 = bt189.1 then (if (seg_Shared.g s l size).2 = bt189.2 then (if (seg_Depth.g s l size).1 = bt193.1 then (if (seg_Depth.g s l size).2 = bt193.2 then ((w02_same.f k ((seg_Touched.g s l size).1.map ofP) bt199.1).bind fun t203 => (if t203 = true then (w02_SegShares.j2 k s l size ((seg_Touched.g s l size).2 != bt199.2)) else (w02_SegShares.j2 k s l size true))) else (w02_SegShares.j2 k s l size true)) else (w02_SegShares.j2 k s l size true)) else (w02_SegShares.j2 k s l size true)) else (w02_SegShares.j2 k s l size true))))) (fun k => ?_) ?_
      · simp only [w02_SegShares.j1, Bool.false_eq_true, if_false, rShared.f, rDepth.f, sTouched.f, Option.bind_some]
      · refine Ev.bind (ev_SharedR s l size) ?_
        refine Ev.bind (ev_DepthR s l size) ?_
        refine Ev.bind (ev_TouchedR s l size) ?_
        simp only [if_true]
        refine Ev.bind (ev_sameL _ hsp) ?_
        simp only [if_true, bne_self_eq_false]
        refine Ev.step (f := fun k => (r02_Places.f k s l size).bind fun bt208 => ((r02_Compact.f k s l size).bind fun bt219 => ((Eq_.f (seg_Places.g s l size).1 bt208.1).bind fun t226 => (if t226 = true then (if (seg_Places.g s l size).2 = bt208.2 then ((Eq_.f (seg_Compact.g s l size).1 bt219.1).bind fun t227 => (if t227 = true then ((Eq_.f (seg_Compact.g s l size).2.1 bt219.2.1).bind fun t228 => (if t228 = true then (if (seg_Compact.g s l size).2.2 = bt219.2.2 then ((law_cut.f).bind fun t229 => (some t229)) else (none)) else (none))) else (none))) else (none)) else (none))))) (fun k => ?_) ?_
        · simp only [w02_SegShares.j2, Bool.false_eq_true, if_false, rPlaces.f, rCompact.f, Option.bind_some]
        · refine Ev.bind (ev_PlacesR s l size) ?_
          refine Ev.bind (ev_CompactR s l size) ?_
          simp only [Eq_.f, BEq.rfl, Option.bind_some, if_true, law_cut.f]
          exact Ev.now _
    · refine Ev.step (f := fun _ => some true) (fun k => ?_) (Ev.now _)
      simp only [w02_SegShares.j1, if_true, law_cut.f, Option.bind_some]
  have hJ : ∀ b, Ev (fun k => w02_SegShares.j0 k s l size b) true := by
    intro b
    cases b
    · refine Ev.step (f := fun k => (r02_Shared.f k s l size).bind fun bt184 => (if bt184.2 = 0 then (w02_SegShares.j1 k s l size (decide (bt184.1 > 2000))) else (w02_SegShares.j1 k s l size false))) (fun k => ?_) ?_
      · simp only [w02_SegShares.j0, Bool.false_eq_true, if_false]
      · refine Ev.bind (ev_SharedR s l size) ?_
        by_cases c : (seg_Shared.g s l size).2 = 0
        · simp only [c, if_true]; exact hT _
        · simp only [c, if_false]; exact hT _
    · refine Ev.step (f := fun _ => some true) (fun k => ?_) (Ev.now _)
      simp only [w02_SegShares.j0, if_true, law_cut.f, Option.bind_some]
  have H : Ev (fun k => w02_SegShares.f k s l size) true := by
    unfold w02_SegShares.f
    simp only [f_Lies, Option.bind_some]
    cases (decide (2001 ≤ size) && decide (size ≤ 1048576))
    · simp only [Bool.false_eq_true, if_false]
      exact hJ _
    · simp only [if_true]
      exact hJ true
  exact H.rounds
end Go.Proofs.Ythalgcpohnknbaa.Pure
