/- SegShared: segments of a pool; it is told of numbers and lists alone. -/
import Derived.Test.YthalgcpohnknbaaPSegSharedx
namespace Go.Proofs.Ythalgcpohnknbaa.Pure
open Go.RowKit Go.Proofs.Ythalgcpohnknbaa.PSegShared Go.Proofs.Ythalgcpohnknbaa.Hand Go.Proofs.YthalgcpohnknbaaW.PrintWords Go.Proofs.YthalgcpohnknbaaW.PrintLast Go.Proofs.YthalgcpohnknbaaW.PrintMore
set_option linter.unusedVariables false
set_option linter.unusedSimpArgs false
/-- Lists so short that a place's successor is no other number. -/
def Sh {α : Type} (l : List α) : Prop := l.length ≤ 4611686018427387904
theorem wsucc {i n : Nat} (h : i < n) (hn : n ≤ 4611686018427387904) : wrap64 ((i : Int) + 1) = ((i + 1 : Nat) : Int) := by unfold wrap64; omega
theorem rd_get {l : List Int} {i : Nat} (h : i < l.length) : rd l (i : Int) = l[i] := by simp [rd, h]
theorem drop_rd {l : List Int} {i : Nat} (h : i < l.length) : l.drop i = rd l (i : Int) :: l.drop (i + 1) := by rw [List.drop_eq_getElem_cons h, rd_get h]
theorem up {n : Nat} {P : Nat → Prop} (h0 : P n) (hs : ∀ i, i < n → P (i + 1) → P i) (i : Nat) (hi : i ≤ n) : P i := by
  have key : ∀ d, ∀ i, i + d = n → P i := by
    intro d
    induction d with
    | zero => intro i h; have : i = n := by omega
              subst this; exact h0
    | succ d ih => intro i h; exact hs i (by omega) (ih (i + 1) (by omega))
  exact key (n - i) i (by omega)
theorem f_Lies (a b c : Int) : r00_Lies.f a b c = some (decide (b ≤ a) && decide (a ≤ c)) := by unfold r00_Lies.f; split <;> simp [*]
theorem ev_Sum (l : List Int) (hl : Sh l) (hp : ∀ n ∈ l, 0 ≤ n) (ht : ttl l ≤ 1048576) : Ev (fun k => r00_Sum.f k l) ((ttl l : Nat) : Int) := by
  have H := up (n := l.length) (P := fun i => Ev (fun k => r00_Sum.l0 k l ((startOf l (i : Int) : Nat) : Int) (i : Int)) ((ttl l : Nat) : Int))
    (Ev.step (f := fun _ => some ((ttl l : Nat) : Int)) (fun k => by simp only [r00_Sum.l0]; rw [if_neg (by omega)]; rfl) (Ev.now _))
    (fun i hi ih => by
      refine Ev.step (f := fun k => r00_Sum.l0 k l ((startOf l ((i + 1 : Nat) : Int) : Nat) : Int) ((i + 1 : Nat) : Int)) (fun k => ?_) ih
      simp only [r00_Sum.l0]
      have hs := startOf_succ l (i : Int) (by omega) (by omega)
      have hle := startOf_le_ttl l (i + 1) (by omega)
      have hn := hp _ (rd_mem l (i : Int) (by omega) (by omega))
      rw [if_pos (by omega), if_pos (by omega), wsucc hi hl]
      rw [show ((i + 1 : Nat) : Int) = (i : Int) + 1 by omega] at hle ⊢
      rw [hs] at hle ⊢
      generalize startOf l (i : Int) = st at *
      generalize rd l (i : Int) = n at *
      have e := Aside0.mk (show wrap64 ((st : Int) + n) = ((st + n.toNat : Nat) : Int) by unfold wrap64; omega)
      rw [e.out]) 0 (Nat.zero_le _)
  exact H
theorem rd_upTo_nat (f : Int → Int) (n k : Nat) (h : k < n) : rd (upTo f (n : Int)) (k : Int) = f k := upTo_rd f n k h
theorem rd_app (a b : List Int) (j : Nat) : rd (a ++ b) (j : Int) = if j < a.length then rd a (j : Int) else rd b ((j - a.length : Nat) : Int) := by
  unfold rd
  simp only [Int.toNat_natCast, List.getD_eq_getElem?_getD]
  by_cases h : j < a.length
  · rw [if_pos h, List.getElem?_append_left h]
  · rw [if_neg h, List.getElem?_append_right (by omega)]
theorem f_Turn (n m : Int) (hm : m ≤ 4611686018427387904) : ∃ t, r00_Turn.f n m = some t ∧ 0 ≤ t ∧ (0 < m → t < m) := by
  unfold r00_Turn.f
  by_cases h1 : m < 1
  · exact ⟨0, by rw [if_pos h1], by omega, fun h => by omega⟩
  · rw [if_neg h1, if_neg (by omega)]
    have hlt := Int.tmod_lt_of_pos n (show 0 < m by omega)
    have hgt : -m < n.tmod m := by
      have := Int.lt_tmod_of_pos n (show 0 < m by omega)
      exact this
    by_cases h2 : n.tmod m < 0
    · rw [if_pos h2]
      exact ⟨_, rfl, by unfold wrap64; omega, fun _ => by unfold wrap64; omega⟩
    · rw [if_neg h2]
      exact ⟨_, rfl, by omega, fun _ => hlt⟩
theorem upTo_rd (a : List Int) (val : Int → Int) (h : ∀ i : Nat, i < a.length → val (i : Int) = rd a (i : Int)) : upTo val a.length = a := by
  apply List.ext_getElem
  · rw [upTo_length]; simp
  · intro i h1 h2
    rw [← rd_get h2, ← h i h2]
    simp [upTo]
theorem ttl_small (l : List Int) (c : Nat) (h : ∀ n ∈ l, n ≤ c) : ∀ m : Nat, m ≤ l.length → startOf l (m : Int) ≤ c * m
  | 0, _ => by rw [show ((0 : Nat) : Int) = 0 from rfl, startOf_zero]; omega
  | m + 1, hm => by
    have ih := ttl_small l c h m (by omega)
    have := h _ (rd_mem l (m : Int) (by omega) (by omega))
    rw [show ((m + 1 : Nat) : Int) = (m : Int) + 1 by omega, startOf_succ l (m : Int) (by omega) (by omega), Nat.mul_succ]
    omega
theorem startOf_step (lens : List Int) (i : Nat) (hi : i < lens.length) : startOf lens ((i + 1 : Nat) : Int) = startOf lens (i : Int) + (rd lens (i : Int)).toNat := by
  rw [show ((i + 1 : Nat) : Int) = (i : Int) + 1 by omega]; exact startOf_succ lens (i : Int) (by omega) (by omega)
/-- Of how many of the first n segments a place is an element. -/
def cov (s l : List Int) : Nat → Int → Int
  | 0, _ => 0
  | n + 1, k => cov s l n k + (if rd s (n : Int) ≤ k ∧ k < rd s (n : Int) + rd l (n : Int) then 1 else 0)
theorem cov_le (s l : List Int) : ∀ (n : Nat) (k : Int), 0 ≤ cov s l n k ∧ cov s l n k ≤ n
  | 0, _ => by simp [cov]
  | n + 1, k => by
    have := cov_le s l n k
    unfold cov
    split <;> omega
theorem cov_pos (s l : List Int) : ∀ (n : Nat) (k : Int), 0 < cov s l n k ↔ ∃ i : Nat, i < n ∧ rd s (i : Int) ≤ k ∧ k < rd s (i : Int) + rd l (i : Int)
  | 0, _ => by simp [cov]
  | n + 1, k => by
    have ih := cov_pos s l n k
    have hle := cov_le s l n k
    unfold cov
    constructor
    · intro h
      by_cases h1 : rd s (n : Int) ≤ k ∧ k < rd s (n : Int) + rd l (n : Int)
      · exact ⟨n, by omega, h1⟩
      · rw [if_neg h1] at h
        obtain ⟨i, h2, h3⟩ := ih.1 (by omega)
        exact ⟨i, by omega, h3⟩
    · rintro ⟨i, h2, h3⟩
      by_cases hi : i = n
      · subst hi
        rw [if_pos h3]
        omega
      · have := ih.2 ⟨i, by omega, h3⟩
        split <;> omega
def nowN (s l : List Int) (n : Nat) : Nat → Int
  | 0 => 0
  | k + 1 => nowN s l n k + chAt s l n (k : Int)
theorem nowN_now (s l : List Int) : ∀ k : Nat, nowTo s l k = nowN s l s.length k
  | 0 => rfl
  | k + 1 => by unfold nowTo nowN; rw [nowN_now s l k]
theorem chAt_zero (s l : List Int) (k : Int) : chAt s l 0 k = 0 := by unfold chAt cntN; simp
theorem chAt_succ (s l : List Int) (n : Nat) (hn : n < s.length) (k : Int) : chAt s l (n + 1) k = chAt s l n k + ((if rd s (n : Int) = k then 1 else 0) - (if rd s (n : Int) + rd l (n : Int) = k then 1 else 0)) := by
  unfold chAt
  rw [cntN_succ s n hn, cntN_succ (endsOf s l) n (by rw [endsOf_length]; omega), endsOf_rd s l n hn]
  omega
theorem nowN_succ (s l : List Int) (n : Nat) (hn : n < s.length) (h1 : 0 ≤ rd s (n : Int)) (h2 : 0 ≤ rd l (n : Int)) : ∀ k : Nat, nowN s l (n + 1) k = nowN s l n k + (if rd s (n : Int) < k ∧ (k : Int) ≤ rd s (n : Int) + rd l (n : Int) then 1 else 0)
  | 0 => by
    unfold nowN
    rw [if_neg (by omega)]
    rfl
  | k + 1 => by
    unfold nowN
    rw [nowN_succ s l n hn h1 h2 k, chAt_succ s l n hn]
    generalize rd s (n : Int) = a at *
    generalize rd l (n : Int) = b at *
    generalize nowN s l n k = x
    generalize chAt s l n (k : Int) = y
    by_cases c1 : a < k ∧ (k : Int) ≤ a + b <;> by_cases c2 : a = k <;> by_cases c3 : a + b = k <;> by_cases c4 : a < ((k + 1 : Nat) : Int) ∧ ((k + 1 : Nat) : Int) ≤ a + b <;> (first | rw [if_pos c1] | rw [if_neg c1]) <;> (first | rw [if_pos c2] | rw [if_neg c2]) <;> (first | rw [if_pos c3] | rw [if_neg c3]) <;> (first | rw [if_pos c4] | rw [if_neg c4]) <;> omega
theorem nowN_cov (s l : List Int) (h : ∀ i : Nat, i < s.length → 0 ≤ rd s (i : Int) ∧ 0 ≤ rd l (i : Int)) : ∀ n : Nat, n ≤ s.length → ∀ k : Nat, nowN s l n (k + 1) = cov s l n (k : Int)
  | 0, _, k => by
    have : ∀ k : Nat, nowN s l 0 k = 0 := fun k => by
      induction k with
      | zero => rfl
      | succ k ih => unfold nowN; rw [ih, chAt_zero]; rfl
    rw [this]
    rfl
  | n + 1, hn, k => by
    have h1 := h n (by omega)
    rw [nowN_succ s l n (by omega) h1.1 h1.2, nowN_cov s l h n (by omega) k]
    show _ = cov s l n (k : Int) + (if rd s (n : Int) ≤ (k : Int) ∧ (k : Int) < rd s (n : Int) + rd l (n : Int) then 1 else 0)
    by_cases c : rd s (n : Int) ≤ k ∧ (k : Int) < rd s (n : Int) + rd l (n : Int)
    · rw [if_pos c, if_pos (by omega)]
    · rw [if_neg c, if_neg (by omega)]
theorem now_cov (s l : List Int) (h : ∀ i : Nat, i < s.length → 0 ≤ rd s (i : Int) ∧ 0 ≤ rd l (i : Int)) (k : Nat) : nowTo s l (k + 1) = cov s l s.length (k : Int) := by
  rw [nowN_now, nowN_cov s l h _ (Nat.le_refl _)]
/-- Spans, each of at least one place, that do not touch, and increase. -/
def Canon (o : List (Int × Int)) : Prop := o.Pairwise (fun a b => a.1 + a.2 < b.1) ∧ ∀ p ∈ o, 1 ≤ p.2
def inSp (o : List (Int × Int)) (p : Int) : Prop := ∃ q ∈ o, q.1 ≤ p ∧ p < q.1 + q.2
theorem inSp_nil (p : Int) : ¬ inSp [] p := by rintro ⟨q, h, _⟩; simp at h
theorem inSp_cons (a : Int × Int) (o : List (Int × Int)) (p : Int) : inSp (a :: o) p ↔ (a.1 ≤ p ∧ p < a.1 + a.2) ∨ inSp o p := by
  unfold inSp
  constructor
  · rintro ⟨q, h, h2⟩
    rcases List.mem_cons.1 h with rfl | h
    · exact .inl h2
    · exact .inr ⟨q, h, h2⟩
  · rintro (h | ⟨q, h, h2⟩)
    · exact ⟨a, by simp, h⟩
    · exact ⟨q, by simp [h], h2⟩
theorem inSp_app (a b : List (Int × Int)) (p : Int) : inSp (a ++ b) p ↔ inSp a p ∨ inSp b p := by
  induction a with
  | nil => simp [inSp_nil]
  | cons x t ih => rw [List.cons_append, inSp_cons, inSp_cons, ih, or_assoc]
theorem inSp_one (a : Int × Int) (p : Int) : inSp [a] p ↔ (a.1 ≤ p ∧ p < a.1 + a.2) := by
  rw [inSp_cons]
  constructor
  · rintro (h | h)
    · exact h
    · exact absurd h (inSp_nil p)
  · exact .inl
theorem canon_tail {a : Int × Int} {o : List (Int × Int)} (h : Canon (a :: o)) : Canon o ∧ 1 ≤ a.2 ∧ ∀ p, inSp o p → a.1 + a.2 < p := by
  obtain ⟨h1, h2⟩ := h
  obtain ⟨h3, h4⟩ := List.pairwise_cons.1 h1
  refine ⟨⟨h4, fun p hp => h2 p (by simp [hp])⟩, h2 a (by simp), ?_⟩
  rintro p ⟨q, hq, h5, h6⟩
  have := h3 q hq
  omega
/-- A list with a last element. -/
theorem split_last (o : List (Int × Int)) (h : 0 < o.length) : ∃ t, o = t ++ [spanLast o] := by
  refine ⟨o.take (o.length - 1), ?_⟩
  have hd : o.drop (o.length - 1) = [spanLast o] := by
    unfold spanLast
    rw [List.drop_eq_getElem_cons (by omega), show o.length - 1 + 1 = o.length by omega, List.drop_length, List.getD_eq_getElem?_getD, List.getElem?_eq_getElem (by omega)]
    rfl
  rw [← hd, List.take_append_drop]
theorem Canon.snoc {t : List (Int × Int)} {x : Int × Int} : Canon (t ++ [x]) ↔ Canon t ∧ 1 ≤ x.2 ∧ ∀ q ∈ t, q.1 + q.2 < x.1 := by
  unfold Canon
  rw [List.pairwise_append]
  constructor
  · rintro ⟨⟨h1, _, h2⟩, h3⟩
    exact ⟨⟨h1, fun p hp => h3 p (by simp [hp])⟩, h3 x (by simp), fun q hq => h2 q hq x (by simp)⟩
  · rintro ⟨⟨h1, h2⟩, h3, h4⟩
    refine ⟨⟨h1, List.pairwise_singleton _ _, fun a ha b hb => ?_⟩, fun p hp => ?_⟩
    · rw [List.mem_singleton.1 hb]; exact h4 a ha
    · rcases List.mem_append.1 hp with hp | hp
      · exact h2 p hp
      · rw [List.mem_singleton.1 hp]; exact h3
theorem set_last (t : List (Int × Int)) (x y : Int × Int) : (t ++ [x]).set ((t ++ [x]).length - 1) y = t ++ [y] := by
  rw [List.length_append, List.length_singleton, Nat.add_sub_cancel, List.set_append_right _ _ (Nat.le_refl _), Nat.sub_self]
  rfl
/-- The spans that are merged so far: canonical, of just the places of the spans that were taken in. -/
theorem merge_canon (all : List (Int × Int)) (h0 : ∀ p ∈ all, 0 ≤ p.2) (hs : all.Pairwise (fun a b => a.1 ≤ b.1)) : ∀ k : Nat, k ≤ all.length →
    Canon (mergeTo all k).1 ∧ (∀ p, inSp (mergeTo all k).1 p ↔ inSp (all.take k) p) ∧ (∀ q ∈ (mergeTo all k).1, ∀ x ∈ all.drop k, q.1 ≤ x.1) ∧ (0 < (mergeTo all k).2.2 → (mergeTo all k).2 ∈ all.take k)
  | 0, _ => ⟨⟨List.Pairwise.nil, by simp [mergeTo]⟩, fun p => by simp [mergeTo], by simp [mergeTo], by simp [mergeTo]⟩
  | k + 1, hk => by
    obtain ⟨h1, h2, h3, h4⟩ := merge_canon all h0 hs k (by omega)
    have hd : all.drop k = all[k] :: all.drop (k + 1) := List.drop_eq_getElem_cons (by omega)
    have ht : all.take (k + 1) = all.take k ++ [all[k]] := List.take_succ_eq_append_getElem (by omega)
    have hg : all.getD k (0, 0) = all[k] := by rw [List.getD_eq_getElem?_getD, List.getElem?_eq_getElem (show k < all.length by omega)]; rfl
    have hx0 : 0 ≤ all[k].2 := h0 _ (List.getElem_mem _)
    have hsd : ∀ x ∈ all.drop (k + 1), all[k].1 ≤ x.1 := by
      have := hs.drop (i := k)
      rw [hd] at this
      exact (List.pairwise_cons.1 this).1
    have h3a : ∀ q ∈ (mergeTo all k).1, q.1 ≤ all[k].1 := fun q hq => h3 q hq _ (by rw [hd]; exact List.mem_cons_self)
    have h3b : ∀ q ∈ (mergeTo all k).1, ∀ x ∈ all.drop (k + 1), q.1 ≤ x.1 := fun q hq x hx => h3 q hq x (by rw [hd]; exact List.mem_cons_of_mem _ hx)
    rw [ht]
    unfold mergeTo
    rw [hg]
    generalize mergeTo all k = st at *
    generalize all[k] = x at *
    have hin : ∀ p, inSp (all.take k ++ [x]) p ↔ inSp st.1 p ∨ (x.1 ≤ p ∧ p < x.1 + x.2) := fun p => by rw [inSp_app, inSp_one, h2 p]
    unfold mergeStep
    split
    · rename_i hc
      refine ⟨h1, fun p => ?_, h3b, fun h => by simp [h4 h]⟩
      rw [hin]
      refine ⟨.inl, ?_⟩
      rintro (h | h)
      · exact h
      · simp only [Bool.or_eq_true, beq_iff_eq, Bool.and_eq_true] at hc
        rcases hc with hc | hc
        · omega
        · exact (h2 p).2 ⟨st.2, h4 (by omega), by omega, by omega⟩
    · rename_i hc
      have hx1 : 1 ≤ x.2 := by
        simp only [Bool.or_eq_true, beq_iff_eq, not_or] at hc
        omega
      split
      · rename_i hq
        simp only [Bool.or_eq_true, decide_eq_true_eq] at hq
        have hsep : ∀ q ∈ st.1, q.1 + q.2 < x.1 := by
          rcases hq with hq | hq
          · have : st.1 = [] := List.length_eq_zero_iff.1 hq
            rw [this]
            simp
          · by_cases he : st.1.length = 0
            · have : st.1 = [] := List.length_eq_zero_iff.1 he
              rw [this]
              simp
            · obtain ⟨t, ht2⟩ := split_last st.1 (by omega)
              generalize spanLast st.1 = z at *
              rw [ht2] at h1 ⊢
              obtain ⟨c1, c2, c3⟩ := Canon.snoc.1 h1
              intro q hq2
              rcases List.mem_append.1 hq2 with hq2 | hq2
              · have := c3 q hq2; omega
              · rw [List.mem_singleton.1 hq2]; exact hq
        refine ⟨Canon.snoc.2 ⟨h1, hx1, hsep⟩, fun p => ?_, ?_, fun _ => by simp⟩
        · rw [hin, inSp_app, inSp_one]
        · intro q hq2 y hy
          rcases List.mem_append.1 hq2 with hq2 | hq2
          · exact h3b q hq2 y hy
          · rw [List.mem_singleton.1 hq2]; exact hsd y hy
      · rename_i hq
        simp only [Bool.or_eq_true, decide_eq_true_eq, not_or] at hq
        obtain ⟨t, ht2⟩ := split_last st.1 (by omega)
        have hz1 := h3a _ (spanLast_mem (show 0 < st.1.length by omega))
        generalize spanLast st.1 = z at *
        rw [ht2, set_last]
        rw [ht2] at h1 h3b hin
        obtain ⟨c1, c2, c3⟩ := Canon.snoc.1 h1
        refine ⟨Canon.snoc.2 ⟨c1, by simp only; omega, c3⟩, fun p => ?_, ?_, fun _ => by simp⟩
        · rw [hin, inSp_app, inSp_app, inSp_one, inSp_one, or_assoc]
          refine or_congr Iff.rfl ?_
          simp only
          omega
        · intro q hq2 y hy
          rcases List.mem_append.1 hq2 with hq2 | hq2
          · exact h3b q (by simp [hq2]) y hy
          · rw [List.mem_singleton.1 hq2]
            have := hsd y hy
            simp only
            omega
theorem sorted_perm (s l : List Int) : (sortedSpans s l).Perm (spansTo s l s.length) := List.mergeSort_perm _ _
theorem sorted_pair (s l : List Int) : (sortedSpans s l).Pairwise (fun a b => a.1 ≤ b.1) := by
  refine (List.pairwise_mergeSort leE_trans leE_total _).imp ?_
  intro a b h
  unfold leE at h
  rw [ltE] at h
  simp only [Bool.not_eq_true', Bool.or_eq_false_iff, decide_eq_false_iff_not] at h
  omega
theorem inSp_perm {a b : List (Int × Int)} (h : a.Perm b) (p : Int) : inSp a p ↔ inSp b p := by
  unfold inSp
  constructor
  · rintro ⟨q, hq, h2⟩; exact ⟨q, h.mem_iff.1 hq, h2⟩
  · rintro ⟨q, hq, h2⟩; exact ⟨q, h.mem_iff.2 hq, h2⟩
theorem inSp_spans (s l : List Int) (n : Nat) (p : Int) : inSp (spansTo s l n) p ↔ 0 < cov s l n p := by
  rw [cov_pos]
  unfold inSp spansTo
  constructor
  · rintro ⟨q, hq, h2⟩
    obtain ⟨i, hi, rfl⟩ := List.mem_map.1 hq
    exact ⟨i, List.mem_range.1 hi, h2⟩
  · rintro ⟨i, hi, h2⟩
    exact ⟨_, List.mem_map.2 ⟨i, List.mem_range.2 hi, rfl⟩, h2⟩
theorem spans_pos (s l : List Int) (h : ∀ i : Nat, i < s.length → 0 ≤ rd s (i : Int) ∧ 0 ≤ rd l (i : Int)) : ∀ p ∈ sortedSpans s l, 0 ≤ p.2 := by
  intro p hp
  have := (sorted_perm s l).mem_iff.1 hp
  unfold spansTo at this
  obtain ⟨i, hi, rfl⟩ := List.mem_map.1 this
  exact (h i (List.mem_range.1 hi)).2
/-- What seg.Touched returns: the spans, in canonical form, of the places that are touched. -/
theorem touched_canon (s l : List Int) (h : ∀ i : Nat, i < s.length → 0 ≤ rd s (i : Int) ∧ 0 ≤ rd l (i : Int)) : Canon (touchedG s l) ∧ ∀ p, inSp (touchedG s l) p ↔ 0 < cov s l s.length p := by
  have hl := sortedSpans_length s l
  obtain ⟨h1, h2, _, _⟩ := merge_canon (sortedSpans s l) (spans_pos s l h) (sorted_pair s l) s.length (by omega)
  refine ⟨h1, fun p => ?_⟩
  unfold touchedG
  rw [h2 p, show List.take s.length (sortedSpans s l) = sortedSpans s l from List.take_of_length_le (by omega), inSp_perm (sorted_perm s l), inSp_spans]
theorem incr_uniq : ∀ {a b : List Int}, a.Pairwise (· < ·) → b.Pairwise (· < ·) → (∀ p, p ∈ a ↔ p ∈ b) → a = b
  | [], [], _, _, _ => rfl
  | [], (x :: t), _, _, h => absurd ((h x).2 (by simp)) (by simp)
  | (x :: t), [], _, _, h => absurd ((h x).1 (by simp)) (by simp)
  | (x :: t), (y :: u), ha, hb, h => by
    obtain ⟨a1, a2⟩ := List.pairwise_cons.1 ha
    obtain ⟨b1, b2⟩ := List.pairwise_cons.1 hb
    have e : x = y := by
      rcases List.mem_cons.1 ((h x).1 (by simp)) with h1 | h1
      · exact h1
      · rcases List.mem_cons.1 ((h y).2 (by simp)) with h2 | h2
        · exact h2.symm
        · have := a1 y h2; have := b1 x h1; omega
    subst e
    rw [incr_uniq a2 b2 fun p => ?_]
    constructor
    · intro hp
      have := a1 p hp
      rcases List.mem_cons.1 ((h p).1 (by simp [hp])) with h1 | h1
      · omega
      · exact h1
    · intro hp
      have := b1 p hp
      rcases List.mem_cons.1 ((h p).2 (by simp [hp])) with h1 | h1
      · omega
      · exact h1
/-- The numbers below k of which something is true, increasing. -/
def filtTo (f : Int → Bool) : Nat → List Int
  | 0 => []
  | k + 1 => filtTo f k ++ (if f (k : Int) then [(k : Int)] else [])
theorem filtTo_mem (f : Int → Bool) : ∀ (k : Nat) (x : Int), x ∈ filtTo f k ↔ 0 ≤ x ∧ x < k ∧ f x = true
  | 0, x => by simp [filtTo]; omega
  | k + 1, x => by
    unfold filtTo
    rw [List.mem_append, filtTo_mem f k x]
    cases hf : f (k : Int)
    · simp only [Bool.false_eq_true, if_false, List.not_mem_nil, or_false]
      constructor
      · rintro ⟨h1, h2, h3⟩; exact ⟨h1, by omega, h3⟩
      · rintro ⟨h1, h2, h3⟩
        refine ⟨h1, ?_, h3⟩
        by_cases e : x = (k : Int)
        · rw [e, hf] at h3; cases h3
        · omega
    · simp only [if_true, List.mem_singleton]
      constructor
      · rintro (⟨h1, h2, h3⟩ | rfl)
        · exact ⟨h1, by omega, h3⟩
        · exact ⟨by omega, by omega, hf⟩
      · rintro ⟨h1, h2, h3⟩
        by_cases e : x = (k : Int)
        · exact .inr e
        · exact .inl ⟨h1, by omega, h3⟩
theorem filtTo_incr (f : Int → Bool) : ∀ k : Nat, (filtTo f k).Pairwise (· < ·)
  | 0 => List.Pairwise.nil
  | k + 1 => by
    unfold filtTo
    rw [List.pairwise_append]
    refine ⟨filtTo_incr f k, by split <;> simp, fun a ha b hb => ?_⟩
    have h1 := ((filtTo_mem f k a).1 ha).2.1
    split at hb
    · rw [List.mem_singleton.1 hb]; exact h1
    · simp at hb
theorem filtTo_pre (f : Int → Bool) (k : Nat) : ∀ d : Nat, ∃ r, filtTo f (k + d) = filtTo f k ++ r
  | 0 => ⟨[], by simp⟩
  | d + 1 => by
    obtain ⟨r, hr⟩ := filtTo_pre f k d
    exact ⟨r ++ (if f ((k + d : Nat) : Int) then [((k + d : Nat) : Int)] else []), by rw [← Nat.add_assoc, ← List.append_assoc, ← hr]; rfl⟩
theorem filtTo_le (f : Int → Bool) (a b : Nat) (h : a ≤ b) : (filtTo f a).length ≤ (filtTo f b).length := by
  obtain ⟨r, hr⟩ := filtTo_pre f a (b - a)
  rw [show a + (b - a) = b by omega] at hr
  rw [hr, List.length_append]
  omega
theorem filtTo_length_le (f : Int → Bool) : ∀ k : Nat, (filtTo f k).length ≤ k
  | 0 => by simp [filtTo]
  | k + 1 => by
    have := filtTo_length_le f k
    unfold filtTo
    rw [List.length_append]
    split <;> simp <;> omega
theorem filtTo_rd (f : Int → Bool) (x n : Nat) (hx : x < n) (hf : f (x : Int) = true) : rd (filtTo f n) (((filtTo f x).length : Nat) : Int) = (x : Int) ∧ (filtTo f x).length < (filtTo f n).length := by
  obtain ⟨r, hr⟩ := filtTo_pre f (x + 1) (n - (x + 1))
  rw [show x + 1 + (n - (x + 1)) = n by omega] at hr
  have e : filtTo f (x + 1) = filtTo f x ++ [(x : Int)] := by show _ ++ _ = _; rw [if_pos hf]
  rw [hr, e, List.append_assoc, rd_app, if_neg (by omega), Nat.sub_self]
  refine ⟨rfl, ?_⟩
  rw [List.length_append, List.length_append, List.length_singleton]
  omega
theorem filtTo_run (f : Int → Bool) (x : Nat) : ∀ d : Nat, (∀ j : Nat, x ≤ j → j < x + d → f (j : Int) = true) → (filtTo f (x + d)).length = (filtTo f x).length + d
  | 0, _ => rfl
  | d + 1, h => by
    rw [← Nat.add_assoc]
    show (filtTo f (x + d) ++ (if f ((x + d : Nat) : Int) then [((x + d : Nat) : Int)] else [])).length = _
    rw [if_pos (h (x + d) (by omega) (by omega)), List.length_append, filtTo_run f x d fun j h1 h2 => h j h1 (by omega)]
    rfl
def spotsL (o : List (Int × Int)) : List Int := o.flatMap fun q => upTo (fun j => q.1 + j) q.2
theorem spotsTo_eq (sp : List (Int × Int)) : ∀ k : Nat, k ≤ sp.length → spotsTo sp k = spotsL (sp.take k)
  | 0, _ => rfl
  | k + 1, h => by
    rw [spotsTo_succ, spotsTo_eq sp k (by omega), List.take_succ_eq_append_getElem (by omega)]
    unfold spotsL
    rw [List.flatMap_append, List.flatMap_singleton, List.getD_eq_getElem?_getD, List.getElem?_eq_getElem (show k < sp.length by omega)]
    rfl
theorem run_mem (a n x : Int) : x ∈ upTo (fun j => a + j) n ↔ a ≤ x ∧ x < a + n := by
  unfold upTo
  rw [List.mem_map]
  constructor
  · rintro ⟨i, hi, rfl⟩
    have := List.mem_range.1 hi
    simp only
    omega
  · rintro ⟨h1, h2⟩
    exact ⟨(x - a).toNat, List.mem_range.2 (by omega), by simp only; omega⟩
theorem run_incr (a n : Int) : (upTo (fun j => a + j) n).Pairwise (· < ·) := by
  unfold upTo
  rw [List.pairwise_map]
  refine List.pairwise_lt_range.imp ?_
  intro i j h
  simp only
  omega
theorem spots_mem (o : List (Int × Int)) (x : Int) : x ∈ spotsL o ↔ inSp o x := by
  unfold spotsL inSp
  rw [List.mem_flatMap]
  constructor
  · rintro ⟨q, hq, h⟩; exact ⟨q, hq, (run_mem _ _ _).1 h⟩
  · rintro ⟨q, hq, h⟩; exact ⟨q, hq, (run_mem _ _ _).2 h⟩
theorem spots_incr : ∀ o : List (Int × Int), Canon o → (spotsL o).Pairwise (· < ·)
  | [], _ => List.Pairwise.nil
  | q :: o, h => by
    obtain ⟨h1, h2, h3⟩ := canon_tail h
    show (_ ++ spotsL o).Pairwise _
    rw [List.pairwise_append]
    refine ⟨run_incr _ _, spots_incr o h1, fun a ha b hb => ?_⟩
    have := (run_mem _ _ _).1 ha
    have := h3 b ((spots_mem o b).1 hb)
    omega
/-- Is a place touched? -/
def touB (s l : List Int) (k : Int) : Bool := decide (0 < cov s l s.length k)
theorem tou_in (s l : List Int) (size : Int) (hE : sharedE s l size = 0) (k : Int) (h : touB s l k = true) : 0 ≤ k ∧ k < size := by
  obtain ⟨_, e2, e3, e4, e5, e6⟩ := sharedE_ok hE
  unfold touB at h
  obtain ⟨i, h1, h2, h3⟩ := (cov_pos s l s.length k).1 (of_decide_eq_true h)
  have := e6 i h1
  omega
theorem shared_pos (s l : List Int) (size : Int) (hE : sharedE s l size = 0) : ∀ i : Nat, i < s.length → 0 ≤ rd s (i : Int) ∧ 0 ≤ rd l (i : Int) := by
  obtain ⟨_, e2, e3, e4, e5, e6⟩ := sharedE_ok hE
  intro i hi
  have := e6 i hi
  omega
theorem spots_touched (s l : List Int) (size : Nat) (hE : sharedE s l (size : Int) = 0) : spotsTo (touchedG s l) (touchedG s l).length = filtTo (touB s l) size := by
  obtain ⟨h1, h2⟩ := touched_canon s l (shared_pos s l _ hE)
  rw [spotsTo_eq _ _ (Nat.le_refl _), List.take_length]
  refine incr_uniq (spots_incr _ h1) (filtTo_incr _ _) fun p => ?_
  rw [spots_mem, h2, filtTo_mem]
  constructor
  · intro h
    have h3 : touB s l p = true := decide_eq_true h
    have := tou_in s l _ hE p h3
    exact ⟨by omega, by omega, h3⟩
  · rintro ⟨_, _, h⟩
    exact of_decide_eq_true h
def preS (m : List Int) : Nat → Int
  | 0 => 0
  | k + 1 => preS m k + rd m (k : Int)
theorem rd_setn (l : List Int) (i j : Nat) (v : Int) (h : i < l.length) : rd (l.set i v) (j : Int) = if j = i then v else rd l (j : Int) := by
  unfold rd
  rw [Int.toNat_natCast, List.getD_eq_getElem?_getD, List.getElem?_set]
  by_cases e : i = j
  · subst e
    rw [if_pos rfl, if_pos h, if_pos rfl]
    rfl
  · rw [if_neg e, if_neg (fun h => e h.symm), List.getD_eq_getElem?_getD]
theorem sums_rd (m : List Int) : ∀ k : Nat, k < m.length → (sumsTo m k).length = m.length ∧ ∀ x : Nat, rd (sumsTo m k) (x : Int) = if x ≤ k then preS m (x + 1) else rd m (x : Int)
  | 0, _ => ⟨rfl, fun x => by
      by_cases h : x ≤ 0
      · have : x = 0 := by omega
        subst this
        rw [if_pos h]
        unfold preS preS
        rw [Int.zero_add]
        rfl
      · rw [if_neg h]; rfl⟩
  | k + 1, hk => by
    obtain ⟨h1, h2⟩ := sums_rd m k (by omega)
    unfold sumsTo
    refine ⟨by rw [List.length_set, h1], fun x => ?_⟩
    rw [rd_setn (sumsTo m k) (k + 1) x _ (by omega), h2 (k + 1), h2 k, if_neg (show ¬ k + 1 ≤ k by omega), if_pos (show k ≤ k from Nat.le_refl _)]
    by_cases e : x = k + 1
    · subst e
      rw [if_pos rfl, if_pos (Nat.le_refl _)]
      show _ = preS m (k + 1) + rd m ((k + 1 : Nat) : Int)
      omega
    · rw [if_neg e, h2 x]
      by_cases c : x ≤ k
      · rw [if_pos c, if_pos (by omega)]
      · rw [if_neg c, if_neg (by omega)]
theorem marks_rd (n : Nat) (p : List Int) (x : Nat) (h : x < n) : rd (marks (n : Int) p) (x : Int) = if p.any (fun q => q + 1 == (x : Int)) then 1 else 0 := by
  unfold marks
  exact rd_upTo_nat _ n x h
theorem pre_marks (f : Int → Bool) (n : Nat) : ∀ x : Nat, x ≤ n → preS (marks ((n + 1 : Nat) : Int) (filtTo f n)) (x + 1) = (((filtTo f x).length : Nat) : Int)
  | 0, _ => by
    unfold preS preS
    rw [marks_rd _ _ 0 (by omega)]
    have : (filtTo f n).any (fun q => q + 1 == ((0 : Nat) : Int)) = false := by
      rw [List.any_eq_false]
      intro q hq
      have := (filtTo_mem f n q).1 hq
      simp
      omega
    rw [this]
    rfl
  | x + 1, h => by
    unfold preS
    rw [pre_marks f n x (by omega), marks_rd _ _ (x + 1) (by omega)]
    have : (filtTo f n).any (fun q => q + 1 == ((x + 1 : Nat) : Int)) = f (x : Int) := by
      rw [Bool.eq_iff_iff, List.any_eq_true]
      constructor
      · rintro ⟨q, hq, h2⟩
        have e : q = (x : Int) := by have := beq_iff_eq.1 h2; omega
        subst e
        exact ((filtTo_mem f n _).1 hq).2.2
      · intro h2
        exact ⟨(x : Int), (filtTo_mem f n _).2 ⟨by omega, by omega, h2⟩, beq_iff_eq.2 (by omega)⟩
    rw [this]
    show _ = (((_ ++ _ : List Int).length : Nat) : Int)
    rw [List.length_append]
    cases f (x : Int) <;> simp
theorem ahead_rd (s l : List Int) (size : Nat) (hE : sharedE s l (size : Int) = 0) (x : Nat) (hx : x ≤ size) : rd (aheadG s l size) (x : Int) = (((filtTo (touB s l) x).length : Nat) : Int) := by
  unfold aheadG
  rw [spots_touched s l size hE, show (size : Int) + 1 = ((size + 1 : Nat) : Int) by omega]
  have hl : (marks ((size + 1 : Nat) : Int) (filtTo (touB s l) size)).length = size + 1 := by unfold marks; rw [upTo_length]; omega
  rw [(sums_rd _ size (by omega)).2 x, if_pos hx, pre_marks _ _ x hx]
def beginL (s l : List Int) : List Int := upTo (fun i => (((filtTo (touB s l) (rd s i).toNat).length : Nat) : Int)) (s.length : Int)
theorem beginL_length (s l : List Int) : (beginL s l).length = s.length := by unfold beginL; rw [upTo_length]; omega
theorem beginL_rd (s l : List Int) (i : Nat) (h : i < s.length) : rd (beginL s l) (i : Int) = (((filtTo (touB s l) (rd s (i : Int)).toNat).length : Nat) : Int) := by unfold beginL; exact rd_upTo_nat _ _ i h
theorem compact_g (s l : List Int) (size : Nat) (hE : sharedE s l (size : Int) = 0) : seg_Compact.g s l (size : Int) = (beginL s l, filtTo (touB s l) size, 0) := by
  unfold seg_Compact.g
  rw [if_pos hE, Int.toNat_natCast, spots_touched s l size hE]
  have : upTo (fun i => rd (aheadG s l size) (rd s i)) (s.length : Int) = beginL s l := by
    unfold beginL
    refine upTo_ext _ _ _ fun i hi => ?_
    obtain ⟨_, e2, e3, e4, e5, e6⟩ := sharedE_ok hE
    have := e6 i hi
    obtain ⟨q, hq⟩ : ∃ q : Nat, rd s (i : Int) = q := ⟨(rd s (i : Int)).toNat, by omega⟩
    rw [hq, ahead_rd s l size hE q (by omega), Int.toNat_natCast]
  rw [this]
theorem depth_g (s l : List Int) (size : Nat) (hE : sharedE s l (size : Int) = 0) : seg_Depth.g s l (size : Int) = (mostTo s l size, 0) := by
  unfold seg_Depth.g
  rw [if_pos hE, Int.toNat_natCast]
theorem most_succ (s l : List Int) (h : ∀ i : Nat, i < s.length → 0 ≤ rd s (i : Int) ∧ 0 ≤ rd l (i : Int)) (k : Nat) : mostTo s l (k + 1) = max (mostTo s l k) (cov s l s.length (k : Int)) := by
  show max (mostTo s l k) (nowTo s l (k + 1)) = _
  rw [now_cov s l h]
theorem shared_of (s l : List Int) (size : Int) (h1 : s.length ≤ 1048576) (h2 : l.length = s.length) (h3 : 0 ≤ size) (h4 : size ≤ 1048576) (h5 : ttl l ≤ 1048576) (h6 : ∀ i : Nat, i < s.length → 0 ≤ rd s (i : Int) ∧ 0 ≤ rd l (i : Int) ∧ rd s (i : Int) + rd l (i : Int) ≤ size) : sharedE s l size = 0 := by
  have ho : outB size l = false := by
    unfold outB
    rw [List.any_eq_false]
    intro x hx
    obtain ⟨i, hi, rfl⟩ := List.mem_iff_getElem.1 hx
    have := h6 i (by omega)
    rw [rd_get hi] at this
    simp
    omega
  have hb : (List.range s.length).any (badAt s l size) = false := by
    rw [List.any_eq_false]
    intro i hi
    have := h6 i (List.mem_range.1 hi)
    unfold badAt
    simp
    omega
  unfold sharedE
  rw [ho, hb, if_neg (by simp; omega), if_neg (by omega), if_neg (by simp; omega), if_neg (by simp), if_neg (by omega)]
theorem places_mem (s l : List Int) (x : Int) : ∀ m : Nat, x ∈ placesTo s l m ↔ 0 < cov s l m x
  | 0 => by simp [placesTo, cov]
  | m + 1 => by
    have hle := cov_le s l m x
    rw [placesTo_succ, List.mem_append, places_mem s l x m, run_mem]
    show _ ↔ 0 < cov s l m x + (if rd s (m : Int) ≤ x ∧ x < rd s (m : Int) + rd l (m : Int) then 1 else 0)
    by_cases c : rd s (m : Int) ≤ x ∧ x < rd s (m : Int) + rd l (m : Int)
    · rw [if_pos c]
      constructor
      · intro _; omega
      · intro _; exact .inr c
    · rw [if_neg c, Int.add_zero]
      constructor
      · rintro (h | h)
        · exact h
        · exact absurd h c
      · exact .inl
/-- An element's place, by its number among all elements. -/
theorem places_at (l : List Int) : ∀ (m : Nat), m ≤ l.length → ∀ k : Nat, k < startOf l (m : Int) → ∃ i j : Nat, i < m ∧ (j : Int) < rd l (i : Int) ∧ ∀ s, rd (placesTo s l m) (k : Int) = rd s (i : Int) + (j : Int)
  | 0, _, k, hk => by rw [show ((0 : Nat) : Int) = 0 from rfl, startOf_zero] at hk; omega
  | m + 1, h, k, hk => by
    have hs := startOf_step l m (by omega)
    by_cases c : k < startOf l (m : Int)
    · obtain ⟨i, j, h1, h2, h3⟩ := places_at l m (by omega) k c
      refine ⟨i, j, by omega, h2, fun s => ?_⟩
      rw [placesTo_succ, rd_app, if_pos (by rw [placesTo_length s l m (by omega)]; exact c)]
      exact h3 s
    · refine ⟨m, k - startOf l (m : Int), by omega, by omega, fun s => ?_⟩
      rw [placesTo_succ, rd_app, if_neg (by rw [placesTo_length s l m (by omega)]; exact c), placesTo_length s l m (by omega)]
      have hn : rd l (m : Int) = (((rd l (m : Int)).toNat : Nat) : Int) := by omega
      rw [hn]
      exact rd_upTo_nat _ _ _ (by omega)
theorem cnt_run (a : Int) (x : Int) : ∀ n : Nat, (((upTo (fun j => a + j) (n : Int)).filter (fun y => y == x)).length : Int) = if a ≤ x ∧ x < a + n then 1 else 0
  | 0 => by
    rw [if_neg (by omega)]
    rfl
  | n + 1 => by
    rw [show ((n + 1 : Nat) : Int) = (n : Int) + 1 by omega, upTo_succ _ _ (by omega), List.filter_append, List.length_append]
    have ih := cnt_run a x n
    by_cases c : a + (n : Int) = x
    · have e : ([a + (n : Int)].filter (fun y => y == x)).length = 1 := by rw [c]; simp
      rw [e, if_pos (by omega)]
      rw [if_neg (by omega)] at ih
      omega
    · have e : ([a + (n : Int)].filter (fun y => y == x)).length = 0 := by simp [c]
      rw [e]
      by_cases c2 : a ≤ x ∧ x < a + n
      · rw [if_pos c2] at ih; rw [if_pos (by omega)]; omega
      · rw [if_neg c2] at ih; rw [if_neg (by omega)]; omega
theorem cnt_places (s l : List Int) (x : Int) (hp : ∀ n ∈ l, 0 ≤ n) : ∀ m : Nat, m ≤ l.length → (((placesTo s l m).filter (fun y => y == x)).length : Int) = cov s l m x
  | 0, _ => rfl
  | m + 1, h => by
    have h1 := hp _ (rd_mem l (m : Int) (by omega) (by omega))
    have hn : rd l (m : Int) = (((rd l (m : Int)).toNat : Nat) : Int) := by omega
    have h2 := cnt_run (rd s (m : Int)) x (rd l (m : Int)).toNat
    rw [← hn] at h2
    rw [placesTo_succ, List.filter_append, List.length_append, Int.natCast_add, cnt_places s l x hp m (by omega), h2]
    rfl
/-- The most that a place comes among the first elements. -/
def mostA (s l : List Int) (all : List Int) : Nat → Int
  | 0 => 0
  | k + 1 => max (mostA s l all k) (cov s l s.length (rd all (k : Int)))
theorem mostA_ge (s l all : List Int) : ∀ k : Nat, 0 ≤ mostA s l all k ∧ ∀ t : Nat, t < k → cov s l s.length (rd all (t : Int)) ≤ mostA s l all k
  | 0 => ⟨Int.le_refl _, fun t h => by omega⟩
  | k + 1 => by
    obtain ⟨h1, h2⟩ := mostA_ge s l all k
    unfold mostA
    refine ⟨by omega, fun t h => ?_⟩
    by_cases c : t = k
    · subst c; omega
    · have := h2 t (by omega); omega
theorem mostTo_ge (s l : List Int) (h : ∀ i : Nat, i < s.length → 0 ≤ rd s (i : Int) ∧ 0 ≤ rd l (i : Int)) : ∀ k : Nat, 0 ≤ mostTo s l k ∧ ∀ t : Nat, t < k → cov s l s.length (t : Int) ≤ mostTo s l k
  | 0 => ⟨Int.le_refl _, fun t h => by omega⟩
  | k + 1 => by
    obtain ⟨h1, h2⟩ := mostTo_ge s l h k
    rw [most_succ s l h]
    refine ⟨by omega, fun t h => ?_⟩
    by_cases c : t = k
    · subst c; omega
    · have := h2 t (by omega); omega
theorem mostA_to (s l : List Int) (size : Nat) (hE : sharedE s l (size : Int) = 0) : mostA s l (placesTo s l s.length) (placesTo s l s.length).length = mostTo s l size := by
  have hp := shared_pos s l _ hE
  obtain ⟨a1, a2⟩ := mostA_ge s l (placesTo s l s.length) (placesTo s l s.length).length
  obtain ⟨b1, b2⟩ := mostTo_ge s l hp size
  have hle : ∀ k : Nat, k ≤ (placesTo s l s.length).length → mostA s l (placesTo s l s.length) k ≤ mostTo s l size := fun k => by
    induction k with
    | zero => intro _; exact b1
    | succ k ih =>
      intro hk
      unfold mostA
      have h1 := ih (by omega)
      have h2 := (places_mem s l _ s.length).1 (rd_mem (placesTo s l s.length) (k : Int) (by omega) (by omega))
      have h3 := tou_in s l _ hE _ (decide_eq_true h2)
      have h4 := b2 (rd (placesTo s l s.length) (k : Int)).toNat (by omega)
      rw [show (((rd (placesTo s l s.length) (k : Int)).toNat : Nat) : Int) = rd (placesTo s l s.length) (k : Int) by omega] at h4
      omega
  have hge : ∀ k : Nat, mostTo s l k ≤ mostA s l (placesTo s l s.length) (placesTo s l s.length).length := fun k => by
    induction k with
    | zero => exact a1
    | succ k ih =>
      rw [most_succ s l hp]
      by_cases c : 0 < cov s l s.length (k : Int)
      · obtain ⟨t, ht, e⟩ := List.mem_iff_getElem.1 ((places_mem s l _ s.length).2 c)
        have := a2 t ht
        rw [rd_get ht, e] at this
        omega
      · omega
  have := hle _ (Nat.le_refl _)
  have := hge size
  omega
/-- The places of the elements in the compact pool. -/
theorem small_shared (s l : List Int) (size : Nat) (hE : sharedE s l (size : Int) = 0) : sharedE (beginL s l) l (((filtTo (touB s l) size).length : Nat) : Int) = 0 := by
  obtain ⟨e1, e2, e3, e4, e5, e6⟩ := sharedE_ok hE
  have hb := beginL_length s l
  have hfl := filtTo_length_le (touB s l) size
  refine shared_of _ _ _ (by omega) (by omega) (by omega) (by omega) e5 fun i hi => ?_
  rw [hb] at hi
  have h6 := e6 i hi
  rw [beginL_rd s l i hi]
  obtain ⟨a, ha⟩ : ∃ a : Nat, rd s (i : Int) = a := ⟨(rd s (i : Int)).toNat, by omega⟩
  obtain ⟨d, hd⟩ : ∃ d : Nat, rd l (i : Int) = d := ⟨(rd l (i : Int)).toNat, by omega⟩
  have hr := filtTo_run (touB s l) a d (fun j h1 h2 => decide_eq_true ((cov_pos s l s.length _).2 ⟨i, hi, by omega, by omega⟩))
  have hle := filtTo_le (touB s l) (a + d) size (by omega)
  rw [ha, hd, Int.toNat_natCast]
  omega
theorem small_rd (s l : List Int) (size : Nat) (hE : sharedE s l (size : Int) = 0) (k : Nat) (hk : k < ttl l) : ∃ x : Nat, rd (placesTo s l s.length) (k : Int) = x ∧ x < size ∧ touB s l (x : Int) = true ∧ rd (placesTo (beginL s l) l s.length) (k : Int) = (((filtTo (touB s l) x).length : Nat) : Int) := by
  obtain ⟨e1, e2, e3, e4, e5, e6⟩ := sharedE_ok hE
  have ht : startOf l (s.length : Int) = ttl l := by rw [← e2]; rfl
  obtain ⟨i, j, h1, h2, h3⟩ := places_at l s.length (by omega) k (by omega)
  have h6 := e6 i h1
  obtain ⟨a, ha⟩ : ∃ a : Nat, rd s (i : Int) = a := ⟨(rd s (i : Int)).toNat, by omega⟩
  have hc : ∀ q : Nat, a ≤ q → q ≤ a + j → touB s l (q : Int) = true := fun q q1 q2 => decide_eq_true ((cov_pos s l s.length _).2 ⟨i, h1, by omega, by omega⟩)
  have hr := filtTo_run (touB s l) a j (fun q q1 q2 => hc q q1 (by omega))
  refine ⟨a + j, ?_, by omega, hc (a + j) (by omega) (by omega), ?_⟩
  · rw [h3 s, ha]; omega
  · rw [h3 (beginL s l), beginL_rd s l i h1, ha, Int.toNat_natCast, hr]; omega
theorem spots_pre (sp : List (Int × Int)) (k : Nat) : ∀ d : Nat, ∃ r, spotsTo sp (k + d) = spotsTo sp k ++ r
  | 0 => ⟨[], by simp⟩
  | d + 1 => by
    obtain ⟨r, hr⟩ := spots_pre sp k d
    exact ⟨r ++ _, by rw [← Nat.add_assoc, spotsTo_succ, hr, List.append_assoc]⟩
theorem spots_rd (sp : List (Int × Int)) (i j : Nat) (hi : i < sp.length) (hj : (j : Int) < (sp.getD i (0, 0)).2) : rd (spotsTo sp sp.length) (((spotsTo sp i).length + j : Nat) : Int) = (sp.getD i (0, 0)).1 + (j : Int) ∧ (spotsTo sp i).length + j < (spotsTo sp sp.length).length := by
  obtain ⟨r, hr⟩ := spots_pre sp (i + 1) (sp.length - (i + 1))
  rw [show i + 1 + (sp.length - (i + 1)) = sp.length by omega, spotsTo_succ, List.append_assoc] at hr
  have hl : (upTo (fun j => (sp.getD i (0, 0)).1 + j) (sp.getD i (0, 0)).2).length = (sp.getD i (0, 0)).2.toNat := upTo_length _ _
  rw [hr, rd_app, if_neg (by omega), show (spotsTo sp i).length + j - (spotsTo sp i).length = j by omega, rd_app, if_pos (by omega)]
  refine ⟨?_, by rw [List.length_append, List.length_append]; omega⟩
  have hn : (sp.getD i (0, 0)).2 = (((sp.getD i (0, 0)).2.toNat : Nat) : Int) := by omega
  rw [hn]
  exact rd_upTo_nat _ _ _ (by omega)
theorem spots_len (sp : List (Int × Int)) (i : Nat) : (spotsTo sp (i + 1)).length = (spotsTo sp i).length + (sp.getD i (0, 0)).2.toNat := by
  rw [spotsTo_succ, List.length_append, upTo_length]
theorem spots_le (sp : List (Int × Int)) (i : Nat) (hi : i ≤ sp.length) : (spotsTo sp i).length ≤ (spotsTo sp sp.length).length := by
  obtain ⟨r, hr⟩ := spots_pre sp i (sp.length - i)
  rw [show i + (sp.length - i) = sp.length by omega] at hr
  rw [hr, List.length_append]
  omega
/-- A word put into an increasing list. -/
def insG : List Int → Int → List Int
  | [], x => [x]
  | a :: t, x => if x ≤ a then (if x < a then x :: a :: t else a :: t) else a :: insG t x
theorem insG_mem (x y : Int) : ∀ l, y ∈ insG l x ↔ y = x ∨ y ∈ l
  | [] => by simp [insG]
  | a :: t => by
    have ih := insG_mem x y t
    unfold insG
    by_cases c : x ≤ a
    · rw [if_pos c]
      by_cases c2 : x < a
      · rw [if_pos c2]; simp
      · rw [if_neg c2]
        have : x = a := by omega
        subst this
        simp
    · rw [if_neg c]
      simp only [List.mem_cons, ih]
      constructor
      · rintro (h | h | h) <;> simp [h]
      · rintro (h | h | h) <;> simp [h]
theorem insG_length (x : Int) : ∀ l, (insG l x).length ≤ l.length + 1
  | [] => by simp [insG]
  | a :: t => by
    have ih := insG_length x t
    unfold insG
    split
    · split <;> simp
    · simp; omega
theorem insG_sorted (x : Int) : ∀ l : List Int, l.Pairwise (fun a b => a < b) → (insG l x).Pairwise (fun a b => a < b)
  | [], _ => by simp [insG]
  | a :: t, h => by
    have h1 := List.pairwise_cons.1 h
    unfold insG
    by_cases c : x ≤ a
    · rw [if_pos c]
      by_cases c2 : x < a
      · rw [if_pos c2, List.pairwise_cons]
        refine ⟨fun y hy => ?_, h⟩
        rcases List.mem_cons.1 hy with e | e
        · omega
        · have := h1.1 y e; omega
      · rw [if_neg c2]; exact h
    · rw [if_neg c, List.pairwise_cons]
      refine ⟨fun y hy => ?_, insG_sorted x t h1.2⟩
      rcases (insG_mem x y t).1 hy with e | e
      · omega
      · exact h1.1 y e
theorem ev_Put1 (l : List Int) (x : Int) (hl : l.length ≤ 1048576) : ∀ i out, i ≤ l.length → out.length ≤ i + 1 → Ev (fun k => r00_Put.l0 k l x out true (i : Int)) (out ++ l.drop i) := by
  intro i out hi ho
  have H := up (n := l.length) (P := fun i => ∀ out : List Int, out.length ≤ i + 1 → Ev (fun k => r00_Put.l0 k l x out true (i : Int)) (out ++ l.drop i))
    (by
      intro out ho
      refine Ev.step (f := fun _ => some _) (fun k => ?_) (Ev.now _)
      simp only [r00_Put.l0]
      rw [if_neg (by omega), List.drop_length, List.append_nil]
      rfl)
    (fun i hi ih out ho => by
      have h1 := ih (out ++ [rd l (i : Int)]) (by simp; omega)
      rw [List.append_assoc, List.singleton_append, ← drop_rd hi] at h1
      refine Ev.step (f := fun k => r00_Put.j1 k l x out true (i : Int) false) (fun k => ?_) (Ev.step (fun k => ?_) h1)
      · simp only [r00_Put.l0]
        rw [if_pos (by omega)]
        rfl
      · simp only [r00_Put.j1]
        rw [if_neg (by simp), if_pos (by omega), if_pos (by omega), if_pos (by omega), wsucc hi (by omega)]) i hi
  exact H out ho
theorem ev_Put (l : List Int) (x : Int) (hl : l.length ≤ 1048576) : Ev (fun k => r00_Put.f k l x) (insG l x) := by
  have H := up (n := l.length) (P := fun i => ∀ out : List Int, out.length ≤ i → Ev (fun k => r00_Put.l0 k l x out false (i : Int)) (out ++ insG (l.drop i) x))
    (by
      intro out ho
      refine Ev.step (f := fun _ => some _) (fun k => ?_) (Ev.now _)
      simp only [r00_Put.l0]
      rw [if_neg (by omega), List.drop_length, if_neg (by simp), if_pos (by omega)]
      rfl)
    (fun i hi ih out ho => by
      rw [drop_rd hi, insG]
      by_cases c : x ≤ rd l (i : Int)
      · rw [if_pos c]
        by_cases c2 : x < rd l (i : Int)
        · rw [if_pos c2]
          have h1 := ev_Put1 l x hl (i + 1) (out ++ [x] ++ [rd l (i : Int)]) (by omega) (by simp; omega)
          have e : out ++ [x] ++ [rd l (i : Int)] ++ l.drop (i + 1) = out ++ x :: rd l (i : Int) :: l.drop (i + 1) := by simp
          rw [e] at h1
          refine Ev.step (f := fun k => r00_Put.j1 k l x out false (i : Int) true) (fun k => ?_) (Ev.step (fun k => ?_) h1)
          · simp only [r00_Put.l0]
            rw [if_pos (by omega), if_neg (by simp), if_pos (by omega), decide_eq_true c]
          · simp only [r00_Put.j1]
            rw [if_pos trivial, if_pos (by omega), if_pos (by omega), if_pos c2, if_pos (by omega), Option.bind_some, if_pos (by simp; omega), wsucc hi (by omega)]
        · rw [if_neg c2]
          have h1 := ev_Put1 l x hl (i + 1) (out ++ [rd l (i : Int)]) (by omega) (by simp; omega)
          rw [List.append_assoc, List.singleton_append] at h1
          refine Ev.step (f := fun k => r00_Put.j1 k l x out false (i : Int) true) (fun k => ?_) (Ev.step (fun k => ?_) h1)
          · simp only [r00_Put.l0]
            rw [if_pos (by omega), if_neg (by simp), if_pos (by omega), decide_eq_true c]
          · simp only [r00_Put.j1]
            rw [if_pos trivial, if_pos (by omega), if_pos (by omega), if_neg c2, if_pos (by omega), wsucc hi (by omega)]
      · rw [if_neg c]
        have h1 := ih (out ++ [rd l (i : Int)]) (by simp; omega)
        rw [List.append_assoc, List.singleton_append] at h1
        refine Ev.step (f := fun k => r00_Put.j1 k l x out false (i : Int) false) (fun k => ?_) (Ev.step (fun k => ?_) h1)
        · simp only [r00_Put.l0]
          rw [if_pos (by omega), if_neg (by simp), if_pos (by omega), decide_eq_false c]
        · simp only [r00_Put.j1]
          rw [if_neg (by simp), if_pos (by omega), if_pos (by omega), if_pos (by omega), wsucc hi (by omega)]) 0 (Nat.zero_le _) [] (by simp)
  exact H
/-- The words of the first elements of a list, increasing. -/
def unG (s : List Int) : Nat → List Int
  | 0 => []
  | m + 1 => insG (unG s m) (rd s (m : Int))
theorem unG_sorted (s : List Int) : ∀ m, (unG s m).Pairwise (fun a b => a < b)
  | 0 => List.Pairwise.nil
  | m + 1 => insG_sorted _ _ (unG_sorted s m)
theorem unG_length (s : List Int) : ∀ m, (unG s m).length ≤ m
  | 0 => by simp [unG]
  | m + 1 => by
    have h1 := unG_length s m
    have h2 := insG_length (rd s (m : Int)) (unG s m)
    rw [unG]
    omega
theorem unG_mem (s : List Int) (x : Int) : ∀ m, x ∈ unG s m ↔ ∃ j : Nat, j < m ∧ rd s (j : Int) = x
  | 0 => by simp [unG]
  | m + 1 => by
    rw [unG, insG_mem, unG_mem s x m]
    constructor
    · rintro (h | ⟨j, hj, e⟩)
      · exact ⟨m, by omega, h.symm⟩
      · exact ⟨j, by omega, e⟩
    · rintro ⟨j, hj, e⟩
      by_cases c : j = m
      · subst c; exact .inl e.symm
      · exact .inr ⟨j, by omega, e⟩
theorem ev_Union (s : List Int) (hl : s.length ≤ 1048576) : Ev (fun k => r00_Union.f k [] s) (unG s s.length) := by
  have H := up (n := s.length) (P := fun i => Ev (fun k => r00_Union.l0 k s (unG s i) (i : Int)) (unG s s.length))
    (by
      refine Ev.step (f := fun _ => some _) (fun k => ?_) (Ev.now _)
      simp only [r00_Union.l0]
      rw [if_neg (by omega)])
    (fun i hi ih => by
      have hle := unG_length s i
      refine Ev.step (fun k => ?_) (Ev.bind (f := fun k t => r00_Union.l0 k s t ((i + 1 : Nat) : Int)) (ev_Put (unG s i) (rd s (i : Int)) (by omega)) ih)
      simp only [r00_Union.l0]
      rw [if_pos (by omega), if_pos (by omega), wsucc hi (by omega)]) 0 (Nat.zero_le _)
  refine Ev.congr (fun k => ?_) H
  unfold r00_Union.f r00_Copy.f
  rw [Option.bind_some, if_pos (by simp)]
  rfl
theorem ev_spans4 (P : List Int) (D : Int) (sp : List (Int × Int)) (M : Int) (hP : P = spotsTo sp sp.length) (hb : P.length ≤ 1048576) (hsl : sp.length ≤ 1048576) (i : Nat) (hi : i < sp.length) (h1 : 1 ≤ (sp.getD i (0, 0)).2) (h2 : 0 ≤ (sp.getD i (0, 0)).1 ∧ (sp.getD i (0, 0)).1 + (sp.getD i (0, 0)).2 ≤ 1048576)
    (H : Ev (fun k => w02_SegShared.l3 k P D (sp.map ofP) M (((spotsTo sp (i + 1)).length : Nat) : Int) ((sp.getD i (0, 0)).1 + (sp.getD i (0, 0)).2) ((i + 1 : Nat) : Int)) true) :
    Ev (fun k => w02_SegShared.l4 k P D (sp.map ofP) M (((spotsTo sp i).length : Nat) : Int) (i : Int) ((0 : Nat) : Int)) true := by
  have hq : rd_T52 (sp.map ofP) (i : Int) = ofP (sp.getD i (0, 0)) := by
    unfold rd_T52
    rw [Int.toNat_natCast, List.getD_eq_getElem?_getD, List.getElem?_map, List.getD_eq_getElem?_getD, List.getElem?_eq_getElem hi]
    rfl
  have hml : (sp.map ofP).length = sp.length := List.length_map _
  have hle := spots_le sp (i + 1) (by omega)
  have hln := spots_len sp i
  have hrd := fun j => spots_rd sp i j hi
  rw [← hP] at hle hrd
  generalize hqq : sp.getD i (0, 0) = q at *
  obtain ⟨n, hn⟩ : ∃ n : Nat, q.2 = n := ⟨q.2.toNat, by omega⟩
  have f0 : (ofP q).f0 = q.1 := rfl
  have f1 : (ofP q).f1 = (n : Int) := hn
  rw [hn, Int.toNat_natCast] at hln
  rw [hn] at H h1 h2
  generalize (spotsTo sp i).length = at_ at *
  have G := up (n := n) (P := fun j => Ev (fun k => w02_SegShared.l4 k P D (sp.map ofP) M (at_ : Int) (i : Int) (j : Int)) true)
    (by
      have hw1 := Aside0.mk (show wrap64 ((at_ : Int) + (n : Int)) = ((at_ + n : Nat) : Int) by unfold wrap64; omega)
      have hw2 := Aside0.mk (show wrap64 (q.1 + (n : Int)) = q.1 + (n : Int) by unfold wrap64; omega)
      rw [hln] at H
      refine Ev.step (f := fun k => w02_SegShared.l3 k P D (sp.map ofP) M ((at_ + n : Nat) : Int) (q.1 + (n : Int)) ((i + 1 : Nat) : Int)) (fun k => ?_) H
      simp only [w02_SegShared.l4]
      rw [if_pos (by omega), if_pos (by omega), hq, f1, f0, if_neg (by omega), hw1.out, hw2.out, wsucc hi (by omega)])
    (fun j hj ih => by
      obtain ⟨r1, r2⟩ := hrd j (by omega)
      have hw1 := Aside0.mk (show wrap64 ((at_ : Int) + (j : Int)) = ((at_ + j : Nat) : Int) by unfold wrap64; omega)
      have hw2 := Aside0.mk (show wrap64 (q.1 + (j : Int)) = q.1 + (j : Int) by unfold wrap64; omega)
      refine Ev.step (f := fun k => w02_SegShared.l4 k P D (sp.map ofP) M (at_ : Int) (i : Int) ((j + 1 : Nat) : Int)) (fun k => ?_) ih
      simp only [w02_SegShared.l4]
      rw [if_pos (by omega), if_pos (by omega), hq, f1, f0, if_pos (by omega), hw1.out, hw2.out, if_pos (by omega), if_pos (by omega), r1, if_pos rfl, wsucc hj (by omega)]) 0 (Nat.zero_le _)
  exact G
theorem ev_spans3 (s l : List Int) (size : Nat) (hE : sharedE s l (size : Int) = 0) (hs : size ≤ 1000) : Ev (fun k => w02_SegShared.l3 k (filtTo (touB s l) size) (mostTo s l size) ((touchedG s l).map ofP) (mostTo s l size) 0 (-1) ((0 : Nat) : Int)) true := by
  have hP := spots_touched s l size hE
  obtain ⟨c1, c2⟩ := touched_canon s l (shared_pos s l _ hE)
  have hfl := filtTo_length_le (touB s l) size
  generalize touchedG s l = sp at *
  generalize mostTo s l size = D at *
  have hin : ∀ p, inSp sp p → 0 ≤ p ∧ p < (size : Int) := fun p hp => tou_in s l _ hE p (decide_eq_true ((c2 p).1 hp))
  rw [← hP] at hfl ⊢
  have hml : (sp.map ofP).length = sp.length := List.length_map _
  have hm : ∀ i : Nat, i < sp.length → sp.getD i (0, 0) ∈ sp := fun i hi => by
    rw [List.getD_eq_getElem?_getD, List.getElem?_eq_getElem hi]
    exact List.getElem_mem _
  have hb : ∀ i : Nat, i < sp.length → 1 ≤ (sp.getD i (0, 0)).2 ∧ 0 ≤ (sp.getD i (0, 0)).1 ∧ (sp.getD i (0, 0)).1 + (sp.getD i (0, 0)).2 ≤ (size : Int) := fun i hi => by
    have h1 := c1.2 _ (hm i hi)
    have h2 := hin (sp.getD i (0, 0)).1 ⟨_, hm i hi, by omega, by omega⟩
    have h3 := hin ((sp.getD i (0, 0)).1 + (sp.getD i (0, 0)).2 - 1) ⟨_, hm i hi, by omega, by omega⟩
    omega
  have hlast : ∀ i : Nat, i + 1 < sp.length → (sp.getD i (0, 0)).1 + (sp.getD i (0, 0)).2 < (sp.getD (i + 1) (0, 0)).1 := fun i hi => by
    have := (List.pairwise_iff_getElem.1 c1.1) i (i + 1) (by omega) hi (by omega)
    rw [List.getD_eq_getElem?_getD, List.getElem?_eq_getElem (show i < sp.length by omega), List.getD_eq_getElem?_getD, List.getElem?_eq_getElem hi]
    exact this
  have hge : ∀ i : Nat, i ≤ sp.length → i ≤ (spotsTo sp i).length := fun i => by
    induction i with
    | zero => intro _; omega
    | succ i ih =>
      intro h
      have h1 := ih (by omega)
      have h2 := hb i (by omega)
      rw [spots_len]
      omega
  have hsl : sp.length ≤ 1048576 := by have := hge sp.length (Nat.le_refl _); omega
  have G := up (n := sp.length) (P := fun i => ∀ last : Int, (i < sp.length → last < (sp.getD i (0, 0)).1) → Ev (fun k => w02_SegShared.l3 k (spotsTo sp sp.length) D (sp.map ofP) D (((spotsTo sp i).length : Nat) : Int) last (i : Int)) true)
    (by
      intro last _
      refine Ev.step (f := fun _ => some true) (fun k => ?_) (Ev.now _)
      simp only [w02_SegShared.l3]
      rw [if_neg (by omega)]
      simp only [if_true, law_cut.f, Option.bind_some])
    (fun i hi ih last hl => by
      have hl2 := hl hi
      obtain ⟨b1, b2, b3⟩ := hb i hi
      have hq : rd_T52 (sp.map ofP) (i : Int) = ofP (sp.getD i (0, 0)) := by
        unfold rd_T52
        rw [Int.toNat_natCast, List.getD_eq_getElem?_getD, List.getElem?_map, List.getD_eq_getElem?_getD, List.getElem?_eq_getElem hi]
        rfl
      have hle := spots_le sp (i + 1) (by omega)
      have hln := spots_len sp i
      have ih2 := ih ((sp.getD i (0, 0)).1 + (sp.getD i (0, 0)).2) (fun h => hlast i h)
      have h4 := ev_spans4 (spotsTo sp sp.length) D sp D rfl (by omega) hsl i hi b1 ⟨b2, by omega⟩ ih2
      have f0 : (ofP (sp.getD i (0, 0))).f0 = (sp.getD i (0, 0)).1 := rfl
      have f1 : (ofP (sp.getD i (0, 0))).f1 = (sp.getD i (0, 0)).2 := rfl
      have hw := Aside0.mk (show wrap64 (((spotsTo sp sp.length).length : Int) - (((spotsTo sp i).length : Nat) : Int)) = ((spotsTo sp sp.length).length : Int) - (((spotsTo sp i).length : Nat) : Int) by unfold wrap64; omega)
      have hli : (decide (1 ≤ (sp.getD i (0, 0)).2) && decide ((sp.getD i (0, 0)).2 ≤ ((spotsTo sp sp.length).length : Int) - (((spotsTo sp i).length : Nat) : Int))) = true := by
        rw [Bool.and_eq_true, decide_eq_true_eq, decide_eq_true_eq]
        omega
      refine Ev.step (f := fun k => w02_SegShared.j8 k (spotsTo sp sp.length) D (sp.map ofP) D (((spotsTo sp i).length : Nat) : Int) (i : Int) false) (fun k => ?_) (Ev.step (f := fun k => w02_SegShared.l4 k (spotsTo sp sp.length) D (sp.map ofP) D (((spotsTo sp i).length : Nat) : Int) (i : Int) ((0 : Nat) : Int)) (fun k => ?_) h4)
      · simp only [w02_SegShared.l3, f_Lies, Option.bind_some]
        rw [if_pos (by omega), if_pos (by omega), hq, f0, f1, if_neg (by omega), hw.out, hli]
        rfl
      · simp only [w02_SegShared.j8, Bool.false_eq_true, if_false]
        rfl) 0 (Nat.zero_le _) (-1) (fun h => by have := hb 0 h; omega)
  exact G
theorem ev_shared1 (s l : List Int) (size : Nat) (hE : sharedE s l (size : Int) = 0) (hs : size ≤ 1000) (ht : ttl l ≤ 1000) :
    Ev (fun k => w02_SegShared.l1 k ((ttl l : Nat) : Int) (placesTo s l s.length) (filtTo (touB s l) size) (mostTo s l size) ((touchedG s l).map ofP) (placesTo (beginL s l) l s.length) 0 0 ((0 : Nat) : Int)) true := by
  obtain ⟨e1, e2, e3, e4, e5, e6⟩ := sharedE_ok hE
  have hp : ∀ n ∈ l, 0 ≤ n := fun n hn => by
    obtain ⟨i, hi, rfl⟩ := List.mem_iff_getElem.1 hn
    have := e6 i (by omega)
    rw [rd_get hi] at this
    omega
  have h3 := ev_spans3 s l size hE hs
  have hMA := mostA_to s l size hE
  have hA : (placesTo s l s.length).length = ttl l := by rw [placesTo_length s l s.length (by omega), ← e2]; rfl
  have hB : (placesTo (beginL s l) l s.length).length = ttl l := by rw [placesTo_length _ l s.length (by omega), ← e2]; rfl
  have hfl := filtTo_length_le (touB s l) size
  have hsm := small_rd s l size hE
  have hcn := fun x => cnt_places s l x hp s.length (by omega)
  have hcl := fun x => cov_le s l s.length x
  have hfr := fun x => filtTo_rd (touB s l) x size
  rw [hA] at hMA
  rw [← hMA] at h3 ⊢
  generalize placesTo s l s.length = A at *
  generalize placesTo (beginL s l) l s.length = B at *
  generalize hF : filtTo (touB s l) size = F at *
  generalize (touchedG s l).map ofP = SP at *
  generalize hT : ttl l = T at *
  have G := up (n := T) (P := fun i => Ev (fun k => w02_SegShared.l1 k (T : Int) A F (mostA s l A T) SP B (mostA s l A i) 0 (i : Int)) true)
    (by
      refine Ev.step (f := fun k => w02_SegShared.l3 k F (mostA s l A T) SP (mostA s l A T) 0 (-1) ((0 : Nat) : Int)) (fun k => ?_) h3
      simp only [w02_SegShared.l1]
      rw [if_neg (by omega)]
      rfl)
    (fun i hi ih => by
      obtain ⟨x, x1, x2, x3, x4⟩ := hsm i hi
      obtain ⟨r1, r2⟩ := hfr x x2 x3
      have hc := hcl (x : Int)
      have hw1 := Aside0.mk (show wrap64 ((F.length : Int) - 1) = (F.length : Int) - 1 by unfold wrap64; omega)
      have hli : (decide (0 ≤ (((filtTo (touB s l) x).length : Nat) : Int)) && decide ((((filtTo (touB s l) x).length : Nat) : Int) ≤ (F.length : Int) - 1)) = true := by
        rw [Bool.and_eq_true, decide_eq_true_eq, decide_eq_true_eq]
        omega
      have hmx : mx (mostA s l A i) (cov s l s.length (x : Int)) = mostA s l A (i + 1) := by
        show _ = max (mostA s l A i) (cov s l s.length (rd A (i : Int)))
        rw [x1]
        unfold mx
        split <;> omega
      have hce := hcn (x : Int)
      rw [← hmx] at ih
      have H2 := up (n := T) (P := fun j => Ev (fun k => w02_SegShared.l2 k (T : Int) A F (mostA s l A T) SP B (mostA s l A i) 0 (i : Int) (cntN A j (x : Int)) (j : Int)) true)
        (by
          have e : cntN A T (x : Int) = cov s l s.length (x : Int) := by
            unfold cntN
            rw [List.take_of_length_le (by omega)]
            exact hce
          rw [e]
          refine Ev.step (f := fun k => w02_SegShared.l1 k (T : Int) A F (mostA s l A T) SP B (mx (mostA s l A i) (cov s l s.length (x : Int))) 0 ((i + 1 : Nat) : Int)) (fun k => ?_) ih
          simp only [w02_SegShared.l2]
          rw [if_neg (by omega), wsucc hi (by omega)])
        (fun j hj ih2 => by
          have hs2 := cntN_succ A j (by omega) (x : Int)
          have hcl2 := cntN_le A j (x : Int)
          refine Ev.step (f := fun k => w02_SegShared.l2 k (T : Int) A F (mostA s l A T) SP B (mostA s l A i) 0 (i : Int) (cntN A (j + 1) (x : Int)) ((j + 1 : Nat) : Int)) (fun k => ?_) ih2
          simp only [w02_SegShared.l2]
          rw [if_pos (by omega), if_pos (by omega), if_pos (by omega), if_pos (by omega), if_pos (by omega), x1, wsucc hj (by omega)]
          by_cases c : rd A (j : Int) = (x : Int)
          · rw [if_pos c] at hs2 ⊢
            have hw := Aside0.mk (show wrap64 (cntN A j (x : Int) + 1) = cntN A j (x : Int) + 1 by generalize cntN A j (x : Int) = z at *; unfold wrap64; omega)
            rw [hw.out, hs2]
          · rw [if_neg c] at hs2 ⊢
            rw [hs2, Int.add_zero]) 0 (Nat.zero_le _)
      refine Ev.step (f := fun k => w02_SegShared.j5 k (T : Int) A F (mostA s l A T) SP B (mostA s l A i) 0 (i : Int) false) (fun k => ?_) (Ev.step (f := fun k => w02_SegShared.l2 k (T : Int) A F (mostA s l A T) SP B (mostA s l A i) 0 (i : Int) (cntN A 0 (x : Int)) ((0 : Nat) : Int)) (fun k => ?_) H2)
      · simp only [w02_SegShared.l1, f_Lies, Option.bind_some]
        rw [if_pos (by omega), if_pos (by omega), if_pos (by omega), x4, hw1.out, if_pos hli, if_pos (by omega), if_pos (by omega), if_pos (by omega), r1, x1]
        simp only [bne_self_eq_false]
      · simp only [w02_SegShared.j5, Bool.false_eq_true, if_false]
        rfl) 0 (Nat.zero_le _)
  exact G
theorem union_places (s l : List Int) (size : Nat) (hE : sharedE s l (size : Int) = 0) : unG (placesTo s l s.length) (placesTo s l s.length).length = filtTo (touB s l) size := by
  refine incr_uniq (unG_sorted _ _) (filtTo_incr _ _) fun x => ?_
  rw [unG_mem, filtTo_mem]
  have hm := places_mem s l x s.length
  constructor
  · rintro ⟨j, hj, rfl⟩
    have h1 := hm.1 (rd_mem _ (j : Int) (by omega) (by omega))
    have h2 : touB s l _ = true := decide_eq_true h1
    have := tou_in s l _ hE _ h2
    exact ⟨by omega, by omega, h2⟩
  · rintro ⟨_, _, h⟩
    obtain ⟨j, hj, e⟩ := List.mem_iff_getElem.1 (hm.2 (of_decide_eq_true h))
    exact ⟨j, hj, by rw [rd_get hj]; exact e⟩
def OkS (s l : List Int) (size : Int) : Prop := s.length = l.length ∧ ∀ i : Nat, i < s.length → 0 ≤ rd s (i : Int) ∧ 0 ≤ rd l (i : Int) ∧ rd s (i : Int) + rd l (i : Int) ≤ size ∧ rd l (i : Int) ≤ 9
set_option maxHeartbeats 1000000 in
theorem ev_sharedJ (x0 s l : List Int) (size : Nat) (h : OkS s l (size : Int)) (hs : size ≤ 60) (hn : s.length ≤ 30) (i : Int) : Ev (fun k => w02_SegShared.j1 k x0 (size : Int) s l i false) true := by
  obtain ⟨o1, o2⟩ := h
  have hp : ∀ n ∈ l, 0 ≤ n := fun n hn => by
    obtain ⟨i, hi, rfl⟩ := List.mem_iff_getElem.1 hn
    have := o2 i (by omega)
    rw [rd_get hi] at this
    omega
  have ht : ttl l ≤ 9 * l.length := ttl_small l 9 (fun n hn => by
    obtain ⟨i, hi, rfl⟩ := List.mem_iff_getElem.1 hn
    have := o2 i (by omega)
    rw [rd_get hi] at this
    omega) l.length (Nat.le_refl _)
  have hE : sharedE s l (size : Int) = 0 := shared_of _ _ _ (by omega) (by omega) (by omega) (by omega) (by omega) (fun i hi => by have := o2 i hi; omega)
  have hE2 := small_shared s l size hE
  have g1 : seg_Shared.g s l (size : Int) = (((ttl l : Nat) : Int), 0) := by unfold seg_Shared.g; rw [if_pos hE]
  have g2 : seg_Places.g s l (size : Int) = (placesTo s l s.length, 0) := by unfold seg_Places.g; rw [if_pos hE]
  have g3 := compact_g s l size hE
  have g4 := depth_g s l size hE
  have g5 : seg_Touched.g s l (size : Int) = (touchedG s l, 0) := by unfold seg_Touched.g; rw [if_pos hE]
  have hbl := beginL_length s l
  have g6 : seg_Places.g (beginL s l) l (((filtTo (touB s l) size).length : Nat) : Int) = (placesTo (beginL s l) l s.length, 0) := by unfold seg_Places.g; rw [if_pos hE2, hbl]
  have hA : (placesTo s l s.length).length = ttl l := by rw [placesTo_length s l s.length (by omega), o1]; rfl
  have hB : (placesTo (beginL s l) l s.length).length = ttl l := by rw [placesTo_length _ l s.length (by omega), o1]; rfl
  have hL1 := ev_shared1 s l size hE (by omega) (by omega)
  have hU := ev_Union (placesTo s l s.length) (by omega)
  rw [union_places s l size hE] at hU
  have c1 : ((placesTo s l s.length).length : Int) = ((ttl l : Nat) : Int) := by omega
  have c2 : ((beginL s l).length != l.length) = false := by rw [hbl, o1]; simp
  have c3 : ((placesTo (beginL s l) l s.length).length : Int) = ((ttl l : Nat) : Int) := by omega
  have c4 : (((beginL s l).length : Int) != (l.length : Int)) = false := by rw [hbl, o1]; simp
  refine Ev.step (f := fun k => (r00_Sum.f k l).bind fun t174 => (if ((ttl l : Nat) : Int) = t174 then (w02_SegShared.j2 k l ((ttl l : Nat) : Int) (placesTo s l s.length) (beginL s l) (filtTo (touB s l) size) (mostTo s l size) ((touchedG s l).map ofP) false) else (w02_SegShared.j2 k l ((ttl l : Nat) : Int) (placesTo s l s.length) (beginL s l) (filtTo (touB s l) size) (mostTo s l size) ((touchedG s l).map ofP) true))) (fun k => ?_) ?_
  · simp only [w02_SegShared.j1, Bool.false_eq_true, if_false, rShared.f, rPlaces.f, rCompact.f, rDepth.f, sTouched.f, g1, g2, g3, g4, g5, Option.bind_some, if_true, if_pos c1, c4]
  · refine Ev.bind (ev_Sum l (by unfold Sh; omega) hp (by omega)) ?_
    simp only [if_true]
    refine Ev.step (f := fun k => (r00_Union.f k ([] : List Int) (placesTo s l s.length)).bind fun t179 => ((Eq_.f t179 (filtTo (touB s l) size)).bind fun t182 => (w02_SegShared.j3 k ((ttl l : Nat) : Int) (placesTo s l s.length) (filtTo (touB s l) size) (mostTo s l size) ((touchedG s l).map ofP) (placesTo (beginL s l) l s.length) (!t182)))) (fun k => ?_) ?_
    · simp only [w02_SegShared.j2, Bool.false_eq_true, if_false, rPlaces.f, g6, Option.bind_some, if_true, if_pos c3]
    · refine Ev.bind hU ?_
      simp only [Eq_.f, BEq.rfl, Option.bind_some, Bool.not_true]
      refine Ev.step (f := fun k => w02_SegShared.l1 k ((ttl l : Nat) : Int) (placesTo s l s.length) (filtTo (touB s l) size) (mostTo s l size) ((touchedG s l).map ofP) (placesTo (beginL s l) l s.length) 0 0 ((0 : Nat) : Int)) (fun k => ?_) hL1
      simp only [w02_SegShared.j3, Bool.false_eq_true, if_false]
      rfl
theorem ev_sharedL (x0 : List Int) (hx : Sh x0) (size : Nat) (hs : size ≤ 60) : ∀ (d m : Nat) (s l : List Int), m + d = 30 → s.length = m → OkS s l (size : Int) → 2 * m ≤ x0.length → Ev (fun k => w02_SegShared.l0 k x0 (size : Int) s l ((2 * m : Nat) : Int)) true
  | 0, m, s, l, hm, hl, ho, hx2 => by
    have hj := ev_sharedJ x0 s l size ho hs (by omega) ((2 * m : Nat) : Int)
    unfold Sh at hx
    have hw := Aside0.mk (show wrap64 (((2 * m : Nat) : Int) + 1) = ((2 * m + 1 : Nat) : Int) by unfold wrap64; omega)
    refine Ev.step (f := fun k => w02_SegShared.j1 k x0 (size : Int) s l ((2 * m : Nat) : Int) false) (fun k => ?_) hj
    simp only [w02_SegShared.l0]
    rw [hw.out]
    by_cases c : ((2 * m + 1 : Nat) : Int) < (x0.length : Int)
    · rw [if_pos c, decide_eq_false (by omega)]
    · rw [if_neg c]
  | d + 1, m, s, l, hm, hl, ho, hx2 => by
    have hj := ev_sharedJ x0 s l size ho hs (by omega) ((2 * m : Nat) : Int)
    unfold Sh at hx
    have hw := Aside0.mk (show wrap64 (((2 * m : Nat) : Int) + 1) = ((2 * m + 1 : Nat) : Int) by unfold wrap64; omega)
    by_cases c : ((2 * m + 1 : Nat) : Int) < (x0.length : Int)
    · have hw3 := Aside0.mk (show wrap64 ((size : Int) + 1) = (size : Int) + 1 by unfold wrap64; omega)
      obtain ⟨t, t1, t2, t3⟩ := f_Turn (rd x0 ((2 * m : Nat) : Int)) ((size : Int) + 1) (by omega)
      have t4 := t3 (by omega)
      have hw4 := Aside0.mk (show wrap64 ((size : Int) - t) = (size : Int) - t by unfold wrap64; omega)
      obtain ⟨b, hb, hb2⟩ : ∃ b : Int, mn ((size : Int) - t) 9 = b ∧ 0 ≤ b ∧ b ≤ 9 ∧ b ≤ (size : Int) - t := ⟨_, rfl, by unfold mn; split <;> omega⟩
      have hw5 := Aside0.mk (show wrap64 (b + 1) = b + 1 by unfold wrap64; omega)
      obtain ⟨u, u1, u2, u3⟩ := f_Turn (rd x0 ((2 * m + 1 : Nat) : Int)) (b + 1) (by omega)
      have u4 := u3 (by omega)
      have hw6 := Aside0.mk (show wrap64 (((2 * m : Nat) : Int) + 2) = ((2 * (m + 1) : Nat) : Int) by unfold wrap64; omega)
      obtain ⟨o1, o2⟩ := ho
      have ih := ev_sharedL x0 hx size hs d (m + 1) (s ++ [t]) (l ++ [u]) (by omega) (by simp; omega) ⟨by simp; omega, fun i hi => by
        rw [List.length_append, List.length_singleton] at hi
        rw [rd_app, rd_app]
        by_cases e : i < s.length
        · rw [if_pos e, if_pos (by omega)]
          exact o2 i e
        · rw [if_neg e, if_neg (by omega), show i - s.length = 0 by omega, show i - l.length = 0 by omega]
          show 0 ≤ t ∧ 0 ≤ u ∧ t + u ≤ _ ∧ u ≤ 9
          omega⟩ (by omega)
      refine Ev.step (f := fun k => w02_SegShared.j1 k x0 (size : Int) s l ((2 * m : Nat) : Int) true) (fun k => ?_) (Ev.step (f := fun k => w02_SegShared.l0 k x0 (size : Int) (s ++ [t]) (l ++ [u]) ((2 * (m + 1) : Nat) : Int)) (fun k => ?_) ih)
      · simp only [w02_SegShared.l0]
        rw [hw.out, if_pos c, decide_eq_true (by omega)]
      · simp only [w02_SegShared.j1, if_true]
        rw [if_pos (by omega), if_pos (by omega), hw3.out, t1, Option.bind_some, if_pos (by omega), hw.out, if_pos (by omega), if_pos c, hw4.out, hb, hw5.out, u1, Option.bind_some, if_pos (by omega), hw6.out]
    · refine Ev.step (f := fun k => w02_SegShared.j1 k x0 (size : Int) s l ((2 * m : Nat) : Int) false) (fun k => ?_) hj
      simp only [w02_SegShared.l0]
      rw [hw.out, if_neg c]
theorem SegShared : w02_SegShared.Pure := by
  intro l0 a1 _ h1 _ _
  have s0 : Sh l0 := by unfold Sh; omega
  obtain ⟨t, t1, t2, t3⟩ := f_Turn a1 61 (by omega)
  have t4 := t3 (by omega)
  obtain ⟨z, rfl⟩ : ∃ z : Nat, t = z := ⟨t.toNat, by omega⟩
  have H : Ev (fun k => w02_SegShared.f k l0 a1) true := by
    unfold w02_SegShared.f
    simp only [t1, Option.bind_some]
    exact ev_sharedL l0 s0 z (by omega) 30 0 [] [] (by omega) rfl ⟨rfl, fun i hi => by simp at hi⟩ (by omega)
  exact H.rounds
end Go.Proofs.Ythalgcpohnknbaa.Pure
