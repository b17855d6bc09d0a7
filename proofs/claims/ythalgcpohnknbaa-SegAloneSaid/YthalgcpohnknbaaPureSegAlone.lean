/- SegAlone: lengths alone share nothing; it is told of numbers and lists alone. -/
import Derived.Test.YthalgcpohnknbaaPSegAlonex
namespace Go.Proofs.Ythalgcpohnknbaa.Pure
open Go.RowKit Go.Proofs.Ythalgcpohnknbaa.PSegAlone Go.Proofs.Ythalgcpohnknbaa.Hand Go.Proofs.YthalgcpohnknbaaW.PrintWords Go.Proofs.YthalgcpohnknbaaW.PrintLast Go.Proofs.YthalgcpohnknbaaW.PrintMore
set_option linter.unusedVariables false
set_option linter.unusedSimpArgs false
/-- Lists so short that a place's successor is no other number. -/
def Sh {α : Type} (l : List α) : Prop := l.length ≤ 4611686018427387904
theorem wsucc {i n : Nat} (h : i < n) (hn : n ≤ 4611686018427387904) : wrap64 ((i : Int) + 1) = ((i + 1 : Nat) : Int) := by unfold wrap64; omega
theorem rd_get {l : List Int} {i : Nat} (h : i < l.length) : rd l (i : Int) = l[i] := by simp [rd, h]
theorem up {n : Nat} {P : Nat → Prop} (h0 : P n) (hs : ∀ i, i < n → P (i + 1) → P i) (i : Nat) (hi : i ≤ n) : P i := by
  have key : ∀ d, ∀ i, i + d = n → P i := by
    intro d
    induction d with
    | zero => intro i h; have : i = n := by omega
              subst this; exact h0
    | succ d ih => intro i h; exact hs i (by omega) (ih (i + 1) (by omega))
  exact key (n - i) i (by omega)
theorem rd_upTo_nat (f : Int → Int) (n k : Nat) (h : k < n) : rd (upTo f (n : Int)) (k : Int) = f k := upTo_rd f n k h
theorem list_rd_ext {a b : List Int} (h : a.length = b.length) (h2 : ∀ j : Nat, j < a.length → rd a (j : Int) = rd b (j : Int)) : a = b := by
  refine List.ext_getElem h fun j hj hj2 => ?_
  have := h2 j hj
  rw [rd_get hj, rd_get hj2] at this
  exact this
theorem f_Turn (n m : Int) (hm : m ≤ 4611686018427387904) : ∃ t, r00_Turn.f n m = some t ∧ 0 ≤ t ∧ (0 < m → t < m) := by
  unfold r00_Turn.f
  by_cases h1 : m < 1
  · exact ⟨0, by rw [if_pos h1], by omega, fun h => by omega⟩
  · rw [if_neg h1, if_neg (by omega)]
    have hlt := Int.tmod_lt_of_pos n (show 0 < m by omega)
    have hgt : -m < n.tmod m := by
      have := Int.lt_tmod_of_pos n (show 0 < m by omega)
      exact this
    by_cases h2 : n.tmod m < 0
    · rw [if_pos h2]
      exact ⟨_, rfl, by unfold wrap64; omega, fun _ => by unfold wrap64; omega⟩
    · rw [if_neg h2]
      exact ⟨_, rfl, by omega, fun _ => hlt⟩
theorem upTo_rd (a : List Int) (val : Int → Int) (h : ∀ i : Nat, i < a.length → val (i : Int) = rd a (i : Int)) : upTo val a.length = a := by
  apply List.ext_getElem
  · rw [upTo_length]; simp
  · intro i h1 h2
    rw [← rd_get h2, ← h i h2]
    simp [upTo]
theorem ttl_small (l : List Int) (c : Nat) (h : ∀ n ∈ l, n ≤ c) : ∀ m : Nat, m ≤ l.length → startOf l (m : Int) ≤ c * m
  | 0, _ => by rw [show ((0 : Nat) : Int) = 0 from rfl, startOf_zero]; omega
  | m + 1, hm => by
    have ih := ttl_small l c h m (by omega)
    have := h _ (rd_mem l (m : Int) (by omega) (by omega))
    rw [show ((m + 1 : Nat) : Int) = (m : Int) + 1 by omega, startOf_succ l (m : Int) (by omega) (by omega), Nat.mul_succ]
    omega
theorem ev_some (l : List Int) (hl : Sh l) : ∃ q, Ev (fun k => w02_some.f k l) q ∧ q.length ≤ 40 ∧ (∀ n ∈ q, 0 ≤ n ∧ n < 10) ∧ chkE q = 0 := by
  have H : ∀ (d i : Nat) (x : List Int), i + d = 40 → i ≤ l.length → x.length = i → (∀ n ∈ x, 0 ≤ n ∧ n < 10) → ∃ q, Ev (fun k => w02_some.l0 k l x (i : Int)) q ∧ q.length ≤ 40 ∧ (∀ n ∈ q, 0 ≤ n ∧ n < 10) := by
    intro d
    induction d with
    | zero =>
      intro i x hi hil hx hb
      refine ⟨x, Ev.step (f := fun _ => some x) (fun k => ?_) (Ev.now _), by omega, hb⟩
      simp only [w02_some.l0]
      by_cases h : (i : Int) < l.length
      · rw [if_pos h, if_neg (by omega)]
      · rw [if_neg h]
    | succ d ih =>
      intro i x hi hil hx hb
      by_cases h : (i : Int) < l.length
      · obtain ⟨t, t1, t2, t3⟩ := f_Turn (rd l (i : Int)) 10 (by omega)
        obtain ⟨q, h1, h2, h3⟩ := ih (i + 1) (x ++ [t]) (by omega) (by omega) (by rw [List.length_append]; simp; omega) (fun n hn => by
          rcases List.mem_append.1 hn with hn | hn
          · exact hb n hn
          · have := List.mem_singleton.1 hn
            subst this
            exact ⟨t2, t3 (by omega)⟩)
        refine ⟨q, Ev.step (f := fun k => w02_some.l0 k l (x ++ [t]) ((i + 1 : Nat) : Int)) (fun k => ?_) h1, h2, h3⟩
        simp only [w02_some.l0]
        rw [if_pos h, if_pos (by omega), if_pos (by omega), t1, Option.bind_some, if_pos (by omega), wsucc (n := l.length) (by omega) hl]
      · refine ⟨x, Ev.step (f := fun _ => some x) (fun k => ?_) (Ev.now _), by omega, hb⟩
        simp only [w02_some.l0]
        rw [if_neg h]
  obtain ⟨q, h1, h2, h3⟩ := H 40 0 [] (by omega) (by omega) rfl (by simp)
  refine ⟨q, h1, h2, h3, ?_⟩
  have ht : ttl q ≤ 9 * q.length := ttl_small q 9 (fun n hn => by have := h3 n hn; omega) q.length (Nat.le_refl _)
  have hn : negs q = false := by
    unfold negs
    rw [List.any_eq_false]
    intro x hx
    have := h3 x hx
    simp
    omega
  unfold chkE
  rw [if_neg (by omega), hn, if_neg (by simp), if_neg (by omega)]
theorem startOf_step (lens : List Int) (i : Nat) (hi : i < lens.length) : startOf lens ((i + 1 : Nat) : Int) = startOf lens (i : Int) + (rd lens (i : Int)).toNat := by
  rw [show ((i + 1 : Nat) : Int) = (i : Int) + 1 by omega]; exact startOf_succ lens (i : Int) (by omega) (by omega)
/-- Of how many of the first n segments a place is an element. -/
def cov (s l : List Int) : Nat → Int → Int
  | 0, _ => 0
  | n + 1, k => cov s l n k + (if rd s (n : Int) ≤ k ∧ k < rd s (n : Int) + rd l (n : Int) then 1 else 0)
theorem cov_le (s l : List Int) : ∀ (n : Nat) (k : Int), 0 ≤ cov s l n k ∧ cov s l n k ≤ n
  | 0, _ => by simp [cov]
  | n + 1, k => by
    have := cov_le s l n k
    unfold cov
    split <;> omega
theorem cov_pos (s l : List Int) : ∀ (n : Nat) (k : Int), 0 < cov s l n k ↔ ∃ i : Nat, i < n ∧ rd s (i : Int) ≤ k ∧ k < rd s (i : Int) + rd l (i : Int)
  | 0, _ => by simp [cov]
  | n + 1, k => by
    have ih := cov_pos s l n k
    have hle := cov_le s l n k
    unfold cov
    constructor
    · intro h
      by_cases h1 : rd s (n : Int) ≤ k ∧ k < rd s (n : Int) + rd l (n : Int)
      · exact ⟨n, by omega, h1⟩
      · rw [if_neg h1] at h
        obtain ⟨i, h2, h3⟩ := ih.1 (by omega)
        exact ⟨i, by omega, h3⟩
    · rintro ⟨i, h2, h3⟩
      by_cases hi : i = n
      · subst hi
        rw [if_pos h3]
        omega
      · have := ih.2 ⟨i, by omega, h3⟩
        split <;> omega
def nowN (s l : List Int) (n : Nat) : Nat → Int
  | 0 => 0
  | k + 1 => nowN s l n k + chAt s l n (k : Int)
theorem nowN_now (s l : List Int) : ∀ k : Nat, nowTo s l k = nowN s l s.length k
  | 0 => rfl
  | k + 1 => by unfold nowTo nowN; rw [nowN_now s l k]
theorem chAt_zero (s l : List Int) (k : Int) : chAt s l 0 k = 0 := by unfold chAt cntN; simp
theorem chAt_succ (s l : List Int) (n : Nat) (hn : n < s.length) (k : Int) : chAt s l (n + 1) k = chAt s l n k + ((if rd s (n : Int) = k then 1 else 0) - (if rd s (n : Int) + rd l (n : Int) = k then 1 else 0)) := by
  unfold chAt
  rw [cntN_succ s n hn, cntN_succ (endsOf s l) n (by rw [endsOf_length]; omega), endsOf_rd s l n hn]
  omega
theorem nowN_succ (s l : List Int) (n : Nat) (hn : n < s.length) (h1 : 0 ≤ rd s (n : Int)) (h2 : 0 ≤ rd l (n : Int)) : ∀ k : Nat, nowN s l (n + 1) k = nowN s l n k + (if rd s (n : Int) < k ∧ (k : Int) ≤ rd s (n : Int) + rd l (n : Int) then 1 else 0)
  | 0 => by
    unfold nowN
    rw [if_neg (by omega)]
    rfl
  | k + 1 => by
    unfold nowN
    rw [nowN_succ s l n hn h1 h2 k, chAt_succ s l n hn]
    generalize rd s (n : Int) = a at *
    generalize rd l (n : Int) = b at *
    generalize nowN s l n k = x
    generalize chAt s l n (k : Int) = y
    by_cases c1 : a < k ∧ (k : Int) ≤ a + b <;> by_cases c2 : a = k <;> by_cases c3 : a + b = k <;> by_cases c4 : a < ((k + 1 : Nat) : Int) ∧ ((k + 1 : Nat) : Int) ≤ a + b <;> (first | rw [if_pos c1] | rw [if_neg c1]) <;> (first | rw [if_pos c2] | rw [if_neg c2]) <;> (first | rw [if_pos c3] | rw [if_neg c3]) <;> (first | rw [if_pos c4] | rw [if_neg c4]) <;> omega
theorem nowN_cov (s l : List Int) (h : ∀ i : Nat, i < s.length → 0 ≤ rd s (i : Int) ∧ 0 ≤ rd l (i : Int)) : ∀ n : Nat, n ≤ s.length → ∀ k : Nat, nowN s l n (k + 1) = cov s l n (k : Int)
  | 0, _, k => by
    have : ∀ k : Nat, nowN s l 0 k = 0 := fun k => by
      induction k with
      | zero => rfl
      | succ k ih => unfold nowN; rw [ih, chAt_zero]; rfl
    rw [this]
    rfl
  | n + 1, hn, k => by
    have h1 := h n (by omega)
    rw [nowN_succ s l n (by omega) h1.1 h1.2, nowN_cov s l h n (by omega) k]
    show _ = cov s l n (k : Int) + (if rd s (n : Int) ≤ (k : Int) ∧ (k : Int) < rd s (n : Int) + rd l (n : Int) then 1 else 0)
    by_cases c : rd s (n : Int) ≤ k ∧ (k : Int) < rd s (n : Int) + rd l (n : Int)
    · rw [if_pos c, if_pos (by omega)]
    · rw [if_neg c, if_neg (by omega)]
theorem now_cov (s l : List Int) (h : ∀ i : Nat, i < s.length → 0 ≤ rd s (i : Int) ∧ 0 ≤ rd l (i : Int)) (k : Nat) : nowTo s l (k + 1) = cov s l s.length (k : Int) := by
  rw [nowN_now, nowN_cov s l h _ (Nat.le_refl _)]
/-- Spans, each of at least one place, that do not touch, and increase. -/
def Canon (o : List (Int × Int)) : Prop := o.Pairwise (fun a b => a.1 + a.2 < b.1) ∧ ∀ p ∈ o, 1 ≤ p.2
def inSp (o : List (Int × Int)) (p : Int) : Prop := ∃ q ∈ o, q.1 ≤ p ∧ p < q.1 + q.2
theorem inSp_nil (p : Int) : ¬ inSp [] p := by rintro ⟨q, h, _⟩; simp at h
theorem inSp_cons (a : Int × Int) (o : List (Int × Int)) (p : Int) : inSp (a :: o) p ↔ (a.1 ≤ p ∧ p < a.1 + a.2) ∨ inSp o p := by
  unfold inSp
  constructor
  · rintro ⟨q, h, h2⟩
    rcases List.mem_cons.1 h with rfl | h
    · exact .inl h2
    · exact .inr ⟨q, h, h2⟩
  · rintro (h | ⟨q, h, h2⟩)
    · exact ⟨a, by simp, h⟩
    · exact ⟨q, by simp [h], h2⟩
theorem inSp_app (a b : List (Int × Int)) (p : Int) : inSp (a ++ b) p ↔ inSp a p ∨ inSp b p := by
  induction a with
  | nil => simp [inSp_nil]
  | cons x t ih => rw [List.cons_append, inSp_cons, inSp_cons, ih, or_assoc]
theorem inSp_one (a : Int × Int) (p : Int) : inSp [a] p ↔ (a.1 ≤ p ∧ p < a.1 + a.2) := by
  rw [inSp_cons]
  constructor
  · rintro (h | h)
    · exact h
    · exact absurd h (inSp_nil p)
  · exact .inl
theorem canon_tail {a : Int × Int} {o : List (Int × Int)} (h : Canon (a :: o)) : Canon o ∧ 1 ≤ a.2 ∧ ∀ p, inSp o p → a.1 + a.2 < p := by
  obtain ⟨h1, h2⟩ := h
  obtain ⟨h3, h4⟩ := List.pairwise_cons.1 h1
  refine ⟨⟨h4, fun p hp => h2 p (by simp [hp])⟩, h2 a (by simp), ?_⟩
  rintro p ⟨q, hq, h5, h6⟩
  have := h3 q hq
  omega
theorem Canon.uniq : ∀ {a b : List (Int × Int)}, Canon a → Canon b → (∀ p, inSp a p ↔ inSp b p) → a = b
  | [], [], _, _, _ => rfl
  | [], (x :: t), _, hb, h => by
    obtain ⟨_, h2, _⟩ := canon_tail hb
    exact absurd ((h x.1).2 ((inSp_cons _ _ _).2 (.inl ⟨by omega, by omega⟩))) (inSp_nil _)
  | (x :: t), [], ha, _, h => by
    obtain ⟨_, h2, _⟩ := canon_tail ha
    exact absurd ((h x.1).1 ((inSp_cons _ _ _).2 (.inl ⟨by omega, by omega⟩))) (inSp_nil _)
  | (x :: t), (y :: u), ha, hb, h => by
    obtain ⟨a1, a2, a3⟩ := canon_tail ha
    obtain ⟨b1, b2, b3⟩ := canon_tail hb
    have hx : ∀ p, inSp (x :: t) p → x.1 ≤ p := fun p hp => by
      rcases (inSp_cons _ _ _).1 hp with hp | hp
      · exact hp.1
      · have := a3 p hp; omega
    have hy : ∀ p, inSp (y :: u) p → y.1 ≤ p := fun p hp => by
      rcases (inSp_cons _ _ _).1 hp with hp | hp
      · exact hp.1
      · have := b3 p hp; omega
    have e1 : x.1 = y.1 := by
      have := hy x.1 ((h _).1 ((inSp_cons _ _ _).2 (.inl ⟨by omega, by omega⟩)))
      have := hx y.1 ((h _).2 ((inSp_cons _ _ _).2 (.inl ⟨by omega, by omega⟩)))
      omega
    have e2 : x.2 = y.2 := by
      by_cases c : x.2 < y.2
      · have := (h (x.1 + x.2)).2 ((inSp_cons _ _ _).2 (.inl ⟨by omega, by omega⟩))
        rcases (inSp_cons _ _ _).1 this with hp | hp
        · omega
        · have := a3 _ hp; omega
      · by_cases c2 : y.2 < x.2
        · have := (h (y.1 + y.2)).1 ((inSp_cons _ _ _).2 (.inl ⟨by omega, by omega⟩))
          rcases (inSp_cons _ _ _).1 this with hp | hp
          · omega
          · have := b3 _ hp; omega
        · omega
    have e : x = y := Prod.ext e1 e2
    subst e
    rw [Canon.uniq a1 b1 fun p => ?_]
    constructor
    · intro hp
      have h5 := a3 p hp
      rcases (inSp_cons _ _ _).1 ((h p).1 ((inSp_cons _ _ _).2 (.inr hp))) with h6 | h6
      · omega
      · exact h6
    · intro hp
      have h5 := b3 p hp
      rcases (inSp_cons _ _ _).1 ((h p).2 ((inSp_cons _ _ _).2 (.inr hp))) with h6 | h6
      · omega
      · exact h6
/-- A list with a last element. -/
theorem split_last (o : List (Int × Int)) (h : 0 < o.length) : ∃ t, o = t ++ [spanLast o] := by
  refine ⟨o.take (o.length - 1), ?_⟩
  have hd : o.drop (o.length - 1) = [spanLast o] := by
    unfold spanLast
    rw [List.drop_eq_getElem_cons (by omega), show o.length - 1 + 1 = o.length by omega, List.drop_length, List.getD_eq_getElem?_getD, List.getElem?_eq_getElem (by omega)]
    rfl
  rw [← hd, List.take_append_drop]
theorem Canon.snoc {t : List (Int × Int)} {x : Int × Int} : Canon (t ++ [x]) ↔ Canon t ∧ 1 ≤ x.2 ∧ ∀ q ∈ t, q.1 + q.2 < x.1 := by
  unfold Canon
  rw [List.pairwise_append]
  constructor
  · rintro ⟨⟨h1, _, h2⟩, h3⟩
    exact ⟨⟨h1, fun p hp => h3 p (by simp [hp])⟩, h3 x (by simp), fun q hq => h2 q hq x (by simp)⟩
  · rintro ⟨⟨h1, h2⟩, h3, h4⟩
    refine ⟨⟨h1, List.pairwise_singleton _ _, fun a ha b hb => ?_⟩, fun p hp => ?_⟩
    · rw [List.mem_singleton.1 hb]; exact h4 a ha
    · rcases List.mem_append.1 hp with hp | hp
      · exact h2 p hp
      · rw [List.mem_singleton.1 hp]; exact h3
theorem set_last (t : List (Int × Int)) (x y : Int × Int) : (t ++ [x]).set ((t ++ [x]).length - 1) y = t ++ [y] := by
  rw [List.length_append, List.length_singleton, Nat.add_sub_cancel, List.set_append_right _ _ (Nat.le_refl _), Nat.sub_self]
  rfl
/-- The spans that are merged so far: canonical, of just the places of the spans that were taken in. -/
theorem merge_canon (all : List (Int × Int)) (h0 : ∀ p ∈ all, 0 ≤ p.2) (hs : all.Pairwise (fun a b => a.1 ≤ b.1)) : ∀ k : Nat, k ≤ all.length →
    Canon (mergeTo all k).1 ∧ (∀ p, inSp (mergeTo all k).1 p ↔ inSp (all.take k) p) ∧ (∀ q ∈ (mergeTo all k).1, ∀ x ∈ all.drop k, q.1 ≤ x.1) ∧ (0 < (mergeTo all k).2.2 → (mergeTo all k).2 ∈ all.take k)
  | 0, _ => ⟨⟨List.Pairwise.nil, by simp [mergeTo]⟩, fun p => by simp [mergeTo], by simp [mergeTo], by simp [mergeTo]⟩
  | k + 1, hk => by
    obtain ⟨h1, h2, h3, h4⟩ := merge_canon all h0 hs k (by omega)
    have hd : all.drop k = all[k] :: all.drop (k + 1) := List.drop_eq_getElem_cons (by omega)
    have ht : all.take (k + 1) = all.take k ++ [all[k]] := List.take_succ_eq_append_getElem (by omega)
    have hg : all.getD k (0, 0) = all[k] := by rw [List.getD_eq_getElem?_getD, List.getElem?_eq_getElem (show k < all.length by omega)]; rfl
    have hx0 : 0 ≤ all[k].2 := h0 _ (List.getElem_mem _)
    have hsd : ∀ x ∈ all.drop (k + 1), all[k].1 ≤ x.1 := by
      have := hs.drop (i := k)
      rw [hd] at this
      exact (List.pairwise_cons.1 this).1
    have h3a : ∀ q ∈ (mergeTo all k).1, q.1 ≤ all[k].1 := fun q hq => h3 q hq _ (by rw [hd]; exact List.mem_cons_self)
    have h3b : ∀ q ∈ (mergeTo all k).1, ∀ x ∈ all.drop (k + 1), q.1 ≤ x.1 := fun q hq x hx => h3 q hq x (by rw [hd]; exact List.mem_cons_of_mem _ hx)
    rw [ht]
    unfold mergeTo
    rw [hg]
    generalize mergeTo all k = st at *
    generalize all[k] = x at *
    have hin : ∀ p, inSp (all.take k ++ [x]) p ↔ inSp st.1 p ∨ (x.1 ≤ p ∧ p < x.1 + x.2) := fun p => by rw [inSp_app, inSp_one, h2 p]
    unfold mergeStep
    split
    · rename_i hc
      refine ⟨h1, fun p => ?_, h3b, fun h => by simp [h4 h]⟩
      rw [hin]
      refine ⟨.inl, ?_⟩
      rintro (h | h)
      · exact h
      · simp only [Bool.or_eq_true, beq_iff_eq, Bool.and_eq_true] at hc
        rcases hc with hc | hc
        · omega
        · exact (h2 p).2 ⟨st.2, h4 (by omega), by omega, by omega⟩
    · rename_i hc
      have hx1 : 1 ≤ x.2 := by
        simp only [Bool.or_eq_true, beq_iff_eq, not_or] at hc
        omega
      split
      · rename_i hq
        simp only [Bool.or_eq_true, decide_eq_true_eq] at hq
        have hsep : ∀ q ∈ st.1, q.1 + q.2 < x.1 := by
          rcases hq with hq | hq
          · have : st.1 = [] := List.length_eq_zero_iff.1 hq
            rw [this]
            simp
          · by_cases he : st.1.length = 0
            · have : st.1 = [] := List.length_eq_zero_iff.1 he
              rw [this]
              simp
            · obtain ⟨t, ht2⟩ := split_last st.1 (by omega)
              generalize spanLast st.1 = z at *
              rw [ht2] at h1 ⊢
              obtain ⟨c1, c2, c3⟩ := Canon.snoc.1 h1
              intro q hq2
              rcases List.mem_append.1 hq2 with hq2 | hq2
              · have := c3 q hq2; omega
              · rw [List.mem_singleton.1 hq2]; exact hq
        refine ⟨Canon.snoc.2 ⟨h1, hx1, hsep⟩, fun p => ?_, ?_, fun _ => by simp⟩
        · rw [hin, inSp_app, inSp_one]
        · intro q hq2 y hy
          rcases List.mem_append.1 hq2 with hq2 | hq2
          · exact h3b q hq2 y hy
          · rw [List.mem_singleton.1 hq2]; exact hsd y hy
      · rename_i hq
        simp only [Bool.or_eq_true, decide_eq_true_eq, not_or] at hq
        obtain ⟨t, ht2⟩ := split_last st.1 (by omega)
        have hz1 := h3a _ (spanLast_mem (show 0 < st.1.length by omega))
        generalize spanLast st.1 = z at *
        rw [ht2, set_last]
        rw [ht2] at h1 h3b hin
        obtain ⟨c1, c2, c3⟩ := Canon.snoc.1 h1
        refine ⟨Canon.snoc.2 ⟨c1, by simp only; omega, c3⟩, fun p => ?_, ?_, fun _ => by simp⟩
        · rw [hin, inSp_app, inSp_app, inSp_one, inSp_one, or_assoc]
          refine or_congr Iff.rfl ?_
          simp only
          omega
        · intro q hq2 y hy
          rcases List.mem_append.1 hq2 with hq2 | hq2
          · exact h3b q (by simp [hq2]) y hy
          · rw [List.mem_singleton.1 hq2]
            have := hsd y hy
            simp only
            omega
theorem sorted_perm (s l : List Int) : (sortedSpans s l).Perm (spansTo s l s.length) := List.mergeSort_perm _ _
theorem sorted_pair (s l : List Int) : (sortedSpans s l).Pairwise (fun a b => a.1 ≤ b.1) := by
  refine (List.pairwise_mergeSort leE_trans leE_total _).imp ?_
  intro a b h
  unfold leE at h
  rw [ltE] at h
  simp only [Bool.not_eq_true', Bool.or_eq_false_iff, decide_eq_false_iff_not] at h
  omega
theorem inSp_perm {a b : List (Int × Int)} (h : a.Perm b) (p : Int) : inSp a p ↔ inSp b p := by
  unfold inSp
  constructor
  · rintro ⟨q, hq, h2⟩; exact ⟨q, h.mem_iff.1 hq, h2⟩
  · rintro ⟨q, hq, h2⟩; exact ⟨q, h.mem_iff.2 hq, h2⟩
theorem inSp_spans (s l : List Int) (n : Nat) (p : Int) : inSp (spansTo s l n) p ↔ 0 < cov s l n p := by
  rw [cov_pos]
  unfold inSp spansTo
  constructor
  · rintro ⟨q, hq, h2⟩
    obtain ⟨i, hi, rfl⟩ := List.mem_map.1 hq
    exact ⟨i, List.mem_range.1 hi, h2⟩
  · rintro ⟨i, hi, h2⟩
    exact ⟨_, List.mem_map.2 ⟨i, List.mem_range.2 hi, rfl⟩, h2⟩
theorem spans_pos (s l : List Int) (h : ∀ i : Nat, i < s.length → 0 ≤ rd s (i : Int) ∧ 0 ≤ rd l (i : Int)) : ∀ p ∈ sortedSpans s l, 0 ≤ p.2 := by
  intro p hp
  have := (sorted_perm s l).mem_iff.1 hp
  unfold spansTo at this
  obtain ⟨i, hi, rfl⟩ := List.mem_map.1 this
  exact (h i (List.mem_range.1 hi)).2
/-- What seg.Touched returns: the spans, in canonical form, of the places that are touched. -/
theorem touched_canon (s l : List Int) (h : ∀ i : Nat, i < s.length → 0 ≤ rd s (i : Int) ∧ 0 ≤ rd l (i : Int)) : Canon (touchedG s l) ∧ ∀ p, inSp (touchedG s l) p ↔ 0 < cov s l s.length p := by
  have hl := sortedSpans_length s l
  obtain ⟨h1, h2, _, _⟩ := merge_canon (sortedSpans s l) (spans_pos s l h) (sorted_pair s l) s.length (by omega)
  refine ⟨h1, fun p => ?_⟩
  unfold touchedG
  rw [h2 p, show List.take s.length (sortedSpans s l) = sortedSpans s l from List.take_of_length_le (by omega), inSp_perm (sorted_perm s l), inSp_spans]
theorem incr_uniq : ∀ {a b : List Int}, a.Pairwise (· < ·) → b.Pairwise (· < ·) → (∀ p, p ∈ a ↔ p ∈ b) → a = b
  | [], [], _, _, _ => rfl
  | [], (x :: t), _, _, h => absurd ((h x).2 (by simp)) (by simp)
  | (x :: t), [], _, _, h => absurd ((h x).1 (by simp)) (by simp)
  | (x :: t), (y :: u), ha, hb, h => by
    obtain ⟨a1, a2⟩ := List.pairwise_cons.1 ha
    obtain ⟨b1, b2⟩ := List.pairwise_cons.1 hb
    have e : x = y := by
      rcases List.mem_cons.1 ((h x).1 (by simp)) with h1 | h1
      · exact h1
      · rcases List.mem_cons.1 ((h y).2 (by simp)) with h2 | h2
        · exact h2.symm
        · have := a1 y h2; have := b1 x h1; omega
    subst e
    rw [incr_uniq a2 b2 fun p => ?_]
    constructor
    · intro hp
      have := a1 p hp
      rcases List.mem_cons.1 ((h p).1 (by simp [hp])) with h1 | h1
      · omega
      · exact h1
    · intro hp
      have := b1 p hp
      rcases List.mem_cons.1 ((h p).2 (by simp [hp])) with h1 | h1
      · omega
      · exact h1
/-- The numbers below k of which something is true, increasing. -/
def filtTo (f : Int → Bool) : Nat → List Int
  | 0 => []
  | k + 1 => filtTo f k ++ (if f (k : Int) then [(k : Int)] else [])
theorem filtTo_mem (f : Int → Bool) : ∀ (k : Nat) (x : Int), x ∈ filtTo f k ↔ 0 ≤ x ∧ x < k ∧ f x = true
  | 0, x => by simp [filtTo]; omega
  | k + 1, x => by
    unfold filtTo
    rw [List.mem_append, filtTo_mem f k x]
    cases hf : f (k : Int)
    · simp only [Bool.false_eq_true, if_false, List.not_mem_nil, or_false]
      constructor
      · rintro ⟨h1, h2, h3⟩; exact ⟨h1, by omega, h3⟩
      · rintro ⟨h1, h2, h3⟩
        refine ⟨h1, ?_, h3⟩
        by_cases e : x = (k : Int)
        · rw [e, hf] at h3; cases h3
        · omega
    · simp only [if_true, List.mem_singleton]
      constructor
      · rintro (⟨h1, h2, h3⟩ | rfl)
        · exact ⟨h1, by omega, h3⟩
        · exact ⟨by omega, by omega, hf⟩
      · rintro ⟨h1, h2, h3⟩
        by_cases e : x = (k : Int)
        · exact .inr e
        · exact .inl ⟨h1, by omega, h3⟩
theorem filtTo_incr (f : Int → Bool) : ∀ k : Nat, (filtTo f k).Pairwise (· < ·)
  | 0 => List.Pairwise.nil
  | k + 1 => by
    unfold filtTo
    rw [List.pairwise_append]
    refine ⟨filtTo_incr f k, by split <;> simp, fun a ha b hb => ?_⟩
    have h1 := ((filtTo_mem f k a).1 ha).2.1
    split at hb
    · rw [List.mem_singleton.1 hb]; exact h1
    · simp at hb
def spotsL (o : List (Int × Int)) : List Int := o.flatMap fun q => upTo (fun j => q.1 + j) q.2
theorem spotsTo_eq (sp : List (Int × Int)) : ∀ k : Nat, k ≤ sp.length → spotsTo sp k = spotsL (sp.take k)
  | 0, _ => rfl
  | k + 1, h => by
    rw [spotsTo_succ, spotsTo_eq sp k (by omega), List.take_succ_eq_append_getElem (by omega)]
    unfold spotsL
    rw [List.flatMap_append, List.flatMap_singleton, List.getD_eq_getElem?_getD, List.getElem?_eq_getElem (show k < sp.length by omega)]
    rfl
theorem run_mem (a n x : Int) : x ∈ upTo (fun j => a + j) n ↔ a ≤ x ∧ x < a + n := by
  unfold upTo
  rw [List.mem_map]
  constructor
  · rintro ⟨i, hi, rfl⟩
    have := List.mem_range.1 hi
    simp only
    omega
  · rintro ⟨h1, h2⟩
    exact ⟨(x - a).toNat, List.mem_range.2 (by omega), by simp only; omega⟩
theorem run_incr (a n : Int) : (upTo (fun j => a + j) n).Pairwise (· < ·) := by
  unfold upTo
  rw [List.pairwise_map]
  refine List.pairwise_lt_range.imp ?_
  intro i j h
  simp only
  omega
theorem spots_mem (o : List (Int × Int)) (x : Int) : x ∈ spotsL o ↔ inSp o x := by
  unfold spotsL inSp
  rw [List.mem_flatMap]
  constructor
  · rintro ⟨q, hq, h⟩; exact ⟨q, hq, (run_mem _ _ _).1 h⟩
  · rintro ⟨q, hq, h⟩; exact ⟨q, hq, (run_mem _ _ _).2 h⟩
theorem spots_incr : ∀ o : List (Int × Int), Canon o → (spotsL o).Pairwise (· < ·)
  | [], _ => List.Pairwise.nil
  | q :: o, h => by
    obtain ⟨h1, h2, h3⟩ := canon_tail h
    show (_ ++ spotsL o).Pairwise _
    rw [List.pairwise_append]
    refine ⟨run_incr _ _, spots_incr o h1, fun a ha b hb => ?_⟩
    have := (run_mem _ _ _).1 ha
    have := h3 b ((spots_mem o b).1 hb)
    omega
/-- Is a place touched? -/
def touB (s l : List Int) (k : Int) : Bool := decide (0 < cov s l s.length k)
theorem tou_in (s l : List Int) (size : Int) (hE : sharedE s l size = 0) (k : Int) (h : touB s l k = true) : 0 ≤ k ∧ k < size := by
  obtain ⟨_, e2, e3, e4, e5, e6⟩ := sharedE_ok hE
  unfold touB at h
  obtain ⟨i, h1, h2, h3⟩ := (cov_pos s l s.length k).1 (of_decide_eq_true h)
  have := e6 i h1
  omega
theorem shared_pos (s l : List Int) (size : Int) (hE : sharedE s l size = 0) : ∀ i : Nat, i < s.length → 0 ≤ rd s (i : Int) ∧ 0 ≤ rd l (i : Int) := by
  obtain ⟨_, e2, e3, e4, e5, e6⟩ := sharedE_ok hE
  intro i hi
  have := e6 i hi
  omega
theorem spots_touched (s l : List Int) (size : Nat) (hE : sharedE s l (size : Int) = 0) : spotsTo (touchedG s l) (touchedG s l).length = filtTo (touB s l) size := by
  obtain ⟨h1, h2⟩ := touched_canon s l (shared_pos s l _ hE)
  rw [spotsTo_eq _ _ (Nat.le_refl _), List.take_length]
  refine incr_uniq (spots_incr _ h1) (filtTo_incr _ _) fun p => ?_
  rw [spots_mem, h2, filtTo_mem]
  constructor
  · intro h
    have h3 : touB s l p = true := decide_eq_true h
    have := tou_in s l _ hE p h3
    exact ⟨by omega, by omega, h3⟩
  · rintro ⟨_, _, h⟩
    exact of_decide_eq_true h
def preS (m : List Int) : Nat → Int
  | 0 => 0
  | k + 1 => preS m k + rd m (k : Int)
theorem rd_setn (l : List Int) (i j : Nat) (v : Int) (h : i < l.length) : rd (l.set i v) (j : Int) = if j = i then v else rd l (j : Int) := by
  unfold rd
  rw [Int.toNat_natCast, List.getD_eq_getElem?_getD, List.getElem?_set]
  by_cases e : i = j
  · subst e
    rw [if_pos rfl, if_pos h, if_pos rfl]
    rfl
  · rw [if_neg e, if_neg (fun h => e h.symm), List.getD_eq_getElem?_getD]
theorem sums_rd (m : List Int) : ∀ k : Nat, k < m.length → (sumsTo m k).length = m.length ∧ ∀ x : Nat, rd (sumsTo m k) (x : Int) = if x ≤ k then preS m (x + 1) else rd m (x : Int)
  | 0, _ => ⟨rfl, fun x => by
      by_cases h : x ≤ 0
      · have : x = 0 := by omega
        subst this
        rw [if_pos h]
        unfold preS preS
        rw [Int.zero_add]
        rfl
      · rw [if_neg h]; rfl⟩
  | k + 1, hk => by
    obtain ⟨h1, h2⟩ := sums_rd m k (by omega)
    unfold sumsTo
    refine ⟨by rw [List.length_set, h1], fun x => ?_⟩
    rw [rd_setn (sumsTo m k) (k + 1) x _ (by omega), h2 (k + 1), h2 k, if_neg (show ¬ k + 1 ≤ k by omega), if_pos (show k ≤ k from Nat.le_refl _)]
    by_cases e : x = k + 1
    · subst e
      rw [if_pos rfl, if_pos (Nat.le_refl _)]
      show _ = preS m (k + 1) + rd m ((k + 1 : Nat) : Int)
      omega
    · rw [if_neg e, h2 x]
      by_cases c : x ≤ k
      · rw [if_pos c, if_pos (by omega)]
      · rw [if_neg c, if_neg (by omega)]
theorem marks_rd (n : Nat) (p : List Int) (x : Nat) (h : x < n) : rd (marks (n : Int) p) (x : Int) = if p.any (fun q => q + 1 == (x : Int)) then 1 else 0 := by
  unfold marks
  exact rd_upTo_nat _ n x h
theorem pre_marks (f : Int → Bool) (n : Nat) : ∀ x : Nat, x ≤ n → preS (marks ((n + 1 : Nat) : Int) (filtTo f n)) (x + 1) = (((filtTo f x).length : Nat) : Int)
  | 0, _ => by
    unfold preS preS
    rw [marks_rd _ _ 0 (by omega)]
    have : (filtTo f n).any (fun q => q + 1 == ((0 : Nat) : Int)) = false := by
      rw [List.any_eq_false]
      intro q hq
      have := (filtTo_mem f n q).1 hq
      simp
      omega
    rw [this]
    rfl
  | x + 1, h => by
    unfold preS
    rw [pre_marks f n x (by omega), marks_rd _ _ (x + 1) (by omega)]
    have : (filtTo f n).any (fun q => q + 1 == ((x + 1 : Nat) : Int)) = f (x : Int) := by
      rw [Bool.eq_iff_iff, List.any_eq_true]
      constructor
      · rintro ⟨q, hq, h2⟩
        have e : q = (x : Int) := by have := beq_iff_eq.1 h2; omega
        subst e
        exact ((filtTo_mem f n _).1 hq).2.2
      · intro h2
        exact ⟨(x : Int), (filtTo_mem f n _).2 ⟨by omega, by omega, h2⟩, beq_iff_eq.2 (by omega)⟩
    rw [this]
    show _ = (((_ ++ _ : List Int).length : Nat) : Int)
    rw [List.length_append]
    cases f (x : Int) <;> simp
theorem ahead_rd (s l : List Int) (size : Nat) (hE : sharedE s l (size : Int) = 0) (x : Nat) (hx : x ≤ size) : rd (aheadG s l size) (x : Int) = (((filtTo (touB s l) x).length : Nat) : Int) := by
  unfold aheadG
  rw [spots_touched s l size hE, show (size : Int) + 1 = ((size + 1 : Nat) : Int) by omega]
  have hl : (marks ((size + 1 : Nat) : Int) (filtTo (touB s l) size)).length = size + 1 := by unfold marks; rw [upTo_length]; omega
  rw [(sums_rd _ size (by omega)).2 x, if_pos hx, pre_marks _ _ x hx]
def beginL (s l : List Int) : List Int := upTo (fun i => (((filtTo (touB s l) (rd s i).toNat).length : Nat) : Int)) (s.length : Int)
theorem beginL_length (s l : List Int) : (beginL s l).length = s.length := by unfold beginL; rw [upTo_length]; omega
theorem beginL_rd (s l : List Int) (i : Nat) (h : i < s.length) : rd (beginL s l) (i : Int) = (((filtTo (touB s l) (rd s (i : Int)).toNat).length : Nat) : Int) := by unfold beginL; exact rd_upTo_nat _ _ i h
theorem compact_g (s l : List Int) (size : Nat) (hE : sharedE s l (size : Int) = 0) : seg_Compact.g s l (size : Int) = (beginL s l, filtTo (touB s l) size, 0) := by
  unfold seg_Compact.g
  rw [if_pos hE, Int.toNat_natCast, spots_touched s l size hE]
  have : upTo (fun i => rd (aheadG s l size) (rd s i)) (s.length : Int) = beginL s l := by
    unfold beginL
    refine upTo_ext _ _ _ fun i hi => ?_
    obtain ⟨_, e2, e3, e4, e5, e6⟩ := sharedE_ok hE
    have := e6 i hi
    obtain ⟨q, hq⟩ : ∃ q : Nat, rd s (i : Int) = q := ⟨(rd s (i : Int)).toNat, by omega⟩
    rw [hq, ahead_rd s l size hE q (by omega), Int.toNat_natCast]
  rw [this]
theorem depth_g (s l : List Int) (size : Nat) (hE : sharedE s l (size : Int) = 0) : seg_Depth.g s l (size : Int) = (mostTo s l size, 0) := by
  unfold seg_Depth.g
  rw [if_pos hE, Int.toNat_natCast]
theorem most_succ (s l : List Int) (h : ∀ i : Nat, i < s.length → 0 ≤ rd s (i : Int) ∧ 0 ≤ rd l (i : Int)) (k : Nat) : mostTo s l (k + 1) = max (mostTo s l k) (cov s l s.length (k : Int)) := by
  show max (mostTo s l k) (nowTo s l (k + 1)) = _
  rw [now_cov s l h]
theorem shared_of (s l : List Int) (size : Int) (h1 : s.length ≤ 1048576) (h2 : l.length = s.length) (h3 : 0 ≤ size) (h4 : size ≤ 1048576) (h5 : ttl l ≤ 1048576) (h6 : ∀ i : Nat, i < s.length → 0 ≤ rd s (i : Int) ∧ 0 ≤ rd l (i : Int) ∧ rd s (i : Int) + rd l (i : Int) ≤ size) : sharedE s l size = 0 := by
  have ho : outB size l = false := by
    unfold outB
    rw [List.any_eq_false]
    intro x hx
    obtain ⟨i, hi, rfl⟩ := List.mem_iff_getElem.1 hx
    have := h6 i (by omega)
    rw [rd_get hi] at this
    simp
    omega
  have hb : (List.range s.length).any (badAt s l size) = false := by
    rw [List.any_eq_false]
    intro i hi
    have := h6 i (List.mem_range.1 hi)
    unfold badAt
    simp
    omega
  unfold sharedE
  rw [ho, hb, if_neg (by simp; omega), if_neg (by omega), if_neg (by simp; omega), if_neg (by simp), if_neg (by omega)]
theorem starts_end (q : List Int) (q2 : ∀ n ∈ q, 0 ≤ n) (i : Nat) (hi : i < q.length) : rd (startsL q) (i : Int) = ((startOf q (i : Int) : Nat) : Int) ∧ 0 ≤ rd q (i : Int) ∧ ((startOf q (i : Int) : Nat) : Int) + rd q (i : Int) = ((startOf q ((i + 1 : Nat) : Int) : Nat) : Int) := by
  have h1 := startsL_rd q i hi
  have h2 := startOf_step q i hi
  have h3 := q2 _ (rd_mem q (i : Int) (by omega) (by omega))
  omega
theorem starts_shared (q : List Int) (h0 : chkE q = 0) : sharedE (startsL q) q ((ttl q : Nat) : Int) = 0 := by
  obtain ⟨q1, q2, q3⟩ := chkE_ok h0
  have hl := startsL_length q
  refine shared_of _ _ _ (by omega) (by omega) (by omega) (by omega) q3 fun i hi => ?_
  have := starts_end q q2 i (by omega)
  have := startOf_le_ttl q (i + 1) (by omega)
  omega
theorem cov_starts (q : List Int) (q2 : ∀ n ∈ q, 0 ≤ n) (k : Nat) : ∀ m : Nat, m ≤ q.length → cov (startsL q) q m (k : Int) = if k < startOf q (m : Int) then 1 else 0
  | 0, _ => by
    rw [show ((0 : Nat) : Int) = 0 from rfl, startOf_zero, if_neg (by omega)]
    rfl
  | m + 1, h => by
    have h1 := starts_end q q2 m (by omega)
    unfold cov
    rw [cov_starts q q2 k m (by omega), h1.1]
    have := h1.2
    by_cases c1 : k < startOf q (m : Int) <;> by_cases c2 : k < startOf q ((m + 1 : Nat) : Int)
    · rw [if_pos c1, if_neg (by omega), if_pos c2]; rfl
    · omega
    · rw [if_neg c1, if_pos (by omega), if_pos c2]; rfl
    · rw [if_neg c1, if_neg (by omega), if_neg c2]; rfl
theorem cov_alone (q : List Int) (q2 : ∀ n ∈ q, 0 ≤ n) (k : Nat) : cov (startsL q) q (startsL q).length (k : Int) = if k < ttl q then 1 else 0 := by
  rw [startsL_length]
  exact cov_starts q q2 k _ (Nat.le_refl _)
def iota (n : Nat) : List Int := upTo (fun x => x) (n : Int)
theorem iota_succ (n : Nat) : iota (n + 1) = iota n ++ [(n : Int)] := by
  unfold iota
  rw [show ((n + 1 : Nat) : Int) = (n : Int) + 1 by omega, upTo_succ _ _ (by omega)]
theorem iota_app (a : Nat) : ∀ b : Nat, iota (a + b) = iota a ++ upTo (fun k => (a : Int) + k) (b : Int)
  | 0 => by simp [upTo]
  | b + 1 => by
    rw [← Nat.add_assoc, iota_succ, iota_app a b, show ((b + 1 : Nat) : Int) = (b : Int) + 1 by omega, upTo_succ _ _ (by omega), List.append_assoc]
    congr 3
theorem places_starts (q : List Int) (q2 : ∀ n ∈ q, 0 ≤ n) : ∀ m : Nat, m ≤ q.length → placesTo (startsL q) q m = iota (startOf q (m : Int))
  | 0, _ => rfl
  | m + 1, h => by
    have h1 := starts_end q q2 m (by omega)
    have h2 := startOf_step q m (by omega)
    rw [placesTo_succ, places_starts q q2 m (by omega), h1.1, h2, iota_app]
    congr 2
    omega
theorem filt_all (f : Int → Bool) (n : Nat) (h : ∀ k : Nat, k < n → f (k : Int) = true) : ∀ k : Nat, k ≤ n → filtTo f k = iota k
  | 0, _ => rfl
  | k + 1, hk => by
    unfold filtTo
    rw [filt_all f n h k (by omega), if_pos (h k (by omega)), iota_succ]
theorem iota_length (n : Nat) : (iota n).length = n := by unfold iota; rw [upTo_length]; omega
theorem tou_alone (q : List Int) (q2 : ∀ n ∈ q, 0 ≤ n) (k : Nat) (h : k < ttl q) : touB (startsL q) q (k : Int) = true := by
  unfold touB
  rw [cov_alone q q2 k, if_pos h]
  rfl
theorem places_alone (q : List Int) (h0 : chkE q = 0) : seg_Places.g (startsL q) q ((ttl q : Nat) : Int) = (iota (ttl q), 0) := by
  unfold seg_Places.g
  rw [if_pos (starts_shared q h0), startsL_length, places_starts q (chkE_ok h0).2.1 _ (Nat.le_refl _)]
  rfl
theorem compact_alone (q : List Int) (h0 : chkE q = 0) : seg_Compact.g (startsL q) q ((ttl q : Nat) : Int) = (startsL q, iota (ttl q), 0) := by
  have q2 := (chkE_ok h0).2.1
  have hf := filt_all (touB (startsL q) q) (ttl q) (tou_alone q q2)
  rw [compact_g _ _ _ (starts_shared q h0), hf _ (Nat.le_refl _)]
  have e : beginL (startsL q) q = startsL q := by
    refine list_rd_ext (beginL_length _ _) fun i hi => ?_
    rw [beginL_length] at hi
    rw [beginL_rd _ _ i hi]
    rw [startsL_length] at hi
    have := startOf_le_ttl q i (by omega)
    rw [startsL_rd q i hi, Int.toNat_natCast, hf _ this, iota_length]
  rw [e]
theorem depth_alone (q : List Int) (h0 : chkE q = 0) : seg_Depth.g (startsL q) q ((ttl q : Nat) : Int) = (((min (ttl q) 1 : Nat) : Int), 0) := by
  have q2 := (chkE_ok h0).2.1
  have hE := starts_shared q h0
  rw [depth_g _ _ _ hE]
  have H : ∀ k : Nat, k ≤ ttl q → mostTo (startsL q) q k = ((min k 1 : Nat) : Int) := fun k => by
    induction k with
    | zero => intro _; rfl
    | succ k ih =>
      intro hk
      rw [most_succ _ _ (shared_pos _ _ _ hE), ih (by omega), cov_alone q q2 k, if_pos (by omega)]
      omega
  rw [H _ (Nat.le_refl _)]
theorem touched_alone (q : List Int) (h0 : chkE q = 0) : seg_Touched.g (startsL q) q ((ttl q : Nat) : Int) = (if ttl q = 0 then [] else [(0, ((ttl q : Nat) : Int))], 0) := by
  have q2 := (chkE_ok h0).2.1
  have hE := starts_shared q h0
  unfold seg_Touched.g
  rw [if_pos hE]
  obtain ⟨h1, h2⟩ := touched_canon (startsL q) q (shared_pos _ _ _ hE)
  have hc : Canon (if ttl q = 0 then [] else [(0, ((ttl q : Nat) : Int))]) := by
    split
    · exact ⟨List.Pairwise.nil, by simp⟩
    · exact ⟨List.pairwise_singleton _ _, fun p hp => by rw [List.mem_singleton.1 hp]; simp only; omega⟩
  rw [Canon.uniq h1 hc fun p => ?_]
  rw [h2]
  have e : 0 < cov (startsL q) q (startsL q).length p ↔ 0 ≤ p ∧ p < ((ttl q : Nat) : Int) := by
    constructor
    · intro h
      have := tou_in _ _ _ hE p (decide_eq_true h)
      exact this
    · rintro ⟨a, b⟩
      obtain ⟨k, rfl⟩ : ∃ k : Nat, p = k := ⟨p.toNat, by omega⟩
      rw [cov_alone q q2 k, if_pos (by omega)]
      omega
  rw [e]
  split
  · constructor
    · intro h; omega
    · intro h; exact absurd h (inSp_nil p)
  · rw [inSp_one]
    simp only
    omega
theorem ev_Upto (n : Nat) (hn : n ≤ 1048576) : Ev (fun k => r00_Upto.f k (n : Int)) (iota n) := by
  have H := up (n := n) (P := fun i => Ev (fun k => r00_Upto.l0 k (n : Int) (iota i) (i : Int)) (iota n))
    (Ev.step (f := fun _ => some (iota n)) (fun k => by simp only [r00_Upto.l0]; rw [if_neg (by omega)]) (Ev.now _))
    (fun i hi ih => by
      have hl := iota_length i
      rw [iota_succ] at ih
      refine Ev.step (f := fun k => r00_Upto.l0 k (n : Int) (iota i ++ [(i : Int)]) ((i + 1 : Nat) : Int)) (fun k => ?_) ih
      simp only [r00_Upto.l0]
      rw [if_pos (by omega), if_pos (by omega), wsucc hi (by omega)]) 0 (Nat.zero_le _)
  exact H
theorem ev_same1 (x : SpanS) : Ev (fun k => w02_same.f k [x] [x]) true := by
  refine Ev.congr (f := fun k => w02_same.l0 k [x] [x] true 0) (fun k => ?_) ?_
  · unfold w02_same.f; rfl
  · refine Ev.step (f := fun k => w02_same.l0 k [x] [x] true 1) (fun k => ?_) ?_
    · simp only [w02_same.l0, if_true]
      rw [if_pos (by simp), if_pos (by omega), if_pos (by simp)]
      simp only [BEq.rfl, Bool.and_self]
      rw [show wrap64 (0 + 1) = 1 by decide +kernel]
    · refine Ev.step (f := fun _ => some true) (fun k => ?_) (Ev.now _)
      simp only [w02_same.l0, if_true]
      rw [if_neg (by simp)]
theorem SegAlone : w02_SegAlone.Pure := by
  intro l0 _ h1 _
  have s0 : Sh l0 := by unfold Sh; omega
  obtain ⟨q, hq, hq1, hq2, h0⟩ := ev_some l0 s0
  obtain ⟨q1, q2, q3⟩ := chkE_ok h0
  have H : Ev (fun k => w02_SegAlone.f k l0) true := by
    unfold w02_SegAlone.f
    refine Ev.bind hq ?_
    have e1 : seg_Check.g q = (((ttl q : Nat) : Int), 0) := by unfold seg_Check.g; rw [if_pos h0]
    have e2 : seg_Starts.g q = (startsL q, 0) := by unfold seg_Starts.g; rw [if_pos h0]; rfl
    have e3 := places_alone q h0
    have e4 := depth_alone q h0
    have e5 := compact_alone q h0
    have e6 := touched_alone q h0
    simp only [rCheck.f, rStarts.f, e1, e2, Option.bind_some, if_true, bne_self_eq_false]
    have hmn : mn ((ttl q : Nat) : Int) 1 = ((min (ttl q) 1 : Nat) : Int) := by unfold mn; split <;> omega
    refine Ev.step (f := fun k => (r00_Upto.f k ((ttl q : Nat) : Int)).bind fun t143 => ((Eq_.f (iota (ttl q)) t143).bind fun t146 => (if t146 = true then (w02_SegAlone.j1 k ((ttl q : Nat) : Int) ((if ttl q = 0 then [] else [(0, ((ttl q : Nat) : Int))]).map ofP) false) else (w02_SegAlone.j1 k ((ttl q : Nat) : Int) ((if ttl q = 0 then [] else [(0, ((ttl q : Nat) : Int))]).map ofP) true)))) (fun k => ?_) ?_
    · simp only [w02_SegAlone.j0, Bool.false_eq_true, if_false, rPlaces.f, rDepth.f, rCompact.f, sTouched.f, e3, e4, e5, e6, Option.bind_some, if_true, Eq_.f, BEq.rfl, hmn, bne_self_eq_false]
    · refine Ev.bind (ev_Upto (ttl q) q3) ?_
      simp only [Eq_.f, BEq.rfl, Option.bind_some, if_true]
      by_cases hz : ttl q = 0
      · refine Ev.step (f := fun _ => some true) (fun k => ?_) (Ev.now _)
        simp only [w02_SegAlone.j1, Bool.false_eq_true, if_false]
        rw [if_pos hz, if_pos (by omega)]
        rfl
      · rw [if_neg hz]
        refine Ev.step (f := fun k => (w02_same.f k [ofP (0, ((ttl q : Nat) : Int))] [ofP (0, ((ttl q : Nat) : Int))]).bind fun t158 => (if t158 = true then ((law_cut.f).bind fun t159 => (some t159)) else (none))) (fun k => ?_) ?_
        · simp only [w02_SegAlone.j1, Bool.false_eq_true, if_false]
          rw [if_neg (by omega)]
          rfl
        · refine Ev.bind (ev_same1 _) ?_
          simp only [if_true, law_cut.f, Option.bind_some]
          exact Ev.now _
  exact H.rounds
end Go.Proofs.Ythalgcpohnknbaa.Pure
