/- PrimMoves: Gather, Put and Rep return what the references return, for any two lists; it is told of numbers and lists alone. -/
import Derived.Test.YtpimackoadfcmaaDoorPPrimMovesx
namespace Go.Proofs.YtpimackoadfcmaaDoor.Pure
open Go.RowKit Go.Proofs.YtpimackoadfcmaaDoor.PPrimMoves Go.Proofs.YtpimackoadfcmaaDoor.Hand Go.Proofs.YtpimackoadfcmaaDoorW.PrintWords Go.Proofs.YtpimackoadfcmaaDoorW.PrintLast Go.Proofs.YtpimackoadfcmaaDoorW.PrintMore
set_option linter.unusedVariables false
set_option linter.unusedSimpArgs false
/-- Lists so short that a place's successor is no other number. -/
def Sh {α : Type} (l : List α) : Prop := l.length ≤ 4611686018427387904
theorem wsucc {i n : Nat} (h : i < n) (hn : n ≤ 4611686018427387904) : wrap64 ((i : Int) + 1) = ((i + 1 : Nat) : Int) := by unfold wrap64; omega
theorem rd_get {l : List Int} {i : Nat} (h : i < l.length) : rd l (i : Int) = l[i] := by simp [rd, h]
theorem rdL_get {l : List (List Int)} {i : Nat} (h : i < l.length) : rd_L1 l (i : Int) = l[i] := by simp [rd_L1, h]
theorem drop_rd {l : List Int} {i : Nat} (h : i < l.length) : l.drop i = rd l (i : Int) :: l.drop (i + 1) := by rw [List.drop_eq_getElem_cons h, rd_get h]
theorem drop_rdL {l : List (List Int)} {i : Nat} (h : i < l.length) : l.drop i = rd_L1 l (i : Int) :: l.drop (i + 1) := by rw [List.drop_eq_getElem_cons h, rdL_get h]
theorem up {n : Nat} {P : Nat → Prop} (h0 : P n) (hs : ∀ i, i < n → P (i + 1) → P i) (i : Nat) (hi : i ≤ n) : P i := by
  have key : ∀ d, ∀ i, i + d = n → P i := by
    intro d
    induction d with
    | zero => intro i h; have : i = n := by omega
              subst this; exact h0
    | succ d ih => intro i h; exact hs i (by omega) (ih (i + 1) (by omega))
  exact key (n - i) i (by omega)
theorem f_Lies (a b c : Int) : r00_Lies.f a b c = some (decide (b ≤ a) && decide (a ≤ c)) := by unfold r00_Lies.f; split <;> simp [*]
theorem f_IsWord (n : Int) : r00_IsWord.f n = some (isWordB n) := by unfold r00_IsWord.f; rw [f_Lies]; rfl
theorem ev_Words (l : List Int) (hl : Sh l) : Ev (fun k => r00_Words.f k l) (!noWords l) := by
  have H := up (n := l.length) (P := fun i => Ev (fun k => r00_Words.l0 k l (i : Int)) (!noWords (l.drop i)))
    (Ev.step (f := fun _ => some true) (fun k => by simp only [r00_Words.l0]; rw [if_neg (by omega)]) (by rw [List.drop_length]; exact Ev.now _))
    (fun i hi ih => by
      cases hw : isWordB (rd l (i : Int))
      · rw [drop_rd hi]
        refine Ev.step (f := fun _ => some false) (fun k => ?_) (by simp only [noWords, List.any_cons, hw]; exact Ev.now _)
        simp only [r00_Words.l0]; rw [if_pos (by omega), if_pos (by omega), f_IsWord, hw]; rfl
      · rw [drop_rd hi]
        refine Ev.step (f := fun k => r00_Words.l0 k l ((i + 1 : Nat) : Int)) (fun k => ?_) (by simp only [noWords, List.any_cons, hw]; exact ih)
        simp only [r00_Words.l0]; rw [if_pos (by omega), if_pos (by omega), f_IsWord, hw, wsucc hi hl]; rfl) 0 (Nat.zero_le _)
  exact H
theorem ev_Lists (ls : List (List Int)) (hl : Sh ls) (hw : ∀ l ∈ ls, Sh l) : Ev (fun k => r04_Lists.f k ls) (wordsE ls true) := by
  have H1 := up (n := ls.length) (P := fun i => Ev (fun k => r04_Lists.l1 k ls (i : Int)) (if (ls.drop i).any noWords then 2 else 0))
    (Ev.step (f := fun _ => some 0) (fun k => by simp only [r04_Lists.l1]; rw [if_neg (by omega)]) (by rw [List.drop_length]; exact Ev.now _))
    (fun i hi ih => by
      obtain ⟨K1, h1⟩ := ev_Words (rd_L1 ls (i : Int)) (hw _ (by rw [rdL_get hi]; exact List.getElem_mem _))
      rw [drop_rdL hi]
      cases hn : noWords (rd_L1 ls (i : Int)) <;> rw [hn] at h1
      · obtain ⟨K2, h2⟩ := ih
        refine ⟨K1 + K2 + 1, fun k hk => ?_⟩
        obtain ⟨k, rfl⟩ : ∃ m, k = m + 1 := ⟨k - 1, by omega⟩
        have h1 := h1 k (by omega)
        have h2 := h2 k (by omega)
        simp only at h1 h2
        simp only [r04_Lists.l1]; rw [if_pos (by omega), if_pos (by omega), h1, wsucc hi hl]
        simp only [List.any_cons, hn, Bool.false_or]
        exact h2
      · refine ⟨K1 + 1, fun k hk => ?_⟩
        obtain ⟨k, rfl⟩ : ∃ m, k = m + 1 := ⟨k - 1, by omega⟩
        have h1 := h1 k (by omega)
        simp only at h1
        simp only [r04_Lists.l1]; rw [if_pos (by omega), if_pos (by omega), h1]
        simp only [List.any_cons, hn, Bool.true_or]
        rfl) 0 (Nat.zero_le _)
  have H := up (n := ls.length) (P := fun i => Ev (fun k => r04_Lists.l0 k ls (i : Int)) (if (ls.drop i).any (fun l => decide (1048576 < l.length)) then 3 else if ls.any noWords then 2 else 0))
    (Ev.step (f := fun k => r04_Lists.l1 k ls 0) (fun k => by simp only [r04_Lists.l0]; rw [if_neg (by omega)]) (by rw [List.drop_length]; exact H1))
    (fun i hi ih => by
      rw [drop_rdL hi]
      by_cases hn : 1048576 < (rd_L1 ls (i : Int)).length
      · refine Ev.step (f := fun _ => some 3) (fun k => ?_) (by simp only [List.any_cons, hn, decide_true, Bool.true_or]; exact Ev.now _)
        simp only [r04_Lists.l0]; rw [if_pos (by omega), if_pos (by omega), if_pos (by omega)]
      · refine Ev.step (f := fun k => r04_Lists.l0 k ls ((i + 1 : Nat) : Int)) (fun k => ?_) (by simp only [List.any_cons, hn, decide_false, Bool.false_or]; exact ih)
        simp only [r04_Lists.l0]; rw [if_pos (by omega), if_pos (by omega), if_neg (by omega), wsucc hi hl]) 0 (Nat.zero_le _)
  exact H
def sameLen (ls : List (List Int)) : Bool := ls.all (fun l => l.length == (ls.getD 0 []).length)
theorem wordsE_fit (ls : List (List Int)) (b : Bool) (h : wordsE ls true = 0) : wordsE ls b = if b then 0 else 6 := by
  unfold wordsE at h ⊢
  split at h
  · cases h
  · rename_i h1
    split at h
    · cases h
    · rename_i h2
      rw [if_neg h1, if_neg h2]
theorem wordsE_bad (ls : List (List Int)) (b : Bool) (h : wordsE ls true ≠ 0) : wordsE ls b = wordsE ls true := by
  unfold wordsE at h ⊢
  split
  · rfl
  · split
    · rfl
    · rename_i h1 h2
      rw [if_neg h1, if_neg h2] at h
      exact absurd rfl h
theorem ev_alike (ls : List (List Int)) (hl : Sh ls) (hw : ∀ l ∈ ls, Sh l) : Ev (fun k => r04_alike.f k ls) (wordsE ls (sameLen ls)) := by
  obtain ⟨K, hK⟩ := ev_Lists ls hl hw
  by_cases h0 : wordsE ls true = 0
  · have H := up (n := ls.length) (P := fun i => Ev (fun k => r04_alike.l0 k ls (i : Int)) (if (ls.drop i).all (fun l => l.length == (ls.getD 0 []).length) then 0 else 6))
      (Ev.step (f := fun _ => some 0) (fun k => by simp only [r04_alike.l0]; rw [if_neg (by omega)]) (by rw [List.drop_length]; exact Ev.now _))
      (fun i hi ih => by
        rw [drop_rdL hi]
        have e0 : rd_L1 ls 0 = ls.getD 0 [] := rfl
        by_cases hn : (rd_L1 ls (i : Int)).length = (ls.getD 0 []).length
        · refine Ev.step (f := fun k => r04_alike.l0 k ls ((i + 1 : Nat) : Int)) (fun k => ?_) (by simp only [List.all_cons, hn, BEq.rfl, Bool.true_and]; exact ih)
          simp only [r04_alike.l0]; rw [if_pos (by omega), if_pos (by omega), if_pos (by omega), e0, if_pos (by omega), wsucc hi hl]
        · refine Ev.step (f := fun _ => some 6) (fun k => ?_) (by simp only [List.all_cons, beq_eq_false_iff_ne.2 hn, Bool.false_and]; exact Ev.now _)
          simp only [r04_alike.l0]; rw [if_pos (by omega), if_pos (by omega), if_pos (by omega), e0, if_neg (by omega)]) 0 (Nat.zero_le _)
    obtain ⟨K2, h2⟩ := H
    refine ⟨K + K2, fun k hk => ?_⟩
    have h1 := hK k (by omega)
    have h2 := h2 k (by omega)
    simp only [h0] at h1
    simp only [r04_alike.f, h1, Option.bind_some, if_true]
    rw [wordsE_fit _ _ h0]
    exact h2
  · refine ⟨K, fun k hk => ?_⟩
    have h1 := hK k hk
    simp only at h1
    simp only [r04_alike.f, h1, Option.bind_some]
    rw [if_neg h0, wordsE_bad ls (sameLen ls) h0]
theorem Sh.two {α : Type} (a b : α) : Sh [a, b] := by simp [Sh]
theorem Sh.all2 {a b : List Int} (ha : Sh a) (hb : Sh b) : ∀ l ∈ [a, b], Sh l := by intro l hl; simp at hl; rcases hl with rfl | rfl <;> assumption
theorem upTo_nat (val : Int → Int) (i : Nat) : upTo val ((i + 1 : Nat) : Int) = upTo val (i : Int) ++ [val (i : Int)] := by
  have := upTo_succ val (i : Int) (by omega)
  rw [← this]; rfl
/-- A loop that puts what a place gives behind the others, or ends with an error. -/
theorem ev_loop {F : Nat → List Int → Int → Option (List Int × Int)} (n : Nat) (val : Int → Int) (okb : Int → Bool)
    (hend : ∀ k xs, F (k + 1) xs (n : Int) = some (xs, 0))
    (hstep : ∀ i : Nat, i < n → okb (i : Int) = true → ∃ K, ∀ k, K ≤ k → ∀ xs : List Int, xs.length = i → F (k + 1) xs (i : Int) = F k (xs ++ [val (i : Int)]) ((i + 1 : Nat) : Int))
    (hbad : ∀ i : Nat, i < n → okb (i : Int) = false → ∃ K, ∀ k, K ≤ k → ∀ xs : List Int, xs.length = i → F (k + 1) xs (i : Int) = some ([], 14)) :
    Ev (fun k => F k [] 0) (allOf n val okb) := by
  have H := up (n := n) (P := fun i => (∀ j : Nat, j < i → okb (j : Int) = true) → Ev (fun k => F k (upTo val (i : Int)) (i : Int)) (allOf n val okb))
    (fun h => by
      rw [allOf_yes n val okb (fun j h0 h1 => by have := h j.toNat (by omega); rwa [Int.toNat_of_nonneg h0] at this)]
      exact Ev.step (f := fun _ => some (upTo val (n : Int), 0)) (fun k => hend k _) (Ev.now _))
    (fun i hi ih hall => by
      have hlen : (upTo val (i : Int)).length = i := by rw [upTo_length]; simp
      cases ho : okb (i : Int)
      · obtain ⟨K, hK⟩ := hbad i hi ho
        rw [allOf_no n val okb (i : Int) (by omega) (by omega) ho]
        refine ⟨K + 1, fun k hk => ?_⟩
        obtain ⟨k, rfl⟩ : ∃ m, k = m + 1 := ⟨k - 1, by omega⟩
        exact hK k (by omega) _ hlen
      · obtain ⟨K, hK⟩ := hstep i hi ho
        obtain ⟨K2, h2⟩ := ih (fun j hj => by
          by_cases e : j = i
          · subst e; exact ho
          · exact hall j (by omega))
        refine ⟨K + K2 + 1, fun k hk => ?_⟩
        obtain ⟨k, rfl⟩ : ∃ m, k = m + 1 := ⟨k - 1, by omega⟩
        have h2 := h2 k (by omega)
        simp only at h2
        show F (k + 1) _ _ = _
        rw [hK k (by omega) _ hlen, ← upTo_nat]
        exact h2) 0 (Nat.zero_le _) (fun j hj => by omega)
  exact H
/-- What comes behind the check of the lists. -/
theorem ev_after {α : Type} {g : Nat → Option Int} {e : Int} (hg : Ev g e) {F : Nat → Option α} {bad : Int → α} {H : Nat → Option α} (hF : ∀ k, F k = (g k).bind fun t => if t = 0 then H k else some (bad t)) {r : α} (h0 : e = 0 → Ev H r) (h1 : e ≠ 0 → r = bad e) : Ev F r := by
  refine Ev.congr hF ?_
  refine Ev.bind hg ?_
  by_cases h : e = 0
  · simp only [h, if_true]; exact h0 h
  · simp only [h, if_false]; rw [h1 h]; exact Ev.now _
theorem same2 (a b : List Int) : ((a.length : Int) == (b.length : Int)) = sameLen [a, b] := by
  rw [Bool.eq_iff_iff]
  simp [sameLen]
  omega
theorem ev_Gather (a p : List Int) (h1 : Sh a) (h2 : Sh p) : Ev (fun k => r04_Gather.f k a p) (prim_Gather.g a p) := by
  unfold prim_Gather.g
  refine ev_after (bad := fun t => ([], t)) (ev_Lists [a, p] (Sh.two _ _) (Sh.all2 h1 h2)) (fun k => rfl) (fun h => ?_) (fun h => by rw [if_neg h])
  rw [if_pos h]
  have hlen := (wordsE_ok h).1 a (by simp)
  have hlen2 := (wordsE_ok h).1 p (by simp)
  have hw : wrap64 ((a.length : Int) - 1) = (a.length : Int) - 1 := by unfold wrap64; omega
  have hl : ∀ n : Int, r00_Lies.f n 0 (wrap64 ((a.length : Int) - 1)) = some (inB a.length n) := by
    intro n
    rw [f_Lies, hw]
    congr 1
    unfold inB
    congr 1
    by_cases h : n < (a.length : Int) <;> simp [h] <;> omega
  refine ev_loop (F := fun k xs i => r04_Gather.l0 k a p xs i) p.length _ _ (fun k xs => by simp only [r04_Gather.l0]; rw [if_neg (by omega)]) (fun i hi ho => ⟨0, fun k _ xs hx => ?_⟩) (fun i hi ho => ⟨0, fun k _ xs hx => ?_⟩)
  · simp only [r04_Gather.l0]; rw [if_pos (by omega), if_pos (by omega), hl, ho]
    simp only [Option.bind_some, if_true]
    have ho2 := ho
    simp only [inB, Bool.and_eq_true, decide_eq_true_eq] at ho2
    rw [if_pos ho2.1, if_pos ho2.2, if_pos (by omega), wsucc hi (by omega)]
    unfold gatherAt
    rw [if_pos ho]
  · simp only [r04_Gather.l0]; rw [if_pos (by omega), if_pos (by omega), hl, ho]
    simp
theorem take_rd {l : List Int} {i : Nat} (h : i < l.length) : l.take (i + 1) = l.take i ++ [rd l (i : Int)] := by
  rw [rd_get h, List.take_add_one, List.getElem?_eq_getElem h]; rfl
theorem sum_bound (l : List Int) (B : Int) (h : ∀ x ∈ l, -B ≤ x ∧ x ≤ B) : -(l.length * B) ≤ l.sum ∧ l.sum ≤ l.length * B := by
  induction l with
  | nil => simp
  | cons a l ih =>
    have h1 := ih (fun x hx => h x (List.mem_cons_of_mem _ hx))
    have h2 := h a (List.mem_cons_self)
    rw [List.sum_cons, List.length_cons]
    have e : ((l.length + 1 : Nat) : Int) * B = l.length * B + B := by rw [Int.natCast_add, Int.add_mul]; simp
    rw [e]
    omega
theorem ev_Sum (l : List Int) (hl : l.length ≤ 1048576) (hb : ∀ x ∈ l, -4294967296 ≤ x ∧ x ≤ 4294967296) : Ev (fun k => r00_Sum.f k l) l.sum := by
  have H := up (n := l.length) (P := fun i => Ev (fun k => r00_Sum.l0 k l (l.take i).sum (i : Int)) l.sum)
    (Ev.step (f := fun _ => some l.sum) (fun k => by simp only [r00_Sum.l0]; rw [if_neg (by omega), List.take_length]) (Ev.now _))
    (fun i hi ih => by
      refine Ev.step (f := fun k => r00_Sum.l0 k l (l.take (i + 1)).sum ((i + 1 : Nat) : Int)) (fun k => ?_) ih
      have h1 := sum_bound (l.take (i + 1)) 4294967296 (fun x hx => hb x (List.mem_of_mem_take hx))
      have h2 : (l.take (i + 1)).length ≤ 1048576 := by rw [List.length_take]; omega
      have e : (l.take (i + 1)).sum = (l.take i).sum + rd l (i : Int) := by rw [take_rd hi, List.sum_append]; simp
      have e2 : wrap64 ((l.take i).sum + rd l (i : Int)) = (l.take (i + 1)).sum := by
        rw [← e]
        generalize (l.take (i + 1)).sum = S at h1
        generalize (l.take (i + 1)).length = n at h1 h2
        unfold wrap64
        omega
      simp only [r00_Sum.l0]; rw [if_pos (by omega), if_pos (by omega), e2, wsucc hi (by omega)]) 0 (Nat.zero_le _)
  exact H
theorem isWordB_iff (n : Int) : isWordB n = true ↔ -2147483648 ≤ n ∧ n ≤ 2147483647 := by simp [isWordB]
theorem ev_counts (l : List Int) (hl : l.length ≤ 1048576) (hb : ∀ x ∈ l, isWordB x = true) : Ev (fun k => r04_counts.f k l) (if l.any (fun n => decide (n < 0)) then 14 else if l.sum > 1048576 then 9 else 0) := by
  have hs := ev_Sum l hl (fun x hx => by have := (isWordB_iff x).1 (hb x hx); omega)
  have H := up (n := l.length) (P := fun i => Ev (fun k => r04_counts.l0 k l (i : Int)) (if (l.drop i).any (fun n => decide (n < 0)) then 14 else if l.sum > 1048576 then 9 else 0))
    (Ev.step (f := fun k => (r00_Sum.f k l).bind fun t255 => (if t255 > 1048576 then (some 9) else (some 0))) (fun k => by simp only [r04_counts.l0]; rw [if_neg (by omega)]) (by
      rw [List.drop_length]
      refine Ev.bind hs ?_
      by_cases h : l.sum > 1048576
      · simp only [h, if_true, List.any_nil]; exact Ev.now _
      · simp only [h, if_false, List.any_nil]; exact Ev.now _))
    (fun i hi ih => by
      rw [drop_rd hi]
      by_cases hn : rd l (i : Int) < 0
      · refine Ev.step (f := fun _ => some 14) (fun k => ?_) (by simp only [List.any_cons, hn, decide_true, Bool.true_or]; exact Ev.now _)
        simp only [r04_counts.l0]; rw [if_pos (by omega), if_pos (by omega), if_pos hn]
      · refine Ev.step (f := fun k => r04_counts.l0 k l ((i + 1 : Nat) : Int)) (fun k => ?_) (by simp only [List.any_cons, hn, decide_false, Bool.false_or]; exact ih)
        simp only [r04_counts.l0]; rw [if_pos (by omega), if_pos (by omega), if_neg hn, wsucc hi (by omega)]) 0 (Nat.zero_le _)
  exact H
theorem nonneg {l : List Int} (h : (l.any fun n => decide (n < 0)) = false) : ∀ x ∈ l, 0 ≤ x := by
  intro x hx
  have := List.any_eq_false.1 h x hx
  simpa using this
theorem repTo_nat (l r : List Int) (i : Nat) : repTo l r ((i + 1 : Nat) : Int) = repTo l r (i : Int) ++ List.replicate (rd r (i : Int)).toNat (rd l (i : Int)) := by
  have := repTo_succ l r (i : Int) (by omega)
  rw [← this]; rfl
theorem repTo_sum (l r : List Int) (h : ∀ x ∈ r, 0 ≤ x) : ∀ i : Nat, i ≤ r.length → ((repTo l r (i : Int)).length : Int) = (r.take i).sum
  | 0, _ => by simp [repTo]
  | i + 1, hi => by
    have hlt : i < r.length := by omega
    have ih := repTo_sum l r h i (by omega)
    have := h _ (rd_mem r (i : Int) (by omega) (by omega))
    rw [repTo_nat, List.length_append, List.length_replicate, take_rd hlt, List.sum_append, Int.natCast_add, ih]
    simp
    omega
theorem ev_Rep (l r : List Int) (h1 : Sh l) (h1r : Sh r) : Ev (fun k => r04_Rep.f k l r) (prim_Rep.g l r) := by
  unfold prim_Rep.g
  rw [same2]
  refine ev_after (bad := fun t => ([], t)) (ev_alike [l, r] (Sh.two _ _) (Sh.all2 h1 h1r)) (fun k => rfl) (fun h => ?_) (fun h => by rw [if_neg h])
  rw [if_pos h]
  have hok := wordsE_ok h
  have hlen := hok.1 l (by simp)
  have hlenr := hok.1 r (by simp)
  have hwd := hok.2.1 r (by simp)
  have hsame := hok.2.2
  rw [← same2] at hsame
  have hsame : l.length = r.length := by simp at hsame; omega
  refine ev_after (bad := fun t => ([], t)) (ev_counts r hlenr hwd) (fun k => rfl) (fun h2 => ?_) (fun h2 => ?_)
  · cases hn : (r.any fun n => decide (n < 0)) with
    | true => rw [hn] at h2; cases h2
    | false =>
      rw [hn] at h2
      have hnn := nonneg hn
      have hs : ¬ r.sum > 1048576 := by intro hh; simp [hh] at h2
      have e := repTo_sum l r hnn r.length (Nat.le_refl _)
      rw [List.take_length] at e
      rw [← hsame] at e
      simp only [Bool.false_eq_true, if_false]
      rw [if_pos (by omega)]
      have H := up (n := l.length) (P := fun i => Ev (fun k => r04_Rep.l0 k l r (repTo l r (i : Int)) (i : Int)) (repTo l r l.length, 0))
        (Ev.step (f := fun _ => some (repTo l r l.length, 0)) (fun k => by simp only [r04_Rep.l0]; rw [if_neg (by omega)]) (Ev.now _))
        (fun i hi ih => by
          have hx := (isWordB_iff _).1 (hwd _ (rd_mem r (i : Int) (by omega) (by omega)))
          have hm := repTo_mono l r ((i + 1 : Nat) : Int) l.length (by omega) (by omega)
          rw [repTo_nat, List.length_append, List.length_replicate] at hm
          have H2 := up (n := (rd r (i : Int)).toNat) (P := fun j => Ev (fun k => r04_Rep.l1 k l r (repTo l r (i : Int) ++ List.replicate j (rd l (i : Int))) (i : Int) (j : Int)) (repTo l r l.length, 0))
            (Ev.step (f := fun k => r04_Rep.l0 k l r (repTo l r ((i + 1 : Nat) : Int)) ((i + 1 : Nat) : Int)) (fun k => by
              simp only [r04_Rep.l1]; rw [if_pos (by omega), if_pos (by omega), if_neg (by omega), ← repTo_nat, wsucc hi (by omega)]) ih)
            (fun j hj ihj => by
              refine Ev.step (f := fun k => r04_Rep.l1 k l r (repTo l r (i : Int) ++ List.replicate (j + 1) (rd l (i : Int))) (i : Int) ((j + 1 : Nat) : Int)) (fun k => ?_) ihj
              simp only [r04_Rep.l1]
              rw [if_pos (by omega), if_pos (by omega), if_pos (by omega), if_pos (by omega), if_pos (by rw [List.length_append, List.length_replicate]; omega), List.append_assoc, ← List.replicate_succ', wsucc hj (by omega)]) 0 (Nat.zero_le _)
          refine Ev.step (f := fun k => r04_Rep.l1 k l r (repTo l r (i : Int)) (i : Int) 0) (fun k => ?_) (by simpa using H2)
          simp only [r04_Rep.l0]; rw [if_pos (by omega)]) 0 (Nat.zero_le _)
      exact H
  · cases hn : (r.any fun n => decide (n < 0)) with
    | true => simp
    | false =>
      rw [hn] at h2
      have hnn := nonneg hn
      have hs : r.sum > 1048576 := by
        by_cases hh : r.sum > 1048576
        · exact hh
        · simp [hh] at h2
      have e := repTo_sum l r hnn r.length (Nat.le_refl _)
      rw [List.take_length] at e
      rw [← hsame] at e
      simp only [Bool.false_eq_true, if_false]
      rw [if_neg (by omega), if_pos hs]
/-- The guard: it comes to an answer, whatever it is. -/
theorem ev_great (l : List Int) (hl : Sh l) : ∃ b, Ev (fun k => w04_great.f k l) b := by
  have H := up (n := l.length) (P := fun i => ∀ s : Int, 0 ≤ s → s ≤ 3145728 → ∃ b, Ev (fun k => w04_great.l0 k l s (i : Int)) b)
    (fun s h0 h1 => ⟨_, Ev.step (f := fun _ => some (decide (4001 ≤ s) && decide (s ≤ 1048576))) (fun k => by simp only [w04_great.l0]; rw [if_neg (by omega), f_Lies]; rfl) (Ev.now _)⟩)
    (fun i hi ih s h0 h1 => by
      by_cases hs : s ≤ 1048576
      · have hm : 0 ≤ mx 0 (mn (rd l (i : Int)) 2097152) ∧ mx 0 (mn (rd l (i : Int)) 2097152) ≤ 2097152 := by unfold mx mn; constructor <;> (repeat' split) <;> omega
        have e : wrap64 (s + mx 0 (mn (rd l (i : Int)) 2097152)) = s + mx 0 (mn (rd l (i : Int)) 2097152) := by unfold wrap64; omega
        obtain ⟨b, hb⟩ := ih (s + mx 0 (mn (rd l (i : Int)) 2097152)) (by omega) (by omega)
        refine ⟨b, Ev.step (fun k => ?_) hb⟩
        simp only [w04_great.l0]; rw [if_pos (by omega), if_pos hs, if_pos (by omega), e, wsucc hi hl]
      · exact ⟨_, Ev.step (f := fun _ => some (decide (4001 ≤ s) && decide (s ≤ 1048576))) (fun k => by simp only [w04_great.l0]; rw [if_pos (by omega), if_neg hs, f_Lies]; rfl) (Ev.now _)⟩) 0 (Nat.zero_le _) 0 (by omega) (by omega)
  exact H
/-- A place more is taken when the next one is. -/
theorem count_new (n : Nat) (A : Nat → Bool) (c : Nat) (hc : c < n) (hA : A c = false) : ((List.range n).countP fun (v : Nat) => A v || (c == v)) = (List.range n).countP A + 1 := by
  induction n with
  | zero => omega
  | succ n ih =>
    rw [List.range_succ, List.countP_append, List.countP_append]
    by_cases e : c = n
    · subst e
      have h1 : ((List.range c).countP fun (v : Nat) => A v || (c == v)) = (List.range c).countP A := by
        apply List.countP_congr
        intro v hv
        rw [List.mem_range] at hv
        have : (c == v) = false := by simp; omega
        simp [this]
      rw [h1]
      simp [hA]
    · have h1 : (c == n) = false := by simp; omega
      rw [ih (by omega)]
      simp [h1]
      omega
/-- The places so far are right: numbers below n, each one once. -/
def okTo (n : Nat) (p : List Int) (i : Nat) : Prop := ∀ j : Nat, j < i → (decide (0 ≤ rd p (j : Int)) && decide (rd p (j : Int) < (n : Int)) && !stands p j (rd p (j : Int))) = true
theorem count_ok (n : Nat) (p : List Int) : ∀ i : Nat, okTo n p i → ((List.range n).countP fun (v : Nat) => stands p i (v : Int)) = i
  | 0, _ => by simp [stands]
  | i + 1, h => by
    have ih := count_ok n p i (fun j hj => h j (by omega))
    have hi := h i (by omega)
    simp only [Bool.and_eq_true, decide_eq_true_eq, Bool.not_eq_true'] at hi
    have hc := count_new n (fun (v : Nat) => stands p i (v : Int)) (rd p (i : Int)).toNat (by omega) (by show stands p i (((rd p (i : Int)).toNat : Nat) : Int) = false; rw [Int.toNat_of_nonneg hi.1.1]; exact hi.2)
    rw [ih] at hc
    refine (List.countP_congr ?_).trans hc
    intro v hv
    rw [stands_succ]
    have : (rd p (i : Int) == (v : Int)) = ((rd p (i : Int)).toNat == v) := by
      rw [Bool.eq_iff_iff]; simp; omega
    rw [this]
/-- If as many places are right as there are, each number stands. -/
theorem all_stand (n : Nat) (p : List Int) (h : okTo n p n) (v : Nat) (hv : v < n) : stands p n (v : Int) = true := by
  have h1 := count_ok n p n h
  have h2 : ((List.range n).countP fun (v : Nat) => stands p n (v : Int)) = (List.range n).length := by rw [h1, List.length_range]
  exact List.countP_eq_length.1 h2 v (List.mem_range.2 hv)
theorem okPlaces_iff (n : Nat) (p : List Int) : okPlaces n p = true ↔ okTo n p p.length := by
  constructor
  · intro h j hj
    cases hb : (decide (0 ≤ rd p (j : Int)) && decide (rd p (j : Int) < (n : Int)) && !stands p j (rd p (j : Int)))
    · rw [okPlaces_false n p j hj hb] at h; cases h
    · rfl
  · exact okPlaces_true n p
theorem rdB (l : List Bool) (i : Int) : rdOf false l i = l.getD i.toNat false := rfl
theorem seen_get (n : Nat) (A : Nat → Bool) (v : Nat) (hv : v < n) : ((List.range n).map A).getD v false = A v := by
  rw [List.getD_eq_getElem?_getD, List.getElem?_map, List.getElem?_range hv]; rfl
theorem map_set {α : Type} (n : Nat) (A B : Nat → α) (c : Nat) (hB : ∀ v, v < n → v ≠ c → B v = A v) : ((List.range n).map A).set c (B c) = (List.range n).map B := by
  apply List.ext_getElem?
  intro v
  by_cases hv : v < n
  · rw [List.getElem?_set, List.getElem?_map, List.getElem?_map, List.getElem?_range hv]
    by_cases e : c = v
    · subst e; simp [hv]
    · rw [if_neg e]
      simp [hB v hv (fun h => e h.symm)]
  · rw [List.getElem?_eq_none (by simp; omega), List.getElem?_eq_none (by simp; omega)]
theorem ev_Order (p : List Int) (n : Nat) (hp : p.length ≤ 1048576) (hn : n ≤ 1048576) : Ev (fun k => r00_Order.f k p (n : Int)) (decide (p.length = n) && okPlaces n p) := by
  by_cases hl : p.length = n
  · have hw : wrap64 ((n : Int) - 1) = (n : Int) - 1 := by unfold wrap64; omega
    have hL : ∀ x : Int, r00_Lies.f x 0 (wrap64 ((n : Int) - 1)) = some (decide (0 ≤ x) && decide (x < (n : Int))) := by
      intro x
      rw [f_Lies, hw]
      congr 1
      congr 1
      by_cases h : x < (n : Int) <;> simp [h] <;> omega
    have H := up (n := p.length) (P := fun i => okTo n p i → Ev (fun k => r00_Order.l0 k p (n : Int) ((List.range n).map (fun (v : Nat) => stands p i (v : Int))) (i : Int)) (okPlaces n p))
      (fun h => by
        rw [(okPlaces_iff n p).2 h]
        exact Ev.step (f := fun _ => some true) (fun k => by simp only [r00_Order.l0]; rw [if_neg (by omega)]) (Ev.now _))
      (fun i hi ih hok => by
        cases hb : (decide (0 ≤ rd p (i : Int)) && decide (rd p (i : Int) < (n : Int)))
        · rw [okPlaces_false n p i hi (by rw [hb]; rfl)]
          refine Ev.step (f := fun _ => some false) (fun k => ?_) (Ev.now _)
          simp only [r00_Order.l0]; rw [if_pos (by omega), if_pos (by omega), hL, hb]; rfl
        · have hb2 := hb
          simp only [Bool.and_eq_true, decide_eq_true_eq] at hb2
          have hg : rdOf false ((List.range n).map (fun (v : Nat) => stands p i (v : Int))) (rd p (i : Int)) = stands p i (rd p (i : Int)) := by
            rw [rdB, seen_get n (fun (v : Nat) => stands p i (v : Int)) _ (by omega), Int.toNat_of_nonneg hb2.1]
          have hlen : ((List.range n).map (fun (v : Nat) => stands p i (v : Int))).length = n := by simp
          cases hs : stands p i (rd p (i : Int))
          · rw [hs] at hg
            have e : ((List.range n).map (fun (v : Nat) => stands p i (v : Int))).set (rd p (i : Int)).toNat true = (List.range n).map (fun (v : Nat) => stands p (i + 1) (v : Int)) := by
              have e1 : true = (fun v : Nat => stands p (i + 1) (v : Int)) (rd p (i : Int)).toNat := by
                simp only
                rw [Int.toNat_of_nonneg hb2.1, stands_succ]; simp
              rw [e1]
              refine map_set n _ (fun v : Nat => stands p (i + 1) (v : Int)) _ (fun v hv hne => ?_)
              rw [stands_succ]
              have : (rd p (i : Int) == (v : Int)) = false := by simp; omega
              rw [this, Bool.or_false]
            refine Ev.step (f := fun k => r00_Order.l0 k p (n : Int) ((List.range n).map (fun (v : Nat) => stands p (i + 1) (v : Int))) ((i + 1 : Nat) : Int)) (fun k => ?_) (ih (fun j hj => ?_))
            · simp only [r00_Order.l0]; rw [if_pos (by omega), if_pos (by omega), hL, hb]
              simp only [Option.bind_some, if_true]
              rw [if_pos hb2.1, if_pos (by rw [hlen]; exact hb2.2), hg, if_neg (by simp), e, wsucc hi (by omega)]
            · by_cases ej : j = i
              · subst ej; rw [hb, hs]; rfl
              · exact hok j (by omega)
          · rw [hs] at hg
            rw [okPlaces_false n p i hi (by rw [hb, hs]; rfl)]
            refine Ev.step (f := fun _ => some false) (fun k => ?_) (Ev.now _)
            simp only [r00_Order.l0]; rw [if_pos (by omega), if_pos (by omega), hL, hb]
            simp only [Option.bind_some, if_true]
            rw [if_pos hb2.1, if_pos (by rw [hlen]; exact hb2.2), hg]; simp) 0 (Nat.zero_le _) (fun j hj => by omega)
    have e0 : (List.range n).map (fun (v : Nat) => stands p 0 (v : Int)) = List.replicate n false := by
      apply List.ext_getElem?
      intro v
      by_cases hv : v < n
      · rw [List.getElem?_map, List.getElem?_range hv, List.getElem?_replicate, if_pos hv]; simp [stands]
      · rw [List.getElem?_eq_none (by simp; omega), List.getElem?_eq_none (by simp; omega)]
    rw [e0] at H
    simp only [hl, decide_true, Bool.true_and]
    refine Ev.congr (fun k => ?_) H
    unfold r00_Order.f
    rw [if_pos (by omega), if_pos (by omega), if_pos (by omega)]
    simp
  · simp only [hl, decide_false, Bool.false_and]
    refine Ev.congr (f := fun _ => some false) (fun k => ?_) (Ev.now _)
    unfold r00_Order.f
    rw [if_neg (by omega)]
theorem ev_Put (l p : List Int) (h1 : Sh l) (h2 : Sh p) : Ev (fun k => r04_Put.f k l p) (prim_Put.g l p) := by
  unfold prim_Put.g
  rw [same2]
  refine ev_after (bad := fun t => ([], t)) (ev_alike [l, p] (Sh.two _ _) (Sh.all2 h1 h2)) (fun k => rfl) (fun h => ?_) (fun h => by rw [if_neg h])
  rw [if_pos h]
  have hok := wordsE_ok h
  have hlen := hok.1 l (by simp)
  have hlenp := hok.1 p (by simp)
  have hsame := hok.2.2
  rw [← same2] at hsame
  have hsame : l.length = p.length := by simp at hsame; omega
  refine Ev.bind (ev_Order p l.length hlenp hlen) ?_
  simp only [hsame.symm, decide_true, Bool.true_and]
  cases hp : okPlaces l.length p
  · simp; exact Ev.now _
  · have hto := (okPlaces_iff _ _).1 hp
    rw [← hsame] at hto
    simp only [if_true]
    have H := up (n := l.length) (P := fun i => Ev (fun k => r04_Put.l0 k l p ((List.range l.length).map (fun (v : Nat) => if stands p i (v : Int) then rd l (whereIs p i (v : Int)) else 0)) (i : Int)) (upTo (fun x => rd l (whereIs p l.length x)) l.length, 0))
      (by
        have e : (List.range l.length).map (fun (v : Nat) => if stands p l.length (v : Int) then rd l (whereIs p l.length (v : Int)) else 0) = upTo (fun x => rd l (whereIs p l.length x)) l.length := by
          unfold upTo
          rw [Int.toNat_natCast]
          apply List.map_congr_left
          intro v hv
          rw [List.mem_range] at hv
          rw [if_pos (all_stand l.length p hto v hv)]
        rw [e]
        exact Ev.step (f := fun _ => some _) (fun k => by simp only [r04_Put.l0]; rw [if_neg (by omega)]) (Ev.now _))
      (fun i hi ih => by
        have hi3 := hto i hi
        simp only [Bool.and_eq_true, decide_eq_true_eq, Bool.not_eq_true'] at hi3
        have e : ((List.range l.length).map (fun (v : Nat) => if stands p i (v : Int) then rd l (whereIs p i (v : Int)) else 0)).set (rd p (i : Int)).toNat (rd l (i : Int)) = (List.range l.length).map (fun (v : Nat) => if stands p (i + 1) (v : Int) then rd l (whereIs p (i + 1) (v : Int)) else 0) := by
          have e1 : rd l (i : Int) = (fun v : Nat => if stands p (i + 1) (v : Int) then rd l (whereIs p (i + 1) (v : Int)) else 0) (rd p (i : Int)).toNat := by
            simp only
            rw [Int.toNat_of_nonneg hi3.1.1, stands_succ, whereIs_succ_new p i _ hi3.2 rfl]; simp
          rw [e1]
          refine map_set l.length _ (fun v : Nat => if stands p (i + 1) (v : Int) then rd l (whereIs p (i + 1) (v : Int)) else 0) _ (fun v hv hne => ?_)
          have hne2 : rd p (i : Int) ≠ (v : Int) := by omega
          rw [stands_succ, whereIs_succ_old p i _ hne2]
          have : (rd p (i : Int) == (v : Int)) = false := by simpa using hne2
          rw [this, Bool.or_false]
        refine Ev.step (f := fun k => r04_Put.l0 k l p ((List.range l.length).map (fun (v : Nat) => if stands p (i + 1) (v : Int) then rd l (whereIs p (i + 1) (v : Int)) else 0)) ((i + 1 : Nat) : Int)) (fun k => ?_) ih
        simp only [r04_Put.l0]
        rw [if_pos (by omega), if_pos (by omega), if_pos (by omega), if_pos hi3.1.1, if_pos (by rw [List.length_map, List.length_range]; exact hi3.1.2), e, wsucc hi (by omega)]) 0 (Nat.zero_le _)
    have e0 : (List.range l.length).map (fun (v : Nat) => if stands p 0 (v : Int) then rd l (whereIs p 0 (v : Int)) else 0) = List.replicate l.length 0 := by
      apply List.ext_getElem?
      intro v
      by_cases hv : v < l.length
      · rw [List.getElem?_map, List.getElem?_range hv, List.getElem?_replicate, if_pos hv]; simp [stands]
      · rw [List.getElem?_eq_none (by simp; omega), List.getElem?_eq_none (by simp; omega)]
    rw [e0] at H
    refine Ev.congr (fun k => ?_) H
    rw [if_pos (by omega), if_pos (by omega)]
    simp
theorem PrimMoves : w04_PrimMoves.Pure := by
  intro l0 l1 _ h1 _ _ h2 _
  have s0 : Sh l0 := by unfold Sh; omega
  have s1 : Sh l1 := by unfold Sh; omega
  obtain ⟨b, K0, e0⟩ := ev_great l1 s1
  obtain ⟨K1, e1⟩ := ev_Gather l0 l1 s0 s1
  obtain ⟨K2, e2⟩ := ev_Put l0 l1 s0 s1
  obtain ⟨K3, e3⟩ := ev_Rep l0 l1 s0 s1
  refine ⟨K0 + K1 + K2 + K3, ?_⟩
  have e0 := e0 (K0 + K1 + K2 + K3) (by omega)
  have e1 := e1 (K0 + K1 + K2 + K3) (by omega)
  have e2 := e2 (K0 + K1 + K2 + K3) (by omega)
  have e3 := e3 (K0 + K1 + K2 + K3) (by omega)
  generalize K0 + K1 + K2 + K3 = k at e0 e1 e2 e3
  simp only at e0 e1 e2 e3
  unfold w04_PrimMoves.f
  cases b <;> simp [e0, e1, e2, e3, pGather.f, pPut.f, pRep.f, Eq_.f, law_done.f]
end Go.Proofs.YtpimackoadfcmaaDoor.Pure
