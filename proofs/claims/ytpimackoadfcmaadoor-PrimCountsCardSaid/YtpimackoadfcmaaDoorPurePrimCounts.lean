/- PrimCounts: Iota, Cat, Len and Trap return what the references return, for any two lists; it is told of numbers and lists alone. -/
import Derived.Test.YtpimackoadfcmaaDoorPPrimCountsx
namespace Go.Proofs.YtpimackoadfcmaaDoor.Pure
open Go.RowKit Go.Proofs.YtpimackoadfcmaaDoor.PPrimCounts Go.Proofs.YtpimackoadfcmaaDoor.Hand Go.Proofs.YtpimackoadfcmaaDoorW.PrintWords Go.Proofs.YtpimackoadfcmaaDoorW.PrintLast Go.Proofs.YtpimackoadfcmaaDoorW.PrintMore
set_option linter.unusedVariables false
set_option linter.unusedSimpArgs false
/-- Lists so short that a place's successor is no other number. -/
def Sh {α : Type} (l : List α) : Prop := l.length ≤ 4611686018427387904
theorem wsucc {i n : Nat} (h : i < n) (hn : n ≤ 4611686018427387904) : wrap64 ((i : Int) + 1) = ((i + 1 : Nat) : Int) := by unfold wrap64; omega
theorem rd_get {l : List Int} {i : Nat} (h : i < l.length) : rd l (i : Int) = l[i] := by simp [rd, h]
theorem rdL_get {l : List (List Int)} {i : Nat} (h : i < l.length) : rd_L1 l (i : Int) = l[i] := by simp [rd_L1, h]
theorem drop_rd {l : List Int} {i : Nat} (h : i < l.length) : l.drop i = rd l (i : Int) :: l.drop (i + 1) := by rw [List.drop_eq_getElem_cons h, rd_get h]
theorem drop_rdL {l : List (List Int)} {i : Nat} (h : i < l.length) : l.drop i = rd_L1 l (i : Int) :: l.drop (i + 1) := by rw [List.drop_eq_getElem_cons h, rdL_get h]
theorem up {n : Nat} {P : Nat → Prop} (h0 : P n) (hs : ∀ i, i < n → P (i + 1) → P i) (i : Nat) (hi : i ≤ n) : P i := by
  have key : ∀ d, ∀ i, i + d = n → P i := by
    intro d
    induction d with
    | zero => intro i h; have : i = n := by omega
              subst this; exact h0
    | succ d ih => intro i h; exact hs i (by omega) (ih (i + 1) (by omega))
  exact key (n - i) i (by omega)
theorem f_Lies (a b c : Int) : r00_Lies.f a b c = some (decide (b ≤ a) && decide (a ≤ c)) := by unfold r00_Lies.f; split <;> simp [*]
theorem f_IsWord (n : Int) : r00_IsWord.f n = some (isWordB n) := by unfold r00_IsWord.f; rw [f_Lies]; rfl
theorem ev_Words (l : List Int) (hl : Sh l) : Ev (fun k => r00_Words.f k l) (!noWords l) := by
  have H := up (n := l.length) (P := fun i => Ev (fun k => r00_Words.l0 k l (i : Int)) (!noWords (l.drop i)))
    (Ev.step (f := fun _ => some true) (fun k => by simp only [r00_Words.l0]; rw [if_neg (by omega)]) (by rw [List.drop_length]; exact Ev.now _))
    (fun i hi ih => by
      cases hw : isWordB (rd l (i : Int))
      · rw [drop_rd hi]
        refine Ev.step (f := fun _ => some false) (fun k => ?_) (by simp only [noWords, List.any_cons, hw]; exact Ev.now _)
        simp only [r00_Words.l0]; rw [if_pos (by omega), if_pos (by omega), f_IsWord, hw]; rfl
      · rw [drop_rd hi]
        refine Ev.step (f := fun k => r00_Words.l0 k l ((i + 1 : Nat) : Int)) (fun k => ?_) (by simp only [noWords, List.any_cons, hw]; exact ih)
        simp only [r00_Words.l0]; rw [if_pos (by omega), if_pos (by omega), f_IsWord, hw, wsucc hi hl]; rfl) 0 (Nat.zero_le _)
  exact H
theorem ev_Lists (ls : List (List Int)) (hl : Sh ls) (hw : ∀ l ∈ ls, Sh l) : Ev (fun k => r04_Lists.f k ls) (wordsE ls true) := by
  have H1 := up (n := ls.length) (P := fun i => Ev (fun k => r04_Lists.l1 k ls (i : Int)) (if (ls.drop i).any noWords then 2 else 0))
    (Ev.step (f := fun _ => some 0) (fun k => by simp only [r04_Lists.l1]; rw [if_neg (by omega)]) (by rw [List.drop_length]; exact Ev.now _))
    (fun i hi ih => by
      obtain ⟨K1, h1⟩ := ev_Words (rd_L1 ls (i : Int)) (hw _ (by rw [rdL_get hi]; exact List.getElem_mem _))
      rw [drop_rdL hi]
      cases hn : noWords (rd_L1 ls (i : Int)) <;> rw [hn] at h1
      · obtain ⟨K2, h2⟩ := ih
        refine ⟨K1 + K2 + 1, fun k hk => ?_⟩
        obtain ⟨k, rfl⟩ : ∃ m, k = m + 1 := ⟨k - 1, by omega⟩
        have h1 := h1 k (by omega)
        have h2 := h2 k (by omega)
        simp only at h1 h2
        simp only [r04_Lists.l1]; rw [if_pos (by omega), if_pos (by omega), h1, wsucc hi hl]
        simp only [List.any_cons, hn, Bool.false_or]
        exact h2
      · refine ⟨K1 + 1, fun k hk => ?_⟩
        obtain ⟨k, rfl⟩ : ∃ m, k = m + 1 := ⟨k - 1, by omega⟩
        have h1 := h1 k (by omega)
        simp only at h1
        simp only [r04_Lists.l1]; rw [if_pos (by omega), if_pos (by omega), h1]
        simp only [List.any_cons, hn, Bool.true_or]
        rfl) 0 (Nat.zero_le _)
  have H := up (n := ls.length) (P := fun i => Ev (fun k => r04_Lists.l0 k ls (i : Int)) (if (ls.drop i).any (fun l => decide (1048576 < l.length)) then 3 else if ls.any noWords then 2 else 0))
    (Ev.step (f := fun k => r04_Lists.l1 k ls 0) (fun k => by simp only [r04_Lists.l0]; rw [if_neg (by omega)]) (by rw [List.drop_length]; exact H1))
    (fun i hi ih => by
      rw [drop_rdL hi]
      by_cases hn : 1048576 < (rd_L1 ls (i : Int)).length
      · refine Ev.step (f := fun _ => some 3) (fun k => ?_) (by simp only [List.any_cons, hn, decide_true, Bool.true_or]; exact Ev.now _)
        simp only [r04_Lists.l0]; rw [if_pos (by omega), if_pos (by omega), if_pos (by omega)]
      · refine Ev.step (f := fun k => r04_Lists.l0 k ls ((i + 1 : Nat) : Int)) (fun k => ?_) (by simp only [List.any_cons, hn, decide_false, Bool.false_or]; exact ih)
        simp only [r04_Lists.l0]; rw [if_pos (by omega), if_pos (by omega), if_neg (by omega), wsucc hi hl]) 0 (Nat.zero_le _)
  exact H
theorem Sh.one {α : Type} (a : α) : Sh [a] := by simp [Sh]
theorem Sh.two {α : Type} (a b : α) : Sh [a, b] := by simp [Sh]
theorem Sh.all1 {a : List Int} (ha : Sh a) : ∀ l ∈ [a], Sh l := by intro l hl; simp at hl; subst hl; exact ha
theorem Sh.all2 {a b : List Int} (ha : Sh a) (hb : Sh b) : ∀ l ∈ [a, b], Sh l := by intro l hl; simp at hl; rcases hl with rfl | rfl <;> assumption
/-- What comes behind the check of the lists. -/
theorem ev_after {α : Type} {g : Nat → Option Int} {e : Int} (hg : Ev g e) {F : Nat → Option α} {bad : Int → α} {H : Nat → Option α} (hF : ∀ k, F k = (g k).bind fun t => if t = 0 then H k else some (bad t)) {r : α} (h0 : e = 0 → Ev H r) (h1 : e ≠ 0 → r = bad e) : Ev F r := by
  refine Ev.congr hF ?_
  refine Ev.bind hg ?_
  by_cases h : e = 0
  · simp only [h, if_true]; exact h0 h
  · simp only [h, if_false]; rw [h1 h]; exact Ev.now _
theorem f_Upto (n : Int) (hn : n ≤ 4611686018427) : Ev (fun k => r00_Upto.f k n) (upInts n.toNat) := by
  have H := up (n := n.toNat) (P := fun i => Ev (fun k => r00_Upto.l0 k n (upInts i) (i : Int)) (upInts n.toNat))
    (Ev.step (f := fun _ => some (upInts n.toNat)) (fun k => by simp only [r00_Upto.l0]; rw [if_neg (by omega)]) (Ev.now _))
    (fun i hi ih => by
      refine Ev.step (f := fun k => r00_Upto.l0 k n (upInts (i + 1)) ((i + 1 : Nat) : Int)) (fun k => ?_) ih
      simp only [r00_Upto.l0]; rw [if_pos (by omega), if_pos (by rw [upInts_length]; omega), upInts_succ, wsucc hi (by omega)]) 0 (Nat.zero_le _)
  exact H
theorem ev_Len (a : List Int) (h1 : Sh a) : Ev (fun k => r04_Len.f k a) (prim_Len.g a) := by
  unfold prim_Len.g
  refine ev_after (bad := fun t => ([], t)) (ev_Lists [a] (Sh.one _) (Sh.all1 h1)) (fun k => rfl) (fun h => ?_) (fun h => by rw [if_neg h])
  rw [if_pos h]
  exact Ev.now _
theorem ev_Trap (a : List Int) (h1 : Sh a) : Ev (fun k => r04_Trap.f k a) (prim_Trap.g a) := by
  unfold prim_Trap.g
  refine ev_after (bad := fun t => t) (ev_Lists [a] (Sh.one _) (Sh.all1 h1)) (fun k => rfl) (fun h => ?_) (fun h => by rw [if_neg h])
  rw [if_pos h]
  have H := up (n := a.length) (P := fun i => Ev (fun k => r04_Trap.l0 k a (i : Int)) (if (a.drop i).any (fun n => n != 0) then 14 else 0))
    (Ev.step (f := fun _ => some 0) (fun k => by simp only [r04_Trap.l0]; rw [if_neg (by omega)]) (by rw [List.drop_length]; exact Ev.now _))
    (fun i hi ih => by
      rw [drop_rd hi]
      by_cases hz : rd a (i : Int) = 0
      · refine Ev.step (f := fun k => r04_Trap.l0 k a ((i + 1 : Nat) : Int)) (fun k => ?_) (by simp only [List.any_cons, hz, bne_self_eq_false, Bool.false_or]; exact ih)
        simp only [r04_Trap.l0]; rw [if_pos (by omega), if_pos (by omega), if_pos hz, wsucc hi h1]
      · refine Ev.step (f := fun _ => some 14) (fun k => ?_) (by simp only [List.any_cons, bne_iff_ne.2 hz, Bool.true_or]; exact Ev.now _)
        simp only [r04_Trap.l0]; rw [if_pos (by omega), if_pos (by omega), if_neg hz]) 0 (Nat.zero_le _)
  exact H
theorem ev_Cat (a b : List Int) (h1 : Sh a) (h2 : Sh b) : Ev (fun k => r04_Cat.f k a b) (prim_Cat.g a b) := by
  unfold prim_Cat.g
  refine ev_after (bad := fun t => ([], t)) (ev_Lists [a, b] (Sh.two _ _) (Sh.all2 h1 h2)) (fun k => rfl) (fun h => ?_) (fun h => by rw [if_neg h])
  rw [if_pos h]
  have hlen := (wordsE_ok h).1 a (by simp)
  have hlen2 := (wordsE_ok h).1 b (by simp)
  have e : r00_Copy.f a = some a := by
    unfold r00_Copy.f
    simp only [Option.bind_some]
    rw [if_pos (by simp; omega)]; rfl
  simp only [e, Option.bind_some]
  rw [if_pos (by omega)]
  unfold r04_fits.f
  by_cases hc : a.length + b.length ≤ 1048576
  · rw [if_neg (by rw [List.length_append]; omega), if_pos hc]; exact Ev.now _
  · rw [if_pos (by rw [List.length_append]; omega), if_neg hc]; exact Ev.now _
theorem take_rd {l : List Int} {i : Nat} (h : i < l.length) : l.take (i + 1) = l.take i ++ [rd l (i : Int)] := by
  rw [rd_get h, List.take_add_one, List.getElem?_eq_getElem h]; rfl
theorem sum_bound (l : List Int) (B : Int) (h : ∀ x ∈ l, -B ≤ x ∧ x ≤ B) : -(l.length * B) ≤ l.sum ∧ l.sum ≤ l.length * B := by
  induction l with
  | nil => simp
  | cons a l ih =>
    have h1 := ih (fun x hx => h x (List.mem_cons_of_mem _ hx))
    have h2 := h a (List.mem_cons_self)
    rw [List.sum_cons, List.length_cons]
    have e : ((l.length + 1 : Nat) : Int) * B = l.length * B + B := by rw [Int.natCast_add, Int.add_mul]; simp
    rw [e]
    omega
theorem ev_Sum (l : List Int) (hl : l.length ≤ 1048576) (hb : ∀ x ∈ l, -4294967296 ≤ x ∧ x ≤ 4294967296) : Ev (fun k => r00_Sum.f k l) l.sum := by
  have H := up (n := l.length) (P := fun i => Ev (fun k => r00_Sum.l0 k l (l.take i).sum (i : Int)) l.sum)
    (Ev.step (f := fun _ => some l.sum) (fun k => by simp only [r00_Sum.l0]; rw [if_neg (by omega), List.take_length]) (Ev.now _))
    (fun i hi ih => by
      refine Ev.step (f := fun k => r00_Sum.l0 k l (l.take (i + 1)).sum ((i + 1 : Nat) : Int)) (fun k => ?_) ih
      have h1 := sum_bound (l.take (i + 1)) 4294967296 (fun x hx => hb x (List.mem_of_mem_take hx))
      have h2 : (l.take (i + 1)).length ≤ 1048576 := by rw [List.length_take]; omega
      have e : (l.take (i + 1)).sum = (l.take i).sum + rd l (i : Int) := by rw [take_rd hi, List.sum_append]; simp
      have e2 : wrap64 ((l.take i).sum + rd l (i : Int)) = (l.take (i + 1)).sum := by
        rw [← e]
        generalize (l.take (i + 1)).sum = S at h1
        generalize (l.take (i + 1)).length = n at h1 h2
        unfold wrap64
        omega
      simp only [r00_Sum.l0]; rw [if_pos (by omega), if_pos (by omega), e2, wsucc hi (by omega)]) 0 (Nat.zero_le _)
  exact H
theorem isWordB_iff (n : Int) : isWordB n = true ↔ -2147483648 ≤ n ∧ n ≤ 2147483647 := by simp [isWordB]
theorem ev_counts (l : List Int) (hl : l.length ≤ 1048576) (hb : ∀ x ∈ l, isWordB x = true) : Ev (fun k => r04_counts.f k l) (if l.any (fun n => decide (n < 0)) then 14 else if l.sum > 1048576 then 9 else 0) := by
  have hs := ev_Sum l hl (fun x hx => by have := (isWordB_iff x).1 (hb x hx); omega)
  have H := up (n := l.length) (P := fun i => Ev (fun k => r04_counts.l0 k l (i : Int)) (if (l.drop i).any (fun n => decide (n < 0)) then 14 else if l.sum > 1048576 then 9 else 0))
    (Ev.step (f := fun k => (r00_Sum.f k l).bind fun t255 => (if t255 > 1048576 then (some 9) else (some 0))) (fun k => by simp only [r04_counts.l0]; rw [if_neg (by omega)]) (by
      rw [List.drop_length]
      refine Ev.bind hs ?_
      by_cases h : l.sum > 1048576
      · simp only [h, if_true, List.any_nil]; exact Ev.now _
      · simp only [h, if_false, List.any_nil]; exact Ev.now _))
    (fun i hi ih => by
      rw [drop_rd hi]
      by_cases hn : rd l (i : Int) < 0
      · refine Ev.step (f := fun _ => some 14) (fun k => ?_) (by simp only [List.any_cons, hn, decide_true, Bool.true_or]; exact Ev.now _)
        simp only [r04_counts.l0]; rw [if_pos (by omega), if_pos (by omega), if_pos hn]
      · refine Ev.step (f := fun k => r04_counts.l0 k l ((i + 1 : Nat) : Int)) (fun k => ?_) (by simp only [List.any_cons, hn, decide_false, Bool.false_or]; exact ih)
        simp only [r04_counts.l0]; rw [if_pos (by omega), if_pos (by omega), if_neg hn, wsucc hi (by omega)]) 0 (Nat.zero_le _)
  exact H
theorem nonneg {l : List Int} (h : (l.any fun n => decide (n < 0)) = false) : ∀ x ∈ l, 0 ≤ x := by
  intro x hx
  have := List.any_eq_false.1 h x hx
  simpa using this
theorem iotaTo_nat (l : List Int) (i : Nat) : iotaTo l ((i + 1 : Nat) : Int) = iotaTo l (i : Int) ++ upInts (rd l (i : Int)).toNat := by
  have := iotaTo_succ l (i : Int) (by omega)
  rw [← this]; rfl
theorem iotaTo_sum (l : List Int) (h : ∀ x ∈ l, 0 ≤ x) : ∀ i : Nat, i ≤ l.length → ((iotaTo l (i : Int)).length : Int) = (l.take i).sum
  | 0, _ => by simp [iotaTo]
  | i + 1, hi => by
    have hlt : i < l.length := by omega
    have ih := iotaTo_sum l h i (by omega)
    have := h _ (rd_mem l (i : Int) (by omega) (by omega))
    rw [iotaTo_nat, List.length_append, upInts_length, take_rd hlt, List.sum_append, Int.natCast_add, ih]
    simp
    omega
theorem ev_Iota (l : List Int) (h1 : Sh l) : Ev (fun k => r04_Iota.f k l) (prim_Iota.g l) := by
  unfold prim_Iota.g
  refine ev_after (bad := fun t => ([], t)) (ev_Lists [l] (Sh.one _) (Sh.all1 h1)) (fun k => rfl) (fun h => ?_) (fun h => by rw [if_neg h])
  rw [if_pos h]
  have hok := wordsE_ok h
  have hlen := hok.1 l (by simp)
  have hwd := hok.2.1 l (by simp)
  refine ev_after (bad := fun t => ([], t)) (ev_counts l hlen hwd) (fun k => rfl) (fun h2 => ?_) (fun h2 => ?_)
  · cases hn : (l.any fun n => decide (n < 0)) with
    | true => rw [hn] at h2; cases h2
    | false =>
      rw [hn] at h2
      have hnn := nonneg hn
      have hs : ¬ l.sum > 1048576 := by intro hh; simp [hh] at h2
      have e := iotaTo_sum l hnn l.length (Nat.le_refl _)
      rw [List.take_length] at e
      simp only [Bool.false_eq_true, if_false]
      rw [if_pos (by omega)]
      have H := up (n := l.length) (P := fun i => Ev (fun k => r04_Iota.l0 k l (iotaTo l (i : Int)) (i : Int)) (iotaTo l l.length, 0))
        (Ev.step (f := fun _ => some (iotaTo l l.length, 0)) (fun k => by simp only [r04_Iota.l0]; rw [if_neg (by omega)]) (Ev.now _))
        (fun i hi ih => by
          obtain ⟨K, hK⟩ := ih
          have hx := (isWordB_iff _).1 (hwd _ (rd_mem l (i : Int) (by omega) (by omega)))
          obtain ⟨K2, h2⟩ := f_Upto (rd l (i : Int)) (by omega)
          refine ⟨K + K2 + 1, fun k hk => ?_⟩
          obtain ⟨k, rfl⟩ : ∃ m, k = m + 1 := ⟨k - 1, by omega⟩
          have hK := hK k (by omega)
          have h2 := h2 k (by omega)
          simp only at hK h2
          simp only [r04_Iota.l0]; rw [if_pos (by omega), if_pos (by omega), h2]
          simp only [Option.bind_some]
          have hm := iotaTo_mono l ((i + 1 : Nat) : Int) l.length (by omega) (by omega)
          rw [iotaTo_nat, List.length_append] at hm
          rw [if_pos (by omega), ← iotaTo_nat, wsucc hi (by omega)]
          exact hK) 0 (Nat.zero_le _)
      exact H
  · cases hn : (l.any fun n => decide (n < 0)) with
    | true => simp
    | false =>
      rw [hn] at h2
      have hnn := nonneg hn
      have hs : l.sum > 1048576 := by
        by_cases hh : l.sum > 1048576
        · exact hh
        · simp [hh] at h2
      have e := iotaTo_sum l hnn l.length (Nat.le_refl _)
      rw [List.take_length] at e
      simp only [Bool.false_eq_true, if_false]
      rw [if_neg (by omega), if_pos hs]
/-- The guard: it comes to an answer, whatever it is. -/
theorem ev_great (l : List Int) (hl : Sh l) : ∃ b, Ev (fun k => w04_great.f k l) b := by
  have H := up (n := l.length) (P := fun i => ∀ s : Int, 0 ≤ s → s ≤ 3145728 → ∃ b, Ev (fun k => w04_great.l0 k l s (i : Int)) b)
    (fun s h0 h1 => ⟨_, Ev.step (f := fun _ => some (decide (4001 ≤ s) && decide (s ≤ 1048576))) (fun k => by simp only [w04_great.l0]; rw [if_neg (by omega), f_Lies]; rfl) (Ev.now _)⟩)
    (fun i hi ih s h0 h1 => by
      by_cases hs : s ≤ 1048576
      · have hm : 0 ≤ mx 0 (mn (rd l (i : Int)) 2097152) ∧ mx 0 (mn (rd l (i : Int)) 2097152) ≤ 2097152 := by unfold mx mn; constructor <;> (repeat' split) <;> omega
        have e : wrap64 (s + mx 0 (mn (rd l (i : Int)) 2097152)) = s + mx 0 (mn (rd l (i : Int)) 2097152) := by unfold wrap64; omega
        obtain ⟨b, hb⟩ := ih (s + mx 0 (mn (rd l (i : Int)) 2097152)) (by omega) (by omega)
        refine ⟨b, Ev.step (fun k => ?_) hb⟩
        simp only [w04_great.l0]; rw [if_pos (by omega), if_pos hs, if_pos (by omega), e, wsucc hi hl]
      · exact ⟨_, Ev.step (f := fun _ => some (decide (4001 ≤ s) && decide (s ≤ 1048576))) (fun k => by simp only [w04_great.l0]; rw [if_pos (by omega), if_neg hs, f_Lies]; rfl) (Ev.now _)⟩) 0 (Nat.zero_le _) 0 (by omega) (by omega)
  exact H
theorem PrimCounts : w04_PrimCounts.Pure := by
  intro l0 l1 _ h1 _ _ h2 _
  have s0 : Sh l0 := by unfold Sh; omega
  have s1 : Sh l1 := by unfold Sh; omega
  obtain ⟨b, K0, e0⟩ := ev_great l0 s0
  obtain ⟨K1, e1⟩ := ev_Iota l0 s0
  obtain ⟨K2, e2⟩ := ev_Cat l0 l1 s0 s1
  obtain ⟨K3, e3⟩ := ev_Len l0 s0
  obtain ⟨K4, e4⟩ := ev_Trap l0 s0
  refine ⟨K0 + K1 + K2 + K3 + K4, ?_⟩
  have e0 := e0 (K0 + K1 + K2 + K3 + K4) (by omega)
  have e1 := e1 (K0 + K1 + K2 + K3 + K4) (by omega)
  have e2 := e2 (K0 + K1 + K2 + K3 + K4) (by omega)
  have e3 := e3 (K0 + K1 + K2 + K3 + K4) (by omega)
  have e4 := e4 (K0 + K1 + K2 + K3 + K4) (by omega)
  generalize K0 + K1 + K2 + K3 + K4 = k at e0 e1 e2 e3 e4
  simp only at e0 e1 e2 e3 e4
  unfold w04_PrimCounts.f
  cases b <;> simp [e0, e1, e2, e3, e4, pIota.f, pCat.f, pLen.f, pTrap.f, Eq_.f, law_done.f]
end Go.Proofs.YtpimackoadfcmaaDoor.Pure
