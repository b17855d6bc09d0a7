/- PrimPlaces: Fill, Bin, Pick and Off return what the references return, for any operation, word, and three lists; it is told of numbers and lists alone. -/
import Derived.Test.YtpimackoadfcmaaDoorPPrimPlacesx
namespace Go.Proofs.YtpimackoadfcmaaDoor.Pure
open Go.RowKit Go.Proofs.YtpimackoadfcmaaDoor.PPrimPlaces Go.Proofs.YtpimackoadfcmaaDoor.Hand Go.Proofs.YtpimackoadfcmaaDoorW.PrintWords Go.Proofs.YtpimackoadfcmaaDoorW.PrintLast Go.Proofs.YtpimackoadfcmaaDoorW.PrintMore
set_option linter.unusedVariables false
set_option linter.unusedSimpArgs false
/-- Lists so short that a place's successor is no other number. -/
def Sh {α : Type} (l : List α) : Prop := l.length ≤ 4611686018427387904
theorem wsucc {i n : Nat} (h : i < n) (hn : n ≤ 4611686018427387904) : wrap64 ((i : Int) + 1) = ((i + 1 : Nat) : Int) := by unfold wrap64; omega
theorem rd_get {l : List Int} {i : Nat} (h : i < l.length) : rd l (i : Int) = l[i] := by simp [rd, h]
theorem rdL_get {l : List (List Int)} {i : Nat} (h : i < l.length) : rd_L1 l (i : Int) = l[i] := by simp [rd_L1, h]
theorem drop_rd {l : List Int} {i : Nat} (h : i < l.length) : l.drop i = rd l (i : Int) :: l.drop (i + 1) := by rw [List.drop_eq_getElem_cons h, rd_get h]
theorem drop_rdL {l : List (List Int)} {i : Nat} (h : i < l.length) : l.drop i = rd_L1 l (i : Int) :: l.drop (i + 1) := by rw [List.drop_eq_getElem_cons h, rdL_get h]
theorem up {n : Nat} {P : Nat → Prop} (h0 : P n) (hs : ∀ i, i < n → P (i + 1) → P i) (i : Nat) (hi : i ≤ n) : P i := by
  have key : ∀ d, ∀ i, i + d = n → P i := by
    intro d
    induction d with
    | zero => intro i h; have : i = n := by omega
              subst this; exact h0
    | succ d ih => intro i h; exact hs i (by omega) (ih (i + 1) (by omega))
  exact key (n - i) i (by omega)
theorem f_Lies (a b c : Int) : r00_Lies.f a b c = some (decide (b ≤ a) && decide (a ≤ c)) := by unfold r00_Lies.f; split <;> simp [*]
theorem f_IsWord (n : Int) : r00_IsWord.f n = some (isWordB n) := by unfold r00_IsWord.f; rw [f_Lies]; rfl
theorem f_Word (n : Int) : r00_Word.f n = some (wrap64 (wrap32 n)) := by
  unfold r00_Word.f
  congr 2
  unfold wrap32 IntKind.wrap
  simp only [IntKind.signed, IntKind.bits]
  simp
theorem ev_Words (l : List Int) (hl : Sh l) : Ev (fun k => r00_Words.f k l) (!noWords l) := by
  have H := up (n := l.length) (P := fun i => Ev (fun k => r00_Words.l0 k l (i : Int)) (!noWords (l.drop i)))
    (Ev.step (f := fun _ => some true) (fun k => by simp only [r00_Words.l0]; rw [if_neg (by omega)]) (by rw [List.drop_length]; exact Ev.now _))
    (fun i hi ih => by
      cases hw : isWordB (rd l (i : Int))
      · rw [drop_rd hi]
        refine Ev.step (f := fun _ => some false) (fun k => ?_) (by simp only [noWords, List.any_cons, hw]; exact Ev.now _)
        simp only [r00_Words.l0]; rw [if_pos (by omega), if_pos (by omega), f_IsWord, hw]; rfl
      · rw [drop_rd hi]
        refine Ev.step (f := fun k => r00_Words.l0 k l ((i + 1 : Nat) : Int)) (fun k => ?_) (by simp only [noWords, List.any_cons, hw]; exact ih)
        simp only [r00_Words.l0]; rw [if_pos (by omega), if_pos (by omega), f_IsWord, hw, wsucc hi hl]; rfl) 0 (Nat.zero_le _)
  exact H
theorem ev_Lists (ls : List (List Int)) (hl : Sh ls) (hw : ∀ l ∈ ls, Sh l) : Ev (fun k => r04_Lists.f k ls) (wordsE ls true) := by
  have H1 := up (n := ls.length) (P := fun i => Ev (fun k => r04_Lists.l1 k ls (i : Int)) (if (ls.drop i).any noWords then 2 else 0))
    (Ev.step (f := fun _ => some 0) (fun k => by simp only [r04_Lists.l1]; rw [if_neg (by omega)]) (by rw [List.drop_length]; exact Ev.now _))
    (fun i hi ih => by
      obtain ⟨K1, h1⟩ := ev_Words (rd_L1 ls (i : Int)) (hw _ (by rw [rdL_get hi]; exact List.getElem_mem _))
      rw [drop_rdL hi]
      cases hn : noWords (rd_L1 ls (i : Int)) <;> rw [hn] at h1
      · obtain ⟨K2, h2⟩ := ih
        refine ⟨K1 + K2 + 1, fun k hk => ?_⟩
        obtain ⟨k, rfl⟩ : ∃ m, k = m + 1 := ⟨k - 1, by omega⟩
        have h1 := h1 k (by omega)
        have h2 := h2 k (by omega)
        simp only at h1 h2
        simp only [r04_Lists.l1]; rw [if_pos (by omega), if_pos (by omega), h1, wsucc hi hl]
        simp only [List.any_cons, hn, Bool.false_or]
        exact h2
      · refine ⟨K1 + 1, fun k hk => ?_⟩
        obtain ⟨k, rfl⟩ : ∃ m, k = m + 1 := ⟨k - 1, by omega⟩
        have h1 := h1 k (by omega)
        simp only at h1
        simp only [r04_Lists.l1]; rw [if_pos (by omega), if_pos (by omega), h1]
        simp only [List.any_cons, hn, Bool.true_or]
        rfl) 0 (Nat.zero_le _)
  have H := up (n := ls.length) (P := fun i => Ev (fun k => r04_Lists.l0 k ls (i : Int)) (if (ls.drop i).any (fun l => decide (1048576 < l.length)) then 3 else if ls.any noWords then 2 else 0))
    (Ev.step (f := fun k => r04_Lists.l1 k ls 0) (fun k => by simp only [r04_Lists.l0]; rw [if_neg (by omega)]) (by rw [List.drop_length]; exact H1))
    (fun i hi ih => by
      rw [drop_rdL hi]
      by_cases hn : 1048576 < (rd_L1 ls (i : Int)).length
      · refine Ev.step (f := fun _ => some 3) (fun k => ?_) (by simp only [List.any_cons, hn, decide_true, Bool.true_or]; exact Ev.now _)
        simp only [r04_Lists.l0]; rw [if_pos (by omega), if_pos (by omega), if_pos (by omega)]
      · refine Ev.step (f := fun k => r04_Lists.l0 k ls ((i + 1 : Nat) : Int)) (fun k => ?_) (by simp only [List.any_cons, hn, decide_false, Bool.false_or]; exact ih)
        simp only [r04_Lists.l0]; rw [if_pos (by omega), if_pos (by omega), if_neg (by omega), wsucc hi hl]) 0 (Nat.zero_le _)
  exact H
def sameLen (ls : List (List Int)) : Bool := ls.all (fun l => l.length == (ls.getD 0 []).length)
theorem wordsE_fit (ls : List (List Int)) (b : Bool) (h : wordsE ls true = 0) : wordsE ls b = if b then 0 else 6 := by
  unfold wordsE at h ⊢
  split at h
  · cases h
  · rename_i h1
    split at h
    · cases h
    · rename_i h2
      rw [if_neg h1, if_neg h2]
theorem wordsE_bad (ls : List (List Int)) (b : Bool) (h : wordsE ls true ≠ 0) : wordsE ls b = wordsE ls true := by
  unfold wordsE at h ⊢
  split
  · rfl
  · split
    · rfl
    · rename_i h1 h2
      rw [if_neg h1, if_neg h2] at h
      exact absurd rfl h
theorem ev_alike (ls : List (List Int)) (hl : Sh ls) (hw : ∀ l ∈ ls, Sh l) : Ev (fun k => r04_alike.f k ls) (wordsE ls (sameLen ls)) := by
  obtain ⟨K, hK⟩ := ev_Lists ls hl hw
  by_cases h0 : wordsE ls true = 0
  · have H := up (n := ls.length) (P := fun i => Ev (fun k => r04_alike.l0 k ls (i : Int)) (if (ls.drop i).all (fun l => l.length == (ls.getD 0 []).length) then 0 else 6))
      (Ev.step (f := fun _ => some 0) (fun k => by simp only [r04_alike.l0]; rw [if_neg (by omega)]) (by rw [List.drop_length]; exact Ev.now _))
      (fun i hi ih => by
        rw [drop_rdL hi]
        have e0 : rd_L1 ls 0 = ls.getD 0 [] := rfl
        by_cases hn : (rd_L1 ls (i : Int)).length = (ls.getD 0 []).length
        · refine Ev.step (f := fun k => r04_alike.l0 k ls ((i + 1 : Nat) : Int)) (fun k => ?_) (by simp only [List.all_cons, hn, BEq.rfl, Bool.true_and]; exact ih)
          simp only [r04_alike.l0]; rw [if_pos (by omega), if_pos (by omega), if_pos (by omega), e0, if_pos (by omega), wsucc hi hl]
        · refine Ev.step (f := fun _ => some 6) (fun k => ?_) (by simp only [List.all_cons, beq_eq_false_iff_ne.2 hn, Bool.false_and]; exact Ev.now _)
          simp only [r04_alike.l0]; rw [if_pos (by omega), if_pos (by omega), if_pos (by omega), e0, if_neg (by omega)]) 0 (Nat.zero_le _)
    obtain ⟨K2, h2⟩ := H
    refine ⟨K + K2, fun k hk => ?_⟩
    have h1 := hK k (by omega)
    have h2 := h2 k (by omega)
    simp only [h0] at h1
    simp only [r04_alike.f, h1, Option.bind_some, if_true]
    rw [wordsE_fit _ _ h0]
    exact h2
  · refine ⟨K, fun k hk => ?_⟩
    have h1 := hK k hk
    simp only at h1
    simp only [r04_alike.f, h1, Option.bind_some]
    rw [if_neg h0, wordsE_bad ls (sameLen ls) h0]
theorem Sh.one {α : Type} (a : α) : Sh [a] := by simp [Sh]
theorem Sh.two {α : Type} (a b : α) : Sh [a, b] := by simp [Sh]
theorem Sh.three {α : Type} (a b c : α) : Sh [a, b, c] := by simp [Sh]
theorem Sh.all1 {a : List Int} (ha : Sh a) : ∀ l ∈ [a], Sh l := by intro l hl; simp at hl; subst hl; exact ha
theorem Sh.all2 {a b : List Int} (ha : Sh a) (hb : Sh b) : ∀ l ∈ [a, b], Sh l := by intro l hl; simp at hl; rcases hl with rfl | rfl <;> assumption
theorem Sh.all3 {a b c : List Int} (ha : Sh a) (hb : Sh b) (hc : Sh c) : ∀ l ∈ [a, b, c], Sh l := by intro l hl; simp at hl; rcases hl with rfl | rfl | rfl <;> assumption
theorem upTo_nat (val : Int → Int) (i : Nat) : upTo val ((i + 1 : Nat) : Int) = upTo val (i : Int) ++ [val (i : Int)] := by
  have := upTo_succ val (i : Int) (by omega)
  rw [← this]; rfl
/-- A loop that puts what a place gives behind the others, or ends with an error. -/
theorem ev_loop {F : Nat → List Int → Int → Option (List Int × Int)} (n : Nat) (val : Int → Int) (okb : Int → Bool)
    (hend : ∀ k xs, F (k + 1) xs (n : Int) = some (xs, 0))
    (hstep : ∀ i : Nat, i < n → okb (i : Int) = true → ∃ K, ∀ k, K ≤ k → ∀ xs : List Int, xs.length = i → F (k + 1) xs (i : Int) = F k (xs ++ [val (i : Int)]) ((i + 1 : Nat) : Int))
    (hbad : ∀ i : Nat, i < n → okb (i : Int) = false → ∃ K, ∀ k, K ≤ k → ∀ xs : List Int, xs.length = i → F (k + 1) xs (i : Int) = some ([], 14)) :
    Ev (fun k => F k [] 0) (allOf n val okb) := by
  have H := up (n := n) (P := fun i => (∀ j : Nat, j < i → okb (j : Int) = true) → Ev (fun k => F k (upTo val (i : Int)) (i : Int)) (allOf n val okb))
    (fun h => by
      rw [allOf_yes n val okb (fun j h0 h1 => by have := h j.toNat (by omega); rwa [Int.toNat_of_nonneg h0] at this)]
      exact Ev.step (f := fun _ => some (upTo val (n : Int), 0)) (fun k => hend k _) (Ev.now _))
    (fun i hi ih hall => by
      have hlen : (upTo val (i : Int)).length = i := by rw [upTo_length]; simp
      cases ho : okb (i : Int)
      · obtain ⟨K, hK⟩ := hbad i hi ho
        rw [allOf_no n val okb (i : Int) (by omega) (by omega) ho]
        refine ⟨K + 1, fun k hk => ?_⟩
        obtain ⟨k, rfl⟩ : ∃ m, k = m + 1 := ⟨k - 1, by omega⟩
        exact hK k (by omega) _ hlen
      · obtain ⟨K, hK⟩ := hstep i hi ho
        obtain ⟨K2, h2⟩ := ih (fun j hj => by
          by_cases e : j = i
          · subst e; exact ho
          · exact hall j (by omega))
        refine ⟨K + K2 + 1, fun k hk => ?_⟩
        obtain ⟨k, rfl⟩ : ∃ m, k = m + 1 := ⟨k - 1, by omega⟩
        have h2 := h2 k (by omega)
        simp only at h2
        show F (k + 1) _ _ = _
        rw [hK k (by omega) _ hlen, ← upTo_nat]
        exact h2) 0 (Nat.zero_le _) (fun j hj => by omega)
  exact H
theorem allOf_true (n : Nat) (val : Int → Int) : allOf n val (fun _ => true) = (upTo val n, 0) := allOf_yes n val _ (fun _ _ _ => rfl)
/-- What comes behind the check of the lists. -/
theorem ev_after {α : Type} {g : Nat → Option Int} {e : Int} (hg : Ev g e) {F : Nat → Option α} {bad : Int → α} {H : Nat → Option α} (hF : ∀ k, F k = (g k).bind fun t => if t = 0 then H k else some (bad t)) {r : α} (h0 : e = 0 → Ev H r) (h1 : e ≠ 0 → r = bad e) : Ev F r := by
  refine Ev.congr hF ?_
  refine Ev.bind hg ?_
  by_cases h : e = 0
  · simp only [h, if_true]; exact h0 h
  · simp only [h, if_false]; rw [h1 h]; exact Ev.now _
theorem ev_Fill (n : Int) (l : List Int) (hl : Sh l) : Ev (fun k => r04_Fill.f k n l) (prim_Fill.g n l) := by
  have e1 : wordsE [l, [n]] true = if wordsE [l] true = 0 then (if isWordB n then 0 else 2) else wordsE [l] true := by
    cases h1 : decide (1048576 < l.length) <;> cases h2 : noWords l <;> cases h3 : isWordB n <;> simp [wordsE, h1, h2] <;> simp_all [noWords] <;> omega
  refine ev_after (bad := fun t => ([], t)) (ev_Lists [l] (Sh.one _) (Sh.all1 hl)) (fun k => rfl) (fun h => ?_) (fun h => ?_)
  · rw [f_IsWord]
    unfold prim_Fill.g
    rw [e1, if_pos h]
    have hlen := (wordsE_ok h).1 l (by simp)
    cases hw : isWordB n
    · simp; exact Ev.now _
    · simp only [Option.bind_some, if_true]
      refine ev_loop (F := fun k xs i => r04_Fill.l0 k n l xs i) l.length _ _ (fun k xs => by simp only [r04_Fill.l0]; rw [if_neg (by omega)]) (fun i hi ho => ⟨0, fun k _ xs hx => ?_⟩) (fun i hi ho => by cases ho)
      simp only [r04_Fill.l0]; rw [if_pos (by omega), if_pos (by omega), wsucc hi (by omega)]
  · unfold prim_Fill.g
    rw [e1, if_neg h, if_neg h]
theorem fit3_same (f a b : List Int) : fit3 f a b = sameLen [f, a, b] := by
  rw [Bool.eq_iff_iff]
  simp [fit3, sameLen]
  omega
theorem same2 (a b : List Int) : ((a.length : Int) == (b.length : Int)) = sameLen [a, b] := by
  rw [Bool.eq_iff_iff]
  simp [sameLen]
  omega
theorem ev_Pick (f a b : List Int) (h1 : Sh f) (h2 : Sh a) (h3 : Sh b) : Ev (fun k => r04_Pick.f k f a b) (prim_Pick.g f a b) := by
  unfold prim_Pick.g
  rw [fit3_same]
  refine ev_after (bad := fun t => ([], t)) (ev_alike [f, a, b] (Sh.three _ _ _) (Sh.all3 h1 h2 h3)) (fun k => rfl) (fun h => ?_) (fun h => by rw [if_neg h])
  rw [if_pos h, ← allOf_true]
  have hok := wordsE_ok h
  have hlen := hok.1 f (by simp)
  have hf := hok.2.2
  rw [← fit3_same] at hf
  simp only [fit3, Bool.and_eq_true, decide_eq_true_eq] at hf
  refine ev_loop (F := fun k xs i => r04_Pick.l0 k f a b xs i) f.length _ _ (fun k xs => by simp only [r04_Pick.l0]; rw [if_neg (by omega)]) (fun i hi ho => ⟨0, fun k _ xs hx => ?_⟩) (fun i hi ho => by cases ho)
  simp only [r04_Pick.l0]; rw [if_pos (by omega), if_pos (by omega)]
  unfold pickAt
  by_cases hz : rd f (i : Int) = 0
  · rw [if_pos hz, if_pos (by omega), if_pos (by omega), wsucc hi (by omega), if_neg (by simp [hz])]
  · rw [if_neg hz, if_pos (by omega), if_pos (by omega), wsucc hi (by omega), if_pos (by simp [hz])]
theorem wrap32_64 (x : Int) : wrap32 (wrap64 x) = wrap32 x := by unfold wrap32 wrap64; omega
theorem ev_Off (a b : List Int) (h1 : Sh a) (h2 : Sh b) : Ev (fun k => r04_Off.f k a b) (prim_Off.g a b) := by
  unfold prim_Off.g
  refine ev_after (bad := fun t => ([], t)) (ev_Lists [a, b] (Sh.two _ _) (Sh.all2 h1 h2)) (fun k => rfl) (fun h => ?_) (fun h => by rw [if_neg h])
  rw [if_pos h]
  have hlen := (wordsE_ok h).1 a (by simp)
  refine ev_loop (F := fun k xs i => r04_Off.l0 k a b xs i) a.length _ _ (fun k xs => by simp only [r04_Off.l0]; rw [if_neg (by omega)]) (fun i hi ho => ⟨0, fun k _ xs hx => ?_⟩) (fun i hi ho => by cases ho)
  simp only [r04_Off.l0]; rw [if_pos (by omega), if_pos (by omega), f_Word, wrap32_64]
  simp only [Option.bind_some]
  rw [if_pos (by omega), wsucc hi (by omega)]
theorem isWordB_iff (n : Int) : isWordB n = true ↔ -2147483648 ≤ n ∧ n ≤ 2147483647 := by simp [isWordB]
theorem f_isOp (n : Int) : r01_isOp.f n = some (isOpB n) := by
  unfold r01_isOp.f
  rw [f_Lies]
  simp only [Option.bind_some, isOpB]
  congr 2
  by_cases h : n < 12 <;> simp [h] <;> omega
theorem f_Is (n : Int) : r01_Is.f n = some (isWordB n) := by unfold r01_Is.f; rw [f_IsWord]; rfl
theorem f_Traps (op b : Int) : r01_Traps.f op b = some (zeroB op b) := by
  unfold r01_Traps.f zeroB
  by_cases h3 : op = 3
  · simp [h3]
  · by_cases h4 : op = 4
    · simp [h4]
    · simp [h3, h4]
theorem f_truth (b : Bool) : r01_truth.f b = some (truthI b) := by cases b <;> rfl
theorem wrap_in {n : Int} (h0 : -9223372036854775808 ≤ n) (h1 : n ≤ 9223372036854775807) : wrap64 n = n := by unfold wrap64; omega
theorem tmod_zero (a b : Int) : a.tdiv b * b = a ↔ a.tmod b = 0 := by
  have := Int.tdiv_mul_add_tmod a b
  omega
theorem f_quotient (a b : Int) (ha : W32 a) (hb : W32 b) (h0 : b ≠ 0) : r01_quotient.f a b = some (quot a b) := by
  have hr := tdiv_range a b ha
  have hm : (a.tdiv b * b).natAbs ≤ a.natAbs := by
    rw [Int.natAbs_mul, Int.natAbs_tdiv]
    exact Nat.div_mul_le_self _ _
  unfold r01_quotient.f quot quotB
  rw [if_neg h0, wrap_in (n := a.tdiv b) (by omega) (by omega)]
  rw [wrap_in (n := a.tdiv b * b) (by unfold W32 at ha; omega) (by unfold W32 at ha; omega)]
  by_cases hz : a.tmod b = 0
  · rw [if_pos ((tmod_zero a b).2 hz), if_neg (by simp [hz])]
  · rw [if_neg (fun h => hz ((tmod_zero a b).1 h))]
    have hz2 : (a.tmod b != 0) = true := by simpa using hz
    rw [hz2, Bool.true_and]
    by_cases hs : ((decide (a < 0)) != (decide (b < 0))) = true
    · rw [if_pos hs, if_pos hs, wrap_in (by omega) (by omega)]
    · rw [if_neg hs, if_neg hs]
theorem mn_min (a b : Int) : mn a b = min a b := by unfold mn; split <;> omega
theorem mx_max (a b : Int) : mx a b = max a b := by unfold mx; split <;> omega
theorem f_Value (op a b : Int) (ha : W32 a) (hb : W32 b) (hz : zeroB op b = false) : r01_Value.f op a b = some (deed op a b) := by
  unfold r01_Value.f deed
  by_cases h0 : op = 0
  · rw [if_pos h0, if_pos h0, f_Word, wrap32_64]; rfl
  rw [if_neg h0, if_neg h0]
  by_cases h1 : op = 1
  · rw [if_pos h1, if_pos h1, f_Word, wrap32_64]; rfl
  rw [if_neg h1, if_neg h1]
  by_cases h2 : op = 2
  · rw [if_pos h2, if_pos h2, f_Word]; rfl
  rw [if_neg h2, if_neg h2]
  by_cases h3 : op = 3
  · rw [if_pos h3, if_pos h3]
    have hb0 : b ≠ 0 := by intro h; simp [zeroB, h, h3] at hz
    rw [f_quotient a b ha hb hb0]
    simp only [Option.bind_some]
    rw [f_Word]; rfl
  rw [if_neg h3, if_neg h3]
  by_cases h4 : op = 4
  · rw [if_pos h4, if_pos h4]
    have hb0 : b ≠ 0 := by intro h; simp [zeroB, h, h4] at hz
    rw [f_quotient a b ha hb hb0]
    simp only [Option.bind_some]
    rw [Int.mul_comm]
  rw [if_neg h4, if_neg h4]
  by_cases h5 : op = 5
  · rw [if_pos h5, if_pos h5, f_truth]; rfl
  rw [if_neg h5, if_neg h5]
  by_cases h6 : op = 6
  · rw [if_pos h6, if_pos h6, f_truth]; rfl
  rw [if_neg h6, if_neg h6]
  by_cases h7 : op = 7
  · rw [if_pos h7, if_pos h7, mn_min]
  rw [if_neg h7, if_neg h7]
  by_cases h8 : op = 8
  · rw [if_pos h8, if_pos h8, mx_max]
  rw [if_neg h8, if_neg h8]
  by_cases h9 : op = 9
  · rw [if_pos h9, if_pos h9]
  rw [if_neg h9, if_neg h9]
  by_cases h10 : op = 10
  · rw [if_pos h10, if_pos h10]
  rw [if_neg h10, if_neg h10]
theorem f_Do (k : Nat) (op a b : Int) : r01_Do.f (k + 1) op a b = some (word_Do.g op a b) := by
  unfold r01_Do.f word_Do.g
  rw [f_isOp]
  simp only [Option.bind_some]
  cases ho : isOpB op
  · simp
  · simp only [if_true]
    rw [f_Is]
    simp only [Option.bind_some]
    cases ha : isWordB a
    · simp only [Bool.false_eq_true, if_false, Bool.false_and]
      simp [r01_Do.j0]
    · simp only [if_true, Bool.true_and]
      rw [f_Is]
      simp only [Option.bind_some]
      cases hb : isWordB b
      · simp [r01_Do.j0]
      · simp only [Bool.not_true, r01_Do.j0, Bool.false_eq_true, if_false, if_true]
        rw [f_Traps]
        simp only [Option.bind_some]
        cases hz : zeroB op b
        · simp only [Bool.false_eq_true, if_false]
          rw [f_Value op a b ((isWordB_iff a).1 ha) ((isWordB_iff b).1 hb) hz]; rfl
        · simp
theorem Do_ok (op a b : Int) (ho : isOpB op = true) (ha : isWordB a = true) (hb : isWordB b = true) : word_Do.g op a b = if zeroB op b then (0, 14) else (deed op a b, 0) := by
  unfold word_Do.g
  rw [ho, ha, hb]; rfl
theorem ev_Bin (op : Int) (a b : List Int) (h1 : Sh a) (h2 : Sh b) : Ev (fun k => r04_Bin.f k op a b) (prim_Bin.g op a b) := by
  unfold prim_Bin.g
  have hop : r00_Lies.f op 0 11 = some (isOpB op) := by
    have := f_isOp op
    unfold r01_isOp.f at this
    rw [f_Lies] at this ⊢
    exact this
  simp only [r04_Bin.f, hop, Option.bind_some]
  cases ho : isOpB op
  · simp only [Bool.false_eq_true, if_false]; exact Ev.now _
  simp only [if_true]
  rw [same2]
  refine ev_after (bad := fun t => ([], t)) (ev_alike [a, b] (Sh.two _ _) (Sh.all2 h1 h2)) (fun k => rfl) (fun h => ?_) (fun h => by rw [if_neg h])
  rw [if_pos h]
  have hok := wordsE_ok h
  have hlen := hok.1 a (by simp)
  have hsame := hok.2.2
  rw [← same2] at hsame
  have hsame : a.length = b.length := by simp at hsame; omega
  have hD : ∀ i : Nat, i < a.length → word_Do.g op (rd a (i : Int)) (rd b (i : Int)) = if zeroB op (rd b (i : Int)) then (0, 14) else (deed op (rd a (i : Int)) (rd b (i : Int)), 0) := fun i hi =>
    Do_ok op _ _ ho (hok.2.1 a (by simp) _ (rd_mem a (i : Int) (by omega) (by omega))) (hok.2.1 b (by simp) _ (rd_mem b (i : Int) (by omega) (by omega)))
  refine ev_loop (F := fun k xs i => r04_Bin.l0 k op a b xs i) a.length _ _ (fun k xs => by simp only [r04_Bin.l0]; rw [if_neg (by omega)]) (fun i hi ho2 => ⟨1, fun k hk xs hx => ?_⟩) (fun i hi ho2 => ⟨1, fun k hk xs hx => ?_⟩)
  · obtain ⟨m, rfl⟩ : ∃ m, k = m + 1 := ⟨k - 1, by omega⟩
    simp only [r04_Bin.l0]; rw [if_pos (by omega), if_pos (by omega), if_pos (by omega), f_Do]
    simp only [Option.bind_some]
    rw [if_pos (by simpa using ho2), if_pos (by omega), wsucc hi (by omega)]
  · obtain ⟨m, rfl⟩ : ∃ m, k = m + 1 := ⟨k - 1, by omega⟩
    simp only [r04_Bin.l0]; rw [if_pos (by omega), if_pos (by omega), if_pos (by omega), f_Do]
    simp only [Option.bind_some]
    rw [if_neg (by simpa using ho2)]
    rw [hD i hi] at ho2 ⊢
    cases hz : zeroB op (rd b (i : Int))
    · rw [hz] at ho2; simp at ho2
    · rfl
theorem PrimPlaces : w04_PrimPlaces.Pure := by
  intro n a b c _ _ h1 _ _ h2 _ _ h3 _
  have s1 : Sh a := by unfold Sh; omega
  have s2 : Sh b := by unfold Sh; omega
  have s3 : Sh c := by unfold Sh; omega
  obtain ⟨K0, e0⟩ := ev_Fill n a s1
  obtain ⟨K1, e1⟩ := ev_Bin n b c s2 s3
  obtain ⟨K2, e2⟩ := ev_Pick a b c s1 s2 s3
  obtain ⟨K3, e3⟩ := ev_Off a b s1 s2
  refine ⟨K0 + K1 + K2 + K3 + 1, ?_⟩
  have e0 := e0 (K0 + K1 + K2 + K3 + 1) (by omega)
  have e1 := e1 (K0 + K1 + K2 + K3 + 1) (by omega)
  have e2 := e2 (K0 + K1 + K2 + K3) (by omega)
  have e3 := e3 (K0 + K1 + K2 + K3) (by omega)
  generalize K0 + K1 + K2 + K3 = k at e0 e1 e2 e3
  simp only at e0 e1 e2 e3
  unfold w04_PrimPlaces.f
  simp [e0, e1, e2, e3, w04_PrimPlaces.j0, pFill.f, pBin.f, pPick.f, pOff.f, Eq_.f, law_done.f]
end Go.Proofs.YtpimackoadfcmaaDoor.Pure
