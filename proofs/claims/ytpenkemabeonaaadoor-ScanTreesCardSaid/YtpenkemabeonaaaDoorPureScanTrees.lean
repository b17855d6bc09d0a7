/- ScanTrees: Tree, Blocks and Levels return what the references return, for any operation, list of at most 400 words, shape and number; it is told of numbers and lists alone. -/
import Derived.Test.YtpenkemabeonaaaDoorPScanTreesx
namespace Go.Proofs.YtpenkemabeonaaaDoor.Pure
open Go.RowKit Go.Proofs.YtpenkemabeonaaaDoor.PScanTrees Go.Proofs.YtpenkemabeonaaaDoor.Hand Go.Proofs.YtpenkemabeonaaaDoorW.PrintWords Go.Proofs.YtpenkemabeonaaaDoorW.PrintLast Go.Proofs.YtpenkemabeonaaaDoorW.PrintMore
set_option linter.unusedVariables false
set_option linter.unusedSimpArgs false
/-- Lists so short that a place's successor is no other number. -/
def Sh {α : Type} (l : List α) : Prop := l.length ≤ 4611686018427387904
theorem wsucc {i n : Nat} (h : i < n) (hn : n ≤ 4611686018427387904) : wrap64 ((i : Int) + 1) = ((i + 1 : Nat) : Int) := by unfold wrap64; omega
theorem rd_get {l : List Int} {i : Nat} (h : i < l.length) : rd l (i : Int) = l[i] := by simp [rd, h]
theorem rdL_get {l : List (List Int)} {i : Nat} (h : i < l.length) : rd_L1 l (i : Int) = l[i] := by simp [rd_L1, h]
theorem drop_rd {l : List Int} {i : Nat} (h : i < l.length) : l.drop i = rd l (i : Int) :: l.drop (i + 1) := by rw [List.drop_eq_getElem_cons h, rd_get h]
theorem up {n : Nat} {P : Nat → Prop} (h0 : P n) (hs : ∀ i, i < n → P (i + 1) → P i) (i : Nat) (hi : i ≤ n) : P i := by
  have key : ∀ d, ∀ i, i + d = n → P i := by
    intro d
    induction d with
    | zero => intro i h; have : i = n := by omega
              subst this; exact h0
    | succ d ih => intro i h; exact hs i (by omega) (ih (i + 1) (by omega))
  exact key (n - i) i (by omega)
theorem f_Lies (a b c : Int) : r00_Lies.f a b c = some (decide (b ≤ a) && decide (a ≤ c)) := by unfold r00_Lies.f; split <;> simp [*]
theorem f_IsWord (n : Int) : r00_IsWord.f n = some (isWordB n) := by unfold r00_IsWord.f; rw [f_Lies]; rfl
theorem f_Word (n : Int) : r00_Word.f n = some (wrap64 (wrap32 n)) := by
  unfold r00_Word.f
  congr 2
  unfold wrap32 IntKind.wrap
  simp only [IntKind.signed, IntKind.bits]
  simp
theorem ev_Words (l : List Int) (hl : Sh l) : Ev (fun k => r00_Words.f k l) (!noWords l) := by
  have H := up (n := l.length) (P := fun i => Ev (fun k => r00_Words.l0 k l (i : Int)) (!noWords (l.drop i)))
    (Ev.step (f := fun _ => some true) (fun k => by simp only [r00_Words.l0]; rw [if_neg (by omega)]) (by rw [List.drop_length]; exact Ev.now _))
    (fun i hi ih => by
      cases hw : isWordB (rd l (i : Int))
      · rw [drop_rd hi]
        refine Ev.step (f := fun _ => some false) (fun k => ?_) (by simp only [noWords, List.any_cons, hw]; exact Ev.now _)
        simp only [r00_Words.l0]; rw [if_pos (by omega), if_pos (by omega), f_IsWord, hw]; rfl
      · rw [drop_rd hi]
        refine Ev.step (f := fun k => r00_Words.l0 k l ((i + 1 : Nat) : Int)) (fun k => ?_) (by simp only [noWords, List.any_cons, hw]; exact ih)
        simp only [r00_Words.l0]; rw [if_pos (by omega), if_pos (by omega), f_IsWord, hw, wsucc hi hl]; rfl) 0 (Nat.zero_le _)
  exact H
/-- What comes behind the check of the lists. -/
theorem ev_after {α : Type} {g : Nat → Option Int} {e : Int} (hg : Ev g e) {F : Nat → Option α} {bad : Int → α} {H : Nat → Option α} (hF : ∀ k, F k = (g k).bind fun t => if t = 0 then H k else some (bad t)) {r : α} (h0 : e = 0 → Ev H r) (h1 : e ≠ 0 → r = bad e) : Ev F r := by
  refine Ev.congr hF ?_
  refine Ev.bind hg ?_
  by_cases h : e = 0
  · simp only [h, if_true]; exact h0 h
  · simp only [h, if_false]; rw [h1 h]; exact Ev.now _
theorem wrap32_64 (x : Int) : wrap32 (wrap64 x) = wrap32 x := by unfold wrap32 wrap64; omega
theorem take_rd {l : List Int} {i : Nat} (h : i < l.length) : l.take (i + 1) = l.take i ++ [rd l (i : Int)] := by
  rw [rd_get h, List.take_add_one, List.getElem?_eq_getElem h]; rfl
theorem isWordB_iff (n : Int) : isWordB n = true ↔ -2147483648 ≤ n ∧ n ≤ 2147483647 := by simp [isWordB]
theorem nonneg {l : List Int} (h : (l.any fun n => decide (n < 0)) = false) : ∀ x ∈ l, 0 ≤ x := by
  intro x hx
  have := List.any_eq_false.1 h x hx
  simpa using this
theorem f_truth (b : Bool) : r01_truth.f b = some (truthI b) := by cases b <;> rfl
theorem wrap_in {n : Int} (h0 : -9223372036854775808 ≤ n) (h1 : n ≤ 9223372036854775807) : wrap64 n = n := by unfold wrap64; omega
theorem tmod_zero (a b : Int) : a.tdiv b * b = a ↔ a.tmod b = 0 := by
  have := Int.tdiv_mul_add_tmod a b
  omega
theorem f_quotient (a b : Int) (ha : W32 a) (hb : W32 b) (h0 : b ≠ 0) : r01_quotient.f a b = some (quot a b) := by
  have hr := tdiv_range a b ha
  have hm : (a.tdiv b * b).natAbs ≤ a.natAbs := by
    rw [Int.natAbs_mul, Int.natAbs_tdiv]
    exact Nat.div_mul_le_self _ _
  unfold r01_quotient.f quot quotB
  rw [if_neg h0, wrap_in (n := a.tdiv b) (by omega) (by omega)]
  rw [wrap_in (n := a.tdiv b * b) (by unfold W32 at ha; omega) (by unfold W32 at ha; omega)]
  by_cases hz : a.tmod b = 0
  · rw [if_pos ((tmod_zero a b).2 hz), if_neg (by simp [hz])]
  · rw [if_neg (fun h => hz ((tmod_zero a b).1 h))]
    have hz2 : (a.tmod b != 0) = true := by simpa using hz
    rw [hz2, Bool.true_and]
    by_cases hs : ((decide (a < 0)) != (decide (b < 0))) = true
    · rw [if_pos hs, if_pos hs, wrap_in (by omega) (by omega)]
    · rw [if_neg hs, if_neg hs]
theorem mn_min (a b : Int) : mn a b = min a b := by unfold mn; split <;> omega
theorem mx_max (a b : Int) : mx a b = max a b := by unfold mx; split <;> omega
theorem f_Value (op a b : Int) (ha : W32 a) (hb : W32 b) (hz : zeroB op b = false) : r01_Value.f op a b = some (deed op a b) := by
  unfold r01_Value.f deed
  by_cases h0 : op = 0
  · rw [if_pos h0, if_pos h0, f_Word, wrap32_64]; rfl
  rw [if_neg h0, if_neg h0]
  by_cases h1 : op = 1
  · rw [if_pos h1, if_pos h1, f_Word, wrap32_64]; rfl
  rw [if_neg h1, if_neg h1]
  by_cases h2 : op = 2
  · rw [if_pos h2, if_pos h2, f_Word]; rfl
  rw [if_neg h2, if_neg h2]
  by_cases h3 : op = 3
  · rw [if_pos h3, if_pos h3]
    have hb0 : b ≠ 0 := by intro h; simp [zeroB, h, h3] at hz
    rw [f_quotient a b ha hb hb0]
    simp only [Option.bind_some]
    rw [f_Word]; rfl
  rw [if_neg h3, if_neg h3]
  by_cases h4 : op = 4
  · rw [if_pos h4, if_pos h4]
    have hb0 : b ≠ 0 := by intro h; simp [zeroB, h, h4] at hz
    rw [f_quotient a b ha hb hb0]
    simp only [Option.bind_some]
    rw [Int.mul_comm]
  rw [if_neg h4, if_neg h4]
  by_cases h5 : op = 5
  · rw [if_pos h5, if_pos h5, f_truth]; rfl
  rw [if_neg h5, if_neg h5]
  by_cases h6 : op = 6
  · rw [if_pos h6, if_pos h6, f_truth]; rfl
  rw [if_neg h6, if_neg h6]
  by_cases h7 : op = 7
  · rw [if_pos h7, if_pos h7, mn_min]
  rw [if_neg h7, if_neg h7]
  by_cases h8 : op = 8
  · rw [if_pos h8, if_pos h8, mx_max]
  rw [if_neg h8, if_neg h8]
  by_cases h9 : op = 9
  · rw [if_pos h9, if_pos h9]
  rw [if_neg h9, if_neg h9]
  by_cases h10 : op = 10
  · rw [if_pos h10, if_pos h10]
  rw [if_neg h10, if_neg h10]
theorem Do_ok (op a b : Int) (ho : isOpB op = true) (ha : isWordB a = true) (hb : isWordB b = true) : word_Do.g op a b = if zeroB op b then (0, 14) else (deed op a b, 0) := by
  unfold word_Do.g
  rw [ho, ha, hb]; rfl
theorem i64_toInt (x : BitVec 64) : IntKind.i64.wrap (x.toNat : Int) = x.toInt := by
  have h : IntKind.i64.wrap (x.toNat : Int) = ((x.toNat : Int) + 9223372036854775808) % 18446744073709551616 - 9223372036854775808 := by
    simp [IntKind.wrap, IntKind.bits, IntKind.signed]
    split <;> omega
  rw [h, BitVec.toInt_eq_toNat_cond]
  have := x.isLt
  split <;> omega
theorem ext64 (a : Int) (h : -2147483648 ≤ a ∧ a ≤ 2147483647) : BitVec.ofInt 64 a = (BitVec.ofInt 32 a).signExtend 64 := by
  apply BitVec.eq_of_toInt_eq
  rw [BitVec.toInt_signExtend_of_le (by decide), BitVec.toInt_ofInt, BitVec.toInt_ofInt]
  rw [Int.bmod_eq_of_le (by omega) (by omega), Int.bmod_eq_of_le (by omega) (by omega)]
theorem word_of_ext (c : BitVec 32) : -2147483648 ≤ IntKind.i64.wrap (((c.signExtend 64).toNat : Nat) : Int) ∧ IntKind.i64.wrap (((c.signExtend 64).toNat : Nat) : Int) ≤ 2147483647 := by
  rw [i64_toInt, BitVec.toInt_signExtend_of_le (by decide)]
  have h1 := BitVec.le_toInt c
  have h2 := BitVec.toInt_lt (x := c)
  omega
theorem and_word (a b : Int) (ha : -2147483648 ≤ a ∧ a ≤ 2147483647) (hb : -2147483648 ≤ b ∧ b ≤ 2147483647) : -2147483648 ≤ bits .and .i64 a b ∧ bits .and .i64 a b ≤ 2147483647 := by
  have e : bits .and .i64 a b = IntKind.i64.wrap ((((BitVec.ofInt 32 a &&& BitVec.ofInt 32 b).signExtend 64).toNat : Nat) : Int) := by
    show IntKind.i64.wrap (((BitVec.ofInt 64 a &&& BitVec.ofInt 64 b).toNat : Nat) : Int) = _
    rw [ext64 a ha, ext64 b hb, BitVec.signExtend_and]
  rw [e]; exact word_of_ext _
theorem or_word (a b : Int) (ha : -2147483648 ≤ a ∧ a ≤ 2147483647) (hb : -2147483648 ≤ b ∧ b ≤ 2147483647) : -2147483648 ≤ bits .or .i64 a b ∧ bits .or .i64 a b ≤ 2147483647 := by
  have e : bits .or .i64 a b = IntKind.i64.wrap ((((BitVec.ofInt 32 a ||| BitVec.ofInt 32 b).signExtend 64).toNat : Nat) : Int) := by
    show IntKind.i64.wrap (((BitVec.ofInt 64 a ||| BitVec.ofInt 64 b).toNat : Nat) : Int) = _
    rw [ext64 a ha, ext64 b hb, BitVec.signExtend_or]
  rw [e]; exact word_of_ext _
theorem xor_word (a b : Int) (ha : -2147483648 ≤ a ∧ a ≤ 2147483647) (hb : -2147483648 ≤ b ∧ b ≤ 2147483647) : -2147483648 ≤ bits .xor .i64 a b ∧ bits .xor .i64 a b ≤ 2147483647 := by
  have e : bits .xor .i64 a b = IntKind.i64.wrap ((((BitVec.ofInt 32 a ^^^ BitVec.ofInt 32 b).signExtend 64).toNat : Nat) : Int) := by
    show IntKind.i64.wrap (((BitVec.ofInt 64 a ^^^ BitVec.ofInt 64 b).toNat : Nat) : Int) = _
    rw [ext64 a ha, ext64 b hb, BitVec.signExtend_xor]
  rw [e]; exact word_of_ext _
/-- An operation, but division. -/
def plainOp (op : Int) : Prop := 0 ≤ op ∧ op < 12 ∧ op ≠ 3 ∧ op ≠ 4
theorem deed_word (op a b : Int) (ho : plainOp op) (ha : isWordB a = true) (hb : isWordB b = true) : isWordB (deed op a b) = true := by
  rw [isWordB_iff] at *
  unfold deed
  by_cases h0 : op = 0
  · rw [if_pos h0]; unfold wrap64 wrap32; omega
  rw [if_neg h0]
  by_cases h1 : op = 1
  · rw [if_pos h1]; unfold wrap64 wrap32; omega
  rw [if_neg h1]
  by_cases h2 : op = 2
  · rw [if_pos h2]; generalize wrap64 (a * b) = x; unfold wrap64 wrap32; omega
  rw [if_neg h2, if_neg ho.2.2.1, if_neg ho.2.2.2]
  by_cases h5 : op = 5
  · rw [if_pos h5]; unfold truthI; split <;> omega
  rw [if_neg h5]
  by_cases h6 : op = 6
  · rw [if_pos h6]; unfold truthI; split <;> omega
  rw [if_neg h6]
  by_cases h7 : op = 7
  · rw [if_pos h7]; omega
  rw [if_neg h7]
  by_cases h8 : op = 8
  · rw [if_pos h8]; omega
  rw [if_neg h8]
  by_cases h9 : op = 9
  · rw [if_pos h9]; exact and_word a b ha hb
  rw [if_neg h9]
  by_cases h10 : op = 10
  · rw [if_pos h10]; exact or_word a b ha hb
  rw [if_neg h10]
  exact xor_word a b ha hb
theorem f_Neutral (op : Int) : rNeut.f op = some (neutG op) := rfl
/-- An operation that is associative. -/
theorem assoc_of {op nn : Int} (h : neutG op = (nn, 0)) : isOpB op = true ∧ assocB op = true ∧ nn = neutI op := by
  unfold neutG at h
  cases h1 : isOpB op
  · rw [h1] at h; simp at h
  · cases h2 : assocB op
    · rw [h1, h2] at h; simp at h
    · rw [h1, h2] at h
      simp at h
      exact ⟨rfl, rfl, h.symm⟩
theorem assoc_ops {op : Int} (h : assocB op = true) : op = 0 ∨ op = 2 ∨ op = 7 ∨ op = 8 ∨ op = 9 ∨ op = 10 ∨ op = 11 := by
  simp only [assocB, Bool.or_eq_true, beq_iff_eq] at h
  omega
theorem assoc_zero {op : Int} (h : assocB op = true) (b : Int) : zeroB op b = false := by
  rcases assoc_ops h with rfl | rfl | rfl | rfl | rfl | rfl | rfl <;> simp [zeroB]
theorem assoc_plain {op : Int} (h : assocB op = true) : plainOp op := by
  unfold plainOp
  rcases assoc_ops h with rfl | rfl | rfl | rfl | rfl | rfl | rfl <;> omega
theorem neut_word {op nn : Int} (h : neutG op = (nn, 0)) : isWordB nn = true := by
  obtain ⟨_, h2, rfl⟩ := assoc_of h
  rcases assoc_ops h2 with rfl | rfl | rfl | rfl | rfl | rfl | rfl <;> rfl
theorem joinI_deed {op nn : Int} (h : neutG op = (nn, 0)) {a b : Int} (ha : isWordB a = true) (hb : isWordB b = true) : joinI op a b = deed op a b := by
  obtain ⟨h1, h2, _⟩ := assoc_of h
  unfold joinI
  rw [Do_ok op a b h1 ha hb, assoc_zero h2]
  rfl
theorem joinI_word {op nn : Int} (h : neutG op = (nn, 0)) {a b : Int} (ha : isWordB a = true) (hb : isWordB b = true) : isWordB (joinI op a b) = true := by
  rw [joinI_deed h ha hb]
  exact deed_word op a b (assoc_plain (assoc_of h).2.1) ha hb
theorem f_Value5 {op nn : Int} (h : neutG op = (nn, 0)) {a b : Int} (ha : isWordB a = true) (hb : isWordB b = true) : r01_Value.f op a b = some (joinI op a b) := by
  rw [f_Value op a b ((isWordB_iff a).1 ha) ((isWordB_iff b).1 hb) (assoc_zero (assoc_of h).2.1 b), joinI_deed h ha hb]
theorem wsE_words {l : List Int} (h : l.length ≤ 1048576) : wsE l = if noWords l then 2 else 0 := by
  unfold wsE
  rw [if_neg (by omega)]
/-- What is asked of a list in segments. -/
def segE (op : Int) (l lens : List Int) : Int :=
  if (neutG op).2 = 0 then (if decide (1048576 < l.length) || decide (1048576 < lens.length) then 3 else if (wsE l != 0) || (wsE lens != 0) then 2 else if okLens l lens then 0 else 6) else (neutG op).2
theorem told_segE (op : Int) (l lens : List Int) (has : Bool) (f : Int → Int → Int) (en : Bool) : told_g op l lens has f en = if segE op l lens = 0 then (segTo op (neutG op).1 l lens has f en lens.length, 0) else ([], segE op l lens) := by
  unfold told_g segE
  by_cases h1 : (neutG op).2 = 0
  · rw [if_pos h1, if_pos h1]
    by_cases h2 : (decide (1048576 < l.length) || decide (1048576 < lens.length)) = true
    · rw [if_pos h2, if_pos h2]; rfl
    · rw [if_neg h2, if_neg h2]
      by_cases h3 : ((wsE l != 0) || (wsE lens != 0)) = true
      · rw [if_pos h3, if_pos h3]; rfl
      · rw [if_neg h3, if_neg h3]
        by_cases h4 : okLens l lens = true
        · rw [if_pos h4, if_pos h4]; rfl
        · rw [if_neg h4, if_neg h4]; rfl
  · rw [if_neg h1, if_neg h1, if_neg h1]
theorem start_sum (lens : List Int) (h : ∀ x ∈ lens, 0 ≤ x) : ∀ i : Nat, i ≤ lens.length → (startOf lens (i : Int) : Int) = (lens.take i).sum
  | 0, _ => by simp [startOf]
  | i + 1, hi => by
    have ih := start_sum lens h i (by omega)
    have h2 := startOf_succ lens (i : Int) (by omega) (by omega)
    have h3 : 0 ≤ rd lens (i : Int) := by rw [rd_get (by omega)]; exact h _ (List.getElem_mem _)
    rw [show ((i + 1 : Nat) : Int) = (i : Int) + 1 by omega, h2, take_rd (by omega), List.sum_append]
    simp
    omega
theorem ev_Check (lens : List Int) (hl : lens.length ≤ 1048576) : Ev (fun k => r02_Check.f k lens) (if lens.any (fun n => decide (n < 0)) then (0, 2) else if min lens.sum 2097152 > 1048576 then (0, 9) else (min lens.sum 2097152, 0)) := by
  have sumnn : ∀ m : List Int, m.any (fun n => decide (n < 0)) = false → 0 ≤ m.sum := by
    intro m
    induction m with
    | nil => intro _; simp
    | cons a m ih =>
      intro h
      simp only [List.any_cons, Bool.or_eq_false_iff, decide_eq_false_iff_not] at h
      have := ih h.2
      rw [List.sum_cons]
      omega
  have H := up (n := lens.length) (P := fun i => ∀ c : Int, 0 ≤ c → c ≤ 2097152 → Ev (fun k => r02_Check.l0 k lens c (i : Int)) (if (lens.drop i).any (fun n => decide (n < 0)) then (0, 2) else if min (c + (lens.drop i).sum) 2097152 > 1048576 then (0, 9) else (min (c + (lens.drop i).sum) 2097152, 0)))
    (fun c h0 h1 => by
      rw [List.drop_length]
      have e : min (c + ([] : List Int).sum) 2097152 = c := by simp; omega
      rw [e]
      simp only [List.any_nil, Bool.false_eq_true, if_false]
      by_cases h : c > 1048576
      · refine Ev.step (f := fun _ => some (0, 9)) (fun k => ?_) (by rw [if_pos h]; exact Ev.now _)
        simp only [r02_Check.l0]; rw [if_neg (by omega), if_pos h]
      · refine Ev.step (f := fun _ => some (c, 0)) (fun k => ?_) (by rw [if_neg h]; exact Ev.now _)
        simp only [r02_Check.l0]; rw [if_neg (by omega), if_neg h])
    (fun i hi ih c h0 h1 => by
      rw [drop_rd hi]
      by_cases hn : rd lens (i : Int) < 0
      · refine Ev.step (f := fun _ => some (0, 2)) (fun k => ?_) (by simp only [List.any_cons, hn, decide_true, Bool.true_or, if_true]; exact Ev.now _)
        simp only [r02_Check.l0]; rw [if_pos (by omega), if_pos (by omega), if_pos hn]
      · have hmn := mn_min (rd lens (i : Int)) 2097152
        have hmn2 := mn_min (c + min (rd lens (i : Int)) 2097152) 2097152
        have hw : wrap64 (c + min (rd lens (i : Int)) 2097152) = c + min (rd lens (i : Int)) 2097152 := wrap_in (by omega) (by omega)
        have h2 := ih (min (c + min (rd lens (i : Int)) 2097152) 2097152) (by omega) (by omega)
        refine Ev.step (f := fun k => r02_Check.l0 k lens (min (c + min (rd lens (i : Int)) 2097152) 2097152) ((i + 1 : Nat) : Int)) (fun k => ?_) ?_
        · simp only [r02_Check.l0]; rw [if_pos (by omega), if_pos (by omega), if_neg hn, hmn, hw, hmn2, wsucc hi (by omega)]
        · simp only [List.any_cons, hn, decide_false, Bool.false_or, List.sum_cons]
          cases ha : (lens.drop (i + 1)).any (fun n => decide (n < 0))
          · have h3 := sumnn _ ha
            rw [ha] at h2
            simp only [Bool.false_eq_true, if_false] at h2 ⊢
            have e : min (min (c + min (rd lens (i : Int)) 2097152) 2097152 + (lens.drop (i + 1)).sum) 2097152 = min (c + (rd lens (i : Int) + (lens.drop (i + 1)).sum)) 2097152 := by omega
            rw [e] at h2
            exact h2
          · rw [ha] at h2
            simp only [if_true] at h2 ⊢
            exact h2) 0 (Nat.zero_le _) 0 (by omega) (by omega)
  simp only [r02_Check.f]
  rw [List.drop_zero, Int.zero_add] at H
  refine Ev.congr (f := fun k => r02_Check.l0 k lens 0 0) (fun k => by rw [if_neg (by omega)]) H
theorem ev_segments (op : Int) (l lens : List Int) (h1 : Sh l) (h2 : Sh lens) : Ev (fun k => r05_segments.f k op l lens) (segE op l lens) := by
  unfold segE
  simp only [r05_segments.f, f_Neutral, Option.bind_some]
  by_cases hn : (neutG op).2 = 0
  · simp only [hn, if_true]
    have long : Ev (fun k => r05_segments.j0 k l lens true) 3 := Ev.step (f := fun _ => some 3) (fun k => by simp only [r05_segments.j0, if_true]) (Ev.now _)
    by_cases hl : 1048576 < l.length
    · have e1 : ((l.length : Int) > 1048576) := by omega
      simp only [e1, if_true, hl, decide_true, Bool.true_or]
      exact long
    · have e1 : ¬ ((l.length : Int) > 1048576) := by omega
      simp only [e1, if_false, hl, decide_false, Bool.false_or]
      by_cases hl2 : 1048576 < lens.length
      · have e2 : ((lens.length : Int) > 1048576) := by omega
        simp only [e2, decide_true, hl2, if_true]
        exact long
      · have e2 : ¬ ((lens.length : Int) > 1048576) := by omega
        simp only [e2, decide_false, hl2, Bool.false_eq_true, if_false]
        rw [wsE_words (by omega), wsE_words (by omega)]
        have bad : Ev (fun k => r05_segments.j1 k l lens true) 2 := Ev.step (f := fun _ => some 2) (fun k => by simp only [r05_segments.j1, if_true]) (Ev.now _)
        refine Ev.step (f := fun k => (r00_Words.f k l).bind fun t120 => (if t120 = true then ((r00_Words.f k lens).bind fun t121 => (r05_segments.j1 k l lens (!t121))) else (r05_segments.j1 k l lens true))) (fun k => by simp only [r05_segments.j0, Bool.false_eq_true, if_false]) ?_
        refine Ev.bind (ev_Words l h1) ?_
        cases hw : noWords l
        · simp only [Bool.not_false, if_true, Bool.false_eq_true, if_false]
          refine Ev.bind (ev_Words lens h2) ?_
          cases hw2 : noWords lens
          · simp only [Bool.not_false, Bool.not_true, Bool.false_eq_true, if_false]
            refine Ev.step (f := fun k => (r02_Check.f k lens).bind fun bt122 => (if bt122.2 = 0 then (if bt122.1 = (l.length : Int) then (some 0) else (some 6)) else (some 6))) (fun k => by simp only [r05_segments.j1, Bool.false_eq_true, if_false]) ?_
            refine Ev.bind (ev_Check lens (by omega)) ?_
            have hb : ((0 : Int) != 0 || (0 : Int) != 0) = false := rfl
            rw [hb]
            simp only [Bool.false_eq_true, if_false]
            cases ha : lens.any (fun n => decide (n < 0))
            · have hnn := nonneg ha
              have hall : lens.all (fun n => decide (0 ≤ n)) = true := by rw [List.all_eq_true]; intro x hx; rw [decide_eq_true_eq]; exact hnn x hx
              have hst := start_sum lens hnn lens.length (Nat.le_refl _)
              rw [List.take_length] at hst
              simp only [okLens, hall, Bool.true_and, Bool.false_eq_true, if_false]
              by_cases hs : min lens.sum 2097152 > 1048576
              · rw [if_pos hs]
                simp only [show ¬ ((9 : Int) = 0) by omega, if_false]
                have e : (startOf lens (lens.length : Int) == l.length) = false := by rw [beq_eq_false_iff_ne]; omega
                rw [e]
                exact Ev.now _
              · rw [if_neg hs]
                simp only [if_true]
                by_cases hq : min lens.sum 2097152 = (l.length : Int)
                · have e : (startOf lens (lens.length : Int) == l.length) = true := by rw [beq_iff_eq]; omega
                  rw [e]
                  simp only [hq, if_true]
                  exact Ev.now _
                · have e : (startOf lens (lens.length : Int) == l.length) = false := by rw [beq_eq_false_iff_ne]; omega
                  rw [e]
                  simp only [hq, if_false]
                  exact Ev.now _
            · have hall : lens.all (fun n => decide (0 ≤ n)) = false := by
                obtain ⟨x, hx, hx2⟩ := List.any_eq_true.1 ha
                rw [List.all_eq_false]
                exact ⟨x, hx, by simp at hx2 ⊢; omega⟩
              simp only [okLens, hall, Bool.false_and, if_true, show ¬ ((2 : Int) = 0) by omega, if_false]
              exact Ev.now _
          · simp only [Bool.not_true, Bool.not_false, if_true]
            exact bad
        · simp only [Bool.not_true, Bool.false_eq_true, if_false, if_true]
          exact bad
  · simp only [hn, if_false]
    exact Ev.now _
theorem wadd (a b : Nat) (h : a + b ≤ 4611686018427387904) : wrap64 ((a : Int) + (b : Int)) = ((a + b : Nat) : Int) := by rw [wrap_in (by omega) (by omega)]; omega
theorem rdw {l : List Int} (hw : ∀ x ∈ l, isWordB x = true) {i : Nat} (hi : i < l.length) : isWordB (rd l (i : Int)) = true := by
  rw [rd_get hi]; exact hw _ (List.getElem_mem _)
theorem nowAt_word {op nn : Int} (h : neutG op = (nn, 0)) {l : List Int} (hw : ∀ x ∈ l, isWordB x = true) (st : Nat) : ∀ k, st + k ≤ l.length → isWordB (nowAt op nn l st k) = true
  | 0, _ => neut_word h
  | k + 1, hk => joinI_word h (nowAt_word h hw st k (by omega)) (rdw hw (by omega))
theorem ev_Joined {op nn : Int} (h : neutG op = (nn, 0)) (l : List Int) (hl : Sh l) (hw : ∀ x ∈ l, isWordB x = true) : Ev (fun k => r05_Joined.f k op l) (nowAt op nn l 0 l.length) := by
  have H := up (n := l.length) (P := fun i => Ev (fun k => r05_Joined.l0 k op l (nowAt op nn l 0 i) (i : Int)) (nowAt op nn l 0 l.length))
    (Ev.step (f := fun _ => some (nowAt op nn l 0 l.length)) (fun k => by simp only [r05_Joined.l0]; rw [if_neg (by omega)]) (Ev.now _))
    (fun i hi ih => by
      refine Ev.step (f := fun k => r05_Joined.l0 k op l (nowAt op nn l 0 (i + 1)) ((i + 1 : Nat) : Int)) (fun k => ?_) ih
      have e : nowAt op nn l 0 (i + 1) = joinI op (nowAt op nn l 0 i) (rd l (i : Int)) := by rw [nowAt, Nat.zero_add]
      simp only [r05_Joined.l0]
      rw [if_pos (by omega), if_pos (by omega), f_Value5 h (nowAt_word h hw 0 i (by omega)) (rdw hw hi), wsucc hi hl, e]
      rfl) 0 (Nat.zero_le _)
  refine Ev.congr (f := fun k => r05_Joined.l0 k op l nn 0) (fun k => by simp only [r05_Joined.f, f_Neutral, h, Option.bind_some]) H
theorem rd_sub (l : List Int) (st e k : Nat) (he : e ≤ l.length) (hk : st + k < e) : rd ((l.take e).drop st) (k : Int) = rd l ((st + k : Nat) : Int) := by
  rw [rd_get (by rw [List.length_drop, List.length_take]; omega), rd_get (by omega)]
  simp
theorem nowAt_sub (op nn : Int) (l : List Int) (st e : Nat) (he : e ≤ l.length) : ∀ k, st + k ≤ e → nowAt op nn ((l.take e).drop st) 0 k = nowAt op nn l st k
  | 0, _ => rfl
  | k + 1, hk => by rw [nowAt, nowAt, nowAt_sub op nn l st e he k (by omega), Nat.zero_add, rd_sub l st e k he (by omega)]
theorem okLens_of {l lens : List Int} (h : okLens l lens = true) : (∀ x ∈ lens, 0 ≤ x) ∧ startOf lens lens.length = l.length := by
  simp only [okLens, Bool.and_eq_true, List.all_eq_true, decide_eq_true_eq, beq_iff_eq] at h
  exact h
theorem start_step {l lens : List Int} (h : okLens l lens = true) {i : Nat} (hi : i < lens.length) : rd lens (i : Int) = ((rd lens (i : Int)).toNat : Int) ∧ startOf lens ((i + 1 : Nat) : Int) = startOf lens (i : Int) + (rd lens (i : Int)).toNat ∧ startOf lens ((i + 1 : Nat) : Int) ≤ l.length := by
  obtain ⟨h1, h2⟩ := okLens_of h
  have h3 : 0 ≤ rd lens (i : Int) := by rw [rd_get hi]; exact h1 _ (List.getElem_mem _)
  have h4 := startOf_succ lens (i : Int) (by omega) (by omega)
  have h5 := startOf_mono lens ((i + 1 : Nat) : Int) (by omega) (lens.length - (i + 1)) (by omega)
  rw [show ((i + 1 : Nat) : Int) + ((lens.length - (i + 1) : Nat) : Int) = (lens.length : Int) by omega, h2] at h5
  refine ⟨by omega, ?_, h5⟩
  rw [show ((i + 1 : Nat) : Int) = (i : Int) + 1 by omega]
  exact h4
/-- What a segments' check that answers nothing says. -/
theorem segE_ok {op : Int} {l lens : List Int} (h : segE op l lens = 0) : (neutG op).2 = 0 ∧ l.length ≤ 1048576 ∧ lens.length ≤ 1048576 ∧ (∀ x ∈ l, isWordB x = true) ∧ (∀ x ∈ lens, isWordB x = true) ∧ okLens l lens = true := by
  unfold segE at h
  by_cases h1 : (neutG op).2 = 0
  · rw [if_pos h1] at h
    by_cases h2 : (decide (1048576 < l.length) || decide (1048576 < lens.length)) = true
    · rw [if_pos h2] at h; omega
    · rw [if_neg h2] at h
      by_cases h3 : ((wsE l != 0) || (wsE lens != 0)) = true
      · rw [if_pos h3] at h; omega
      · rw [if_neg h3] at h
        by_cases h4 : okLens l lens = true
        · simp at h3
          exact ⟨h1, (wsE_ok h3.1).1, (wsE_ok h3.2).1, (wsE_ok h3.1).2, (wsE_ok h3.2).2, h4⟩
        · rw [if_neg h4] at h; omega
  · rw [if_neg h1] at h
    exact absurd h h1
theorem neut_pair {op : Int} (h : (neutG op).2 = 0) : neutG op = ((neutG op).1, 0) := Prod.ext rfl h
theorem segTo_false (op nn : Int) (l lens : List Int) (f : Int → Int → Int) (i : Nat) : segTo op nn l lens false f true (i + 1) = segTo op nn l lens false f true i ++ [nowAt op nn l (startOf lens i) (rd lens (i : Int)).toNat] := by
  have e : ∀ k, outsAt op nn l (startOf lens i) false f k = [] := by
    intro k
    induction k with
    | zero => rfl
    | succ k ih => unfold outsAt; simpa using ih
  rw [segTo, e, List.append_nil]
  rfl
theorem ev_Fold (op : Int) (l lens : List Int) (h1 : Sh l) (h2 : Sh lens) : Ev (fun k => r05_Fold.f k op l lens) (scan_Fold.g op l lens) := by
  unfold scan_Fold.g
  rw [told_segE]
  refine ev_after (ev_segments op l lens h1 h2) (bad := fun t => ([], t)) (H := fun k => r05_Fold.l0 k op l lens [] 0 0) (fun k => by simp only [r05_Fold.f]) (fun h0 => ?_) (fun h0 => by rw [if_neg h0])
  rw [if_pos h0]
  obtain ⟨g1, g2, g3, g4, g5, g6⟩ := segE_ok h0
  have hn := neut_pair g1
  generalize (neutG op).1 = nn at *
  generalize hR : segTo op nn l lens false (fun _ _ => 0) true lens.length = R
  have H := up (n := lens.length) (P := fun i => Ev (fun k => r05_Fold.l0 k op l lens (segTo op nn l lens false (fun _ _ => 0) true i) (startOf lens (i : Int) : Int) (i : Int)) (R, 0))
    (Ev.step (f := fun _ => some (R, 0)) (fun k => by simp only [r05_Fold.l0]; rw [if_neg (by omega), hR]) (Ev.now _))
    (fun i hi ih => by
      obtain ⟨s1, s2, s3⟩ := start_step g6 hi
      have hlen := segTo_length op nn l lens false (fun _ _ => 0) true i (by omega)
      have hw : wrap64 ((startOf lens (i : Int) : Int) + rd lens (i : Int)) = (startOf lens ((i + 1 : Nat) : Int) : Int) := by rw [wrap_in (by omega) (by omega)]; omega
      replace hw := Aside0.mk hw
      have hJ := ev_Joined hn ((l.take (startOf lens ((i + 1 : Nat) : Int))).drop (startOf lens (i : Int))) (by unfold Sh; rw [List.length_drop, List.length_take]; omega) (fun x hx => g4 x (List.mem_of_mem_take (List.mem_of_mem_drop hx)))
      have hll : ((l.take (startOf lens ((i + 1 : Nat) : Int))).drop (startOf lens (i : Int))).length = (rd lens (i : Int)).toNat := by rw [List.length_drop, List.length_take]; omega
      rw [hll, nowAt_sub op nn l _ _ s3 _ (by omega)] at hJ
      refine Ev.step (f := fun k => (r05_Joined.f k op ((l.take (startOf lens ((i + 1 : Nat) : Int))).drop (startOf lens (i : Int)))).bind fun t => r05_Fold.l0 k op l lens (segTo op nn l lens false (fun _ _ => 0) true i ++ [t]) (startOf lens ((i + 1 : Nat) : Int) : Int) ((i + 1 : Nat) : Int)) (fun k => ?_) (Ev.bind hJ (by rw [← segTo_false]; exact ih))
      simp only [r05_Fold.l0]
      rw [if_pos (by omega), if_pos (by omega), if_pos (by omega), hw.out, if_pos (by omega), if_pos (by omega), Int.toNat_natCast, Int.toNat_natCast, wsucc hi (by omega)]
      congr 1
      funext t
      rw [if_pos (by omega)]) 0 (Nat.zero_le _)
  exact H
theorem segTo_true (op nn : Int) (l lens : List Int) (f : Int → Int → Int) (i : Nat) : segTo op nn l lens true f false (i + 1) = segTo op nn l lens true f false i ++ outsAt op nn l (startOf lens i) true f (rd lens (i : Int)).toNat := by
  rw [segTo]; simp
theorem outsAt_true (op nn : Int) (l : List Int) (st : Nat) (f : Int → Int → Int) (k : Nat) : outsAt op nn l st true f (k + 1) = outsAt op nn l st true f k ++ [f (nowAt op nn l st k) (nowAt op nn l st (k + 1))] := by
  rw [outsAt]; rfl
theorem ev_Scan (op : Int) (l lens : List Int) (h1 : Sh l) (h2 : Sh lens) : Ev (fun k => r05_Scan.f k op l lens) (scan_Scan.g op l lens) := by
  unfold scan_Scan.g
  rw [told_segE]
  refine ev_after (ev_segments op l lens h1 h2) (bad := fun t => ([], t)) (H := fun k => r05_Scan.l0 k op l lens [] 0 0) (fun k => by simp only [r05_Scan.f]) (fun h0 => ?_) (fun h0 => by rw [if_neg h0])
  rw [if_pos h0]
  obtain ⟨g1, g2, g3, g4, g5, g6⟩ := segE_ok h0
  have hn := neut_pair g1
  generalize (neutG op).1 = nn at *
  generalize hR : segTo op nn l lens true (fun a _ => a) false lens.length = R
  have H := up (n := lens.length) (P := fun i => Ev (fun k => r05_Scan.l0 k op l lens (segTo op nn l lens true (fun a _ => a) false i) (startOf lens (i : Int) : Int) (i : Int)) (R, 0))
    (Ev.step (f := fun _ => some (R, 0)) (fun k => by simp only [r05_Scan.l0]; rw [if_neg (by omega), hR]) (Ev.now _))
    (fun i hi ih => by
      obtain ⟨s1, s2, s3⟩ := start_step g6 hi
      have hlen := segTo_length op nn l lens true (fun a _ => a) false i (by omega)
      have hw : wrap64 ((startOf lens (i : Int) : Int) + rd lens (i : Int)) = (startOf lens ((i + 1 : Nat) : Int) : Int) := by rw [wrap_in (by omega) (by omega)]; omega
      replace hw := Aside0.mk hw
      have Q := up (n := (rd lens (i : Int)).toNat) (P := fun j => Ev (fun k => r05_Scan.l1 k op l lens (segTo op nn l lens true (fun a _ => a) false i ++ outsAt op nn l (startOf lens i) true (fun a _ => a) j) (startOf lens (i : Int) : Int) (i : Int) (nowAt op nn l (startOf lens i) j) (j : Int)) (R, 0))
        (by
          rw [← segTo_true]
          refine Ev.step (f := fun k => r05_Scan.l0 k op l lens (segTo op nn l lens true (fun a _ => a) false (i + 1)) (startOf lens ((i + 1 : Nat) : Int) : Int) ((i + 1 : Nat) : Int)) (fun k => ?_) ih
          simp only [r05_Scan.l1]
          rw [if_pos (by omega), if_pos (by omega), if_neg (by omega), hw.out, wsucc hi (by omega)])
        (fun j hj ih2 => by
          have hol := outsAt_length op nn l (startOf lens i) true (fun a _ => a) j
          refine Ev.step (f := fun k => r05_Scan.l1 k op l lens (segTo op nn l lens true (fun a _ => a) false i ++ outsAt op nn l (startOf lens i) true (fun a _ => a) (j + 1)) (startOf lens (i : Int) : Int) (i : Int) (nowAt op nn l (startOf lens i) (j + 1)) ((j + 1 : Nat) : Int)) (fun k => ?_) ih2
          have hw2 := Aside0.mk (wadd (startOf lens (i : Int)) j (by omega))
          simp only [r05_Scan.l1]
          rw [if_pos (by omega), if_pos (by omega), if_pos (by omega), if_pos (by rw [List.length_append]; omega), hw2.out, if_pos (by omega), if_pos (by omega), f_Value5 hn (nowAt_word hn g4 _ j (by omega)) (rdw g4 (by omega)), wsucc hj (by omega), outsAt_true, ← List.append_assoc]
          rfl) 0 (Nat.zero_le _)
      refine Ev.step (f := fun k => r05_Scan.l1 k op l lens (segTo op nn l lens true (fun a _ => a) false i) (startOf lens (i : Int) : Int) (i : Int) nn 0) (fun k => ?_) (by
        have e : segTo op nn l lens true (fun a _ => a) false i ++ outsAt op nn l (startOf lens i) true (fun a _ => a) 0 = segTo op nn l lens true (fun a _ => a) false i := by rw [outsAt, List.append_nil]
        rw [e] at Q
        exact Q)
      simp only [r05_Scan.l0]
      rw [if_pos (by omega), f_Neutral, hn]
      rfl) 0 (Nat.zero_le _)
  exact H
theorem w32_mod (x : Int) : ∃ q : Int, wrap32 x = x - 4294967296 * q := ⟨(x + 2147483648) / 4294967296, by unfold wrap32; omega⟩
theorem w32_sub (x q : Int) : wrap32 (x - 4294967296 * q) = wrap32 x := by unfold wrap32; omega
theorem w32_mul_left (a c : Int) : wrap32 (wrap32 a * c) = wrap32 (a * c) := by
  obtain ⟨q, hq⟩ := w32_mod a
  rw [hq, Int.sub_mul, Int.mul_assoc, w32_sub]
theorem w32_mul_right (a c : Int) : wrap32 (a * wrap32 c) = wrap32 (a * c) := by
  rw [Int.mul_comm, w32_mul_left, Int.mul_comm]
theorem w64_w32 (x : Int) : wrap64 (wrap32 x) = wrap32 x := by unfold wrap64 wrap32; omega
theorem w32_word {x : Int} (h : isWordB x = true) : wrap32 x = x := by
  rw [isWordB_iff] at h
  unfold wrap32
  omega
theorem ofInt_wrap (v : BitVec 64) : BitVec.ofInt 64 (IntKind.i64.wrap ((v.toNat : Nat) : Int)) = v := by
  have e : IntKind.i64.wrap ((v.toNat : Nat) : Int) = v.toInt := by
    rw [i64_w]
    unfold wrap64
    have := v.isLt
    rw [BitVec.toInt_eq_toNat_cond]
    split <;> omega
  rw [e, BitVec.ofInt_toInt]
theorem wrap_ofInt {x : Int} (h : isWordB x = true) : IntKind.i64.wrap (((BitVec.ofInt 64 x).toNat : Nat) : Int) = x := by
  rw [isWordB_iff] at h
  rw [i64_w]
  unfold wrap64
  rw [BitVec.toNat_ofInt]
  omega
theorem bits_assoc (o : BinOp) (f : BitVec 64 → BitVec 64 → BitVec 64) (hf : ∀ a b : Int, bits o .i64 a b = IntKind.i64.wrap (((f (BitVec.ofInt 64 a) (BitVec.ofInt 64 b)).toNat : Nat) : Int)) (ha : ∀ x y z, f (f x y) z = f x (f y z)) (a b c : Int) : bits o .i64 (bits o .i64 a b) c = bits o .i64 a (bits o .i64 b c) := by
  rw [hf (bits o .i64 a b) c, hf a (bits o .i64 b c), hf a b, hf b c, ofInt_wrap, ofInt_wrap, ha]
theorem joinI_assoc {op nn : Int} (h : neutG op = (nn, 0)) {a b c : Int} (ha : isWordB a = true) (hb : isWordB b = true) (hc : isWordB c = true) : joinI op (joinI op a b) c = joinI op a (joinI op b c) := by
  rw [joinI_deed h (joinI_word h ha hb) hc, joinI_deed h ha (joinI_word h hb hc), joinI_deed h ha hb, joinI_deed h hb hc]
  rcases assoc_ops (assoc_of h).2.1 with rfl | rfl | rfl | rfl | rfl | rfl | rfl
  · show wrap64 (wrap32 (wrap64 (wrap32 (a + b)) + c)) = wrap64 (wrap32 (a + wrap64 (wrap32 (b + c))))
    rw [w64_w32, w64_w32, w64_w32, w64_w32]
    unfold wrap32
    omega
  · show wrap64 (wrap32 (wrap64 (wrap64 (wrap32 (wrap64 (a * b))) * c))) = wrap64 (wrap32 (wrap64 (a * wrap64 (wrap32 (wrap64 (b * c))))))
    simp only [wrap32_64, w64_w32, w32_mul_left, w32_mul_right, Int.mul_assoc]
  · show min (min a b) c = min a (min b c)
    omega
  · show max (max a b) c = max a (max b c)
    omega
  · exact bits_assoc .and (· &&& ·) (fun _ _ => rfl) BitVec.and_assoc a b c
  · exact bits_assoc .or (· ||| ·) (fun _ _ => rfl) BitVec.or_assoc a b c
  · exact bits_assoc .xor (· ^^^ ·) (fun _ _ => rfl) BitVec.xor_assoc a b c
theorem joinI_none {op nn : Int} (h : neutG op = (nn, 0)) {a : Int} (ha : isWordB a = true) : joinI op nn a = a := by
  rw [joinI_deed h (neut_word h) ha]
  have hw := (isWordB_iff a).1 ha
  obtain ⟨_, h2, rfl⟩ := assoc_of h
  rcases assoc_ops h2 with rfl | rfl | rfl | rfl | rfl | rfl | rfl
  · show wrap64 (wrap32 (0 + a)) = a
    rw [Int.zero_add, w64_w32, w32_word ha]
  · show wrap64 (wrap32 (wrap64 (1 * a))) = a
    rw [Int.one_mul, wrap32_64, w64_w32, w32_word ha]
  · show min 2147483647 a = a
    omega
  · show max (-2147483648) a = a
    omega
  · show IntKind.i64.wrap (((BitVec.ofInt 64 (-1) &&& BitVec.ofInt 64 a).toNat : Nat) : Int) = a
    rw [show BitVec.ofInt 64 (-1) = BitVec.allOnes 64 by decide, BitVec.allOnes_and, wrap_ofInt ha]
  · show IntKind.i64.wrap (((BitVec.ofInt 64 0 ||| BitVec.ofInt 64 a).toNat : Nat) : Int) = a
    rw [show BitVec.ofInt 64 0 = 0#64 by decide, BitVec.zero_or, wrap_ofInt ha]
  · show IntKind.i64.wrap (((BitVec.ofInt 64 0 ^^^ BitVec.ofInt 64 a).toNat : Nat) : Int) = a
    rw [show BitVec.ofInt 64 0 = 0#64 by decide, BitVec.zero_xor, wrap_ofInt ha]
theorem joinI_comm {op nn : Int} (h : neutG op = (nn, 0)) {a b : Int} (ha : isWordB a = true) (hb : isWordB b = true) : joinI op a b = joinI op b a := by
  rw [joinI_deed h ha hb, joinI_deed h hb ha]
  rcases assoc_ops (assoc_of h).2.1 with rfl | rfl | rfl | rfl | rfl | rfl | rfl
  · show wrap64 (wrap32 (a + b)) = wrap64 (wrap32 (b + a))
    rw [Int.add_comm]
  · show wrap64 (wrap32 (wrap64 (a * b))) = wrap64 (wrap32 (wrap64 (b * a)))
    rw [Int.mul_comm]
  · show min a b = min b a
    omega
  · show max a b = max b a
    omega
  · show IntKind.i64.wrap (((BitVec.ofInt 64 a &&& BitVec.ofInt 64 b).toNat : Nat) : Int) = IntKind.i64.wrap (((BitVec.ofInt 64 b &&& BitVec.ofInt 64 a).toNat : Nat) : Int)
    rw [BitVec.and_comm]
  · show IntKind.i64.wrap (((BitVec.ofInt 64 a ||| BitVec.ofInt 64 b).toNat : Nat) : Int) = IntKind.i64.wrap (((BitVec.ofInt 64 b ||| BitVec.ofInt 64 a).toNat : Nat) : Int)
    rw [BitVec.or_comm]
  · show IntKind.i64.wrap (((BitVec.ofInt 64 a ^^^ BitVec.ofInt 64 b).toNat : Nat) : Int) = IntKind.i64.wrap (((BitVec.ofInt 64 b ^^^ BitVec.ofInt 64 a).toNat : Nat) : Int)
    rw [BitVec.xor_comm]
theorem joinI_none_r {op nn : Int} (h : neutG op = (nn, 0)) {a : Int} (ha : isWordB a = true) : joinI op a nn = a := by
  rw [joinI_comm h ha (neut_word h), joinI_none h ha]
/-- Joined with what is ahead. -/
theorem nowAt_ahead {op nn : Int} (h : neutG op = (nn, 0)) {l : List Int} (hw : ∀ x ∈ l, isWordB x = true) {a : Int} (ha : isWordB a = true) (st : Nat) : ∀ k, st + k ≤ l.length → joinI op a (nowAt op nn l st k) = nowAt op a l st k
  | 0, _ => joinI_none_r h ha
  | k + 1, hk => by
    rw [nowAt, nowAt, ← joinI_assoc h ha (nowAt_word h hw st k (by omega)) (rdw hw (by omega)), nowAt_ahead h hw ha st k (by omega)]
theorem nowAt_add (op a : Int) (l : List Int) (st j : Nat) : ∀ k, nowAt op a l st (j + k) = nowAt op (nowAt op a l st j) l (st + j) k
  | 0 => rfl
  | k + 1 => by rw [Nat.add_assoc j k 1 |>.symm, nowAt, nowAt, nowAt_add op a l st j k, Nat.add_assoc]
/-- Two folds, one behind the other. -/
theorem nowAt_join {op nn : Int} (h : neutG op = (nn, 0)) {l : List Int} (hw : ∀ x ∈ l, isWordB x = true) (st j k : Nat) (hk : st + j + k ≤ l.length) : joinI op (nowAt op nn l st j) (nowAt op nn l (st + j) k) = nowAt op nn l st (j + k) := by
  rw [nowAt_add, nowAt_ahead h hw (nowAt_word h hw st j (by omega)) (st + j) k hk]
def askE (op : Int) (l : List Int) : Int := if (neutG op).2 = 0 then wsE l else (neutG op).2
theorem ev_asked (op : Int) (l : List Int) (hl : Sh l) : Ev (fun k => r05_asked.f k op l) (askE op l) := by
  unfold askE
  simp only [r05_asked.f, f_Neutral, Option.bind_some]
  by_cases hn : (neutG op).2 = 0
  · simp only [hn, if_true]
    by_cases h : 1048576 < l.length
    · have e1 : ((l.length : Int) > 1048576) := by omega
      simp only [e1, if_true]
      unfold wsE
      rw [if_pos h]
      exact Ev.now _
    · have e1 : ¬ ((l.length : Int) > 1048576) := by omega
      simp only [e1, if_false]
      rw [wsE_words (by omega)]
      refine Ev.bind (ev_Words l hl) ?_
      cases hw : noWords l
      · simp only [Bool.not_false, if_true, Bool.false_eq_true, if_false]; exact Ev.now _
      · simp only [Bool.not_true, Bool.false_eq_true, if_false, if_true]; exact Ev.now _
  · simp only [hn, if_false]
    exact Ev.now _
theorem askE_ok {op : Int} {l : List Int} (h : askE op l = 0) : neutG op = ((neutG op).1, 0) ∧ wsE l = 0 ∧ l.length ≤ 1048576 ∧ ∀ x ∈ l, isWordB x = true := by
  unfold askE at h
  by_cases hn : (neutG op).2 = 0
  · rw [if_pos hn] at h
    exact ⟨neut_pair hn, h, (wsE_ok h).1, (wsE_ok h).2⟩
  · rw [if_neg hn] at h
    exact absurd h hn
theorem ev_isShape (l shape : List Int) (hs : Sh shape) (hl : l.length ≤ 1048576) : Ev (fun k => r05_isShape.f k shape (l.length : Int)) (shapeB l shape) := by
  have yes : Ev (fun k => r05_isShape.j0 k shape (l.length : Int) true) false := Ev.step (f := fun _ => some false) (fun k => by simp only [r05_isShape.j0, if_true]) (Ev.now _)
  by_cases h0 : 0 < l.length
  · by_cases h1 : shape.length + 1 = l.length
    · have H := up (n := shape.length) (P := fun i => Ev (fun k => r05_isShape.l0 k shape (l.length : Int) (i : Int)) (((List.range shape.length).drop i).all (fun (k : Nat) => decide (0 ≤ rd shape (k : Int)) && decide (rd shape (k : Int) ≤ (l.length : Int) - 2 - (k : Int)))))
        (Ev.step (f := fun _ => some true) (fun k => by simp only [r05_isShape.l0]; rw [if_neg (by omega)]) (by rw [List.drop_of_length_le (by simp)]; exact Ev.now _))
        (fun i hi ih => by
          rw [List.drop_eq_getElem_cons (by simpa using hi), List.getElem_range, List.all_cons]
          have w1 : wrap64 ((l.length : Int) - 2) = (l.length : Int) - 2 := wrap_in (by omega) (by omega)
          have w2 : wrap64 ((l.length : Int) - 2 - (i : Int)) = (l.length : Int) - 2 - (i : Int) := wrap_in (by omega) (by omega)
          cases hb : (decide (0 ≤ rd shape (i : Int)) && decide (rd shape (i : Int) ≤ (l.length : Int) - 2 - (i : Int)))
          · refine Ev.step (f := fun _ => some false) (fun k => ?_) (by rw [Bool.false_and]; exact Ev.now _)
            simp only [r05_isShape.l0]
            rw [if_pos (by omega), if_pos (by omega), w1, w2, f_Lies, hb]; rfl
          · refine Ev.step (f := fun k => r05_isShape.l0 k shape (l.length : Int) ((i + 1 : Nat) : Int)) (fun k => ?_) (by rw [Bool.true_and]; exact ih)
            simp only [r05_isShape.l0]
            rw [if_pos (by omega), if_pos (by omega), w1, w2, f_Lies, hb, wsucc hi hs]; rfl) 0 (Nat.zero_le _)
      have e : shapeB l shape = (List.range shape.length).all (fun (k : Nat) => decide (0 ≤ rd shape (k : Int)) && decide (rd shape (k : Int) ≤ (l.length : Int) - 2 - (k : Int))) := by
        unfold shapeB
        rw [decide_eq_true h0, decide_eq_true h1, Bool.true_and, Bool.true_and]
      rw [e]
      rw [List.drop_zero] at H
      have w1 : wrap64 ((l.length : Int) - 1) = (l.length : Int) - 1 := wrap_in (by omega) (by omega)
      have hb : ((shape.length : Int) != (l.length : Int) - 1) = false := by rw [bne_eq_false_iff_eq]; omega
      refine Ev.congr (f := fun k => r05_isShape.j0 k shape (l.length : Int) false) (fun k => by simp only [r05_isShape.f]; rw [if_neg (by omega), w1, hb]) ?_
      exact Ev.step (f := fun k => r05_isShape.l0 k shape (l.length : Int) 0) (fun k => by simp only [r05_isShape.j0, Bool.false_eq_true, if_false]) H
    · have e : shapeB l shape = false := by unfold shapeB; rw [decide_eq_false h1, Bool.and_false, Bool.false_and]
      have w1 : wrap64 ((l.length : Int) - 1) = (l.length : Int) - 1 := wrap_in (by omega) (by omega)
      have hb : ((shape.length : Int) != (l.length : Int) - 1) = true := by rw [bne_iff_ne]; omega
      rw [e]
      exact Ev.congr (fun k => by simp only [r05_isShape.f]; rw [if_neg (by omega), w1, hb]) yes
  · have e : shapeB l shape = false := by unfold shapeB; rw [decide_eq_false h0, Bool.false_and, Bool.false_and]
    rw [e]
    exact Ev.congr (fun k => by simp only [r05_isShape.f]; rw [if_pos (by omega)]) yes
theorem f_Copy (l : List Int) (h : l.length < 17592186044416) : r00_Copy.f l = some l := by
  unfold r00_Copy.f
  simp [h]
theorem f_With (l : List Int) (a : Int) (h : l.length < 17592186044416) : r00_With.f l a = some (l ++ [a]) := by
  unfold r00_With.f
  rw [f_Copy l h]
  simp [h]
theorem treeStep_eq (op : Int) (now : List Int) (p : Nat) (h : p + 2 ≤ now.length) : treeStep op now p = (now.take p ++ [joinI op (rd now (p : Int)) (rd now ((p : Int) + 1))]) ++ now.drop (p + 2) := by
  unfold treeStep
  generalize joinI op (rd now (p : Int)) (rd now ((p : Int) + 1)) = v
  congr 1
  · rw [List.take_add_one, List.take_set_of_le (Nat.le_refl _), List.getElem?_set_self (by omega)]
    rfl
  · rw [List.drop_set_of_lt (by omega)]
theorem treeTo_word {op nn : Int} (hn : neutG op = (nn, 0)) {l shape : List Int} (hw : ∀ x ∈ l, isWordB x = true) (h : shapeB l shape = true) : ∀ k, k ≤ shape.length → ∀ x ∈ treeTo op l shape k, isWordB x = true
  | 0, _ => hw
  | k + 1, hk => by
    have ih := treeTo_word hn hw h k (by omega)
    have hl := treeTo_length op h k (by omega)
    obtain ⟨g1, g2, g3⟩ := shapeB_pos h
    have h3 := g3 k (by omega)
    intro x hx
    rw [treeTo, treeStep_eq op _ _ (by omega), List.mem_append, List.mem_append, List.mem_singleton] at hx
    rcases hx with (hx | rfl) | hx
    · exact ih x (List.mem_of_mem_take hx)
    · refine joinI_word hn (rdw ih (by omega)) ?_
      rw [show (((rd shape (k : Int)).toNat : Int) + 1) = (((rd shape (k : Int)).toNat + 1 : Nat) : Int) by omega]
      exact rdw ih (by omega)
    · exact ih x (List.mem_of_mem_drop hx)
theorem ev_Tree (op : Int) (l shape : List Int) (h1 : Sh l) (h2 : Sh shape) : Ev (fun k => r05_Tree.f k op l shape) (scan_Tree.g op l shape) := by
  have e : scan_Tree.g op l shape = if askE op l = 0 then (if shapeB l shape then (rd (treeTo op l shape shape.length) 0, 0) else (0, 6)) else (0, askE op l) := by
    unfold scan_Tree.g askE
    by_cases hn : (neutG op).2 = 0
    · rw [if_pos hn, if_pos hn]
    · rw [if_neg hn, if_neg hn, if_neg hn]
  rw [e]
  clear e
  refine ev_after (ev_asked op l h1) (bad := fun t => (0, t)) (H := fun k => (r05_isShape.f k shape (l.length : Int)).bind fun t => (if t = true then (r05_Tree.l0 k op l shape 0) else (some (0, 6)))) (fun k => by simp only [r05_Tree.f]) (fun h0 => ?_) (fun h0 => by rw [if_neg h0])
  rw [if_pos h0]
  obtain ⟨hn, _, hl, hw⟩ := askE_ok h0
  generalize (neutG op).1 = nn at *
  refine Ev.bind (ev_isShape l shape h2 hl) ?_
  cases hs : shapeB l shape
  · simp only [Bool.false_eq_true, if_false]; exact Ev.now _
  simp only [if_true]
  obtain ⟨g1, g2, g3⟩ := shapeB_pos hs
  generalize hR : rd (treeTo op l shape shape.length) 0 = R
  have H := up (n := shape.length) (P := fun i => Ev (fun k => r05_Tree.l0 k op (treeTo op l shape i) shape (i : Int)) (R, 0))
    (Ev.step (f := fun _ => some (R, 0)) (fun k => by
      have hl := treeTo_length op hs shape.length (Nat.le_refl _)
      simp only [r05_Tree.l0]; rw [if_neg (by omega), if_pos (by omega), hR]) (Ev.now _))
    (fun i hi ih => by
      have hl2 := treeTo_length op hs i (by omega)
      have hw2 := treeTo_word hn hw hs i (by omega)
      have h3 := g3 i hi
      obtain ⟨p, hp⟩ : ∃ p : Nat, rd shape (i : Int) = p := ⟨(rd shape (i : Int)).toNat, by omega⟩
      have hst : treeTo op l shape (i + 1) = treeStep op (treeTo op l shape i) p := by rw [treeTo, hp]; rfl
      rw [hst] at ih
      rw [hp] at h3
      have hpl : p + 2 ≤ (treeTo op l shape i).length := by omega
      rw [treeStep_eq op _ p hpl] at ih
      generalize treeTo op l shape i = now at *
      have w1 : Aside0 (wrap64 ((p : Int) + 1) = ((p + 1 : Nat) : Int)) := ⟨by rw [wrap_in (by omega) (by omega)]; rfl⟩
      have w2 : Aside0 (wrap64 ((p : Int) + 2) = ((p + 2 : Nat) : Int)) := ⟨by rw [wrap_in (by omega) (by omega)]; rfl⟩
      have hv := f_Value5 hn (rdw hw2 (show p < now.length by omega)) (rdw hw2 (show p + 1 < now.length by omega))
      rw [show ((p : Int) + 1) = ((p + 1 : Nat) : Int) by omega] at ih
      refine Ev.step (f := fun k => r05_Tree.l0 k op ((now.take p ++ [joinI op (rd now (p : Int)) (rd now ((p + 1 : Nat) : Int))]) ++ now.drop (p + 2)) shape ((i + 1 : Nat) : Int)) (fun k => ?_) ih
      have hlt : (now.take p).length < 17592186044416 := by rw [List.length_take]; omega
      have hll3 : ∀ v : Int, (now.take p ++ [v]).length + (now.drop (p + 2)).length < 17592186044416 := fun v => by simp only [List.length_append, List.length_take, List.length_cons, List.length_nil, List.length_drop]; omega
      have hq1 : ((p + 2 : Nat) : Int) ≤ (now.length : Int) := by omega
      have hq2 : (0 : Int) ≤ ((p + 2 : Nat) : Int) := by omega
      simp only [r05_Tree.l0, hp]
      rw [if_pos (by omega), if_pos (by omega), if_pos (by omega), if_pos (by omega), if_pos (by omega), w1.out, if_pos (by omega), if_pos (by omega), hv]
      rw [Option.bind_some, Int.toNat_natCast, f_With _ _ hlt, Option.bind_some, w2.out, if_pos hq2, if_pos hq1, Option.bind_some, Int.toNat_natCast, if_pos (hll3 _), wsucc hi (by omega)]) 0 (Nat.zero_le _)
  exact H
/-- A length, cut into blocks. -/
def chunkAt (n m i : Nat) : Int := ((min m (n - i * m) : Nat) : Int)
def chunksTo (n m i : Nat) : List Int := (List.range i).map (chunkAt n m)
theorem chunksTo_succ (n m i : Nat) : chunksTo n m (i + 1) = chunksTo n m i ++ [chunkAt n m i] := by simp [chunksTo, List.range_succ]
theorem chunksTo_length (n m i : Nat) : (chunksTo n m i).length = i := by simp [chunksTo]
theorem chunksTo_rd (n m i k : Nat) (h : k < i) : rd (chunksTo n m i) (k : Int) = chunkAt n m k := by simp [rd, chunksTo, h]
theorem nbOf_le {n m : Nat} (hm : 0 < m) : nbOf n m ≤ n := by
  rcases Nat.lt_or_ge n (nbOf n m) with h | h
  · have h2 := (nbOf_lt hm).1 (show nbOf n m - 1 < nbOf n m by omega)
    have h3 := Nat.le_mul_of_pos_right (nbOf n m - 1) hm
    omega
  · exact h
theorem ev_Split1 (n m : Nat) (hn : n ≤ 1048576) (hm : 0 < m) (hm2 : m ≤ 1048576) : Ev (fun k => r02_Split.f k [(n : Int)] (m : Int)) (chunksTo n m (nbOf n m), [(nbOf n m : Int)], 0) := by
  have hc := ev_Check [(n : Int)] (by simp)
  have ha : ([(n : Int)] : List Int).any (fun n => decide (n < 0)) = false := by simp
  have hs : ([(n : Int)] : List Int).sum = (n : Int) := by simp
  rw [ha, hs] at hc
  have hmin : min (n : Int) 2097152 = (n : Int) := by omega
  rw [hmin] at hc
  simp only [Bool.false_eq_true, if_false, show ¬ ((n : Int) > 1048576) by omega] at hc
  simp only [r02_Split.f]
  refine Ev.bind hc ?_
  simp only [if_true]
  have hL : r00_Lies.f (m : Int) 1 1048576 = some true := by
    rw [f_Lies, decide_eq_true (by omega), decide_eq_true (by omega)]; rfl
  simp only [hL, Option.bind_some, if_true]
  have hnb := nbOf_le (n := n) hm
  have H := up (n := nbOf n m) (P := fun i => Ev (fun k => r02_Split.l1 k [(n : Int)] (m : Int) (chunksTo n m i) [] 0 (i : Int) ((n : Int) - ((i * m : Nat) : Int))) (chunksTo n m (nbOf n m), [(nbOf n m : Int)], 0))
    (by
      have hx : n ≤ nbOf n m * m := by
        rcases Nat.lt_or_ge (nbOf n m * m) n with h | h
        · have := (nbOf_lt hm).2 h; omega
        · exact h
      generalize nbOf n m * m = q at *
      refine Ev.step (f := fun k => r02_Split.l0 k [(n : Int)] (m : Int) (chunksTo n m (nbOf n m)) [(nbOf n m : Int)] 1) (fun k => ?_) (Ev.step (f := fun _ => some (chunksTo n m (nbOf n m), [(nbOf n m : Int)], 0)) (fun k => ?_) (Ev.now _))
      · simp only [r02_Split.l1]
        rw [if_neg (by omega), if_pos (by simp), List.nil_append, show wrap64 (0 + 1) = 1 by unfold wrap64; omega]
      · simp only [r02_Split.l0]
        rw [if_neg (by simp)])
    (fun i hi ih => by
      have hx := (nbOf_lt hm).1 hi
      have he : (i + 1) * m = i * m + m := by rw [Nat.add_mul]; omega
      rw [he, chunksTo_succ] at ih
      have hck : chunkAt n m i = min (m : Int) ((n : Int) - ((i * m : Nat) : Int)) := by unfold chunkAt; omega
      generalize i * m = q at *
      have hmn : mn ((n : Int) - (q : Int)) (m : Int) = chunkAt n m i := by rw [mn_min, hck]; omega
      have hw : Aside0 (wrap64 ((n : Int) - (q : Int) - (m : Int)) = (n : Int) - ((q + m : Nat) : Int)) := ⟨by rw [wrap_in (by omega) (by omega)]; omega⟩
      have hlen := chunksTo_length n m i
      refine Ev.step (f := fun k => r02_Split.l1 k [(n : Int)] (m : Int) (chunksTo n m i ++ [chunkAt n m i]) [] 0 ((i + 1 : Nat) : Int) ((n : Int) - ((q + m : Nat) : Int))) (fun k => ?_) ih
      simp only [r02_Split.l1]
      rw [if_pos (by omega), if_pos (by omega), hmn, hw.out, wsucc hi (by omega)]) 0 (Nat.zero_le _)
  refine Ev.step (f := fun k => r02_Split.l1 k [(n : Int)] (m : Int) [] [] 0 0 (n : Int)) (fun k => ?_) (by simpa [chunksTo] using H)
  simp only [r02_Split.l0]
  rw [if_pos (by simp), if_pos (by omega)]
  rfl
theorem start_chunks (n m : Nat) (hm : 0 < m) : ∀ i, i ≤ nbOf n m → startOf (chunksTo n m (nbOf n m)) (i : Int) = min (i * m) n
  | 0, _ => by simp [startOf]
  | i + 1, hi => by
    have ih := start_chunks n m hm i (by omega)
    have hx := (nbOf_lt hm).1 (show i < nbOf n m by omega)
    have h2 := startOf_succ (chunksTo n m (nbOf n m)) (i : Int) (by omega) (by rw [chunksTo_length]; omega)
    rw [chunksTo_rd n m _ i (by omega)] at h2
    rw [show ((i + 1 : Nat) : Int) = (i : Int) + 1 by omega, h2, ih]
    unfold chunkAt
    rw [Int.toNat_natCast, show (i + 1) * m = i * m + m by rw [Nat.add_mul]; omega]
    generalize i * m = q at *
    omega
theorem segE_all {op : Int} {l lens : List Int} (hn : (neutG op).2 = 0) (h1 : wsE l = 0) (h2 : wsE lens = 0) (h3 : okLens l lens = true) : segE op l lens = 0 := by
  have hl1 := (wsE_ok h1).1
  have hl2 := (wsE_ok h2).1
  unfold segE
  rw [if_pos hn, if_neg (by simp; omega), if_neg (by simp [h1, h2]), if_pos h3]
theorem wsE_zero {l : List Int} (h1 : l.length ≤ 1048576) (h2 : ∀ x ∈ l, isWordB x = true) : wsE l = 0 := by
  rw [wsE_words h1]
  have : noWords l = false := by
    unfold noWords
    rw [List.any_eq_false]
    intro x hx
    simp [h2 x hx]
  rw [this]
  rfl
theorem ok_chunks (l : List Int) (m : Nat) (hm : 0 < m) : okLens l (chunksTo l.length m (nbOf l.length m)) = true := by
  simp only [okLens, Bool.and_eq_true, List.all_eq_true, decide_eq_true_eq, beq_iff_eq]
  refine ⟨fun x hx => ?_, ?_⟩
  · obtain ⟨i, _, rfl⟩ := List.mem_map.1 hx
    unfold chunkAt
    omega
  · rw [chunksTo_length, start_chunks _ m hm _ (Nat.le_refl _)]
    have hx : l.length ≤ nbOf l.length m * m := by
      rcases Nat.lt_or_ge (nbOf l.length m * m) l.length with h | h
      · have := (nbOf_lt hm).2 h; omega
      · exact h
    omega
theorem words_chunks (n m i : Nat) (hm2 : m ≤ 1048576) : ∀ x ∈ chunksTo n m i, isWordB x = true := by
  intro x hx
  obtain ⟨j, _, rfl⟩ := List.mem_map.1 hx
  rw [isWordB_iff]
  unfold chunkAt
  omega
theorem fold_sums (op nn : Int) (l : List Int) (m : Nat) (hm : 0 < m) (f : Int → Int → Int) : ∀ i, i ≤ nbOf l.length m → segTo op nn l (chunksTo l.length m (nbOf l.length m)) false f true i = sumsTo op nn l m i
  | 0, _ => rfl
  | i + 1, hi => by
    have hx := (nbOf_lt hm).1 (show i < nbOf l.length m by omega)
    rw [segTo_false, fold_sums op nn l m hm f i (by omega), sumsTo_succ, start_chunks _ m hm i (by omega), chunksTo_rd _ m _ i (by omega)]
    unfold bSum bLen chunkAt
    rw [Int.toNat_natCast, Nat.min_eq_left (Nat.le_of_lt hx)]
theorem outs_more (op nn : Int) (l : List Int) (a : Nat) : ∀ k, outsAt op nn l 0 true (fun a _ => a) (a + k) = outsAt op nn l 0 true (fun a _ => a) a ++ (List.range k).map (fun j => nowAt op nn l 0 (a + j))
  | 0 => by simp
  | k + 1 => by
    rw [Nat.add_assoc a k 1 |>.symm, outsAt_true, outs_more op nn l a k, List.range_succ, List.map_append, List.append_assoc]
    rfl
theorem blocks_scan {op nn : Int} (hn : neutG op = (nn, 0)) {l : List Int} (hw : ∀ x ∈ l, isWordB x = true) (m : Nat) (hm : 0 < m) : ∀ i, i ≤ nbOf l.length m → bAhead op nn l m i = nowAt op nn l 0 (min (i * m) l.length) ∧ bTo op nn l m i = outsAt op nn l 0 true (fun a _ => a) (min (i * m) l.length)
  | 0, _ => by simp [bAhead, bTo, nowAt, outsAt]
  | i + 1, hi => by
    obtain ⟨h1, h2⟩ := blocks_scan hn hw m hm i (by omega)
    have hx := (nbOf_lt hm).1 (show i < nbOf l.length m by omega)
    rw [Nat.min_eq_left (Nat.le_of_lt hx)] at h1 h2
    have e : min ((i + 1) * m) l.length = i * m + bLen l m i := by
      rw [show (i + 1) * m = i * m + m by rw [Nat.add_mul]; omega]
      unfold bLen
      generalize i * m = q at *
      omega
    have hle : i * m + bLen l m i ≤ l.length := by unfold bLen; omega
    rw [e]
    constructor
    · rw [bAhead, h1]
      unfold bSum
      have := nowAt_join hn hw 0 (i * m) (bLen l m i) (by omega)
      rw [Nat.zero_add] at this
      exact this
    · rw [bTo, h2, outs_more]
      congr 1
      unfold bMid
      rw [h1]
      apply List.map_congr_left
      intro j _
      rw [nowAt_add, Nat.zero_add]
theorem ev_Blocks (op : Int) (l : List Int) (most : Int) (h1 : Sh l) : Ev (fun k => r05_Blocks.f k op l most) (scan_Blocks.g op l most) := by
  have e : scan_Blocks.g op l most = if askE op l = 0 then (if decide (most < 1) || decide (1048576 < most) then ([], [], 2) else (sumsTo op (neutG op).1 l most.toNat (nbOf l.length most.toNat), bTo op (neutG op).1 l most.toNat (nbOf l.length most.toNat), 0)) else ([], [], askE op l) := by
    unfold scan_Blocks.g askE
    by_cases hn : (neutG op).2 = 0
    · rw [if_pos hn, if_pos hn]
    · rw [if_neg hn, if_neg hn, if_neg hn]
  rw [e]
  clear e
  simp only [r05_Blocks.f]
  refine Ev.bind (ev_asked op l h1) ?_
  by_cases h0 : askE op l = 0
  · simp only [h0, if_true]
    obtain ⟨hn, hws, hl, hw⟩ := askE_ok h0
    have hn2 : (neutG op).2 = 0 := by rw [hn]
    by_cases hm : most < 1 ∨ 1048576 < most
    · have hL : r00_Lies.f most 1 1048576 = some false := by
        rw [f_Lies]
        rcases hm with hm | hm
        · rw [decide_eq_false (by omega)]; rfl
        · rw [decide_eq_false (show ¬ most ≤ 1048576 by omega), Bool.and_false]
      have hd : (decide (most < 1) || decide (1048576 < most)) = true := by simpa using hm
      simp only [hL, Option.bind_some, Bool.false_eq_true, if_false, hd, if_true]
      exact Ev.now _
    · obtain ⟨m, rfl⟩ : ∃ m : Nat, most = m := ⟨most.toNat, by omega⟩
      have hL : r00_Lies.f (m : Int) 1 1048576 = some true := by
        rw [f_Lies, decide_eq_true (by omega), decide_eq_true (by omega)]; rfl
      have hd : (decide ((m : Int) < 1) || decide (1048576 < (m : Int))) = false := by simp; omega
      simp only [hL, Option.bind_some, if_true, hd, Bool.false_eq_true, if_false, Int.toNat_natCast]
      have hm0 : 0 < m := by omega
      refine Ev.bind (ev_Split1 l.length m hl hm0 (by omega)) ?_
      have hsE : segE op l (chunksTo l.length m (nbOf l.length m)) = 0 := segE_all hn2 hws (wsE_zero (by rw [chunksTo_length]; have := nbOf_le (n := l.length) hm0; omega) (words_chunks _ m _ (by omega))) (ok_chunks l m hm0)
      have hF := ev_Fold op l (chunksTo l.length m (nbOf l.length m)) h1 (by unfold Sh; rw [chunksTo_length]; have := nbOf_le (n := l.length) hm0; omega)
      unfold scan_Fold.g at hF
      rw [told_segE, if_pos hsE, chunksTo_length, fold_sums op _ l m hm0 _ _ (Nat.le_refl _)] at hF
      refine Ev.bind hF ?_
      have hok : okLens l [(l.length : Int)] = true := by
        simp [okLens, startOf]
      have hsE2 : segE op l [(l.length : Int)] = 0 := segE_all hn2 hws (wsE_zero (by simp) (fun x hx => by simp at hx; subst hx; rw [isWordB_iff]; omega)) hok
      have hS := ev_Scan op l [(l.length : Int)] h1 (by simp [Sh])
      unfold scan_Scan.g at hS
      rw [told_segE, if_pos hsE2] at hS
      have hseg : segTo op (neutG op).1 l [(l.length : Int)] true (fun a _ => a) false 1 = outsAt op (neutG op).1 l 0 true (fun a _ => a) l.length := by
        rw [segTo_true]
        simp [segTo, startOf, rd]
      rw [show ([(l.length : Int)] : List Int).length = 1 from rfl, hseg] at hS
      refine Ev.bind hS ?_
      have hb := (blocks_scan hn hw m hm0 (nbOf l.length m) (Nat.le_refl _)).2
      have hx : l.length ≤ nbOf l.length m * m := by
        rcases Nat.lt_or_ge (nbOf l.length m * m) l.length with h | h
        · have := (nbOf_lt hm0).2 h; omega
        · exact h
      rw [Nat.min_eq_right hx] at hb
      rw [hb]
      exact Ev.now _
  · simp only [h0, if_false]
    exact Ev.now _
def powB (n : Nat) : Bool := (n == 1) || (n == 2) || (n == 4) || (n == 8) || (n == 16) || (n == 32) || (n == 64) || (n == 128) || (n == 256) || (n == 512)
theorem pow_all : (List.range 513).all (fun n => (if (n : Int) > 0 then some ((Go.bits .and .i64 (n : Int) (wrap64 ((n : Int) - 1))) == 0) else some false) == some (powB n)) = true := by decide +kernel
theorem f_isPower (n : Nat) (h : n ≤ 512) : r05_isPower.f (n : Int) = some (powB n) := by
  have := List.all_eq_true.1 pow_all n (by rw [List.mem_range]; omega)
  rw [beq_iff_eq] at this
  exact this
theorem lvE_9 {n : Nat} (h : n ≤ 400) : lvE n ≤ 9 := by
  rcases Nat.lt_or_ge 9 (lvE n) with h1 | h1
  · have := lvE_lt h1
    omega
  · exact h1
theorem pow_top {n : Nat} (h : n ≤ 400) : powB (2 ^ lvE n) = true ∧ 2 ^ lvE n ≤ 512 := by
  have h9 := lvE_9 h
  generalize lvE n = e at *
  have : e = 0 ∨ e = 1 ∨ e = 2 ∨ e = 3 ∨ e = 4 ∨ e = 5 ∨ e = 6 ∨ e = 7 ∨ e = 8 ∨ e = 9 := by omega
  rcases this with rfl | rfl | rfl | rfl | rfl | rfl | rfl | rfl | rfl | rfl <;> exact ⟨rfl, by decide⟩
theorem pow_mid {n q : Nat} (h : n ≤ 400) (h1 : n ≤ q) (h2 : q < 2 ^ lvE n) : powB q = false := by
  have h9 := lvE_9 h
  have hlt : ∀ e, e < lvE n → 2 ^ e < n := fun e he => lvE_lt he
  generalize lvE n = e at *
  have : e = 0 ∨ e = 1 ∨ e = 2 ∨ e = 3 ∨ e = 4 ∨ e = 5 ∨ e = 6 ∨ e = 7 ∨ e = 8 ∨ e = 9 := by omega
  rcases this with rfl | rfl | rfl | rfl | rfl | rfl | rfl | rfl | rfl | rfl
  · simp at h2; subst h2; rfl
  all_goals
    (have hp := hlt _ (Nat.lt_succ_self _)
     simp at hp h2
     simp [powB]
     omega)
theorem ev_halves {op nn : Int} (hn : neutG op = (nn, 0)) (l : List Int) (hl : l.length ≤ 1048576) (hw : ∀ x ∈ l, isWordB x = true) : Ev (fun k => r05_halves.f k op l) (halvesTo op l (l.length / 2)) := by
  have H := up (n := l.length / 2) (P := fun i => Ev (fun k => r05_halves.l0 k op l (halvesTo op l i) ((2 * i : Nat) : Int)) (halvesTo op l (l.length / 2)))
    (by
      have w : Aside0 (wrap64 (((2 * (l.length / 2) : Nat) : Int) + 1) = ((2 * (l.length / 2) + 1 : Nat) : Int)) := ⟨by rw [wrap_in (by omega) (by omega)]; rfl⟩
      refine Ev.step (f := fun _ => some (halvesTo op l (l.length / 2))) (fun k => ?_) (Ev.now _)
      simp only [r05_halves.l0]
      rw [w.out, if_neg (by omega)])
    (fun i hi ih => by
      have w : Aside0 (wrap64 (((2 * i : Nat) : Int) + 1) = ((2 * i + 1 : Nat) : Int)) := ⟨by rw [wrap_in (by omega) (by omega)]; rfl⟩
      have w2 : Aside0 (wrap64 (((2 * i : Nat) : Int) + 2) = ((2 * (i + 1) : Nat) : Int)) := ⟨by rw [wrap_in (by omega) (by omega)]; omega⟩
      have hv := f_Value5 hn (rdw hw (show 2 * i < l.length by omega)) (rdw hw (show 2 * i + 1 < l.length by omega))
      have hlen := halvesTo_length op l i
      refine Ev.step (f := fun k => r05_halves.l0 k op l (halvesTo op l (i + 1)) ((2 * (i + 1) : Nat) : Int)) (fun k => ?_) ih
      simp only [r05_halves.l0]
      rw [w.out, if_pos (by omega), if_pos (by omega), if_pos (by omega), if_pos (by omega), hv, Option.bind_some, if_pos (by omega), w2.out]
      rfl) 0 (Nat.zero_le _)
  exact H
theorem halvesTo_word {op nn : Int} (hn : neutG op = (nn, 0)) {l : List Int} (hw : ∀ x ∈ l, isWordB x = true) : ∀ k, 2 * k ≤ l.length → ∀ x ∈ halvesTo op l k, isWordB x = true
  | 0, _ => by intro x hx; simp [halvesTo] at hx
  | k + 1, hk => by
    intro x hx
    rw [halvesTo, List.mem_append, List.mem_singleton] at hx
    rcases hx with hx | rfl
    · exact halvesTo_word hn hw k (by omega) x hx
    · exact joinI_word hn (rdw hw (by omega)) (rdw hw (by omega))
theorem lvlI_word {op nn : Int} (hn : neutG op = (nn, 0)) {l : List Int} (hw : ∀ x ∈ l, isWordB x = true) : ∀ k, ∀ x ∈ lvlI op l k, isWordB x = true
  | 0 => hw
  | k + 1 => halvesTo_word hn (lvlI_word hn hw k) _ (by omega)
theorem rdL_lvs (op : Int) (fi : List Int) (i k : Nat) (h : k < i) : rd_L1 (lvsI op fi i) (k : Int) = lvlI op fi k := by
  rw [rdL_get (by rw [lvsI_length]; exact h)]
  simp [lvsI]
theorem first_word {op nn : Int} (hn : neutG op = (nn, 0)) {l : List Int} (hw : ∀ x ∈ l, isWordB x = true) : ∀ x ∈ lvFirst nn l, isWordB x = true := by
  intro x hx
  unfold lvFirst at hx
  rw [List.mem_append] at hx
  rcases hx with hx | hx
  · exact hw x hx
  · rw [(List.mem_replicate.1 hx).2]
    exact neut_word hn
theorem ev_Levels (op : Int) (l : List Int) (h4 : l.length ≤ 400) : Ev (fun k => r05_Levels.f k op l) (scan_Levels.g op l) := by
  have e : scan_Levels.g op l = if askE op l = 0 then (lvsI op (lvFirst (neutG op).1 l) (lvE l.length + 1), 0) else ([], askE op l) := by
    unfold scan_Levels.g askE
    by_cases hn : (neutG op).2 = 0
    · rw [if_pos hn, if_pos hn]
    · rw [if_neg hn, if_neg hn, if_neg hn]
  rw [e]
  clear e
  simp only [r05_Levels.f]
  refine Ev.bind (ev_asked op l (by unfold Sh; omega)) ?_
  by_cases h0 : askE op l = 0
  · simp only [h0, if_true, f_Neutral, Option.bind_some]
    obtain ⟨hn, hws, hl, hw⟩ := askE_ok h0
    rw [f_Copy l (by omega)]
    simp only [Option.bind_some]
    generalize (neutG op).1 = nn at *
    obtain ⟨ht, ht2⟩ := pow_top h4
    have hle := lvE_le l.length
    have hfw := first_word hn hw
    have hfl := lvFirst_length nn l
    have hmid : ∀ q, l.length ≤ q → q < 2 ^ lvE l.length → powB q = false := fun q h1 h2 => pow_mid h4 h1 h2
    have hE9 := lvE_9 h4
    have hfe : lvFirst nn l = l ++ List.replicate (2 ^ lvE l.length - l.length) nn := rfl
    generalize lvFirst nn l = fi at *
    generalize lvE l.length = E at *
    have hlv : ∀ j, j ≤ E → (lvlI op fi j).length = 2 ^ (E - j) := fun j hj => lvlI_length op fi E hfl j hj
    have H2 := up (n := E) (P := fun j => Ev (fun k => r05_Levels.l1 k op (lvsI op fi (j + 1))) (lvsI op fi (E + 1), 0))
      (by
        have hw1 : Aside0 (wrap64 (((lvsI op fi (E + 1)).length : Int) - 1) = (E : Int)) := ⟨by rw [lvsI_length, wrap_in (by omega) (by omega)]; omega⟩
        have hlast := hlv E (Nat.le_refl _)
        rw [Nat.sub_self, Nat.pow_zero] at hlast
        refine Ev.step (f := fun _ => some (lvsI op fi (E + 1), 0)) (fun k => ?_) (Ev.now _)
        simp only [r05_Levels.l1]
        rw [hw1.out, if_pos (by omega), if_pos (by rw [lvsI_length]; omega), rdL_lvs op fi _ E (by omega), if_neg (by omega)])
      (fun j hj ih => by
        have hw1 : Aside0 (wrap64 (((lvsI op fi (j + 1)).length : Int) - 1) = (j : Int)) := ⟨by rw [lvsI_length, wrap_in (by omega) (by omega)]; omega⟩
        have hlj := hlv j (by omega)
        have h2 : 2 ≤ 2 ^ (E - j) := by
          rw [show E - j = (E - j - 1) + 1 by omega, Nat.pow_succ]
          have := Nat.pos_of_ne_zero (show 2 ^ (E - j - 1) ≠ 0 by simp)
          omega
        have h5 : 2 ^ (E - j) ≤ 1048576 := Nat.le_trans (Nat.pow_le_pow_right (by decide) (show E - j ≤ 20 by omega)) (by decide)
        have hh := ev_halves hn (lvlI op fi j) (by omega) (lvlI_word hn hfw j)
        have hnx : lvlI op fi (j + 1) = halvesTo op (lvlI op fi j) ((lvlI op fi j).length / 2) := rfl
        rw [lvsI_succ op fi (j + 1), hnx] at ih
        refine Ev.step (f := fun k => (r05_halves.f k op (lvlI op fi j)).bind fun t => r05_Levels.l1 k op (lvsI op fi (j + 1) ++ [t])) (fun k => ?_) (Ev.bind hh ih)
        simp only [r05_Levels.l1]
        rw [hw1.out, if_pos (by omega), if_pos (by rw [lvsI_length]; omega), rdL_lvs op fi _ j (by omega), if_pos (by omega)]
        congr 1
        funext t
        rw [if_pos (by rw [lvsI_length]; omega)]) 0 (Nat.zero_le _)
    have H := up (n := 2 ^ E - l.length) (P := fun q => Ev (fun k => r05_Levels.l0 k op nn (l ++ List.replicate q nn)) (lvsI op fi (E + 1), 0))
      (by
        rw [← hfe]
        refine Ev.step (f := fun k => r05_Levels.l1 k op [fi]) (fun k => ?_) H2
        simp only [r05_Levels.l0]
        rw [hfl, f_isPower _ ht2, ht]
        rfl)
      (fun q hq ih => by
        have hlen : (l ++ List.replicate q nn).length = l.length + q := by simp
        have hp := hmid (l.length + q) (by omega) (by omega)
        refine Ev.step (f := fun k => r05_Levels.l0 k op nn (l ++ List.replicate q nn ++ [nn])) (fun k => ?_) (by rw [rep_snoc]; exact ih)
        simp only [r05_Levels.l0]
        rw [hlen, f_isPower _ (by omega), hp, Option.bind_some, if_neg (by decide), if_pos (by omega)]) 0 (Nat.zero_le _)
    simpa using H
  · simp only [h0, if_false]
    exact Ev.now _
theorem ScanTrees : w05_ScanTrees.Pure := by
  intro op l shape m _ _ h1 _ _ h2 _ _
  have s1 : Sh l := by unfold Sh; omega
  have s2 : Sh shape := by unfold Sh; omega
  by_cases h4 : l.length ≤ 400
  · obtain ⟨K0, e0⟩ := ev_Tree op l shape s1 s2
    obtain ⟨K1, e1⟩ := ev_Blocks op l m s1
    obtain ⟨K2, e2⟩ := ev_Levels op l h4
    refine ⟨K0 + K1 + K2, ?_⟩
    have e0 := e0 (K0 + K1 + K2) (by omega)
    have e1 := e1 (K0 + K1 + K2) (by omega)
    have e2 := e2 (K0 + K1 + K2) (by omega)
    generalize K0 + K1 + K2 = k at e0 e1 e2
    simp only at e0 e1 e2
    unfold w05_ScanTrees.f
    rw [if_neg (by omega)]
    simp [e0, e1, e2, sTree.f, sBlocks.f, sLevels.f, Eq_.f, EqL.f, law_joined.f]
  · refine ⟨0, ?_⟩
    unfold w05_ScanTrees.f
    rw [if_pos (by omega)]
    rfl
end Go.Proofs.YtpenkemabeonaaaDoor.Pure
