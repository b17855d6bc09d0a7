/- ScanFolds: Fold, Scan and Through return what the references return, for any operation, list and lengths; it is told of numbers and lists alone. -/
import Derived.Test.YtpenkemabeonaaaDoorPScanFoldsx
namespace Go.Proofs.YtpenkemabeonaaaDoor.Pure
open Go.RowKit Go.Proofs.YtpenkemabeonaaaDoor.PScanFolds Go.Proofs.YtpenkemabeonaaaDoor.Hand Go.Proofs.YtpenkemabeonaaaDoorW.PrintWords Go.Proofs.YtpenkemabeonaaaDoorW.PrintLast Go.Proofs.YtpenkemabeonaaaDoorW.PrintMore
set_option linter.unusedVariables false
set_option linter.unusedSimpArgs false
/-- Lists so short that a place's successor is no other number. -/
def Sh {α : Type} (l : List α) : Prop := l.length ≤ 4611686018427387904
theorem wsucc {i n : Nat} (h : i < n) (hn : n ≤ 4611686018427387904) : wrap64 ((i : Int) + 1) = ((i + 1 : Nat) : Int) := by unfold wrap64; omega
theorem rd_get {l : List Int} {i : Nat} (h : i < l.length) : rd l (i : Int) = l[i] := by simp [rd, h]
theorem drop_rd {l : List Int} {i : Nat} (h : i < l.length) : l.drop i = rd l (i : Int) :: l.drop (i + 1) := by rw [List.drop_eq_getElem_cons h, rd_get h]
theorem up {n : Nat} {P : Nat → Prop} (h0 : P n) (hs : ∀ i, i < n → P (i + 1) → P i) (i : Nat) (hi : i ≤ n) : P i := by
  have key : ∀ d, ∀ i, i + d = n → P i := by
    intro d
    induction d with
    | zero => intro i h; have : i = n := by omega
              subst this; exact h0
    | succ d ih => intro i h; exact hs i (by omega) (ih (i + 1) (by omega))
  exact key (n - i) i (by omega)
theorem f_Lies (a b c : Int) : r00_Lies.f a b c = some (decide (b ≤ a) && decide (a ≤ c)) := by unfold r00_Lies.f; split <;> simp [*]
theorem f_IsWord (n : Int) : r00_IsWord.f n = some (isWordB n) := by unfold r00_IsWord.f; rw [f_Lies]; rfl
theorem f_Word (n : Int) : r00_Word.f n = some (wrap64 (wrap32 n)) := by
  unfold r00_Word.f
  congr 2
  unfold wrap32 IntKind.wrap
  simp only [IntKind.signed, IntKind.bits]
  simp
theorem ev_Words (l : List Int) (hl : Sh l) : Ev (fun k => r00_Words.f k l) (!noWords l) := by
  have H := up (n := l.length) (P := fun i => Ev (fun k => r00_Words.l0 k l (i : Int)) (!noWords (l.drop i)))
    (Ev.step (f := fun _ => some true) (fun k => by simp only [r00_Words.l0]; rw [if_neg (by omega)]) (by rw [List.drop_length]; exact Ev.now _))
    (fun i hi ih => by
      cases hw : isWordB (rd l (i : Int))
      · rw [drop_rd hi]
        refine Ev.step (f := fun _ => some false) (fun k => ?_) (by simp only [noWords, List.any_cons, hw]; exact Ev.now _)
        simp only [r00_Words.l0]; rw [if_pos (by omega), if_pos (by omega), f_IsWord, hw]; rfl
      · rw [drop_rd hi]
        refine Ev.step (f := fun k => r00_Words.l0 k l ((i + 1 : Nat) : Int)) (fun k => ?_) (by simp only [noWords, List.any_cons, hw]; exact ih)
        simp only [r00_Words.l0]; rw [if_pos (by omega), if_pos (by omega), f_IsWord, hw, wsucc hi hl]; rfl) 0 (Nat.zero_le _)
  exact H
/-- What comes behind the check of the lists. -/
theorem ev_after {α : Type} {g : Nat → Option Int} {e : Int} (hg : Ev g e) {F : Nat → Option α} {bad : Int → α} {H : Nat → Option α} (hF : ∀ k, F k = (g k).bind fun t => if t = 0 then H k else some (bad t)) {r : α} (h0 : e = 0 → Ev H r) (h1 : e ≠ 0 → r = bad e) : Ev F r := by
  refine Ev.congr hF ?_
  refine Ev.bind hg ?_
  by_cases h : e = 0
  · simp only [h, if_true]; exact h0 h
  · simp only [h, if_false]; rw [h1 h]; exact Ev.now _
theorem wrap32_64 (x : Int) : wrap32 (wrap64 x) = wrap32 x := by unfold wrap32 wrap64; omega
theorem take_rd {l : List Int} {i : Nat} (h : i < l.length) : l.take (i + 1) = l.take i ++ [rd l (i : Int)] := by
  rw [rd_get h, List.take_add_one, List.getElem?_eq_getElem h]; rfl
theorem isWordB_iff (n : Int) : isWordB n = true ↔ -2147483648 ≤ n ∧ n ≤ 2147483647 := by simp [isWordB]
theorem nonneg {l : List Int} (h : (l.any fun n => decide (n < 0)) = false) : ∀ x ∈ l, 0 ≤ x := by
  intro x hx
  have := List.any_eq_false.1 h x hx
  simpa using this
theorem f_truth (b : Bool) : r01_truth.f b = some (truthI b) := by cases b <;> rfl
theorem wrap_in {n : Int} (h0 : -9223372036854775808 ≤ n) (h1 : n ≤ 9223372036854775807) : wrap64 n = n := by unfold wrap64; omega
theorem tmod_zero (a b : Int) : a.tdiv b * b = a ↔ a.tmod b = 0 := by
  have := Int.tdiv_mul_add_tmod a b
  omega
theorem f_quotient (a b : Int) (ha : W32 a) (hb : W32 b) (h0 : b ≠ 0) : r01_quotient.f a b = some (quot a b) := by
  have hr := tdiv_range a b ha
  have hm : (a.tdiv b * b).natAbs ≤ a.natAbs := by
    rw [Int.natAbs_mul, Int.natAbs_tdiv]
    exact Nat.div_mul_le_self _ _
  unfold r01_quotient.f quot quotB
  rw [if_neg h0, wrap_in (n := a.tdiv b) (by omega) (by omega)]
  rw [wrap_in (n := a.tdiv b * b) (by unfold W32 at ha; omega) (by unfold W32 at ha; omega)]
  by_cases hz : a.tmod b = 0
  · rw [if_pos ((tmod_zero a b).2 hz), if_neg (by simp [hz])]
  · rw [if_neg (fun h => hz ((tmod_zero a b).1 h))]
    have hz2 : (a.tmod b != 0) = true := by simpa using hz
    rw [hz2, Bool.true_and]
    by_cases hs : ((decide (a < 0)) != (decide (b < 0))) = true
    · rw [if_pos hs, if_pos hs, wrap_in (by omega) (by omega)]
    · rw [if_neg hs, if_neg hs]
theorem mn_min (a b : Int) : mn a b = min a b := by unfold mn; split <;> omega
theorem mx_max (a b : Int) : mx a b = max a b := by unfold mx; split <;> omega
theorem f_Value (op a b : Int) (ha : W32 a) (hb : W32 b) (hz : zeroB op b = false) : r01_Value.f op a b = some (deed op a b) := by
  unfold r01_Value.f deed
  by_cases h0 : op = 0
  · rw [if_pos h0, if_pos h0, f_Word, wrap32_64]; rfl
  rw [if_neg h0, if_neg h0]
  by_cases h1 : op = 1
  · rw [if_pos h1, if_pos h1, f_Word, wrap32_64]; rfl
  rw [if_neg h1, if_neg h1]
  by_cases h2 : op = 2
  · rw [if_pos h2, if_pos h2, f_Word]; rfl
  rw [if_neg h2, if_neg h2]
  by_cases h3 : op = 3
  · rw [if_pos h3, if_pos h3]
    have hb0 : b ≠ 0 := by intro h; simp [zeroB, h, h3] at hz
    rw [f_quotient a b ha hb hb0]
    simp only [Option.bind_some]
    rw [f_Word]; rfl
  rw [if_neg h3, if_neg h3]
  by_cases h4 : op = 4
  · rw [if_pos h4, if_pos h4]
    have hb0 : b ≠ 0 := by intro h; simp [zeroB, h, h4] at hz
    rw [f_quotient a b ha hb hb0]
    simp only [Option.bind_some]
    rw [Int.mul_comm]
  rw [if_neg h4, if_neg h4]
  by_cases h5 : op = 5
  · rw [if_pos h5, if_pos h5, f_truth]; rfl
  rw [if_neg h5, if_neg h5]
  by_cases h6 : op = 6
  · rw [if_pos h6, if_pos h6, f_truth]; rfl
  rw [if_neg h6, if_neg h6]
  by_cases h7 : op = 7
  · rw [if_pos h7, if_pos h7, mn_min]
  rw [if_neg h7, if_neg h7]
  by_cases h8 : op = 8
  · rw [if_pos h8, if_pos h8, mx_max]
  rw [if_neg h8, if_neg h8]
  by_cases h9 : op = 9
  · rw [if_pos h9, if_pos h9]
  rw [if_neg h9, if_neg h9]
  by_cases h10 : op = 10
  · rw [if_pos h10, if_pos h10]
  rw [if_neg h10, if_neg h10]
theorem Do_ok (op a b : Int) (ho : isOpB op = true) (ha : isWordB a = true) (hb : isWordB b = true) : word_Do.g op a b = if zeroB op b then (0, 14) else (deed op a b, 0) := by
  unfold word_Do.g
  rw [ho, ha, hb]; rfl
theorem i64_toInt (x : BitVec 64) : IntKind.i64.wrap (x.toNat : Int) = x.toInt := by
  have h : IntKind.i64.wrap (x.toNat : Int) = ((x.toNat : Int) + 9223372036854775808) % 18446744073709551616 - 9223372036854775808 := by
    simp [IntKind.wrap, IntKind.bits, IntKind.signed]
    split <;> omega
  rw [h, BitVec.toInt_eq_toNat_cond]
  have := x.isLt
  split <;> omega
theorem ext64 (a : Int) (h : -2147483648 ≤ a ∧ a ≤ 2147483647) : BitVec.ofInt 64 a = (BitVec.ofInt 32 a).signExtend 64 := by
  apply BitVec.eq_of_toInt_eq
  rw [BitVec.toInt_signExtend_of_le (by decide), BitVec.toInt_ofInt, BitVec.toInt_ofInt]
  rw [Int.bmod_eq_of_le (by omega) (by omega), Int.bmod_eq_of_le (by omega) (by omega)]
theorem word_of_ext (c : BitVec 32) : -2147483648 ≤ IntKind.i64.wrap (((c.signExtend 64).toNat : Nat) : Int) ∧ IntKind.i64.wrap (((c.signExtend 64).toNat : Nat) : Int) ≤ 2147483647 := by
  rw [i64_toInt, BitVec.toInt_signExtend_of_le (by decide)]
  have h1 := BitVec.le_toInt c
  have h2 := BitVec.toInt_lt (x := c)
  omega
theorem and_word (a b : Int) (ha : -2147483648 ≤ a ∧ a ≤ 2147483647) (hb : -2147483648 ≤ b ∧ b ≤ 2147483647) : -2147483648 ≤ bits .and .i64 a b ∧ bits .and .i64 a b ≤ 2147483647 := by
  have e : bits .and .i64 a b = IntKind.i64.wrap ((((BitVec.ofInt 32 a &&& BitVec.ofInt 32 b).signExtend 64).toNat : Nat) : Int) := by
    show IntKind.i64.wrap (((BitVec.ofInt 64 a &&& BitVec.ofInt 64 b).toNat : Nat) : Int) = _
    rw [ext64 a ha, ext64 b hb, BitVec.signExtend_and]
  rw [e]; exact word_of_ext _
theorem or_word (a b : Int) (ha : -2147483648 ≤ a ∧ a ≤ 2147483647) (hb : -2147483648 ≤ b ∧ b ≤ 2147483647) : -2147483648 ≤ bits .or .i64 a b ∧ bits .or .i64 a b ≤ 2147483647 := by
  have e : bits .or .i64 a b = IntKind.i64.wrap ((((BitVec.ofInt 32 a ||| BitVec.ofInt 32 b).signExtend 64).toNat : Nat) : Int) := by
    show IntKind.i64.wrap (((BitVec.ofInt 64 a ||| BitVec.ofInt 64 b).toNat : Nat) : Int) = _
    rw [ext64 a ha, ext64 b hb, BitVec.signExtend_or]
  rw [e]; exact word_of_ext _
theorem xor_word (a b : Int) (ha : -2147483648 ≤ a ∧ a ≤ 2147483647) (hb : -2147483648 ≤ b ∧ b ≤ 2147483647) : -2147483648 ≤ bits .xor .i64 a b ∧ bits .xor .i64 a b ≤ 2147483647 := by
  have e : bits .xor .i64 a b = IntKind.i64.wrap ((((BitVec.ofInt 32 a ^^^ BitVec.ofInt 32 b).signExtend 64).toNat : Nat) : Int) := by
    show IntKind.i64.wrap (((BitVec.ofInt 64 a ^^^ BitVec.ofInt 64 b).toNat : Nat) : Int) = _
    rw [ext64 a ha, ext64 b hb, BitVec.signExtend_xor]
  rw [e]; exact word_of_ext _
/-- An operation, but division. -/
def plainOp (op : Int) : Prop := 0 ≤ op ∧ op < 12 ∧ op ≠ 3 ∧ op ≠ 4
theorem deed_word (op a b : Int) (ho : plainOp op) (ha : isWordB a = true) (hb : isWordB b = true) : isWordB (deed op a b) = true := by
  rw [isWordB_iff] at *
  unfold deed
  by_cases h0 : op = 0
  · rw [if_pos h0]; unfold wrap64 wrap32; omega
  rw [if_neg h0]
  by_cases h1 : op = 1
  · rw [if_pos h1]; unfold wrap64 wrap32; omega
  rw [if_neg h1]
  by_cases h2 : op = 2
  · rw [if_pos h2]; generalize wrap64 (a * b) = x; unfold wrap64 wrap32; omega
  rw [if_neg h2, if_neg ho.2.2.1, if_neg ho.2.2.2]
  by_cases h5 : op = 5
  · rw [if_pos h5]; unfold truthI; split <;> omega
  rw [if_neg h5]
  by_cases h6 : op = 6
  · rw [if_pos h6]; unfold truthI; split <;> omega
  rw [if_neg h6]
  by_cases h7 : op = 7
  · rw [if_pos h7]; omega
  rw [if_neg h7]
  by_cases h8 : op = 8
  · rw [if_pos h8]; omega
  rw [if_neg h8]
  by_cases h9 : op = 9
  · rw [if_pos h9]; exact and_word a b ha hb
  rw [if_neg h9]
  by_cases h10 : op = 10
  · rw [if_pos h10]; exact or_word a b ha hb
  rw [if_neg h10]
  exact xor_word a b ha hb
theorem f_Neutral (op : Int) : rNeut.f op = some (neutG op) := rfl
/-- An operation that is associative. -/
theorem assoc_of {op nn : Int} (h : neutG op = (nn, 0)) : isOpB op = true ∧ assocB op = true ∧ nn = neutI op := by
  unfold neutG at h
  cases h1 : isOpB op
  · rw [h1] at h; simp at h
  · cases h2 : assocB op
    · rw [h1, h2] at h; simp at h
    · rw [h1, h2] at h
      simp at h
      exact ⟨rfl, rfl, h.symm⟩
theorem assoc_ops {op : Int} (h : assocB op = true) : op = 0 ∨ op = 2 ∨ op = 7 ∨ op = 8 ∨ op = 9 ∨ op = 10 ∨ op = 11 := by
  simp only [assocB, Bool.or_eq_true, beq_iff_eq] at h
  omega
theorem assoc_zero {op : Int} (h : assocB op = true) (b : Int) : zeroB op b = false := by
  rcases assoc_ops h with rfl | rfl | rfl | rfl | rfl | rfl | rfl <;> simp [zeroB]
theorem assoc_plain {op : Int} (h : assocB op = true) : plainOp op := by
  unfold plainOp
  rcases assoc_ops h with rfl | rfl | rfl | rfl | rfl | rfl | rfl <;> omega
theorem neut_word {op nn : Int} (h : neutG op = (nn, 0)) : isWordB nn = true := by
  obtain ⟨_, h2, rfl⟩ := assoc_of h
  rcases assoc_ops h2 with rfl | rfl | rfl | rfl | rfl | rfl | rfl <;> rfl
theorem joinI_deed {op nn : Int} (h : neutG op = (nn, 0)) {a b : Int} (ha : isWordB a = true) (hb : isWordB b = true) : joinI op a b = deed op a b := by
  obtain ⟨h1, h2, _⟩ := assoc_of h
  unfold joinI
  rw [Do_ok op a b h1 ha hb, assoc_zero h2]
  rfl
theorem joinI_word {op nn : Int} (h : neutG op = (nn, 0)) {a b : Int} (ha : isWordB a = true) (hb : isWordB b = true) : isWordB (joinI op a b) = true := by
  rw [joinI_deed h ha hb]
  exact deed_word op a b (assoc_plain (assoc_of h).2.1) ha hb
theorem f_Value5 {op nn : Int} (h : neutG op = (nn, 0)) {a b : Int} (ha : isWordB a = true) (hb : isWordB b = true) : r01_Value.f op a b = some (joinI op a b) := by
  rw [f_Value op a b ((isWordB_iff a).1 ha) ((isWordB_iff b).1 hb) (assoc_zero (assoc_of h).2.1 b), joinI_deed h ha hb]
theorem wsE_words {l : List Int} (h : l.length ≤ 1048576) : wsE l = if noWords l then 2 else 0 := by
  unfold wsE
  rw [if_neg (by omega)]
/-- What is asked of a list in segments. -/
def segE (op : Int) (l lens : List Int) : Int :=
  if (neutG op).2 = 0 then (if decide (1048576 < l.length) || decide (1048576 < lens.length) then 3 else if (wsE l != 0) || (wsE lens != 0) then 2 else if okLens l lens then 0 else 6) else (neutG op).2
theorem told_segE (op : Int) (l lens : List Int) (has : Bool) (f : Int → Int → Int) (en : Bool) : told_g op l lens has f en = if segE op l lens = 0 then (segTo op (neutG op).1 l lens has f en lens.length, 0) else ([], segE op l lens) := by
  unfold told_g segE
  by_cases h1 : (neutG op).2 = 0
  · rw [if_pos h1, if_pos h1]
    by_cases h2 : (decide (1048576 < l.length) || decide (1048576 < lens.length)) = true
    · rw [if_pos h2, if_pos h2]; rfl
    · rw [if_neg h2, if_neg h2]
      by_cases h3 : ((wsE l != 0) || (wsE lens != 0)) = true
      · rw [if_pos h3, if_pos h3]; rfl
      · rw [if_neg h3, if_neg h3]
        by_cases h4 : okLens l lens = true
        · rw [if_pos h4, if_pos h4]; rfl
        · rw [if_neg h4, if_neg h4]; rfl
  · rw [if_neg h1, if_neg h1, if_neg h1]
theorem start_sum (lens : List Int) (h : ∀ x ∈ lens, 0 ≤ x) : ∀ i : Nat, i ≤ lens.length → (startOf lens (i : Int) : Int) = (lens.take i).sum
  | 0, _ => by simp [startOf]
  | i + 1, hi => by
    have ih := start_sum lens h i (by omega)
    have h2 := startOf_succ lens (i : Int) (by omega) (by omega)
    have h3 : 0 ≤ rd lens (i : Int) := by rw [rd_get (by omega)]; exact h _ (List.getElem_mem _)
    rw [show ((i + 1 : Nat) : Int) = (i : Int) + 1 by omega, h2, take_rd (by omega), List.sum_append]
    simp
    omega
theorem ev_Check (lens : List Int) (hl : lens.length ≤ 1048576) : Ev (fun k => r02_Check.f k lens) (if lens.any (fun n => decide (n < 0)) then (0, 2) else if min lens.sum 2097152 > 1048576 then (0, 9) else (min lens.sum 2097152, 0)) := by
  have sumnn : ∀ m : List Int, m.any (fun n => decide (n < 0)) = false → 0 ≤ m.sum := by
    intro m
    induction m with
    | nil => intro _; simp
    | cons a m ih =>
      intro h
      simp only [List.any_cons, Bool.or_eq_false_iff, decide_eq_false_iff_not] at h
      have := ih h.2
      rw [List.sum_cons]
      omega
  have H := up (n := lens.length) (P := fun i => ∀ c : Int, 0 ≤ c → c ≤ 2097152 → Ev (fun k => r02_Check.l0 k lens c (i : Int)) (if (lens.drop i).any (fun n => decide (n < 0)) then (0, 2) else if min (c + (lens.drop i).sum) 2097152 > 1048576 then (0, 9) else (min (c + (lens.drop i).sum) 2097152, 0)))
    (fun c h0 h1 => by
      rw [List.drop_length]
      have e : min (c + ([] : List Int).sum) 2097152 = c := by simp; omega
      rw [e]
      simp only [List.any_nil, Bool.false_eq_true, if_false]
      by_cases h : c > 1048576
      · refine Ev.step (f := fun _ => some (0, 9)) (fun k => ?_) (by rw [if_pos h]; exact Ev.now _)
        simp only [r02_Check.l0]; rw [if_neg (by omega), if_pos h]
      · refine Ev.step (f := fun _ => some (c, 0)) (fun k => ?_) (by rw [if_neg h]; exact Ev.now _)
        simp only [r02_Check.l0]; rw [if_neg (by omega), if_neg h])
    (fun i hi ih c h0 h1 => by
      rw [drop_rd hi]
      by_cases hn : rd lens (i : Int) < 0
      · refine Ev.step (f := fun _ => some (0, 2)) (fun k => ?_) (by simp only [List.any_cons, hn, decide_true, Bool.true_or, if_true]; exact Ev.now _)
        simp only [r02_Check.l0]; rw [if_pos (by omega), if_pos (by omega), if_pos hn]
      · have hmn := mn_min (rd lens (i : Int)) 2097152
        have hmn2 := mn_min (c + min (rd lens (i : Int)) 2097152) 2097152
        have hw : wrap64 (c + min (rd lens (i : Int)) 2097152) = c + min (rd lens (i : Int)) 2097152 := wrap_in (by omega) (by omega)
        have h2 := ih (min (c + min (rd lens (i : Int)) 2097152) 2097152) (by omega) (by omega)
        refine Ev.step (f := fun k => r02_Check.l0 k lens (min (c + min (rd lens (i : Int)) 2097152) 2097152) ((i + 1 : Nat) : Int)) (fun k => ?_) ?_
        · simp only [r02_Check.l0]; rw [if_pos (by omega), if_pos (by omega), if_neg hn, hmn, hw, hmn2, wsucc hi (by omega)]
        · simp only [List.any_cons, hn, decide_false, Bool.false_or, List.sum_cons]
          cases ha : (lens.drop (i + 1)).any (fun n => decide (n < 0))
          · have h3 := sumnn _ ha
            rw [ha] at h2
            simp only [Bool.false_eq_true, if_false] at h2 ⊢
            have e : min (min (c + min (rd lens (i : Int)) 2097152) 2097152 + (lens.drop (i + 1)).sum) 2097152 = min (c + (rd lens (i : Int) + (lens.drop (i + 1)).sum)) 2097152 := by omega
            rw [e] at h2
            exact h2
          · rw [ha] at h2
            simp only [if_true] at h2 ⊢
            exact h2) 0 (Nat.zero_le _) 0 (by omega) (by omega)
  simp only [r02_Check.f]
  rw [List.drop_zero, Int.zero_add] at H
  refine Ev.congr (f := fun k => r02_Check.l0 k lens 0 0) (fun k => by rw [if_neg (by omega)]) H
theorem ev_segments (op : Int) (l lens : List Int) (h1 : Sh l) (h2 : Sh lens) : Ev (fun k => r05_segments.f k op l lens) (segE op l lens) := by
  unfold segE
  simp only [r05_segments.f, f_Neutral, Option.bind_some]
  by_cases hn : (neutG op).2 = 0
  · simp only [hn, if_true]
    have long : Ev (fun k => r05_segments.j0 k l lens true) 3 := Ev.step (f := fun _ => some 3) (fun k => by simp only [r05_segments.j0, if_true]) (Ev.now _)
    by_cases hl : 1048576 < l.length
    · have e1 : ((l.length : Int) > 1048576) := by omega
      simp only [e1, if_true, hl, decide_true, Bool.true_or]
      exact long
    · have e1 : ¬ ((l.length : Int) > 1048576) := by omega
      simp only [e1, if_false, hl, decide_false, Bool.false_or]
      by_cases hl2 : 1048576 < lens.length
      · have e2 : ((lens.length : Int) > 1048576) := by omega
        simp only [e2, decide_true, hl2, if_true]
        exact long
      · have e2 : ¬ ((lens.length : Int) > 1048576) := by omega
        simp only [e2, decide_false, hl2, Bool.false_eq_true, if_false]
        rw [wsE_words (by omega), wsE_words (by omega)]
        have bad : Ev (fun k => r05_segments.j1 k l lens true) 2 := Ev.step (f := fun _ => some 2) (fun k => by simp only [r05_segments.j1, if_true]) (Ev.now _)
        refine Ev.step (f := fun k => (r00_Words.f k l).bind fun t120 => (if t120 = true then ((r00_Words.f k lens).bind fun t121 => (r05_segments.j1 k l lens (!t121))) else (r05_segments.j1 k l lens true))) (fun k => by simp only [r05_segments.j0, Bool.false_eq_true, if_false]) ?_
        refine Ev.bind (ev_Words l h1) ?_
        cases hw : noWords l
        · simp only [Bool.not_false, if_true, Bool.false_eq_true, if_false]
          refine Ev.bind (ev_Words lens h2) ?_
          cases hw2 : noWords lens
          · simp only [Bool.not_false, Bool.not_true, Bool.false_eq_true, if_false]
            refine Ev.step (f := fun k => (r02_Check.f k lens).bind fun bt122 => (if bt122.2 = 0 then (if bt122.1 = (l.length : Int) then (some 0) else (some 6)) else (some 6))) (fun k => by simp only [r05_segments.j1, Bool.false_eq_true, if_false]) ?_
            refine Ev.bind (ev_Check lens (by omega)) ?_
            have hb : ((0 : Int) != 0 || (0 : Int) != 0) = false := rfl
            rw [hb]
            simp only [Bool.false_eq_true, if_false]
            cases ha : lens.any (fun n => decide (n < 0))
            · have hnn := nonneg ha
              have hall : lens.all (fun n => decide (0 ≤ n)) = true := by rw [List.all_eq_true]; intro x hx; rw [decide_eq_true_eq]; exact hnn x hx
              have hst := start_sum lens hnn lens.length (Nat.le_refl _)
              rw [List.take_length] at hst
              simp only [okLens, hall, Bool.true_and, Bool.false_eq_true, if_false]
              by_cases hs : min lens.sum 2097152 > 1048576
              · rw [if_pos hs]
                simp only [show ¬ ((9 : Int) = 0) by omega, if_false]
                have e : (startOf lens (lens.length : Int) == l.length) = false := by rw [beq_eq_false_iff_ne]; omega
                rw [e]
                exact Ev.now _
              · rw [if_neg hs]
                simp only [if_true]
                by_cases hq : min lens.sum 2097152 = (l.length : Int)
                · have e : (startOf lens (lens.length : Int) == l.length) = true := by rw [beq_iff_eq]; omega
                  rw [e]
                  simp only [hq, if_true]
                  exact Ev.now _
                · have e : (startOf lens (lens.length : Int) == l.length) = false := by rw [beq_eq_false_iff_ne]; omega
                  rw [e]
                  simp only [hq, if_false]
                  exact Ev.now _
            · have hall : lens.all (fun n => decide (0 ≤ n)) = false := by
                obtain ⟨x, hx, hx2⟩ := List.any_eq_true.1 ha
                rw [List.all_eq_false]
                exact ⟨x, hx, by simp at hx2 ⊢; omega⟩
              simp only [okLens, hall, Bool.false_and, if_true, show ¬ ((2 : Int) = 0) by omega, if_false]
              exact Ev.now _
          · simp only [Bool.not_true, Bool.not_false, if_true]
            exact bad
        · simp only [Bool.not_true, Bool.false_eq_true, if_false, if_true]
          exact bad
  · simp only [hn, if_false]
    exact Ev.now _
theorem wadd (a b : Nat) (h : a + b ≤ 4611686018427387904) : wrap64 ((a : Int) + (b : Int)) = ((a + b : Nat) : Int) := by rw [wrap_in (by omega) (by omega)]; omega
theorem rdw {l : List Int} (hw : ∀ x ∈ l, isWordB x = true) {i : Nat} (hi : i < l.length) : isWordB (rd l (i : Int)) = true := by
  rw [rd_get hi]; exact hw _ (List.getElem_mem _)
theorem nowAt_word {op nn : Int} (h : neutG op = (nn, 0)) {l : List Int} (hw : ∀ x ∈ l, isWordB x = true) (st : Nat) : ∀ k, st + k ≤ l.length → isWordB (nowAt op nn l st k) = true
  | 0, _ => neut_word h
  | k + 1, hk => joinI_word h (nowAt_word h hw st k (by omega)) (rdw hw (by omega))
theorem ev_Joined {op nn : Int} (h : neutG op = (nn, 0)) (l : List Int) (hl : Sh l) (hw : ∀ x ∈ l, isWordB x = true) : Ev (fun k => r05_Joined.f k op l) (nowAt op nn l 0 l.length) := by
  have H := up (n := l.length) (P := fun i => Ev (fun k => r05_Joined.l0 k op l (nowAt op nn l 0 i) (i : Int)) (nowAt op nn l 0 l.length))
    (Ev.step (f := fun _ => some (nowAt op nn l 0 l.length)) (fun k => by simp only [r05_Joined.l0]; rw [if_neg (by omega)]) (Ev.now _))
    (fun i hi ih => by
      refine Ev.step (f := fun k => r05_Joined.l0 k op l (nowAt op nn l 0 (i + 1)) ((i + 1 : Nat) : Int)) (fun k => ?_) ih
      have e : nowAt op nn l 0 (i + 1) = joinI op (nowAt op nn l 0 i) (rd l (i : Int)) := by rw [nowAt, Nat.zero_add]
      simp only [r05_Joined.l0]
      rw [if_pos (by omega), if_pos (by omega), f_Value5 h (nowAt_word h hw 0 i (by omega)) (rdw hw hi), wsucc hi hl, e]
      rfl) 0 (Nat.zero_le _)
  refine Ev.congr (f := fun k => r05_Joined.l0 k op l nn 0) (fun k => by simp only [r05_Joined.f, f_Neutral, h, Option.bind_some]) H
theorem rd_sub (l : List Int) (st e k : Nat) (he : e ≤ l.length) (hk : st + k < e) : rd ((l.take e).drop st) (k : Int) = rd l ((st + k : Nat) : Int) := by
  rw [rd_get (by rw [List.length_drop, List.length_take]; omega), rd_get (by omega)]
  simp
theorem nowAt_sub (op nn : Int) (l : List Int) (st e : Nat) (he : e ≤ l.length) : ∀ k, st + k ≤ e → nowAt op nn ((l.take e).drop st) 0 k = nowAt op nn l st k
  | 0, _ => rfl
  | k + 1, hk => by rw [nowAt, nowAt, nowAt_sub op nn l st e he k (by omega), Nat.zero_add, rd_sub l st e k he (by omega)]
theorem okLens_of {l lens : List Int} (h : okLens l lens = true) : (∀ x ∈ lens, 0 ≤ x) ∧ startOf lens lens.length = l.length := by
  simp only [okLens, Bool.and_eq_true, List.all_eq_true, decide_eq_true_eq, beq_iff_eq] at h
  exact h
theorem start_step {l lens : List Int} (h : okLens l lens = true) {i : Nat} (hi : i < lens.length) : rd lens (i : Int) = ((rd lens (i : Int)).toNat : Int) ∧ startOf lens ((i + 1 : Nat) : Int) = startOf lens (i : Int) + (rd lens (i : Int)).toNat ∧ startOf lens ((i + 1 : Nat) : Int) ≤ l.length := by
  obtain ⟨h1, h2⟩ := okLens_of h
  have h3 : 0 ≤ rd lens (i : Int) := by rw [rd_get hi]; exact h1 _ (List.getElem_mem _)
  have h4 := startOf_succ lens (i : Int) (by omega) (by omega)
  have h5 := startOf_mono lens ((i + 1 : Nat) : Int) (by omega) (lens.length - (i + 1)) (by omega)
  rw [show ((i + 1 : Nat) : Int) + ((lens.length - (i + 1) : Nat) : Int) = (lens.length : Int) by omega, h2] at h5
  refine ⟨by omega, ?_, h5⟩
  rw [show ((i + 1 : Nat) : Int) = (i : Int) + 1 by omega]
  exact h4
/-- What a segments' check that answers nothing says. -/
theorem segE_ok {op : Int} {l lens : List Int} (h : segE op l lens = 0) : (neutG op).2 = 0 ∧ l.length ≤ 1048576 ∧ lens.length ≤ 1048576 ∧ (∀ x ∈ l, isWordB x = true) ∧ (∀ x ∈ lens, isWordB x = true) ∧ okLens l lens = true := by
  unfold segE at h
  by_cases h1 : (neutG op).2 = 0
  · rw [if_pos h1] at h
    by_cases h2 : (decide (1048576 < l.length) || decide (1048576 < lens.length)) = true
    · rw [if_pos h2] at h; omega
    · rw [if_neg h2] at h
      by_cases h3 : ((wsE l != 0) || (wsE lens != 0)) = true
      · rw [if_pos h3] at h; omega
      · rw [if_neg h3] at h
        by_cases h4 : okLens l lens = true
        · simp at h3
          exact ⟨h1, (wsE_ok h3.1).1, (wsE_ok h3.2).1, (wsE_ok h3.1).2, (wsE_ok h3.2).2, h4⟩
        · rw [if_neg h4] at h; omega
  · rw [if_neg h1] at h
    exact absurd h h1
theorem neut_pair {op : Int} (h : (neutG op).2 = 0) : neutG op = ((neutG op).1, 0) := Prod.ext rfl h
theorem segTo_false (op nn : Int) (l lens : List Int) (f : Int → Int → Int) (i : Nat) : segTo op nn l lens false f true (i + 1) = segTo op nn l lens false f true i ++ [nowAt op nn l (startOf lens i) (rd lens (i : Int)).toNat] := by
  have e : ∀ k, outsAt op nn l (startOf lens i) false f k = [] := by
    intro k
    induction k with
    | zero => rfl
    | succ k ih => unfold outsAt; simpa using ih
  rw [segTo, e, List.append_nil]
  rfl
theorem ev_Fold (op : Int) (l lens : List Int) (h1 : Sh l) (h2 : Sh lens) : Ev (fun k => r05_Fold.f k op l lens) (scan_Fold.g op l lens) := by
  unfold scan_Fold.g
  rw [told_segE]
  refine ev_after (ev_segments op l lens h1 h2) (bad := fun t => ([], t)) (H := fun k => r05_Fold.l0 k op l lens [] 0 0) (fun k => by simp only [r05_Fold.f]) (fun h0 => ?_) (fun h0 => by rw [if_neg h0])
  rw [if_pos h0]
  obtain ⟨g1, g2, g3, g4, g5, g6⟩ := segE_ok h0
  have hn := neut_pair g1
  generalize (neutG op).1 = nn at *
  generalize hR : segTo op nn l lens false (fun _ _ => 0) true lens.length = R
  have H := up (n := lens.length) (P := fun i => Ev (fun k => r05_Fold.l0 k op l lens (segTo op nn l lens false (fun _ _ => 0) true i) (startOf lens (i : Int) : Int) (i : Int)) (R, 0))
    (Ev.step (f := fun _ => some (R, 0)) (fun k => by simp only [r05_Fold.l0]; rw [if_neg (by omega), hR]) (Ev.now _))
    (fun i hi ih => by
      obtain ⟨s1, s2, s3⟩ := start_step g6 hi
      have hlen := segTo_length op nn l lens false (fun _ _ => 0) true i (by omega)
      have hw : wrap64 ((startOf lens (i : Int) : Int) + rd lens (i : Int)) = (startOf lens ((i + 1 : Nat) : Int) : Int) := by rw [wrap_in (by omega) (by omega)]; omega
      replace hw := Aside0.mk hw
      have hJ := ev_Joined hn ((l.take (startOf lens ((i + 1 : Nat) : Int))).drop (startOf lens (i : Int))) (by unfold Sh; rw [List.length_drop, List.length_take]; omega) (fun x hx => g4 x (List.mem_of_mem_take (List.mem_of_mem_drop hx)))
      have hll : ((l.take (startOf lens ((i + 1 : Nat) : Int))).drop (startOf lens (i : Int))).length = (rd lens (i : Int)).toNat := by rw [List.length_drop, List.length_take]; omega
      rw [hll, nowAt_sub op nn l _ _ s3 _ (by omega)] at hJ
      refine Ev.step (f := fun k => (r05_Joined.f k op ((l.take (startOf lens ((i + 1 : Nat) : Int))).drop (startOf lens (i : Int)))).bind fun t => r05_Fold.l0 k op l lens (segTo op nn l lens false (fun _ _ => 0) true i ++ [t]) (startOf lens ((i + 1 : Nat) : Int) : Int) ((i + 1 : Nat) : Int)) (fun k => ?_) (Ev.bind hJ (by rw [← segTo_false]; exact ih))
      simp only [r05_Fold.l0]
      rw [if_pos (by omega), if_pos (by omega), if_pos (by omega), hw.out, if_pos (by omega), if_pos (by omega), Int.toNat_natCast, Int.toNat_natCast, wsucc hi (by omega)]
      congr 1
      funext t
      rw [if_pos (by omega)]) 0 (Nat.zero_le _)
  exact H
theorem segTo_true (op nn : Int) (l lens : List Int) (f : Int → Int → Int) (i : Nat) : segTo op nn l lens true f false (i + 1) = segTo op nn l lens true f false i ++ outsAt op nn l (startOf lens i) true f (rd lens (i : Int)).toNat := by
  rw [segTo]; simp
theorem outsAt_true (op nn : Int) (l : List Int) (st : Nat) (f : Int → Int → Int) (k : Nat) : outsAt op nn l st true f (k + 1) = outsAt op nn l st true f k ++ [f (nowAt op nn l st k) (nowAt op nn l st (k + 1))] := by
  rw [outsAt]; rfl
theorem ev_Scan (op : Int) (l lens : List Int) (h1 : Sh l) (h2 : Sh lens) : Ev (fun k => r05_Scan.f k op l lens) (scan_Scan.g op l lens) := by
  unfold scan_Scan.g
  rw [told_segE]
  refine ev_after (ev_segments op l lens h1 h2) (bad := fun t => ([], t)) (H := fun k => r05_Scan.l0 k op l lens [] 0 0) (fun k => by simp only [r05_Scan.f]) (fun h0 => ?_) (fun h0 => by rw [if_neg h0])
  rw [if_pos h0]
  obtain ⟨g1, g2, g3, g4, g5, g6⟩ := segE_ok h0
  have hn := neut_pair g1
  generalize (neutG op).1 = nn at *
  generalize hR : segTo op nn l lens true (fun a _ => a) false lens.length = R
  have H := up (n := lens.length) (P := fun i => Ev (fun k => r05_Scan.l0 k op l lens (segTo op nn l lens true (fun a _ => a) false i) (startOf lens (i : Int) : Int) (i : Int)) (R, 0))
    (Ev.step (f := fun _ => some (R, 0)) (fun k => by simp only [r05_Scan.l0]; rw [if_neg (by omega), hR]) (Ev.now _))
    (fun i hi ih => by
      obtain ⟨s1, s2, s3⟩ := start_step g6 hi
      have hlen := segTo_length op nn l lens true (fun a _ => a) false i (by omega)
      have hw : wrap64 ((startOf lens (i : Int) : Int) + rd lens (i : Int)) = (startOf lens ((i + 1 : Nat) : Int) : Int) := by rw [wrap_in (by omega) (by omega)]; omega
      replace hw := Aside0.mk hw
      have Q := up (n := (rd lens (i : Int)).toNat) (P := fun j => Ev (fun k => r05_Scan.l1 k op l lens (segTo op nn l lens true (fun a _ => a) false i ++ outsAt op nn l (startOf lens i) true (fun a _ => a) j) (startOf lens (i : Int) : Int) (i : Int) (nowAt op nn l (startOf lens i) j) (j : Int)) (R, 0))
        (by
          rw [← segTo_true]
          refine Ev.step (f := fun k => r05_Scan.l0 k op l lens (segTo op nn l lens true (fun a _ => a) false (i + 1)) (startOf lens ((i + 1 : Nat) : Int) : Int) ((i + 1 : Nat) : Int)) (fun k => ?_) ih
          simp only [r05_Scan.l1]
          rw [if_pos (by omega), if_pos (by omega), if_neg (by omega), hw.out, wsucc hi (by omega)])
        (fun j hj ih2 => by
          have hol := outsAt_length op nn l (startOf lens i) true (fun a _ => a) j
          refine Ev.step (f := fun k => r05_Scan.l1 k op l lens (segTo op nn l lens true (fun a _ => a) false i ++ outsAt op nn l (startOf lens i) true (fun a _ => a) (j + 1)) (startOf lens (i : Int) : Int) (i : Int) (nowAt op nn l (startOf lens i) (j + 1)) ((j + 1 : Nat) : Int)) (fun k => ?_) ih2
          have hw2 := Aside0.mk (wadd (startOf lens (i : Int)) j (by omega))
          simp only [r05_Scan.l1]
          rw [if_pos (by omega), if_pos (by omega), if_pos (by omega), if_pos (by rw [List.length_append]; omega), hw2.out, if_pos (by omega), if_pos (by omega), f_Value5 hn (nowAt_word hn g4 _ j (by omega)) (rdw g4 (by omega)), wsucc hj (by omega), outsAt_true, ← List.append_assoc]
          rfl) 0 (Nat.zero_le _)
      refine Ev.step (f := fun k => r05_Scan.l1 k op l lens (segTo op nn l lens true (fun a _ => a) false i) (startOf lens (i : Int) : Int) (i : Int) nn 0) (fun k => ?_) (by
        have e : segTo op nn l lens true (fun a _ => a) false i ++ outsAt op nn l (startOf lens i) true (fun a _ => a) 0 = segTo op nn l lens true (fun a _ => a) false i := by rw [outsAt, List.append_nil]
        rw [e] at Q
        exact Q)
      simp only [r05_Scan.l0]
      rw [if_pos (by omega), f_Neutral, hn]
      rfl) 0 (Nat.zero_le _)
  exact H
theorem outsAt_len (op nn : Int) (l : List Int) (st : Nat) (f : Int → Int → Int) : ∀ k, (outsAt op nn l st true f k).length = k
  | 0 => rfl
  | k + 1 => by rw [outsAt_true, List.length_append, outsAt_len op nn l st f k]; rfl
theorem segTo_len {l lens : List Int} (op nn : Int) (f : Int → Int → Int) (h : okLens l lens = true) : ∀ i : Nat, i ≤ lens.length → (segTo op nn l lens true f false i).length = startOf lens (i : Int)
  | 0, _ => rfl
  | i + 1, hi => by
    obtain ⟨s1, s2, s3⟩ := start_step h (show i < lens.length by omega)
    rw [segTo_true, List.length_append, outsAt_len, segTo_len op nn f h i (by omega), s2]
theorem outs_zip (op nn : Int) (l : List Int) (st : Nat) : ∀ k, st + k ≤ l.length → outsAt op nn l st true (fun _ b => b) k = List.zipWith (joinI op) (outsAt op nn l st true (fun a _ => a) k) ((l.drop st).take k)
  | 0, _ => rfl
  | k + 1, hk => by
    rw [outsAt_true, outsAt_true, outs_zip op nn l st k (by omega), List.take_add_one, List.zipWith_append (by rw [outsAt_len, List.length_take, List.length_drop]; omega)]
    congr 1
    rw [List.getElem?_drop, List.getElem?_eq_getElem (by omega)]
    show [joinI op _ (rd l ((st + k : Nat) : Int))] = _
    rw [rd_get (by omega)]
    rfl
theorem segs_zip {l lens : List Int} (op nn : Int) (h : okLens l lens = true) : ∀ i : Nat, i ≤ lens.length → segTo op nn l lens true (fun _ b => b) false i = List.zipWith (joinI op) (segTo op nn l lens true (fun a _ => a) false i) (l.take (startOf lens (i : Int)))
  | 0, _ => rfl
  | i + 1, hi => by
    obtain ⟨s1, s2, s3⟩ := start_step h (show i < lens.length by omega)
    rw [segTo_true, segTo_true, segs_zip op nn h i (by omega), outs_zip op nn l _ _ (by omega), s2, List.take_add, List.zipWith_append (by rw [segTo_len op nn _ h i (by omega), List.length_take]; omega)]
theorem set_zip (f : Int → Int → Int) (a b : List Int) (h : a.length = b.length) (i : Nat) (hi : i < a.length) : (List.zipWith f (a.take i) (b.take i) ++ a.drop i).set i (f (rd a (i : Int)) (rd b (i : Int))) = List.zipWith f (a.take (i + 1)) (b.take (i + 1)) ++ a.drop (i + 1) := by
  have hl : (List.zipWith f (a.take i) (b.take i)).length = i := by rw [List.length_zipWith, List.length_take, List.length_take]; omega
  rw [List.set_append_right _ _ (by omega), hl, Nat.sub_self, List.drop_eq_getElem_cons hi, List.set_cons_zero, take_rd hi, take_rd (show i < b.length by omega), List.zipWith_append (by rw [List.length_take, List.length_take]; omega), List.append_assoc]
  rfl
theorem scan_words_ok {op nn : Int} (hn : neutG op = (nn, 0)) {l lens : List Int} (hw : ∀ x ∈ l, isWordB x = true) (h : okLens l lens = true) : ∀ i : Nat, i ≤ lens.length → ∀ x ∈ segTo op nn l lens true (fun a _ => a) false i, isWordB x = true
  | 0, _ => by intro x hx; simp [segTo] at hx
  | i + 1, hi => by
    obtain ⟨s1, s2, s3⟩ := start_step h (show i < lens.length by omega)
    intro x hx
    rw [segTo_true, List.mem_append] at hx
    rcases hx with hx | hx
    · exact scan_words_ok hn hw h i (by omega) x hx
    · have key : ∀ k, startOf lens (i : Int) + k ≤ l.length → ∀ x ∈ outsAt op nn l (startOf lens i) true (fun a _ => a) k, isWordB x = true := by
        intro k
        induction k with
        | zero => intro _ x hx; simp [outsAt] at hx
        | succ k ih =>
          intro hk x hx
          rw [outsAt_true, List.mem_append, List.mem_singleton] at hx
          rcases hx with hx | rfl
          · exact ih (by omega) x hx
          · exact nowAt_word hn hw _ k (by omega)
      exact key _ (by omega) x hx
theorem ev_Through (op : Int) (l lens : List Int) (h1 : Sh l) (h2 : Sh lens) : Ev (fun k => r05_Through.f k op l lens) (scan_Through.g op l lens) := by
  have hS := ev_Scan op l lens h1 h2
  unfold scan_Scan.g at hS
  unfold scan_Through.g
  rw [told_segE] at hS ⊢
  simp only [r05_Through.f]
  refine Ev.bind hS ?_
  by_cases h0 : segE op l lens = 0
  · rw [if_pos h0, if_pos h0]
    obtain ⟨g1, g2, g3, g4, g5, g6⟩ := segE_ok h0
    have hn := neut_pair g1
    generalize (neutG op).1 = nn at *
    simp only [if_true]
    have hz := segs_zip op nn g6 lens.length (Nat.le_refl _)
    have hsl := segTo_len op nn (fun a _ => a) g6 lens.length (Nat.le_refl _)
    have hsw := scan_words_ok hn g4 g6 lens.length (Nat.le_refl _)
    rw [(okLens_of g6).2] at hz hsl
    rw [List.take_length] at hz
    rw [hz]
    generalize segTo op nn l lens true (fun a _ => a) false lens.length = sc at *
    have H := up (n := sc.length) (P := fun i => Ev (fun k => r05_Through.l0 k op l (List.zipWith (joinI op) (sc.take i) (l.take i) ++ sc.drop i) (i : Int)) (List.zipWith (joinI op) sc l, 0))
      (by
        rw [List.take_length, List.drop_length, List.append_nil, hsl, List.take_length]
        refine Ev.step (f := fun _ => some (List.zipWith (joinI op) sc l, 0)) (fun k => ?_) (Ev.now _)
        simp only [r05_Through.l0]
        rw [if_neg (by rw [List.length_zipWith]; omega)])
      (fun i hi ih => by
        have hl : (List.zipWith (joinI op) (sc.take i) (l.take i)).length = i := by rw [List.length_zipWith, List.length_take, List.length_take]; omega
        have hlen : (List.zipWith (joinI op) (sc.take i) (l.take i) ++ sc.drop i).length = sc.length := by rw [List.length_append, hl, List.length_drop]; omega
        have hrd : rd (List.zipWith (joinI op) (sc.take i) (l.take i) ++ sc.drop i) (i : Int) = rd sc (i : Int) := by
          rw [rd_get (by omega), rd_get hi, List.getElem_append_right (by omega)]
          simp [hl]
        refine Ev.step (f := fun k => r05_Through.l0 k op l (List.zipWith (joinI op) (sc.take (i + 1)) (l.take (i + 1)) ++ sc.drop (i + 1)) ((i + 1 : Nat) : Int)) (fun k => ?_) ih
        simp only [r05_Through.l0]
        rw [if_pos (by omega), if_pos (by omega), if_pos (by omega), hrd, f_Value5 hn (rdw hsw hi) (rdw g4 (by omega)), wsucc hi (by omega)]
        simp only [Option.bind_some, Int.toNat_natCast]
        rw [set_zip (joinI op) sc l hsl i hi]) 0 (Nat.zero_le _)
    simpa using H
  · rw [if_neg h0, if_neg h0]
    simp only [h0, if_false]
    exact Ev.now _
theorem ScanFolds : w05_ScanFolds.Pure := by
  intro op l lens _ _ h1 _ _ h2 _
  have s1 : Sh l := by unfold Sh; omega
  have s2 : Sh lens := by unfold Sh; omega
  obtain ⟨K0, e0⟩ := ev_Fold op l lens s1 s2
  obtain ⟨K1, e1⟩ := ev_Scan op l lens s1 s2
  obtain ⟨K2, e2⟩ := ev_Through op l lens s1 s2
  refine ⟨K0 + K1 + K2, ?_⟩
  have e0 := e0 (K0 + K1 + K2) (by omega)
  have e1 := e1 (K0 + K1 + K2) (by omega)
  have e2 := e2 (K0 + K1 + K2) (by omega)
  generalize K0 + K1 + K2 = k at e0 e1 e2
  simp only at e0 e1 e2
  unfold w05_ScanFolds.f
  simp [e0, e1, e2, sFold.f, sScan.f, sThrough.f, Eq_.f, law_joined.f]
end Go.Proofs.YtpenkemabeonaaaDoor.Pure
