/- ScanParts: the fold of joined lists is their folds, joined; a scan through is the scan, joined with the list; segments do not touch one another; it is told of numbers and lists alone. -/
import Derived.Test.YtpenkemabeonaaaDoorPScanPartsx
namespace Go.Proofs.YtpenkemabeonaaaDoor.Pure
open Go.RowKit Go.Proofs.YtpenkemabeonaaaDoor.PScanParts Go.Proofs.YtpenkemabeonaaaDoor.Hand Go.Proofs.YtpenkemabeonaaaDoorW.PrintWords Go.Proofs.YtpenkemabeonaaaDoorW.PrintLast Go.Proofs.YtpenkemabeonaaaDoorW.PrintMore
set_option linter.unusedVariables false
set_option linter.unusedSimpArgs false
/-- Lists so short that a place's successor is no other number. -/
def Sh {α : Type} (l : List α) : Prop := l.length ≤ 4611686018427387904
theorem wsucc {i n : Nat} (h : i < n) (hn : n ≤ 4611686018427387904) : wrap64 ((i : Int) + 1) = ((i + 1 : Nat) : Int) := by unfold wrap64; omega
theorem rdn (l : List Int) (i : Nat) : rd l (i : Int) = l.getD i 0 := by simp [rd]
theorem rd_get {l : List Int} {i : Nat} (h : i < l.length) : rd l (i : Int) = l[i] := by simp [rd, h]
theorem up {n : Nat} {P : Nat → Prop} (h0 : P n) (hs : ∀ i, i < n → P (i + 1) → P i) (i : Nat) (hi : i ≤ n) : P i := by
  have key : ∀ d, ∀ i, i + d = n → P i := by
    intro d
    induction d with
    | zero => intro i h; have : i = n := by omega
              subst this; exact h0
    | succ d ih => intro i h; exact hs i (by omega) (ih (i + 1) (by omega))
  exact key (n - i) i (by omega)
theorem f_Word (n : Int) : r00_Word.f n = some (wrap64 (wrap32 n)) := by
  unfold r00_Word.f
  congr 2
  unfold wrap32 IntKind.wrap
  simp only [IntKind.signed, IntKind.bits]
  simp
theorem wrap32_64 (x : Int) : wrap32 (wrap64 x) = wrap32 x := by unfold wrap32 wrap64; omega
theorem take_rd {l : List Int} {i : Nat} (h : i < l.length) : l.take (i + 1) = l.take i ++ [rd l (i : Int)] := by
  rw [rd_get h, List.take_add_one, List.getElem?_eq_getElem h]; rfl
theorem isWordB_iff (n : Int) : isWordB n = true ↔ -2147483648 ≤ n ∧ n ≤ 2147483647 := by simp [isWordB]
theorem wrap_in {n : Int} (h0 : -9223372036854775808 ≤ n) (h1 : n ≤ 9223372036854775807) : wrap64 n = n := by unfold wrap64; omega
theorem mn_min (a b : Int) : mn a b = min a b := by unfold mn; split <;> omega
theorem Do_ok (op a b : Int) (ho : isOpB op = true) (ha : isWordB a = true) (hb : isWordB b = true) : word_Do.g op a b = if zeroB op b then (0, 14) else (deed op a b, 0) := by
  unfold word_Do.g
  rw [ho, ha, hb]; rfl
theorem i64_toInt (x : BitVec 64) : IntKind.i64.wrap (x.toNat : Int) = x.toInt := by
  have h : IntKind.i64.wrap (x.toNat : Int) = ((x.toNat : Int) + 9223372036854775808) % 18446744073709551616 - 9223372036854775808 := by
    simp [IntKind.wrap, IntKind.bits, IntKind.signed]
    split <;> omega
  rw [h, BitVec.toInt_eq_toNat_cond]
  have := x.isLt
  split <;> omega
theorem ext64 (a : Int) (h : -2147483648 ≤ a ∧ a ≤ 2147483647) : BitVec.ofInt 64 a = (BitVec.ofInt 32 a).signExtend 64 := by
  apply BitVec.eq_of_toInt_eq
  rw [BitVec.toInt_signExtend_of_le (by decide), BitVec.toInt_ofInt, BitVec.toInt_ofInt]
  rw [Int.bmod_eq_of_le (by omega) (by omega), Int.bmod_eq_of_le (by omega) (by omega)]
theorem word_of_ext (c : BitVec 32) : -2147483648 ≤ IntKind.i64.wrap (((c.signExtend 64).toNat : Nat) : Int) ∧ IntKind.i64.wrap (((c.signExtend 64).toNat : Nat) : Int) ≤ 2147483647 := by
  rw [i64_toInt, BitVec.toInt_signExtend_of_le (by decide)]
  have h1 := BitVec.le_toInt c
  have h2 := BitVec.toInt_lt (x := c)
  omega
theorem and_word (a b : Int) (ha : -2147483648 ≤ a ∧ a ≤ 2147483647) (hb : -2147483648 ≤ b ∧ b ≤ 2147483647) : -2147483648 ≤ bits .and .i64 a b ∧ bits .and .i64 a b ≤ 2147483647 := by
  have e : bits .and .i64 a b = IntKind.i64.wrap ((((BitVec.ofInt 32 a &&& BitVec.ofInt 32 b).signExtend 64).toNat : Nat) : Int) := by
    show IntKind.i64.wrap (((BitVec.ofInt 64 a &&& BitVec.ofInt 64 b).toNat : Nat) : Int) = _
    rw [ext64 a ha, ext64 b hb, BitVec.signExtend_and]
  rw [e]; exact word_of_ext _
theorem or_word (a b : Int) (ha : -2147483648 ≤ a ∧ a ≤ 2147483647) (hb : -2147483648 ≤ b ∧ b ≤ 2147483647) : -2147483648 ≤ bits .or .i64 a b ∧ bits .or .i64 a b ≤ 2147483647 := by
  have e : bits .or .i64 a b = IntKind.i64.wrap ((((BitVec.ofInt 32 a ||| BitVec.ofInt 32 b).signExtend 64).toNat : Nat) : Int) := by
    show IntKind.i64.wrap (((BitVec.ofInt 64 a ||| BitVec.ofInt 64 b).toNat : Nat) : Int) = _
    rw [ext64 a ha, ext64 b hb, BitVec.signExtend_or]
  rw [e]; exact word_of_ext _
theorem xor_word (a b : Int) (ha : -2147483648 ≤ a ∧ a ≤ 2147483647) (hb : -2147483648 ≤ b ∧ b ≤ 2147483647) : -2147483648 ≤ bits .xor .i64 a b ∧ bits .xor .i64 a b ≤ 2147483647 := by
  have e : bits .xor .i64 a b = IntKind.i64.wrap ((((BitVec.ofInt 32 a ^^^ BitVec.ofInt 32 b).signExtend 64).toNat : Nat) : Int) := by
    show IntKind.i64.wrap (((BitVec.ofInt 64 a ^^^ BitVec.ofInt 64 b).toNat : Nat) : Int) = _
    rw [ext64 a ha, ext64 b hb, BitVec.signExtend_xor]
  rw [e]; exact word_of_ext _
/-- An operation, but division. -/
def plainOp (op : Int) : Prop := 0 ≤ op ∧ op < 12 ∧ op ≠ 3 ∧ op ≠ 4
theorem deed_word (op a b : Int) (ho : plainOp op) (ha : isWordB a = true) (hb : isWordB b = true) : isWordB (deed op a b) = true := by
  rw [isWordB_iff] at *
  unfold deed
  by_cases h0 : op = 0
  · rw [if_pos h0]; unfold wrap64 wrap32; omega
  rw [if_neg h0]
  by_cases h1 : op = 1
  · rw [if_pos h1]; unfold wrap64 wrap32; omega
  rw [if_neg h1]
  by_cases h2 : op = 2
  · rw [if_pos h2]; generalize wrap64 (a * b) = x; unfold wrap64 wrap32; omega
  rw [if_neg h2, if_neg ho.2.2.1, if_neg ho.2.2.2]
  by_cases h5 : op = 5
  · rw [if_pos h5]; unfold truthI; split <;> omega
  rw [if_neg h5]
  by_cases h6 : op = 6
  · rw [if_pos h6]; unfold truthI; split <;> omega
  rw [if_neg h6]
  by_cases h7 : op = 7
  · rw [if_pos h7]; omega
  rw [if_neg h7]
  by_cases h8 : op = 8
  · rw [if_pos h8]; omega
  rw [if_neg h8]
  by_cases h9 : op = 9
  · rw [if_pos h9]; exact and_word a b ha hb
  rw [if_neg h9]
  by_cases h10 : op = 10
  · rw [if_pos h10]; exact or_word a b ha hb
  rw [if_neg h10]
  exact xor_word a b ha hb
theorem f_Turn (n m : Int) (hm : m ≤ 4611686018427387904) : ∃ t, r00_Turn.f n m = some t ∧ 0 ≤ t ∧ (0 < m → t < m) := by
  unfold r00_Turn.f
  by_cases h1 : m < 1
  · exact ⟨0, by rw [if_pos h1], by omega, fun h => by omega⟩
  · rw [if_neg h1, if_neg (by omega)]
    have hlt := Int.tmod_lt_of_pos n (show 0 < m by omega)
    have hgt : -m < n.tmod m := by
      have := Int.lt_tmod_of_pos n (show 0 < m by omega)
      exact this
    by_cases h2 : n.tmod m < 0
    · rw [if_pos h2]
      exact ⟨_, rfl, by unfold wrap64; omega, fun _ => by unfold wrap64; omega⟩
    · rw [if_neg h2]
      exact ⟨_, rfl, by omega, fun _ => hlt⟩
theorem f_Nth (l : List Int) (at_ : Int) (hl : Sh l) : ∃ x, r00_Nth.f l at_ = some x := by
  unfold r00_Nth.f
  by_cases h0 : (l.length : Int) = 0
  · exact ⟨0, by rw [if_pos h0]⟩
  · obtain ⟨t, h1, h2, h3⟩ := f_Turn at_ (l.length : Int) (by unfold Sh at hl; omega)
    exact ⟨rd l t, by rw [if_neg h0, h1]; simp only [Option.bind_some]; rw [if_pos h2, if_pos (h3 (by omega))]⟩
theorem wrap32_word (x : Int) : isWordB (wrap64 (wrap32 x)) = true := by
  rw [isWordB_iff]; unfold wrap64 wrap32; omega
theorem rd_app_left (a b : List Int) (i : Nat) (h : i < a.length) : rd (a ++ b) (i : Int) = rd a (i : Int) := by
  rw [rdn, rdn, List.getD_eq_getElem?_getD, List.getD_eq_getElem?_getD, List.getElem?_append_left h]
theorem rd_app_right (a b : List Int) (i : Nat) : rd (a ++ b) ((a.length + i : Nat) : Int) = rd b (i : Int) := by
  rw [rdn, rdn, List.getD_eq_getElem?_getD, List.getD_eq_getElem?_getD, List.getElem?_append_right (by omega)]
  congr 2; omega
/-- An operation that is associative. -/
theorem assoc_of {op nn : Int} (h : neutG op = (nn, 0)) : isOpB op = true ∧ assocB op = true ∧ nn = neutI op := by
  unfold neutG at h
  cases h1 : isOpB op
  · rw [h1] at h; simp at h
  · cases h2 : assocB op
    · rw [h1, h2] at h; simp at h
    · rw [h1, h2] at h
      simp at h
      exact ⟨rfl, rfl, h.symm⟩
theorem assoc_ops {op : Int} (h : assocB op = true) : op = 0 ∨ op = 2 ∨ op = 7 ∨ op = 8 ∨ op = 9 ∨ op = 10 ∨ op = 11 := by
  simp only [assocB, Bool.or_eq_true, beq_iff_eq] at h
  omega
theorem assoc_zero {op : Int} (h : assocB op = true) (b : Int) : zeroB op b = false := by
  rcases assoc_ops h with rfl | rfl | rfl | rfl | rfl | rfl | rfl <;> simp [zeroB]
theorem assoc_plain {op : Int} (h : assocB op = true) : plainOp op := by
  unfold plainOp
  rcases assoc_ops h with rfl | rfl | rfl | rfl | rfl | rfl | rfl <;> omega
theorem neut_word {op nn : Int} (h : neutG op = (nn, 0)) : isWordB nn = true := by
  obtain ⟨_, h2, rfl⟩ := assoc_of h
  rcases assoc_ops h2 with rfl | rfl | rfl | rfl | rfl | rfl | rfl <;> rfl
theorem joinI_deed {op nn : Int} (h : neutG op = (nn, 0)) {a b : Int} (ha : isWordB a = true) (hb : isWordB b = true) : joinI op a b = deed op a b := by
  obtain ⟨h1, h2, _⟩ := assoc_of h
  unfold joinI
  rw [Do_ok op a b h1 ha hb, assoc_zero h2]
  rfl
theorem joinI_word {op nn : Int} (h : neutG op = (nn, 0)) {a b : Int} (ha : isWordB a = true) (hb : isWordB b = true) : isWordB (joinI op a b) = true := by
  rw [joinI_deed h ha hb]
  exact deed_word op a b (assoc_plain (assoc_of h).2.1) ha hb
theorem wsE_words {l : List Int} (h : l.length ≤ 1048576) : wsE l = if noWords l then 2 else 0 := by
  unfold wsE
  rw [if_neg (by omega)]
/-- What is asked of a list in segments. -/
def segE (op : Int) (l lens : List Int) : Int :=
  if (neutG op).2 = 0 then (if decide (1048576 < l.length) || decide (1048576 < lens.length) then 3 else if (wsE l != 0) || (wsE lens != 0) then 2 else if okLens l lens then 0 else 6) else (neutG op).2
theorem told_segE (op : Int) (l lens : List Int) (has : Bool) (f : Int → Int → Int) (en : Bool) : told_g op l lens has f en = if segE op l lens = 0 then (segTo op (neutG op).1 l lens has f en lens.length, 0) else ([], segE op l lens) := by
  unfold told_g segE
  by_cases h1 : (neutG op).2 = 0
  · rw [if_pos h1, if_pos h1]
    by_cases h2 : (decide (1048576 < l.length) || decide (1048576 < lens.length)) = true
    · rw [if_pos h2, if_pos h2]; rfl
    · rw [if_neg h2, if_neg h2]
      by_cases h3 : ((wsE l != 0) || (wsE lens != 0)) = true
      · rw [if_pos h3, if_pos h3]; rfl
      · rw [if_neg h3, if_neg h3]
        by_cases h4 : okLens l lens = true
        · rw [if_pos h4, if_pos h4]; rfl
        · rw [if_neg h4, if_neg h4]; rfl
  · rw [if_neg h1, if_neg h1, if_neg h1]
theorem start_sum (lens : List Int) (h : ∀ x ∈ lens, 0 ≤ x) : ∀ i : Nat, i ≤ lens.length → (startOf lens (i : Int) : Int) = (lens.take i).sum
  | 0, _ => by simp [startOf]
  | i + 1, hi => by
    have ih := start_sum lens h i (by omega)
    have h2 := startOf_succ lens (i : Int) (by omega) (by omega)
    have h3 : 0 ≤ rd lens (i : Int) := by rw [rd_get (by omega)]; exact h _ (List.getElem_mem _)
    rw [show ((i + 1 : Nat) : Int) = (i : Int) + 1 by omega, h2, take_rd (by omega), List.sum_append]
    simp
    omega
theorem rdw {l : List Int} (hw : ∀ x ∈ l, isWordB x = true) {i : Nat} (hi : i < l.length) : isWordB (rd l (i : Int)) = true := by
  rw [rd_get hi]; exact hw _ (List.getElem_mem _)
theorem nowAt_word {op nn : Int} (h : neutG op = (nn, 0)) {l : List Int} (hw : ∀ x ∈ l, isWordB x = true) (st : Nat) : ∀ k, st + k ≤ l.length → isWordB (nowAt op nn l st k) = true
  | 0, _ => neut_word h
  | k + 1, hk => joinI_word h (nowAt_word h hw st k (by omega)) (rdw hw (by omega))
theorem okLens_of {l lens : List Int} (h : okLens l lens = true) : (∀ x ∈ lens, 0 ≤ x) ∧ startOf lens lens.length = l.length := by
  simp only [okLens, Bool.and_eq_true, List.all_eq_true, decide_eq_true_eq, beq_iff_eq] at h
  exact h
theorem start_step {l lens : List Int} (h : okLens l lens = true) {i : Nat} (hi : i < lens.length) : rd lens (i : Int) = ((rd lens (i : Int)).toNat : Int) ∧ startOf lens ((i + 1 : Nat) : Int) = startOf lens (i : Int) + (rd lens (i : Int)).toNat ∧ startOf lens ((i + 1 : Nat) : Int) ≤ l.length := by
  obtain ⟨h1, h2⟩ := okLens_of h
  have h3 : 0 ≤ rd lens (i : Int) := by rw [rd_get hi]; exact h1 _ (List.getElem_mem _)
  have h4 := startOf_succ lens (i : Int) (by omega) (by omega)
  have h5 := startOf_mono lens ((i + 1 : Nat) : Int) (by omega) (lens.length - (i + 1)) (by omega)
  rw [show ((i + 1 : Nat) : Int) + ((lens.length - (i + 1) : Nat) : Int) = (lens.length : Int) by omega, h2] at h5
  refine ⟨by omega, ?_, h5⟩
  rw [show ((i + 1 : Nat) : Int) = (i : Int) + 1 by omega]
  exact h4
theorem segTo_false (op nn : Int) (l lens : List Int) (f : Int → Int → Int) (i : Nat) : segTo op nn l lens false f true (i + 1) = segTo op nn l lens false f true i ++ [nowAt op nn l (startOf lens i) (rd lens (i : Int)).toNat] := by
  have e : ∀ k, outsAt op nn l (startOf lens i) false f k = [] := by
    intro k
    induction k with
    | zero => rfl
    | succ k ih => unfold outsAt; simpa using ih
  rw [segTo, e, List.append_nil]
  rfl
theorem segTo_true (op nn : Int) (l lens : List Int) (f : Int → Int → Int) (i : Nat) : segTo op nn l lens true f false (i + 1) = segTo op nn l lens true f false i ++ outsAt op nn l (startOf lens i) true f (rd lens (i : Int)).toNat := by
  rw [segTo]; simp
theorem outsAt_true (op nn : Int) (l : List Int) (st : Nat) (f : Int → Int → Int) (k : Nat) : outsAt op nn l st true f (k + 1) = outsAt op nn l st true f k ++ [f (nowAt op nn l st k) (nowAt op nn l st (k + 1))] := by
  rw [outsAt]; rfl
theorem outsAt_len (op nn : Int) (l : List Int) (st : Nat) (f : Int → Int → Int) : ∀ k, (outsAt op nn l st true f k).length = k
  | 0 => rfl
  | k + 1 => by rw [outsAt_true, List.length_append, outsAt_len op nn l st f k]; rfl
theorem segTo_len {l lens : List Int} (op nn : Int) (f : Int → Int → Int) (h : okLens l lens = true) : ∀ i : Nat, i ≤ lens.length → (segTo op nn l lens true f false i).length = startOf lens (i : Int)
  | 0, _ => rfl
  | i + 1, hi => by
    obtain ⟨s1, s2, s3⟩ := start_step h (show i < lens.length by omega)
    rw [segTo_true, List.length_append, outsAt_len, segTo_len op nn f h i (by omega), s2]
theorem outs_zip (op nn : Int) (l : List Int) (st : Nat) : ∀ k, st + k ≤ l.length → outsAt op nn l st true (fun _ b => b) k = List.zipWith (joinI op) (outsAt op nn l st true (fun a _ => a) k) ((l.drop st).take k)
  | 0, _ => rfl
  | k + 1, hk => by
    rw [outsAt_true, outsAt_true, outs_zip op nn l st k (by omega), List.take_add_one, List.zipWith_append (by rw [outsAt_len, List.length_take, List.length_drop]; omega)]
    congr 1
    rw [List.getElem?_drop, List.getElem?_eq_getElem (by omega)]
    show [joinI op _ (rd l ((st + k : Nat) : Int))] = _
    rw [rd_get (by omega)]
    rfl
theorem segs_zip {l lens : List Int} (op nn : Int) (h : okLens l lens = true) : ∀ i : Nat, i ≤ lens.length → segTo op nn l lens true (fun _ b => b) false i = List.zipWith (joinI op) (segTo op nn l lens true (fun a _ => a) false i) (l.take (startOf lens (i : Int)))
  | 0, _ => rfl
  | i + 1, hi => by
    obtain ⟨s1, s2, s3⟩ := start_step h (show i < lens.length by omega)
    rw [segTo_true, segTo_true, segs_zip op nn h i (by omega), outs_zip op nn l _ _ (by omega), s2, List.take_add, List.zipWith_append (by rw [segTo_len op nn _ h i (by omega), List.length_take]; omega)]
theorem scan_words_ok {op nn : Int} (hn : neutG op = (nn, 0)) {l lens : List Int} (hw : ∀ x ∈ l, isWordB x = true) (h : okLens l lens = true) : ∀ i : Nat, i ≤ lens.length → ∀ x ∈ segTo op nn l lens true (fun a _ => a) false i, isWordB x = true
  | 0, _ => by intro x hx; simp [segTo] at hx
  | i + 1, hi => by
    obtain ⟨s1, s2, s3⟩ := start_step h (show i < lens.length by omega)
    intro x hx
    rw [segTo_true, List.mem_append] at hx
    rcases hx with hx | hx
    · exact scan_words_ok hn hw h i (by omega) x hx
    · have key : ∀ k, startOf lens (i : Int) + k ≤ l.length → ∀ x ∈ outsAt op nn l (startOf lens i) true (fun a _ => a) k, isWordB x = true := by
        intro k
        induction k with
        | zero => intro _ x hx; simp [outsAt] at hx
        | succ k ih =>
          intro hk x hx
          rw [outsAt_true, List.mem_append, List.mem_singleton] at hx
          rcases hx with hx | rfl
          · exact ih (by omega) x hx
          · exact nowAt_word hn hw _ k (by omega)
      exact key _ (by omega) x hx
theorem w32_mod (x : Int) : ∃ q : Int, wrap32 x = x - 4294967296 * q := ⟨(x + 2147483648) / 4294967296, by unfold wrap32; omega⟩
theorem w32_sub (x q : Int) : wrap32 (x - 4294967296 * q) = wrap32 x := by unfold wrap32; omega
theorem w32_mul_left (a c : Int) : wrap32 (wrap32 a * c) = wrap32 (a * c) := by
  obtain ⟨q, hq⟩ := w32_mod a
  rw [hq, Int.sub_mul, Int.mul_assoc, w32_sub]
theorem w32_mul_right (a c : Int) : wrap32 (a * wrap32 c) = wrap32 (a * c) := by
  rw [Int.mul_comm, w32_mul_left, Int.mul_comm]
theorem w64_w32 (x : Int) : wrap64 (wrap32 x) = wrap32 x := by unfold wrap64 wrap32; omega
theorem w32_word {x : Int} (h : isWordB x = true) : wrap32 x = x := by
  rw [isWordB_iff] at h
  unfold wrap32
  omega
theorem ofInt_wrap (v : BitVec 64) : BitVec.ofInt 64 (IntKind.i64.wrap ((v.toNat : Nat) : Int)) = v := by
  have e : IntKind.i64.wrap ((v.toNat : Nat) : Int) = v.toInt := by
    rw [i64_w]
    unfold wrap64
    have := v.isLt
    rw [BitVec.toInt_eq_toNat_cond]
    split <;> omega
  rw [e, BitVec.ofInt_toInt]
theorem wrap_ofInt {x : Int} (h : isWordB x = true) : IntKind.i64.wrap (((BitVec.ofInt 64 x).toNat : Nat) : Int) = x := by
  rw [isWordB_iff] at h
  rw [i64_w]
  unfold wrap64
  rw [BitVec.toNat_ofInt]
  omega
theorem bits_assoc (o : BinOp) (f : BitVec 64 → BitVec 64 → BitVec 64) (hf : ∀ a b : Int, bits o .i64 a b = IntKind.i64.wrap (((f (BitVec.ofInt 64 a) (BitVec.ofInt 64 b)).toNat : Nat) : Int)) (ha : ∀ x y z, f (f x y) z = f x (f y z)) (a b c : Int) : bits o .i64 (bits o .i64 a b) c = bits o .i64 a (bits o .i64 b c) := by
  rw [hf (bits o .i64 a b) c, hf a (bits o .i64 b c), hf a b, hf b c, ofInt_wrap, ofInt_wrap, ha]
theorem joinI_assoc {op nn : Int} (h : neutG op = (nn, 0)) {a b c : Int} (ha : isWordB a = true) (hb : isWordB b = true) (hc : isWordB c = true) : joinI op (joinI op a b) c = joinI op a (joinI op b c) := by
  rw [joinI_deed h (joinI_word h ha hb) hc, joinI_deed h ha (joinI_word h hb hc), joinI_deed h ha hb, joinI_deed h hb hc]
  rcases assoc_ops (assoc_of h).2.1 with rfl | rfl | rfl | rfl | rfl | rfl | rfl
  · show wrap64 (wrap32 (wrap64 (wrap32 (a + b)) + c)) = wrap64 (wrap32 (a + wrap64 (wrap32 (b + c))))
    rw [w64_w32, w64_w32, w64_w32, w64_w32]
    unfold wrap32
    omega
  · show wrap64 (wrap32 (wrap64 (wrap64 (wrap32 (wrap64 (a * b))) * c))) = wrap64 (wrap32 (wrap64 (a * wrap64 (wrap32 (wrap64 (b * c))))))
    simp only [wrap32_64, w64_w32, w32_mul_left, w32_mul_right, Int.mul_assoc]
  · show min (min a b) c = min a (min b c)
    omega
  · show max (max a b) c = max a (max b c)
    omega
  · exact bits_assoc .and (· &&& ·) (fun _ _ => rfl) BitVec.and_assoc a b c
  · exact bits_assoc .or (· ||| ·) (fun _ _ => rfl) BitVec.or_assoc a b c
  · exact bits_assoc .xor (· ^^^ ·) (fun _ _ => rfl) BitVec.xor_assoc a b c
theorem joinI_none {op nn : Int} (h : neutG op = (nn, 0)) {a : Int} (ha : isWordB a = true) : joinI op nn a = a := by
  rw [joinI_deed h (neut_word h) ha]
  have hw := (isWordB_iff a).1 ha
  obtain ⟨_, h2, rfl⟩ := assoc_of h
  rcases assoc_ops h2 with rfl | rfl | rfl | rfl | rfl | rfl | rfl
  · show wrap64 (wrap32 (0 + a)) = a
    rw [Int.zero_add, w64_w32, w32_word ha]
  · show wrap64 (wrap32 (wrap64 (1 * a))) = a
    rw [Int.one_mul, wrap32_64, w64_w32, w32_word ha]
  · show min 2147483647 a = a
    omega
  · show max (-2147483648) a = a
    omega
  · show IntKind.i64.wrap (((BitVec.ofInt 64 (-1) &&& BitVec.ofInt 64 a).toNat : Nat) : Int) = a
    rw [show BitVec.ofInt 64 (-1) = BitVec.allOnes 64 by decide, BitVec.allOnes_and, wrap_ofInt ha]
  · show IntKind.i64.wrap (((BitVec.ofInt 64 0 ||| BitVec.ofInt 64 a).toNat : Nat) : Int) = a
    rw [show BitVec.ofInt 64 0 = 0#64 by decide, BitVec.zero_or, wrap_ofInt ha]
  · show IntKind.i64.wrap (((BitVec.ofInt 64 0 ^^^ BitVec.ofInt 64 a).toNat : Nat) : Int) = a
    rw [show BitVec.ofInt 64 0 = 0#64 by decide, BitVec.zero_xor, wrap_ofInt ha]
theorem joinI_comm {op nn : Int} (h : neutG op = (nn, 0)) {a b : Int} (ha : isWordB a = true) (hb : isWordB b = true) : joinI op a b = joinI op b a := by
  rw [joinI_deed h ha hb, joinI_deed h hb ha]
  rcases assoc_ops (assoc_of h).2.1 with rfl | rfl | rfl | rfl | rfl | rfl | rfl
  · show wrap64 (wrap32 (a + b)) = wrap64 (wrap32 (b + a))
    rw [Int.add_comm]
  · show wrap64 (wrap32 (wrap64 (a * b))) = wrap64 (wrap32 (wrap64 (b * a)))
    rw [Int.mul_comm]
  · show min a b = min b a
    omega
  · show max a b = max b a
    omega
  · show IntKind.i64.wrap (((BitVec.ofInt 64 a &&& BitVec.ofInt 64 b).toNat : Nat) : Int) = IntKind.i64.wrap (((BitVec.ofInt 64 b &&& BitVec.ofInt 64 a).toNat : Nat) : Int)
    rw [BitVec.and_comm]
  · show IntKind.i64.wrap (((BitVec.ofInt 64 a ||| BitVec.ofInt 64 b).toNat : Nat) : Int) = IntKind.i64.wrap (((BitVec.ofInt 64 b ||| BitVec.ofInt 64 a).toNat : Nat) : Int)
    rw [BitVec.or_comm]
  · show IntKind.i64.wrap (((BitVec.ofInt 64 a ^^^ BitVec.ofInt 64 b).toNat : Nat) : Int) = IntKind.i64.wrap (((BitVec.ofInt 64 b ^^^ BitVec.ofInt 64 a).toNat : Nat) : Int)
    rw [BitVec.xor_comm]
theorem joinI_none_r {op nn : Int} (h : neutG op = (nn, 0)) {a : Int} (ha : isWordB a = true) : joinI op a nn = a := by
  rw [joinI_comm h ha (neut_word h), joinI_none h ha]
/-- Joined with what is ahead. -/
theorem nowAt_ahead {op nn : Int} (h : neutG op = (nn, 0)) {l : List Int} (hw : ∀ x ∈ l, isWordB x = true) {a : Int} (ha : isWordB a = true) (st : Nat) : ∀ k, st + k ≤ l.length → joinI op a (nowAt op nn l st k) = nowAt op a l st k
  | 0, _ => joinI_none_r h ha
  | k + 1, hk => by
    rw [nowAt, nowAt, ← joinI_assoc h ha (nowAt_word h hw st k (by omega)) (rdw hw (by omega)), nowAt_ahead h hw ha st k (by omega)]
theorem f_Copy (l : List Int) (h : l.length < 17592186044416) : r00_Copy.f l = some l := by
  unfold r00_Copy.f
  simp [h]
theorem segE_all {op : Int} {l lens : List Int} (hn : (neutG op).2 = 0) (h1 : wsE l = 0) (h2 : wsE lens = 0) (h3 : okLens l lens = true) : segE op l lens = 0 := by
  have hl1 := (wsE_ok h1).1
  have hl2 := (wsE_ok h2).1
  unfold segE
  rw [if_pos hn, if_neg (by simp; omega), if_neg (by simp [h1, h2]), if_pos h3]
theorem wsE_zero {l : List Int} (h1 : l.length ≤ 1048576) (h2 : ∀ x ∈ l, isWordB x = true) : wsE l = 0 := by
  rw [wsE_words h1]
  have : noWords l = false := by
    unfold noWords
    rw [List.any_eq_false]
    intro x hx
    simp [h2 x hx]
  rw [this]
  rfl
theorem outs_more (op nn : Int) (l : List Int) (a : Nat) : ∀ k, outsAt op nn l 0 true (fun a _ => a) (a + k) = outsAt op nn l 0 true (fun a _ => a) a ++ (List.range k).map (fun j => nowAt op nn l 0 (a + j))
  | 0 => by simp
  | k + 1 => by
    rw [Nat.add_assoc a k 1 |>.symm, outsAt_true, outs_more op nn l a k, List.range_succ, List.map_append, List.append_assoc]
    rfl
theorem f_opOf (n : Int) : ∃ op nn, w05_opOf.f n = some op ∧ neutG op = (nn, 0) := by
  obtain ⟨t, h1, h2, h3⟩ := f_Turn n 7 (by omega)
  have h3 := h3 (by omega)
  have e : w05_opOf.f n = some (rd [0, 2, 7, 8, 9, 10, 11] t) := by
    unfold w05_opOf.f
    rw [Option.bind_some, h1, Option.bind_some, if_pos h2, if_pos (by simpa using h3)]
  rw [e]
  have : t = 0 ∨ t = 1 ∨ t = 2 ∨ t = 3 ∨ t = 4 ∨ t = 5 ∨ t = 6 := by omega
  rcases this with rfl | rfl | rfl | rfl | rfl | rfl | rfl
  · exact ⟨_, _, rfl, rfl⟩
  · exact ⟨_, _, rfl, rfl⟩
  · exact ⟨_, _, rfl, rfl⟩
  · exact ⟨_, _, rfl, rfl⟩
  · exact ⟨_, _, rfl, rfl⟩
  · exact ⟨_, _, rfl, rfl⟩
  · exact ⟨_, _, rfl, rfl⟩
theorem ev_Wrap (l : List Int) (most : Nat) (hm : most ≤ 1000) (hl : Sh l) : ∃ a, Ev (fun k => r00_Wrap.f k l (most : Int)) a ∧ a.length = min l.length most ∧ (∀ x ∈ a, isWordB x = true) := by
  let g : Nat → Int := fun i => wrap64 (wrap32 (rd l (i : Int)))
  have H := up (n := min l.length most) (P := fun i => Ev (fun k => r00_Wrap.l0 k l (most : Int) ((List.range i).map g) (i : Int)) ((List.range (min l.length most)).map g))
    (Ev.step (f := fun _ => some ((List.range (min l.length most)).map g)) (fun k => by
      simp only [r00_Wrap.l0]
      by_cases h : ((min l.length most : Nat) : Int) < (l.length : Int)
      · rw [if_pos h, if_neg (by omega)]
      · rw [if_neg h]) (Ev.now _))
    (fun i hi ih => by
      refine Ev.step (f := fun k => r00_Wrap.l0 k l (most : Int) ((List.range (i + 1)).map g) ((i + 1 : Nat) : Int)) (fun k => ?_) ih
      simp only [r00_Wrap.l0]; rw [if_pos (by omega), if_pos (by omega), if_pos (by omega), f_Word]
      simp only [Option.bind_some]
      rw [if_pos (by simp; omega), wsucc hi (by omega), List.range_succ, List.map_append]
      rfl) 0 (Nat.zero_le _)
  refine ⟨(List.range (min l.length most)).map g, H, by simp, fun x hx => ?_⟩
  obtain ⟨i, _, rfl⟩ := List.mem_map.1 hx
  exact wrap32_word _
/-- All words, joined. -/
def foldG (op nn : Int) (l : List Int) : Int := l.foldl (joinI op) nn
theorem now_fold (op nn : Int) (l : List Int) : ∀ k, k ≤ l.length → nowAt op nn l 0 k = foldG op nn (l.take k)
  | 0, _ => rfl
  | k + 1, hk => by
    rw [nowAt, now_fold op nn l k (by omega), Nat.zero_add, take_rd (by omega)]
    unfold foldG
    rw [List.foldl_append]
    rfl
theorem now_all (op nn : Int) (l : List Int) : nowAt op nn l 0 l.length = foldG op nn l := by
  rw [now_fold op nn l _ (Nat.le_refl _), List.take_length]
theorem foldG_word {op nn : Int} (hn : neutG op = (nn, 0)) (l : List Int) (hw : ∀ x ∈ l, isWordB x = true) : isWordB (foldG op nn l) = true := by
  rw [← now_all]
  exact nowAt_word hn hw 0 _ (by omega)
theorem segE_fine {op nn : Int} (hn : neutG op = (nn, 0)) {l lens : List Int} (h1 : l.length ≤ 1048576) (hw : ∀ x ∈ l, isWordB x = true) (h2 : lens.length ≤ 1048576) (hw2 : ∀ x ∈ lens, isWordB x = true) (h3 : okLens l lens = true) : segE op l lens = 0 :=
  segE_all (by rw [hn]) (wsE_zero h1 hw) (wsE_zero h2 hw2) h3
theorem okLens_one (l : List Int) : okLens l [(l.length : Int)] = true := by
  have h2 := startOf_succ [(l.length : Int)] (0 : Int) (by omega) (by simp)
  have e : rd [(l.length : Int)] 0 = (l.length : Int) := rfl
  have e0 : startOf [(l.length : Int)] 0 = 0 := by simp [startOf]
  rw [e, e0] at h2
  have h3 : startOf [(l.length : Int)] ((([(l.length : Int)] : List Int).length : Nat) : Int) = l.length := by
    show startOf [(l.length : Int)] (0 + 1) = l.length
    rw [h2]
    omega
  simp only [okLens, h3]
  simp
theorem len_word {n : Nat} (h : n ≤ 1048576) : ∀ x ∈ [(n : Int)], isWordB x = true := by
  intro x hx
  rw [List.mem_singleton] at hx
  rw [hx, isWordB_iff]
  omega
theorem fold_one {op nn : Int} (hn : neutG op = (nn, 0)) {l : List Int} (h1 : l.length ≤ 1048576) (hw : ∀ x ∈ l, isWordB x = true) : scan_Fold.g op l [(l.length : Int)] = ([foldG op nn l], 0) := by
  unfold scan_Fold.g
  rw [told_segE, if_pos (segE_fine hn h1 hw (by simp) (len_word h1) (okLens_one l)), hn]
  show (segTo op nn l [(l.length : Int)] false (fun _ _ => 0) true (0 + 1), 0) = _
  rw [segTo_false]
  have e : (rd [(l.length : Int)] ((0 : Nat) : Int)).toNat = l.length := by
    show ((l.length : Int)).toNat = l.length
    omega
  have e0 : startOf [(l.length : Int)] ((0 : Nat) : Int) = 0 := by simp [startOf]
  rw [e, e0, now_all]
  rfl
/-- What is joined ahead of each place. -/
def scanW (op nn : Int) (l : List Int) : List Int := (List.range l.length).map (nowAt op nn l 0)
theorem scanW_length (op nn : Int) (l : List Int) : (scanW op nn l).length = l.length := by simp [scanW]
theorem outs_map (op nn : Int) (l : List Int) (n : Nat) : outsAt op nn l 0 true (fun a _ => a) n = (List.range n).map (nowAt op nn l 0) := by
  have h := outs_more op nn l 0 n
  rw [Nat.zero_add] at h
  rw [h, outsAt, List.nil_append]
  apply List.map_congr_left
  intro j _
  rw [Nat.zero_add]
theorem scan_fine {op nn : Int} (hn : neutG op = (nn, 0)) {l lens : List Int} (h1 : l.length ≤ 1048576) (hw : ∀ x ∈ l, isWordB x = true) (h2 : lens.length ≤ 1048576) (hw2 : ∀ x ∈ lens, isWordB x = true) (h3 : okLens l lens = true) : scan_Scan.g op l lens = (segTo op nn l lens true (fun a _ => a) false lens.length, 0) := by
  unfold scan_Scan.g
  rw [told_segE, if_pos (segE_fine hn h1 hw h2 hw2 h3), hn]
theorem scan_one {op nn : Int} (hn : neutG op = (nn, 0)) {l : List Int} (h1 : l.length ≤ 1048576) (hw : ∀ x ∈ l, isWordB x = true) : scan_Scan.g op l [(l.length : Int)] = (scanW op nn l, 0) := by
  rw [scan_fine hn h1 hw (by simp) (len_word h1) (okLens_one l)]
  show (segTo op nn l [(l.length : Int)] true (fun a _ => a) false (0 + 1), 0) = _
  rw [segTo_true]
  have e : (rd [(l.length : Int)] ((0 : Nat) : Int)).toNat = l.length := by
    show ((l.length : Int)).toNat = l.length
    omega
  have e0 : startOf [(l.length : Int)] ((0 : Nat) : Int) = 0 := by simp [startOf]
  rw [e, e0, outs_map]
  rfl
theorem f_val {op nn : Int} (hn : neutG op = (nn, 0)) {a b : Int} (ha : isWordB a = true) (hb : isWordB b = true) : w05_value.f op a b = some (joinI op a b) := by
  unfold w05_value.f wDo.f
  rw [Option.bind_some]
  have h : word_Do.g op a b = (joinI op a b, 0) := by
    obtain ⟨h1, h2, _⟩ := assoc_of hn
    have := Do_ok op a b h1 ha hb
    unfold joinI
    rw [this, assoc_zero h2]
    rfl
  rw [h, if_pos rfl]
theorem foldG_app {op nn : Int} (hn : neutG op = (nn, 0)) {a b : List Int} (ha : ∀ x ∈ a, isWordB x = true) (hb : ∀ x ∈ b, isWordB x = true) : joinI op (foldG op nn a) (foldG op nn b) = foldG op nn (a ++ b) := by
  rw [← now_all op nn b, nowAt_ahead hn hb (foldG_word hn a ha) 0 b.length (by omega), now_all]
  unfold foldG
  rw [List.foldl_append]
theorem now_left (op nn : Int) (a b : List Int) (st : Nat) : ∀ k, st + k ≤ a.length → nowAt op nn (a ++ b) st k = nowAt op nn a st k
  | 0, _ => rfl
  | k + 1, hk => by rw [nowAt, nowAt, now_left op nn a b st k (by omega), rd_app_left _ _ _ (by omega)]
theorem now_right (op nn : Int) (a b : List Int) : ∀ k, nowAt op nn (a ++ b) a.length k = nowAt op nn b 0 k
  | 0 => rfl
  | k + 1 => by rw [nowAt, nowAt, now_right op nn a b k, rd_app_right, Nat.zero_add]
theorem outs_left (op nn : Int) (a b : List Int) (st : Nat) : ∀ k, st + k ≤ a.length → outsAt op nn (a ++ b) st true (fun a _ => a) k = outsAt op nn a st true (fun a _ => a) k
  | 0, _ => rfl
  | k + 1, hk => by rw [outsAt_true, outsAt_true, outs_left op nn a b st k (by omega), now_left op nn a b st k (by omega)]
theorem outs_right (op nn : Int) (a b : List Int) : ∀ k, outsAt op nn (a ++ b) a.length true (fun a _ => a) k = outsAt op nn b 0 true (fun a _ => a) k
  | 0 => rfl
  | k + 1 => by rw [outsAt_true, outsAt_true, outs_right op nn a b k, now_right op nn a b k]
theorem ok_sum {l lens : List Int} (h0 : ∀ x ∈ lens, 0 ≤ x) (h : lens.sum = (l.length : Int)) : okLens l lens = true := by
  have hs := start_sum lens h0 lens.length (Nat.le_refl _)
  rw [List.take_length, h] at hs
  simp only [okLens, Bool.and_eq_true, List.all_eq_true, decide_eq_true_eq, beq_iff_eq]
  exact ⟨h0, by omega⟩
theorem sum_ok {l lens : List Int} (h : okLens l lens = true) : lens.sum = (l.length : Int) := by
  obtain ⟨h1, h2⟩ := okLens_of h
  have hs := start_sum lens h1 lens.length (Nat.le_refl _)
  rw [List.take_length] at hs
  omega
theorem ok_more {a b lens : List Int} (h : okLens a lens = true) : okLens (a ++ b) (lens ++ [(b.length : Int)]) = true := by
  obtain ⟨h1, h2⟩ := okLens_of h
  refine ok_sum (fun x hx => ?_) ?_
  · rw [List.mem_append, List.mem_singleton] at hx
    rcases hx with hx | rfl
    · exact h1 x hx
    · omega
  · rw [List.sum_append, sum_ok h, List.length_append]
    simp
theorem start_app {a b lens : List Int} (h : okLens a lens = true) (i : Nat) (hi : i ≤ lens.length) : startOf (lens ++ [(b.length : Int)]) (i : Int) = startOf lens (i : Int) := by
  have h1 := start_sum lens (okLens_of h).1 i hi
  have h2 := start_sum (lens ++ [(b.length : Int)]) (okLens_of (ok_more (b := b) h)).1 i (by rw [List.length_append]; omega)
  rw [List.take_append_of_le_length hi] at h2
  omega
theorem segs_left {a lens : List Int} (op nn : Int) (b : List Int) (h : okLens a lens = true) : ∀ i : Nat, i ≤ lens.length → segTo op nn (a ++ b) (lens ++ [(b.length : Int)]) true (fun a _ => a) false i = segTo op nn a lens true (fun a _ => a) false i
  | 0, _ => rfl
  | i + 1, hi => by
    obtain ⟨s1, s2, s3⟩ := start_step h (show i < lens.length by omega)
    rw [segTo_true, segTo_true, segs_left op nn b h i (by omega), start_app (b := b) h i (by omega), rd_app_left _ _ _ (by omega), outs_left op nn a b _ _ (by omega)]
/-- Two lists' segments, put together. -/
theorem segs_app {a lens : List Int} (op nn : Int) (b : List Int) (h : okLens a lens = true) : segTo op nn (a ++ b) (lens ++ [(b.length : Int)]) true (fun a _ => a) false (lens ++ [(b.length : Int)]).length = segTo op nn a lens true (fun a _ => a) false lens.length ++ scanW op nn b := by
  have e : rd (lens ++ [(b.length : Int)]) (lens.length : Int) = (b.length : Int) := rd_app_right lens [(b.length : Int)] 0
  rw [List.length_append]
  show segTo op nn (a ++ b) (lens ++ [(b.length : Int)]) true (fun a _ => a) false (lens.length + 1) = _
  rw [segTo_true, segs_left op nn b h _ (Nat.le_refl _), start_app (b := b) h _ (Nat.le_refl _), (okLens_of h).2, e, Int.toNat_natCast, outs_right, outs_map]
  rfl
theorem zip_rd (f : Int → Int → Int) (a b : List Int) (h : a.length = b.length) (i : Nat) (hi : i < a.length) : rd (List.zipWith f a b) (i : Int) = f (rd a (i : Int)) (rd b (i : Int)) := by
  rw [rd_get (by rw [List.length_zipWith]; omega), rd_get hi, rd_get (by omega), List.getElem_zipWith]
theorem through_fine {op nn : Int} (hn : neutG op = (nn, 0)) {l lens : List Int} (h1 : l.length ≤ 1048576) (hw : ∀ x ∈ l, isWordB x = true) (h2 : lens.length ≤ 1048576) (hw2 : ∀ x ∈ lens, isWordB x = true) (h3 : okLens l lens = true) : scan_Through.g op l lens = (List.zipWith (joinI op) (segTo op nn l lens true (fun a _ => a) false lens.length) l, 0) := by
  have hz := segs_zip op nn h3 lens.length (Nat.le_refl _)
  rw [(okLens_of h3).2, List.take_length] at hz
  unfold scan_Through.g
  rw [told_segE, if_pos (segE_fine hn h1 hw h2 hw2 h3), hn, hz]
theorem parts_last {op nn : Int} (hn : neutG op = (nn, 0)) {a own : List Int} (hal : a.length ≤ 60) (haw : ∀ x ∈ a, isWordB x = true) (hol : own.length = a.length) (how : ∀ x ∈ own, isWordB x = true) : Ev (fun k => w05_ScanParts.l1 k op a own (List.zipWith (joinI op) own a) 0) true := by
  have hzl : (List.zipWith (joinI op) own a).length = a.length := by rw [List.length_zipWith]; omega
  have H := up (n := a.length) (P := fun i => Ev (fun k => w05_ScanParts.l1 k op a own (List.zipWith (joinI op) own a) (i : Int)) true)
    (Ev.step (f := fun _ => some true) (fun k => by simp only [w05_ScanParts.l1]; rw [if_neg (by omega)]; rfl) (Ev.now _))
    (fun i hi ih => by
      have hv := f_val hn (rdw how (show i < own.length by omega)) (rdw haw hi)
      have hws := wsucc hi (by omega)
      have g1 : (i : Int) < (a.length : Int) := by omega
      have g2 : (0 : Int) ≤ (i : Int) := by omega
      have g3 : (i : Int) < (own.length : Int) := by omega
      have g4 : (i : Int) < ((List.zipWith (joinI op) own a).length : Int) := by omega
      have hz := zip_rd (joinI op) own a hol i (by omega)
      refine Ev.step (f := fun k => w05_ScanParts.l1 k op a own (List.zipWith (joinI op) own a) ((i + 1 : Nat) : Int)) (fun k => ?_) ih
      simp only [w05_ScanParts.l1]
      rw [if_pos g1, if_pos g2, if_pos g3, hv, Option.bind_some, if_pos g4, hz, if_pos rfl, hws]) 0 (Nat.zero_le _)
  exact H
theorem words_app {a b : List Int} (ha : ∀ x ∈ a, isWordB x = true) (hb : ∀ x ∈ b, isWordB x = true) : ∀ x ∈ a ++ b, isWordB x = true := by
  intro x hx
  rcases List.mem_append.1 hx with h | h
  · exact ha x h
  · exact hb x h
theorem parts_exit {op nn : Int} (hn : neutG op = (nn, 0)) {a b lens : List Int} (hal : a.length ≤ 60) (haw : ∀ x ∈ a, isWordB x = true) (hbl : b.length ≤ 60) (hbw : ∀ x ∈ b, isWordB x = true) (hll : lens.length ≤ 300) (hlw : ∀ x ∈ lens, isWordB x = true) (hok : okLens a lens = true) : Ev (fun k => w05_ScanParts.j2 k op a b lens) true := by
  have habl : (a ++ b).length ≤ 120 := by rw [List.length_append]; omega
  have habw := words_app haw hbw
  have f1 := fold_one hn (show a.length ≤ 1048576 by omega) haw
  have f2 := fold_one hn (show b.length ≤ 1048576 by omega) hbw
  have f3 := fold_one hn (show (a ++ b).length ≤ 1048576 by omega) habw
  have hv := f_val hn (foldG_word hn a haw) (foldG_word hn b hbw)
  rw [foldG_app hn haw hbw] at hv
  have c1 := f_Copy a (by omega)
  have c2 := f_Copy lens (by omega)
  have g1 := scan_fine hn (show a.length ≤ 1048576 by omega) haw (show lens.length ≤ 1048576 by omega) hlw hok
  have g2 := scan_one hn (show b.length ≤ 1048576 by omega) hbw
  have hl2 : (lens ++ [(b.length : Int)]).length ≤ 301 := by rw [List.length_append]; simp; omega
  have g3 := scan_fine hn (show (a ++ b).length ≤ 1048576 by omega) habw (show (lens ++ [(b.length : Int)]).length ≤ 1048576 by omega) (words_app hlw (len_word (by omega))) (ok_more hok)
  rw [segs_app op nn b hok] at g3
  have g4 := through_fine hn (show a.length ≤ 1048576 by omega) haw (show lens.length ≤ 1048576 by omega) hlw hok
  have hol := segTo_len op nn (fun a _ => a) hok lens.length (Nat.le_refl _)
  rw [(okLens_of hok).2] at hol
  have how := scan_words_ok hn haw hok lens.length (Nat.le_refl _)
  generalize segTo op nn a lens true (fun a _ => a) false lens.length = own at *
  have hzl : (List.zipWith (joinI op) own a).length = a.length := by rw [List.length_zipWith]; omega
  have hwl := scanW_length op nn b
  have c3 := f_Copy own (by omega)
  have hlast := parts_last hn hal haw hol how
  have i1 : a.length + b.length < 17592186044416 := by omega
  have i2 : lens.length < 17592186044416 := by omega
  have i3 : own.length + (scanW op nn b).length < 17592186044416 := by omega
  refine Ev.step (f := fun k => w05_ScanParts.j3 k op a b lens (a ++ b) false) (fun k => ?_) (Ev.step (f := fun k => w05_ScanParts.j4 k op a own (List.zipWith (joinI op) own a) false) (fun k => ?_) (Ev.step (f := fun k => w05_ScanParts.l1 k op a own (List.zipWith (joinI op) own a) 0) (fun k => by simp only [w05_ScanParts.j4]; rw [if_neg (by simp)]) hlast))
  · have hr : ∀ x : Int, rd [x] 0 = x := fun _ => rfl
    have hb : (foldG op nn (a ++ b) != foldG op nn (a ++ b)) = false := bne_self_eq_false _
    simp only [w05_ScanParts.j2]
    rw [c1, Option.bind_some, if_pos i1, Option.bind_some]
    simp only [sFold.f, f1, f2, f3, Option.bind_some, hr, hv, hb]
    rfl
  · simp only [w05_ScanParts.j3]
    rw [if_neg (by simp)]
    simp only [sScan.f, g1, g2, Option.bind_some]
    rw [c2, Option.bind_some, if_pos i2]
    simp only [g3, sThrough.f, g4, Option.bind_some]
    rw [if_pos trivial, if_pos trivial, if_pos trivial, if_pos trivial, if_pos (by omega), if_pos (by omega), c3, Option.bind_some, if_pos i3]
    simp only [Eq_.f, Option.bind_some, beq_self_eq_true, Bool.not_true]
theorem wrap_less {u left : Int} (h0 : 0 ≤ u) (h1 : u ≤ left) (h2 : left ≤ 60) : wrap64 (left - u) = left - u := wrap_in (by omega) (by omega)
theorem mn_part {left t : Int} (h0 : 0 ≤ left) (h1 : 0 ≤ t) : 0 ≤ mn left t ∧ mn left t ≤ left := by
  have h := mn_min left t
  omega
theorem ScanParts : w05_ScanParts.Pure := by
  intro n l1 l2 l3 _ _ h1 _ _ h2 _ _ h3 _
  have s1 : Sh l1 := by unfold Sh; omega
  have s2 : Sh l2 := by unfold Sh; omega
  have s3 : Sh l3 := by unfold Sh; omega
  have key : Ev (fun k => w05_ScanParts.f k n l1 l2 l3) true := by
    obtain ⟨op, nn, ho, hn⟩ := f_opOf n
    obtain ⟨a, ha, hal, haw⟩ := ev_Wrap l1 60 (by omega) s1
    obtain ⟨b, hb, hbl, hbw⟩ := ev_Wrap l2 60 (by omega) s2
    have hal : a.length ≤ 60 := by omega
    have hbl : b.length ≤ 60 := by omega
    unfold w05_ScanParts.f
    rw [ho]
    simp only [Option.bind_some]
    refine Ev.bind ha (Ev.bind hb ?_)
    have exit : ∀ (lens : List Int) (left : Int) (i : Int), lens.length ≤ 200 → (∀ x ∈ lens, 0 ≤ x ∧ x ≤ 60) → 0 ≤ left → lens.sum + left = (a.length : Int) → Ev (fun k => w05_ScanParts.j1 k l3 op a b lens left i false) true := by
      intro lens left i hll hx h0 hs
      have hlw : ∀ x ∈ lens, isWordB x = true := fun x hx2 => by rw [isWordB_iff]; have := hx x hx2; omega
      by_cases hp : left > 0
      · have i2 : lens.length < 17592186044416 := by omega
        have h60 : left ≤ 60 := by
          have hnn : ∀ m : List Int, (∀ x ∈ m, 0 ≤ x ∧ x ≤ 60) → 0 ≤ m.sum := by
            intro m
            induction m with
            | nil => intro _; simp
            | cons y m ih =>
              intro h
              have h1 := h y (by simp)
              have h2 := ih (fun x hx => h x (by simp [hx]))
              rw [List.sum_cons]
              omega
          have := hnn lens hx
          omega
        refine Ev.step (f := fun k => w05_ScanParts.j2 k op a b (lens ++ [left])) (fun k => ?_) (parts_exit hn hal haw hbl hbw ?_ ?_ ?_)
        · simp only [w05_ScanParts.j1]
          rw [if_neg (by simp), if_pos hp, if_pos i2]
        · rw [List.length_append]
          simp
          omega
        · refine words_app hlw (fun x hx => ?_)
          rw [List.mem_singleton] at hx
          rw [hx, isWordB_iff]
          omega
        · refine ok_sum (fun x hx2 => ?_) ?_
          · rw [List.mem_append, List.mem_singleton] at hx2
            rcases hx2 with hx2 | rfl
            · exact (hx x hx2).1
            · exact h0
          · rw [List.sum_append]
            simp
            omega
      · refine Ev.step (f := fun k => w05_ScanParts.j2 k op a b lens) (fun k => ?_) (parts_exit hn hal haw hbl hbw (by omega) hlw (ok_sum (fun x hx2 => (hx x hx2).1) (by omega)))
        simp only [w05_ScanParts.j1]
        rw [if_neg (by simp), if_neg hp]
    have H := up (n := 200) (P := fun i => ∀ (lens : List Int) (left : Int), lens.length = i → (∀ x ∈ lens, 0 ≤ x ∧ x ≤ 60) → 0 ≤ left ∧ left ≤ 60 → lens.sum + left = (a.length : Int) → Ev (fun k => w05_ScanParts.l0 k l3 op a b lens left (i : Int)) true)
      (fun lens left hl hx h0 hs => by
        refine Ev.step (f := fun k => w05_ScanParts.j1 k l3 op a b lens left 200 false) (fun k => ?_) (exit lens left 200 (by omega) hx h0.1 hs)
        simp only [w05_ScanParts.l0]
        by_cases hp : left > 0
        · rw [if_pos hp]; rfl
        · rw [if_neg hp]; rfl)
      (fun i hi ih lens left hl hx h0 hs => by
        by_cases hp : left > 0
        · obtain ⟨x, hx3⟩ := f_Nth l3 (i : Int) s3
          obtain ⟨t, ht, ht0, ht1⟩ := f_Turn (wrap64 (x + (i : Int))) 6 (by omega)
          have ht1 := ht1 (by omega)
          have hws := Aside0.mk (wsucc hi (by omega))
          have i2 : lens.length < 17592186044416 := by omega
          have hd : decide ((i : Int) < 200) = true := by rw [decide_eq_true_eq]; omega
          obtain ⟨u, hu, hu0, hu1, hw⟩ : ∃ u : Int, Aside0 (mn left t = u) ∧ 0 ≤ u ∧ u ≤ left ∧ Aside0 (wrap64 (left - u) = left - u) := ⟨mn left t, ⟨rfl⟩, (mn_part h0.1 ht0).1, (mn_part h0.1 ht0).2, ⟨wrap_less (mn_part h0.1 ht0).1 (mn_part h0.1 ht0).2 h0.2⟩⟩
          refine Ev.step (f := fun k => w05_ScanParts.j1 k l3 op a b lens left (i : Int) true) (fun k => ?_) (Ev.step (f := fun k => w05_ScanParts.l0 k l3 op a b (lens ++ [u]) (left - u) ((i + 1 : Nat) : Int)) (fun k => ?_) (ih _ _ (by simp [hl]) ?_ (by omega) ?_))
          · simp only [w05_ScanParts.l0]
            rw [if_pos hp, hd]
          · simp only [w05_ScanParts.j1]
            rw [if_pos trivial, hx3, Option.bind_some, ht, Option.bind_some, if_pos i2, hu.out, hw.out, hws.out]
          · intro y hy
            rw [List.mem_append, List.mem_singleton] at hy
            rcases hy with hy | rfl
            · exact hx y hy
            · omega
          · rw [List.sum_append]
            simp
            omega
        · refine Ev.step (f := fun k => w05_ScanParts.j1 k l3 op a b lens left (i : Int) false) (fun k => ?_) (exit lens left (i : Int) (by omega) hx h0.1 hs)
          simp only [w05_ScanParts.l0]
          rw [if_neg hp]) 0 (Nat.zero_le _) [] (a.length : Int) rfl (by simp) (by omega) (by simp)
    exact H
  obtain ⟨k, hk⟩ := key
  exact ⟨k, hk k (Nat.le_refl _)⟩
end Go.Proofs.YtpenkemabeonaaaDoor.Pure
