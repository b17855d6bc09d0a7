/- ScanBlocks: the scan in blocks is the scan, and going down levels it is the same; it is told of numbers and lists alone. -/
import Derived.Test.YtpenkemabeonaaaDoorPScanBlocksx
namespace Go.Proofs.YtpenkemabeonaaaDoor.Pure
open Go.RowKit Go.Proofs.YtpenkemabeonaaaDoor.PScanBlocks Go.Proofs.YtpenkemabeonaaaDoor.Hand Go.Proofs.YtpenkemabeonaaaDoorW.PrintWords Go.Proofs.YtpenkemabeonaaaDoorW.PrintLast Go.Proofs.YtpenkemabeonaaaDoorW.PrintMore
set_option linter.unusedVariables false
set_option linter.unusedSimpArgs false
/-- Lists so short that a place's successor is no other number. -/
def Sh {α : Type} (l : List α) : Prop := l.length ≤ 4611686018427387904
theorem wsucc {i n : Nat} (h : i < n) (hn : n ≤ 4611686018427387904) : wrap64 ((i : Int) + 1) = ((i + 1 : Nat) : Int) := by unfold wrap64; omega
theorem rdn (l : List Int) (i : Nat) : rd l (i : Int) = l.getD i 0 := by simp [rd]
theorem rd_get {l : List Int} {i : Nat} (h : i < l.length) : rd l (i : Int) = l[i] := by simp [rd, h]
theorem up {n : Nat} {P : Nat → Prop} (h0 : P n) (hs : ∀ i, i < n → P (i + 1) → P i) (i : Nat) (hi : i ≤ n) : P i := by
  have key : ∀ d, ∀ i, i + d = n → P i := by
    intro d
    induction d with
    | zero => intro i h; have : i = n := by omega
              subst this; exact h0
    | succ d ih => intro i h; exact hs i (by omega) (ih (i + 1) (by omega))
  exact key (n - i) i (by omega)
theorem f_Word (n : Int) : r00_Word.f n = some (wrap64 (wrap32 n)) := by
  unfold r00_Word.f
  congr 2
  unfold wrap32 IntKind.wrap
  simp only [IntKind.signed, IntKind.bits]
  simp
theorem wrap32_64 (x : Int) : wrap32 (wrap64 x) = wrap32 x := by unfold wrap32 wrap64; omega
theorem take_rd {l : List Int} {i : Nat} (h : i < l.length) : l.take (i + 1) = l.take i ++ [rd l (i : Int)] := by
  rw [rd_get h, List.take_add_one, List.getElem?_eq_getElem h]; rfl
theorem isWordB_iff (n : Int) : isWordB n = true ↔ -2147483648 ≤ n ∧ n ≤ 2147483647 := by simp [isWordB]
theorem wrap_in {n : Int} (h0 : -9223372036854775808 ≤ n) (h1 : n ≤ 9223372036854775807) : wrap64 n = n := by unfold wrap64; omega
theorem mn_min (a b : Int) : mn a b = min a b := by unfold mn; split <;> omega
theorem Do_ok (op a b : Int) (ho : isOpB op = true) (ha : isWordB a = true) (hb : isWordB b = true) : word_Do.g op a b = if zeroB op b then (0, 14) else (deed op a b, 0) := by
  unfold word_Do.g
  rw [ho, ha, hb]; rfl
theorem i64_toInt (x : BitVec 64) : IntKind.i64.wrap (x.toNat : Int) = x.toInt := by
  have h : IntKind.i64.wrap (x.toNat : Int) = ((x.toNat : Int) + 9223372036854775808) % 18446744073709551616 - 9223372036854775808 := by
    simp [IntKind.wrap, IntKind.bits, IntKind.signed]
    split <;> omega
  rw [h, BitVec.toInt_eq_toNat_cond]
  have := x.isLt
  split <;> omega
theorem ext64 (a : Int) (h : -2147483648 ≤ a ∧ a ≤ 2147483647) : BitVec.ofInt 64 a = (BitVec.ofInt 32 a).signExtend 64 := by
  apply BitVec.eq_of_toInt_eq
  rw [BitVec.toInt_signExtend_of_le (by decide), BitVec.toInt_ofInt, BitVec.toInt_ofInt]
  rw [Int.bmod_eq_of_le (by omega) (by omega), Int.bmod_eq_of_le (by omega) (by omega)]
theorem word_of_ext (c : BitVec 32) : -2147483648 ≤ IntKind.i64.wrap (((c.signExtend 64).toNat : Nat) : Int) ∧ IntKind.i64.wrap (((c.signExtend 64).toNat : Nat) : Int) ≤ 2147483647 := by
  rw [i64_toInt, BitVec.toInt_signExtend_of_le (by decide)]
  have h1 := BitVec.le_toInt c
  have h2 := BitVec.toInt_lt (x := c)
  omega
theorem and_word (a b : Int) (ha : -2147483648 ≤ a ∧ a ≤ 2147483647) (hb : -2147483648 ≤ b ∧ b ≤ 2147483647) : -2147483648 ≤ bits .and .i64 a b ∧ bits .and .i64 a b ≤ 2147483647 := by
  have e : bits .and .i64 a b = IntKind.i64.wrap ((((BitVec.ofInt 32 a &&& BitVec.ofInt 32 b).signExtend 64).toNat : Nat) : Int) := by
    show IntKind.i64.wrap (((BitVec.ofInt 64 a &&& BitVec.ofInt 64 b).toNat : Nat) : Int) = _
    rw [ext64 a ha, ext64 b hb, BitVec.signExtend_and]
  rw [e]; exact word_of_ext _
theorem or_word (a b : Int) (ha : -2147483648 ≤ a ∧ a ≤ 2147483647) (hb : -2147483648 ≤ b ∧ b ≤ 2147483647) : -2147483648 ≤ bits .or .i64 a b ∧ bits .or .i64 a b ≤ 2147483647 := by
  have e : bits .or .i64 a b = IntKind.i64.wrap ((((BitVec.ofInt 32 a ||| BitVec.ofInt 32 b).signExtend 64).toNat : Nat) : Int) := by
    show IntKind.i64.wrap (((BitVec.ofInt 64 a ||| BitVec.ofInt 64 b).toNat : Nat) : Int) = _
    rw [ext64 a ha, ext64 b hb, BitVec.signExtend_or]
  rw [e]; exact word_of_ext _
theorem xor_word (a b : Int) (ha : -2147483648 ≤ a ∧ a ≤ 2147483647) (hb : -2147483648 ≤ b ∧ b ≤ 2147483647) : -2147483648 ≤ bits .xor .i64 a b ∧ bits .xor .i64 a b ≤ 2147483647 := by
  have e : bits .xor .i64 a b = IntKind.i64.wrap ((((BitVec.ofInt 32 a ^^^ BitVec.ofInt 32 b).signExtend 64).toNat : Nat) : Int) := by
    show IntKind.i64.wrap (((BitVec.ofInt 64 a ^^^ BitVec.ofInt 64 b).toNat : Nat) : Int) = _
    rw [ext64 a ha, ext64 b hb, BitVec.signExtend_xor]
  rw [e]; exact word_of_ext _
/-- An operation, but division. -/
def plainOp (op : Int) : Prop := 0 ≤ op ∧ op < 12 ∧ op ≠ 3 ∧ op ≠ 4
theorem deed_word (op a b : Int) (ho : plainOp op) (ha : isWordB a = true) (hb : isWordB b = true) : isWordB (deed op a b) = true := by
  rw [isWordB_iff] at *
  unfold deed
  by_cases h0 : op = 0
  · rw [if_pos h0]; unfold wrap64 wrap32; omega
  rw [if_neg h0]
  by_cases h1 : op = 1
  · rw [if_pos h1]; unfold wrap64 wrap32; omega
  rw [if_neg h1]
  by_cases h2 : op = 2
  · rw [if_pos h2]; generalize wrap64 (a * b) = x; unfold wrap64 wrap32; omega
  rw [if_neg h2, if_neg ho.2.2.1, if_neg ho.2.2.2]
  by_cases h5 : op = 5
  · rw [if_pos h5]; unfold truthI; split <;> omega
  rw [if_neg h5]
  by_cases h6 : op = 6
  · rw [if_pos h6]; unfold truthI; split <;> omega
  rw [if_neg h6]
  by_cases h7 : op = 7
  · rw [if_pos h7]; omega
  rw [if_neg h7]
  by_cases h8 : op = 8
  · rw [if_pos h8]; omega
  rw [if_neg h8]
  by_cases h9 : op = 9
  · rw [if_pos h9]; exact and_word a b ha hb
  rw [if_neg h9]
  by_cases h10 : op = 10
  · rw [if_pos h10]; exact or_word a b ha hb
  rw [if_neg h10]
  exact xor_word a b ha hb
theorem f_Turn (n m : Int) (hm : m ≤ 4611686018427387904) : ∃ t, r00_Turn.f n m = some t ∧ 0 ≤ t ∧ (0 < m → t < m) := by
  unfold r00_Turn.f
  by_cases h1 : m < 1
  · exact ⟨0, by rw [if_pos h1], by omega, fun h => by omega⟩
  · rw [if_neg h1, if_neg (by omega)]
    have hlt := Int.tmod_lt_of_pos n (show 0 < m by omega)
    have hgt : -m < n.tmod m := by
      have := Int.lt_tmod_of_pos n (show 0 < m by omega)
      exact this
    by_cases h2 : n.tmod m < 0
    · rw [if_pos h2]
      exact ⟨_, rfl, by unfold wrap64; omega, fun _ => by unfold wrap64; omega⟩
    · rw [if_neg h2]
      exact ⟨_, rfl, by omega, fun _ => hlt⟩
theorem wrap32_word (x : Int) : isWordB (wrap64 (wrap32 x)) = true := by
  rw [isWordB_iff]; unfold wrap64 wrap32; omega
theorem rd_app_left (a b : List Int) (i : Nat) (h : i < a.length) : rd (a ++ b) (i : Int) = rd a (i : Int) := by
  rw [rdn, rdn, List.getD_eq_getElem?_getD, List.getD_eq_getElem?_getD, List.getElem?_append_left h]
theorem rd_app_right (a b : List Int) (i : Nat) : rd (a ++ b) ((a.length + i : Nat) : Int) = rd b (i : Int) := by
  rw [rdn, rdn, List.getD_eq_getElem?_getD, List.getD_eq_getElem?_getD, List.getElem?_append_right (by omega)]
  congr 2; omega
/-- An operation that is associative. -/
theorem assoc_of {op nn : Int} (h : neutG op = (nn, 0)) : isOpB op = true ∧ assocB op = true ∧ nn = neutI op := by
  unfold neutG at h
  cases h1 : isOpB op
  · rw [h1] at h; simp at h
  · cases h2 : assocB op
    · rw [h1, h2] at h; simp at h
    · rw [h1, h2] at h
      simp at h
      exact ⟨rfl, rfl, h.symm⟩
theorem assoc_ops {op : Int} (h : assocB op = true) : op = 0 ∨ op = 2 ∨ op = 7 ∨ op = 8 ∨ op = 9 ∨ op = 10 ∨ op = 11 := by
  simp only [assocB, Bool.or_eq_true, beq_iff_eq] at h
  omega
theorem assoc_zero {op : Int} (h : assocB op = true) (b : Int) : zeroB op b = false := by
  rcases assoc_ops h with rfl | rfl | rfl | rfl | rfl | rfl | rfl <;> simp [zeroB]
theorem assoc_plain {op : Int} (h : assocB op = true) : plainOp op := by
  unfold plainOp
  rcases assoc_ops h with rfl | rfl | rfl | rfl | rfl | rfl | rfl <;> omega
theorem neut_word {op nn : Int} (h : neutG op = (nn, 0)) : isWordB nn = true := by
  obtain ⟨_, h2, rfl⟩ := assoc_of h
  rcases assoc_ops h2 with rfl | rfl | rfl | rfl | rfl | rfl | rfl <;> rfl
theorem joinI_deed {op nn : Int} (h : neutG op = (nn, 0)) {a b : Int} (ha : isWordB a = true) (hb : isWordB b = true) : joinI op a b = deed op a b := by
  obtain ⟨h1, h2, _⟩ := assoc_of h
  unfold joinI
  rw [Do_ok op a b h1 ha hb, assoc_zero h2]
  rfl
theorem joinI_word {op nn : Int} (h : neutG op = (nn, 0)) {a b : Int} (ha : isWordB a = true) (hb : isWordB b = true) : isWordB (joinI op a b) = true := by
  rw [joinI_deed h ha hb]
  exact deed_word op a b (assoc_plain (assoc_of h).2.1) ha hb
theorem wsE_words {l : List Int} (h : l.length ≤ 1048576) : wsE l = if noWords l then 2 else 0 := by
  unfold wsE
  rw [if_neg (by omega)]
/-- What is asked of a list in segments. -/
def segE (op : Int) (l lens : List Int) : Int :=
  if (neutG op).2 = 0 then (if decide (1048576 < l.length) || decide (1048576 < lens.length) then 3 else if (wsE l != 0) || (wsE lens != 0) then 2 else if okLens l lens then 0 else 6) else (neutG op).2
theorem told_segE (op : Int) (l lens : List Int) (has : Bool) (f : Int → Int → Int) (en : Bool) : told_g op l lens has f en = if segE op l lens = 0 then (segTo op (neutG op).1 l lens has f en lens.length, 0) else ([], segE op l lens) := by
  unfold told_g segE
  by_cases h1 : (neutG op).2 = 0
  · rw [if_pos h1, if_pos h1]
    by_cases h2 : (decide (1048576 < l.length) || decide (1048576 < lens.length)) = true
    · rw [if_pos h2, if_pos h2]; rfl
    · rw [if_neg h2, if_neg h2]
      by_cases h3 : ((wsE l != 0) || (wsE lens != 0)) = true
      · rw [if_pos h3, if_pos h3]; rfl
      · rw [if_neg h3, if_neg h3]
        by_cases h4 : okLens l lens = true
        · rw [if_pos h4, if_pos h4]; rfl
        · rw [if_neg h4, if_neg h4]; rfl
  · rw [if_neg h1, if_neg h1, if_neg h1]
theorem rdw {l : List Int} (hw : ∀ x ∈ l, isWordB x = true) {i : Nat} (hi : i < l.length) : isWordB (rd l (i : Int)) = true := by
  rw [rd_get hi]; exact hw _ (List.getElem_mem _)
theorem nowAt_word {op nn : Int} (h : neutG op = (nn, 0)) {l : List Int} (hw : ∀ x ∈ l, isWordB x = true) (st : Nat) : ∀ k, st + k ≤ l.length → isWordB (nowAt op nn l st k) = true
  | 0, _ => neut_word h
  | k + 1, hk => joinI_word h (nowAt_word h hw st k (by omega)) (rdw hw (by omega))
theorem okLens_of {l lens : List Int} (h : okLens l lens = true) : (∀ x ∈ lens, 0 ≤ x) ∧ startOf lens lens.length = l.length := by
  simp only [okLens, Bool.and_eq_true, List.all_eq_true, decide_eq_true_eq, beq_iff_eq] at h
  exact h
theorem start_step {l lens : List Int} (h : okLens l lens = true) {i : Nat} (hi : i < lens.length) : rd lens (i : Int) = ((rd lens (i : Int)).toNat : Int) ∧ startOf lens ((i + 1 : Nat) : Int) = startOf lens (i : Int) + (rd lens (i : Int)).toNat ∧ startOf lens ((i + 1 : Nat) : Int) ≤ l.length := by
  obtain ⟨h1, h2⟩ := okLens_of h
  have h3 : 0 ≤ rd lens (i : Int) := by rw [rd_get hi]; exact h1 _ (List.getElem_mem _)
  have h4 := startOf_succ lens (i : Int) (by omega) (by omega)
  have h5 := startOf_mono lens ((i + 1 : Nat) : Int) (by omega) (lens.length - (i + 1)) (by omega)
  rw [show ((i + 1 : Nat) : Int) + ((lens.length - (i + 1) : Nat) : Int) = (lens.length : Int) by omega, h2] at h5
  refine ⟨by omega, ?_, h5⟩
  rw [show ((i + 1 : Nat) : Int) = (i : Int) + 1 by omega]
  exact h4
theorem segTo_false (op nn : Int) (l lens : List Int) (f : Int → Int → Int) (i : Nat) : segTo op nn l lens false f true (i + 1) = segTo op nn l lens false f true i ++ [nowAt op nn l (startOf lens i) (rd lens (i : Int)).toNat] := by
  have e : ∀ k, outsAt op nn l (startOf lens i) false f k = [] := by
    intro k
    induction k with
    | zero => rfl
    | succ k ih => unfold outsAt; simpa using ih
  rw [segTo, e, List.append_nil]
  rfl
theorem segTo_true (op nn : Int) (l lens : List Int) (f : Int → Int → Int) (i : Nat) : segTo op nn l lens true f false (i + 1) = segTo op nn l lens true f false i ++ outsAt op nn l (startOf lens i) true f (rd lens (i : Int)).toNat := by
  rw [segTo]; simp
theorem outsAt_true (op nn : Int) (l : List Int) (st : Nat) (f : Int → Int → Int) (k : Nat) : outsAt op nn l st true f (k + 1) = outsAt op nn l st true f k ++ [f (nowAt op nn l st k) (nowAt op nn l st (k + 1))] := by
  rw [outsAt]; rfl
theorem outsAt_len (op nn : Int) (l : List Int) (st : Nat) (f : Int → Int → Int) : ∀ k, (outsAt op nn l st true f k).length = k
  | 0 => rfl
  | k + 1 => by rw [outsAt_true, List.length_append, outsAt_len op nn l st f k]; rfl
theorem segTo_len {l lens : List Int} (op nn : Int) (f : Int → Int → Int) (h : okLens l lens = true) : ∀ i : Nat, i ≤ lens.length → (segTo op nn l lens true f false i).length = startOf lens (i : Int)
  | 0, _ => rfl
  | i + 1, hi => by
    obtain ⟨s1, s2, s3⟩ := start_step h (show i < lens.length by omega)
    rw [segTo_true, List.length_append, outsAt_len, segTo_len op nn f h i (by omega), s2]
theorem w32_mod (x : Int) : ∃ q : Int, wrap32 x = x - 4294967296 * q := ⟨(x + 2147483648) / 4294967296, by unfold wrap32; omega⟩
theorem w32_sub (x q : Int) : wrap32 (x - 4294967296 * q) = wrap32 x := by unfold wrap32; omega
theorem w32_mul_left (a c : Int) : wrap32 (wrap32 a * c) = wrap32 (a * c) := by
  obtain ⟨q, hq⟩ := w32_mod a
  rw [hq, Int.sub_mul, Int.mul_assoc, w32_sub]
theorem w32_mul_right (a c : Int) : wrap32 (a * wrap32 c) = wrap32 (a * c) := by
  rw [Int.mul_comm, w32_mul_left, Int.mul_comm]
theorem w64_w32 (x : Int) : wrap64 (wrap32 x) = wrap32 x := by unfold wrap64 wrap32; omega
theorem w32_word {x : Int} (h : isWordB x = true) : wrap32 x = x := by
  rw [isWordB_iff] at h
  unfold wrap32
  omega
theorem ofInt_wrap (v : BitVec 64) : BitVec.ofInt 64 (IntKind.i64.wrap ((v.toNat : Nat) : Int)) = v := by
  have e : IntKind.i64.wrap ((v.toNat : Nat) : Int) = v.toInt := by
    rw [i64_w]
    unfold wrap64
    have := v.isLt
    rw [BitVec.toInt_eq_toNat_cond]
    split <;> omega
  rw [e, BitVec.ofInt_toInt]
theorem wrap_ofInt {x : Int} (h : isWordB x = true) : IntKind.i64.wrap (((BitVec.ofInt 64 x).toNat : Nat) : Int) = x := by
  rw [isWordB_iff] at h
  rw [i64_w]
  unfold wrap64
  rw [BitVec.toNat_ofInt]
  omega
theorem bits_assoc (o : BinOp) (f : BitVec 64 → BitVec 64 → BitVec 64) (hf : ∀ a b : Int, bits o .i64 a b = IntKind.i64.wrap (((f (BitVec.ofInt 64 a) (BitVec.ofInt 64 b)).toNat : Nat) : Int)) (ha : ∀ x y z, f (f x y) z = f x (f y z)) (a b c : Int) : bits o .i64 (bits o .i64 a b) c = bits o .i64 a (bits o .i64 b c) := by
  rw [hf (bits o .i64 a b) c, hf a (bits o .i64 b c), hf a b, hf b c, ofInt_wrap, ofInt_wrap, ha]
theorem joinI_assoc {op nn : Int} (h : neutG op = (nn, 0)) {a b c : Int} (ha : isWordB a = true) (hb : isWordB b = true) (hc : isWordB c = true) : joinI op (joinI op a b) c = joinI op a (joinI op b c) := by
  rw [joinI_deed h (joinI_word h ha hb) hc, joinI_deed h ha (joinI_word h hb hc), joinI_deed h ha hb, joinI_deed h hb hc]
  rcases assoc_ops (assoc_of h).2.1 with rfl | rfl | rfl | rfl | rfl | rfl | rfl
  · show wrap64 (wrap32 (wrap64 (wrap32 (a + b)) + c)) = wrap64 (wrap32 (a + wrap64 (wrap32 (b + c))))
    rw [w64_w32, w64_w32, w64_w32, w64_w32]
    unfold wrap32
    omega
  · show wrap64 (wrap32 (wrap64 (wrap64 (wrap32 (wrap64 (a * b))) * c))) = wrap64 (wrap32 (wrap64 (a * wrap64 (wrap32 (wrap64 (b * c))))))
    simp only [wrap32_64, w64_w32, w32_mul_left, w32_mul_right, Int.mul_assoc]
  · show min (min a b) c = min a (min b c)
    omega
  · show max (max a b) c = max a (max b c)
    omega
  · exact bits_assoc .and (· &&& ·) (fun _ _ => rfl) BitVec.and_assoc a b c
  · exact bits_assoc .or (· ||| ·) (fun _ _ => rfl) BitVec.or_assoc a b c
  · exact bits_assoc .xor (· ^^^ ·) (fun _ _ => rfl) BitVec.xor_assoc a b c
theorem joinI_none {op nn : Int} (h : neutG op = (nn, 0)) {a : Int} (ha : isWordB a = true) : joinI op nn a = a := by
  rw [joinI_deed h (neut_word h) ha]
  have hw := (isWordB_iff a).1 ha
  obtain ⟨_, h2, rfl⟩ := assoc_of h
  rcases assoc_ops h2 with rfl | rfl | rfl | rfl | rfl | rfl | rfl
  · show wrap64 (wrap32 (0 + a)) = a
    rw [Int.zero_add, w64_w32, w32_word ha]
  · show wrap64 (wrap32 (wrap64 (1 * a))) = a
    rw [Int.one_mul, wrap32_64, w64_w32, w32_word ha]
  · show min 2147483647 a = a
    omega
  · show max (-2147483648) a = a
    omega
  · show IntKind.i64.wrap (((BitVec.ofInt 64 (-1) &&& BitVec.ofInt 64 a).toNat : Nat) : Int) = a
    rw [show BitVec.ofInt 64 (-1) = BitVec.allOnes 64 by decide, BitVec.allOnes_and, wrap_ofInt ha]
  · show IntKind.i64.wrap (((BitVec.ofInt 64 0 ||| BitVec.ofInt 64 a).toNat : Nat) : Int) = a
    rw [show BitVec.ofInt 64 0 = 0#64 by decide, BitVec.zero_or, wrap_ofInt ha]
  · show IntKind.i64.wrap (((BitVec.ofInt 64 0 ^^^ BitVec.ofInt 64 a).toNat : Nat) : Int) = a
    rw [show BitVec.ofInt 64 0 = 0#64 by decide, BitVec.zero_xor, wrap_ofInt ha]
theorem joinI_comm {op nn : Int} (h : neutG op = (nn, 0)) {a b : Int} (ha : isWordB a = true) (hb : isWordB b = true) : joinI op a b = joinI op b a := by
  rw [joinI_deed h ha hb, joinI_deed h hb ha]
  rcases assoc_ops (assoc_of h).2.1 with rfl | rfl | rfl | rfl | rfl | rfl | rfl
  · show wrap64 (wrap32 (a + b)) = wrap64 (wrap32 (b + a))
    rw [Int.add_comm]
  · show wrap64 (wrap32 (wrap64 (a * b))) = wrap64 (wrap32 (wrap64 (b * a)))
    rw [Int.mul_comm]
  · show min a b = min b a
    omega
  · show max a b = max b a
    omega
  · show IntKind.i64.wrap (((BitVec.ofInt 64 a &&& BitVec.ofInt 64 b).toNat : Nat) : Int) = IntKind.i64.wrap (((BitVec.ofInt 64 b &&& BitVec.ofInt 64 a).toNat : Nat) : Int)
    rw [BitVec.and_comm]
  · show IntKind.i64.wrap (((BitVec.ofInt 64 a ||| BitVec.ofInt 64 b).toNat : Nat) : Int) = IntKind.i64.wrap (((BitVec.ofInt 64 b ||| BitVec.ofInt 64 a).toNat : Nat) : Int)
    rw [BitVec.or_comm]
  · show IntKind.i64.wrap (((BitVec.ofInt 64 a ^^^ BitVec.ofInt 64 b).toNat : Nat) : Int) = IntKind.i64.wrap (((BitVec.ofInt 64 b ^^^ BitVec.ofInt 64 a).toNat : Nat) : Int)
    rw [BitVec.xor_comm]
theorem joinI_none_r {op nn : Int} (h : neutG op = (nn, 0)) {a : Int} (ha : isWordB a = true) : joinI op a nn = a := by
  rw [joinI_comm h ha (neut_word h), joinI_none h ha]
/-- Joined with what is ahead. -/
theorem nowAt_ahead {op nn : Int} (h : neutG op = (nn, 0)) {l : List Int} (hw : ∀ x ∈ l, isWordB x = true) {a : Int} (ha : isWordB a = true) (st : Nat) : ∀ k, st + k ≤ l.length → joinI op a (nowAt op nn l st k) = nowAt op a l st k
  | 0, _ => joinI_none_r h ha
  | k + 1, hk => by
    rw [nowAt, nowAt, ← joinI_assoc h ha (nowAt_word h hw st k (by omega)) (rdw hw (by omega)), nowAt_ahead h hw ha st k (by omega)]
theorem nowAt_add (op a : Int) (l : List Int) (st j : Nat) : ∀ k, nowAt op a l st (j + k) = nowAt op (nowAt op a l st j) l (st + j) k
  | 0 => rfl
  | k + 1 => by rw [Nat.add_assoc j k 1 |>.symm, nowAt, nowAt, nowAt_add op a l st j k, Nat.add_assoc]
/-- Two folds, one behind the other. -/
theorem nowAt_join {op nn : Int} (h : neutG op = (nn, 0)) {l : List Int} (hw : ∀ x ∈ l, isWordB x = true) (st j k : Nat) (hk : st + j + k ≤ l.length) : joinI op (nowAt op nn l st j) (nowAt op nn l (st + j) k) = nowAt op nn l st (j + k) := by
  rw [nowAt_add, nowAt_ahead h hw (nowAt_word h hw st j (by omega)) (st + j) k hk]
/-- A length, cut into blocks. -/
def chunkAt (n m i : Nat) : Int := ((min m (n - i * m) : Nat) : Int)
def chunksTo (n m i : Nat) : List Int := (List.range i).map (chunkAt n m)
theorem chunksTo_succ (n m i : Nat) : chunksTo n m (i + 1) = chunksTo n m i ++ [chunkAt n m i] := by simp [chunksTo, List.range_succ]
theorem chunksTo_length (n m i : Nat) : (chunksTo n m i).length = i := by simp [chunksTo]
theorem chunksTo_rd (n m i k : Nat) (h : k < i) : rd (chunksTo n m i) (k : Int) = chunkAt n m k := by simp [rd, chunksTo, h]
theorem nbOf_le {n m : Nat} (hm : 0 < m) : nbOf n m ≤ n := by
  rcases Nat.lt_or_ge n (nbOf n m) with h | h
  · have h2 := (nbOf_lt hm).1 (show nbOf n m - 1 < nbOf n m by omega)
    have h3 := Nat.le_mul_of_pos_right (nbOf n m - 1) hm
    omega
  · exact h
theorem start_chunks (n m : Nat) (hm : 0 < m) : ∀ i, i ≤ nbOf n m → startOf (chunksTo n m (nbOf n m)) (i : Int) = min (i * m) n
  | 0, _ => by simp [startOf]
  | i + 1, hi => by
    have ih := start_chunks n m hm i (by omega)
    have hx := (nbOf_lt hm).1 (show i < nbOf n m by omega)
    have h2 := startOf_succ (chunksTo n m (nbOf n m)) (i : Int) (by omega) (by rw [chunksTo_length]; omega)
    rw [chunksTo_rd n m _ i (by omega)] at h2
    rw [show ((i + 1 : Nat) : Int) = (i : Int) + 1 by omega, h2, ih]
    unfold chunkAt
    rw [Int.toNat_natCast, show (i + 1) * m = i * m + m by rw [Nat.add_mul]; omega]
    generalize i * m = q at *
    omega
theorem segE_all {op : Int} {l lens : List Int} (hn : (neutG op).2 = 0) (h1 : wsE l = 0) (h2 : wsE lens = 0) (h3 : okLens l lens = true) : segE op l lens = 0 := by
  have hl1 := (wsE_ok h1).1
  have hl2 := (wsE_ok h2).1
  unfold segE
  rw [if_pos hn, if_neg (by simp; omega), if_neg (by simp [h1, h2]), if_pos h3]
theorem wsE_zero {l : List Int} (h1 : l.length ≤ 1048576) (h2 : ∀ x ∈ l, isWordB x = true) : wsE l = 0 := by
  rw [wsE_words h1]
  have : noWords l = false := by
    unfold noWords
    rw [List.any_eq_false]
    intro x hx
    simp [h2 x hx]
  rw [this]
  rfl
theorem ok_chunks (l : List Int) (m : Nat) (hm : 0 < m) : okLens l (chunksTo l.length m (nbOf l.length m)) = true := by
  simp only [okLens, Bool.and_eq_true, List.all_eq_true, decide_eq_true_eq, beq_iff_eq]
  refine ⟨fun x hx => ?_, ?_⟩
  · obtain ⟨i, _, rfl⟩ := List.mem_map.1 hx
    unfold chunkAt
    omega
  · rw [chunksTo_length, start_chunks _ m hm _ (Nat.le_refl _)]
    have hx : l.length ≤ nbOf l.length m * m := by
      rcases Nat.lt_or_ge (nbOf l.length m * m) l.length with h | h
      · have := (nbOf_lt hm).2 h; omega
      · exact h
    omega
theorem words_chunks (n m i : Nat) (hm2 : m ≤ 1048576) : ∀ x ∈ chunksTo n m i, isWordB x = true := by
  intro x hx
  obtain ⟨j, _, rfl⟩ := List.mem_map.1 hx
  rw [isWordB_iff]
  unfold chunkAt
  omega
theorem fold_sums (op nn : Int) (l : List Int) (m : Nat) (hm : 0 < m) (f : Int → Int → Int) : ∀ i, i ≤ nbOf l.length m → segTo op nn l (chunksTo l.length m (nbOf l.length m)) false f true i = sumsTo op nn l m i
  | 0, _ => rfl
  | i + 1, hi => by
    have hx := (nbOf_lt hm).1 (show i < nbOf l.length m by omega)
    rw [segTo_false, fold_sums op nn l m hm f i (by omega), sumsTo_succ, start_chunks _ m hm i (by omega), chunksTo_rd _ m _ i (by omega)]
    unfold bSum bLen chunkAt
    rw [Int.toNat_natCast, Nat.min_eq_left (Nat.le_of_lt hx)]
theorem outs_more (op nn : Int) (l : List Int) (a : Nat) : ∀ k, outsAt op nn l 0 true (fun a _ => a) (a + k) = outsAt op nn l 0 true (fun a _ => a) a ++ (List.range k).map (fun j => nowAt op nn l 0 (a + j))
  | 0 => by simp
  | k + 1 => by
    rw [Nat.add_assoc a k 1 |>.symm, outsAt_true, outs_more op nn l a k, List.range_succ, List.map_append, List.append_assoc]
    rfl
theorem blocks_scan {op nn : Int} (hn : neutG op = (nn, 0)) {l : List Int} (hw : ∀ x ∈ l, isWordB x = true) (m : Nat) (hm : 0 < m) : ∀ i, i ≤ nbOf l.length m → bAhead op nn l m i = nowAt op nn l 0 (min (i * m) l.length) ∧ bTo op nn l m i = outsAt op nn l 0 true (fun a _ => a) (min (i * m) l.length)
  | 0, _ => by simp [bAhead, bTo, nowAt, outsAt]
  | i + 1, hi => by
    obtain ⟨h1, h2⟩ := blocks_scan hn hw m hm i (by omega)
    have hx := (nbOf_lt hm).1 (show i < nbOf l.length m by omega)
    rw [Nat.min_eq_left (Nat.le_of_lt hx)] at h1 h2
    have e : min ((i + 1) * m) l.length = i * m + bLen l m i := by
      rw [show (i + 1) * m = i * m + m by rw [Nat.add_mul]; omega]
      unfold bLen
      generalize i * m = q at *
      omega
    have hle : i * m + bLen l m i ≤ l.length := by unfold bLen; omega
    rw [e]
    constructor
    · rw [bAhead, h1]
      unfold bSum
      have := nowAt_join hn hw 0 (i * m) (bLen l m i) (by omega)
      rw [Nat.zero_add] at this
      exact this
    · rw [bTo, h2, outs_more]
      congr 1
      unfold bMid
      rw [h1]
      apply List.map_congr_left
      intro j _
      rw [nowAt_add, Nat.zero_add]
theorem halvesTo_word {op nn : Int} (hn : neutG op = (nn, 0)) {l : List Int} (hw : ∀ x ∈ l, isWordB x = true) : ∀ k, 2 * k ≤ l.length → ∀ x ∈ halvesTo op l k, isWordB x = true
  | 0, _ => by intro x hx; simp [halvesTo] at hx
  | k + 1, hk => by
    intro x hx
    rw [halvesTo, List.mem_append, List.mem_singleton] at hx
    rcases hx with hx | rfl
    · exact halvesTo_word hn hw k (by omega) x hx
    · exact joinI_word hn (rdw hw (by omega)) (rdw hw (by omega))
theorem lvlI_word {op nn : Int} (hn : neutG op = (nn, 0)) {l : List Int} (hw : ∀ x ∈ l, isWordB x = true) : ∀ k, ∀ x ∈ lvlI op l k, isWordB x = true
  | 0 => hw
  | k + 1 => halvesTo_word hn (lvlI_word hn hw k) _ (by omega)
theorem first_word {op nn : Int} (hn : neutG op = (nn, 0)) {l : List Int} (hw : ∀ x ∈ l, isWordB x = true) : ∀ x ∈ lvFirst nn l, isWordB x = true := by
  intro x hx
  unfold lvFirst at hx
  rw [List.mem_append] at hx
  rcases hx with hx | hx
  · exact hw x hx
  · rw [(List.mem_replicate.1 hx).2]
    exact neut_word hn
theorem f_opOf (n : Int) : ∃ op nn, w05_opOf.f n = some op ∧ neutG op = (nn, 0) := by
  obtain ⟨t, h1, h2, h3⟩ := f_Turn n 7 (by omega)
  have h3 := h3 (by omega)
  have e : w05_opOf.f n = some (rd [0, 2, 7, 8, 9, 10, 11] t) := by
    unfold w05_opOf.f
    rw [Option.bind_some, h1, Option.bind_some, if_pos h2, if_pos (by simpa using h3)]
  rw [e]
  have : t = 0 ∨ t = 1 ∨ t = 2 ∨ t = 3 ∨ t = 4 ∨ t = 5 ∨ t = 6 := by omega
  rcases this with rfl | rfl | rfl | rfl | rfl | rfl | rfl
  · exact ⟨_, _, rfl, rfl⟩
  · exact ⟨_, _, rfl, rfl⟩
  · exact ⟨_, _, rfl, rfl⟩
  · exact ⟨_, _, rfl, rfl⟩
  · exact ⟨_, _, rfl, rfl⟩
  · exact ⟨_, _, rfl, rfl⟩
  · exact ⟨_, _, rfl, rfl⟩
theorem ev_Wrap (l : List Int) (most : Nat) (hm : most ≤ 1000) (hl : Sh l) : ∃ a, Ev (fun k => r00_Wrap.f k l (most : Int)) a ∧ a.length = min l.length most ∧ (∀ x ∈ a, isWordB x = true) := by
  let g : Nat → Int := fun i => wrap64 (wrap32 (rd l (i : Int)))
  have H := up (n := min l.length most) (P := fun i => Ev (fun k => r00_Wrap.l0 k l (most : Int) ((List.range i).map g) (i : Int)) ((List.range (min l.length most)).map g))
    (Ev.step (f := fun _ => some ((List.range (min l.length most)).map g)) (fun k => by
      simp only [r00_Wrap.l0]
      by_cases h : ((min l.length most : Nat) : Int) < (l.length : Int)
      · rw [if_pos h, if_neg (by omega)]
      · rw [if_neg h]) (Ev.now _))
    (fun i hi ih => by
      refine Ev.step (f := fun k => r00_Wrap.l0 k l (most : Int) ((List.range (i + 1)).map g) ((i + 1 : Nat) : Int)) (fun k => ?_) ih
      simp only [r00_Wrap.l0]; rw [if_pos (by omega), if_pos (by omega), if_pos (by omega), f_Word]
      simp only [Option.bind_some]
      rw [if_pos (by simp; omega), wsucc hi (by omega), List.range_succ, List.map_append]
      rfl) 0 (Nat.zero_le _)
  refine ⟨(List.range (min l.length most)).map g, H, by simp, fun x hx => ?_⟩
  obtain ⟨i, _, rfl⟩ := List.mem_map.1 hx
  exact wrap32_word _
theorem segE_fine {op nn : Int} (hn : neutG op = (nn, 0)) {l lens : List Int} (h1 : l.length ≤ 1048576) (hw : ∀ x ∈ l, isWordB x = true) (h2 : lens.length ≤ 1048576) (hw2 : ∀ x ∈ lens, isWordB x = true) (h3 : okLens l lens = true) : segE op l lens = 0 :=
  segE_all (by rw [hn]) (wsE_zero h1 hw) (wsE_zero h2 hw2) h3
theorem okLens_one (l : List Int) : okLens l [(l.length : Int)] = true := by
  have h2 := startOf_succ [(l.length : Int)] (0 : Int) (by omega) (by simp)
  have e : rd [(l.length : Int)] 0 = (l.length : Int) := rfl
  have e0 : startOf [(l.length : Int)] 0 = 0 := by simp [startOf]
  rw [e, e0] at h2
  have h3 : startOf [(l.length : Int)] ((([(l.length : Int)] : List Int).length : Nat) : Int) = l.length := by
    show startOf [(l.length : Int)] (0 + 1) = l.length
    rw [h2]
    omega
  simp only [okLens, h3]
  simp
theorem len_word {n : Nat} (h : n ≤ 1048576) : ∀ x ∈ [(n : Int)], isWordB x = true := by
  intro x hx
  rw [List.mem_singleton] at hx
  rw [hx, isWordB_iff]
  omega
theorem levels_fine {op nn : Int} (hn : neutG op = (nn, 0)) {l : List Int} (h1 : l.length ≤ 1048576) (hw : ∀ x ∈ l, isWordB x = true) : scan_Levels.g op l = (lvsI op (lvFirst nn l) (lvE l.length + 1), 0) := by
  have hs : wsE l = 0 := wsE_zero h1 hw
  unfold scan_Levels.g
  simp [hn, hs]
/-- What is joined ahead of each place. -/
def scanW (op nn : Int) (l : List Int) : List Int := (List.range l.length).map (nowAt op nn l 0)
theorem scanW_length (op nn : Int) (l : List Int) : (scanW op nn l).length = l.length := by simp [scanW]
theorem rd_range (f : Nat → Int) (n i : Nat) (h : i < n) : rd ((List.range n).map f) (i : Int) = f i := by simp [rd, h]
theorem scanW_rd (op nn : Int) (l : List Int) (i : Nat) (h : i < l.length) : rd (scanW op nn l) (i : Int) = nowAt op nn l 0 i := rd_range _ _ _ h
theorem outs_map (op nn : Int) (l : List Int) (n : Nat) : outsAt op nn l 0 true (fun a _ => a) n = (List.range n).map (nowAt op nn l 0) := by
  have h := outs_more op nn l 0 n
  rw [Nat.zero_add] at h
  rw [h, outsAt, List.nil_append]
  apply List.map_congr_left
  intro j _
  rw [Nat.zero_add]
theorem scan_fine {op nn : Int} (hn : neutG op = (nn, 0)) {l lens : List Int} (h1 : l.length ≤ 1048576) (hw : ∀ x ∈ l, isWordB x = true) (h2 : lens.length ≤ 1048576) (hw2 : ∀ x ∈ lens, isWordB x = true) (h3 : okLens l lens = true) : scan_Scan.g op l lens = (segTo op nn l lens true (fun a _ => a) false lens.length, 0) := by
  unfold scan_Scan.g
  rw [told_segE, if_pos (segE_fine hn h1 hw h2 hw2 h3), hn]
theorem fold_fine {op nn : Int} (hn : neutG op = (nn, 0)) {l lens : List Int} (h1 : l.length ≤ 1048576) (hw : ∀ x ∈ l, isWordB x = true) (h2 : lens.length ≤ 1048576) (hw2 : ∀ x ∈ lens, isWordB x = true) (h3 : okLens l lens = true) : scan_Fold.g op l lens = (segTo op nn l lens false (fun _ _ => 0) true lens.length, 0) := by
  unfold scan_Fold.g
  rw [told_segE, if_pos (segE_fine hn h1 hw h2 hw2 h3), hn]
theorem scan_one {op nn : Int} (hn : neutG op = (nn, 0)) {l : List Int} (h1 : l.length ≤ 1048576) (hw : ∀ x ∈ l, isWordB x = true) : scan_Scan.g op l [(l.length : Int)] = (scanW op nn l, 0) := by
  rw [scan_fine hn h1 hw (by simp) (len_word h1) (okLens_one l)]
  show (segTo op nn l [(l.length : Int)] true (fun a _ => a) false (0 + 1), 0) = _
  rw [segTo_true]
  have e : (rd [(l.length : Int)] ((0 : Nat) : Int)).toNat = l.length := by
    show ((l.length : Int)).toNat = l.length
    omega
  have e0 : startOf [(l.length : Int)] ((0 : Nat) : Int) = 0 := by simp [startOf]
  rw [e, e0, outs_map]
  rfl
theorem outs_rd (op nn : Int) (l : List Int) (st : Nat) : ∀ n i, i < n → rd (outsAt op nn l st true (fun a _ => a) n) (i : Int) = nowAt op nn l st i
  | 0, _, h => by omega
  | n + 1, i, h => by
    rw [outsAt_true]
    rcases (show i < n ∨ i = n by omega) with h | rfl
    · rw [rd_app_left _ _ _ (by rw [outsAt_len]; exact h), outs_rd op nn l st n i h]
    · have e := rd_app_right (outsAt op nn l st true (fun a _ => a) i) [nowAt op nn l st i] 0
      rw [outsAt_len] at e
      exact e
/-- A place of a scan: what is joined of its own segment. -/
theorem segs_rd {l lens : List Int} (op nn : Int) (h : okLens l lens = true) {i j : Nat} (hj : (j : Int) < rd lens (i : Int)) : ∀ q, i < q → q ≤ lens.length → rd (segTo op nn l lens true (fun a _ => a) false q) ((startOf lens (i : Int) + j : Nat) : Int) = nowAt op nn l (startOf lens (i : Int)) j
  | 0, h1, _ => by omega
  | q + 1, h1, h2 => by
    obtain ⟨s1, s2, s3⟩ := start_step h (show i < lens.length by omega)
    rw [segTo_true]
    have hl := segTo_len op nn (fun a _ => a) h q (by omega)
    rcases (show i < q ∨ i = q by omega) with h3 | rfl
    · have h5 := startOf_mono lens ((i + 1 : Nat) : Int) (by omega) (q - (i + 1)) (by omega)
      rw [show ((i + 1 : Nat) : Int) + ((q - (i + 1) : Nat) : Int) = (q : Int) by omega] at h5
      rw [rd_app_left _ _ _ (by omega), segs_rd op nn h hj q h3 (by omega)]
    · have e := rd_app_right (segTo op nn l lens true (fun a _ => a) false i) (outsAt op nn l (startOf lens (i : Int)) true (fun a _ => a) (rd lens (i : Int)).toNat) j
      rw [hl] at e
      rw [e, outs_rd op nn l _ _ j (by omega)]
theorem halves_rd (op : Int) (l : List Int) : ∀ k i, i < k → rd (halvesTo op l k) (i : Int) = joinI op (rd l ((2 * i : Nat) : Int)) (rd l ((2 * i + 1 : Nat) : Int))
  | 0, _, h => by omega
  | k + 1, i, h => by
    rw [halvesTo]
    rcases (show i < k ∨ i = k by omega) with h | rfl
    · rw [rd_app_left _ _ _ (by rw [halvesTo_length]; exact h), halves_rd op l k i h]
    · have e := rd_app_right (halvesTo op l i) [joinI op (rd l ((2 * i : Nat) : Int)) (rd l ((2 * i + 1 : Nat) : Int))] 0
      rw [halvesTo_length] at e
      exact e
theorem now_halves {op nn : Int} (hn : neutG op = (nn, 0)) {l : List Int} (hw : ∀ x ∈ l, isWordB x = true) {K : Nat} (hK : 2 * K ≤ l.length) : ∀ i, i ≤ K → nowAt op nn (halvesTo op l K) 0 i = nowAt op nn l 0 (2 * i)
  | 0, _ => rfl
  | i + 1, hi => by
    rw [nowAt, now_halves hn hw hK i (by omega), Nat.zero_add, halves_rd op l K i (by omega), ← joinI_assoc hn (nowAt_word hn hw 0 _ (by omega)) (rdw hw (by omega)) (rdw hw (by omega))]
    rw [show 2 * (i + 1) = (2 * i + 1) + 1 by omega, nowAt, nowAt, Nat.zero_add, Nat.zero_add]
theorem set_two (A : List Int) (n : Nat) (i : Nat) (hA : A.length = i) (a b : Int) : ((A ++ List.replicate (n + 2) 0).set i a).set (i + 1) b = (A ++ [a] ++ [b]) ++ List.replicate n 0 := by
  rw [List.replicate_succ, List.replicate_succ, List.set_append_right _ _ (by omega), hA, Nat.sub_self, List.set_cons_zero, List.set_append_right _ _ (by omega), hA, show i + 1 - i = 0 + 1 by omega, List.set_cons_succ, List.set_cons_zero, List.append_assoc, List.append_assoc]
  rfl
theorem down_level {op nn : Int} (hn : neutG op = (nn, 0)) {lv : List Int} (hw : ∀ x ∈ lv, isWordB x = true) {K : Nat} (hK : lv.length = 2 * K) : ∀ i, i ≤ K → downTo op (scanW op nn (halvesTo op lv K)) lv i = (scanW op nn lv).take (2 * i) ++ List.replicate (2 * K - 2 * i) 0
  | 0, _ => by rw [downTo, Nat.mul_zero, List.take_zero, List.nil_append, Nat.sub_zero, hK]
  | i + 1, hi => by
    have hl := halvesTo_length op lv K
    have hs := scanW_length op nn lv
    rw [downTo, down_level hn hw hK i (by omega), show 2 * K - 2 * i = (2 * K - 2 * (i + 1)) + 2 by omega, set_two _ _ _ (by rw [List.length_take]; omega), scanW_rd op nn _ i (by omega), now_halves hn hw (by omega) i (by omega)]
    rw [show 2 * (i + 1) = (2 * i + 1) + 1 by omega, take_rd (show 2 * i + 1 < (scanW op nn lv).length by omega), take_rd (show 2 * i < (scanW op nn lv).length by omega), scanW_rd op nn lv _ (by omega), scanW_rd op nn lv _ (by omega), nowAt, Nat.zero_add]
theorem getD_lvs (op : Int) (fi : List Int) {k n : Nat} (h : k < n) : (lvsI op fi n).getD k [] = lvlI op fi k := by
  rw [List.getD_eq_getElem?_getD, lvsI_get op fi h]
  rfl
theorem down_scan {op nn : Int} (hn : neutG op = (nn, 0)) {fi : List Int} {E : Nat} (hl : fi.length = 2 ^ E) (hw : ∀ x ∈ fi, isWordB x = true) : ∀ s, s ≤ E → downAt op nn (lvsI op fi (E + 1)) s = scanW op nn (lvlI op fi (E - s))
  | 0, _ => by
    have h := lvlI_length op fi E hl E (Nat.le_refl _)
    rw [Nat.sub_self, Nat.pow_zero] at h
    unfold scanW
    rw [Nat.sub_zero, h]
    rfl
  | s + 1, hs => by
    have ih := down_scan hn hl hw s (by omega)
    have h1 := lvlI_length op fi E hl (E - s) (by omega)
    have h2 := lvlI_length op fi E hl (E - (s + 1)) (by omega)
    have h3 : lvlI op fi (E - s) = halvesTo op (lvlI op fi (E - (s + 1))) (2 ^ s) := by
      rw [show E - s = (E - (s + 1)) + 1 by omega, lvlI, h2, show E - (E - (s + 1)) = s + 1 by omega, Nat.pow_succ, Nat.mul_div_cancel _ (by decide)]
    rw [show E - (E - s) = s by omega] at h1
    rw [show E - (E - (s + 1)) = s + 1 by omega, Nat.pow_succ] at h2
    rw [downAt, ih, scanW_length, h1, lvsI_length, show E + 1 - 2 - s = E - (s + 1) by omega, getD_lvs op fi (by omega), h3, down_level hn (lvlI_word hn hw _) (by omega) _ (Nat.le_refl _), Nat.sub_self, List.replicate_zero, List.append_nil, List.take_of_length_le (by rw [scanW_length]; omega)]
theorem now_app (op nn : Int) (a b : List Int) : ∀ k, k ≤ a.length → nowAt op nn (a ++ b) 0 k = nowAt op nn a 0 k
  | 0, _ => rfl
  | k + 1, hk => by rw [nowAt, nowAt, now_app op nn a b k (by omega), Nat.zero_add, rd_app_left _ _ _ (by omega)]
theorem down_fine {op nn : Int} (hn : neutG op = (nn, 0)) {l : List Int} (h1 : l.length ≤ 1048576) (hw : ∀ x ∈ l, isWordB x = true) : scan_Down.g op (lvsI op (lvFirst nn l) (lvE l.length + 1)) (l.length : Int) = (scanW op nn l, 0) := by
  have hfl := lvFirst_length nn l
  have hfw := first_word hn hw
  have hle := lvE_le l.length
  have hE := lvE_20 h1
  have h5 : 2 ^ lvE l.length ≤ 1048576 := Nat.le_trans (Nat.pow_le_pow_right (by decide) hE) (by decide)
  have hg := getD_lvs op (lvFirst nn l) (show 0 < lvE l.length + 1 by omega)
  have hg0 : (lvsI op (lvFirst nn l) (lvE l.length + 1)).getD 0 [] = lvFirst nn l := hg
  have ht : isTower.g op (lvsI op (lvFirst nn l) (lvE l.length + 1)) = true := by
    unfold isTower.g towPre
    rw [hg0, lvsI_length, hfl, wsE_zero (by omega) hfw]
    simp
    omega
  have hd := down_scan hn hfl hfw _ (Nat.le_refl _)
  unfold scan_Down.g
  rw [hn, if_pos rfl, ht, if_pos rfl, hg0, lvsI_length, Nat.add_sub_cancel, hd, Nat.sub_self, if_neg (by omega), Int.toNat_natCast]
  congr 1
  show (scanW op nn (lvFirst nn l)).take l.length = scanW op nn l
  unfold scanW
  rw [← List.map_take, List.take_range, hfl, Nat.min_eq_left hle]
  apply List.map_congr_left
  intro j hj
  rw [List.mem_range] at hj
  exact now_app op nn l _ j (by omega)
theorem f_val {op nn : Int} (hn : neutG op = (nn, 0)) {a b : Int} (ha : isWordB a = true) (hb : isWordB b = true) : w05_value.f op a b = some (joinI op a b) := by
  unfold w05_value.f wDo.f
  rw [Option.bind_some]
  have h : word_Do.g op a b = (joinI op a b, 0) := by
    obtain ⟨h1, h2, _⟩ := assoc_of hn
    have := Do_ok op a b h1 ha hb
    unfold joinI
    rw [this, assoc_zero h2]
    rfl
  rw [h, if_pos rfl]
theorem sums_words {op nn : Int} (hn : neutG op = (nn, 0)) {l : List Int} (hw : ∀ x ∈ l, isWordB x = true) {m : Nat} (hm : 0 < m) (i : Nat) (hi : i ≤ nbOf l.length m) : ∀ x ∈ sumsTo op nn l m i, isWordB x = true := by
  intro x hx
  obtain ⟨j, hj, rfl⟩ := List.mem_map.1 hx
  rw [List.mem_range] at hj
  have := (nbOf_lt hm).1 (show j < nbOf l.length m by omega)
  exact nowAt_word hn hw _ _ (by unfold bLen; omega)
theorem now_sums (op nn : Int) (l : List Int) (m n : Nat) : ∀ b, b ≤ n → nowAt op nn (sumsTo op nn l m n) 0 b = bAhead op nn l m b
  | 0, _ => rfl
  | b + 1, hb => by rw [nowAt, now_sums op nn l m n b (by omega), Nat.zero_add, sumsTo_rd op nn l m n b (by omega), bAhead]
theorem blocks_last {op nn : Int} (hn : neutG op = (nn, 0)) {a : List Int} (haw : ∀ x ∈ a, isWordB x = true) {M : Nat} (hM0 : 0 < M) (hM2 : M ≤ 20) (hal : a.length ≤ 60) (wh pa ah : List Int) (hwl : wh.length = a.length) (hpl : pa.length = a.length)
    (hq : ∀ b r : Nat, r < M → b * M + r < a.length → b < ah.length ∧ rd ah (b : Int) = nowAt op nn a 0 (b * M) ∧ rd pa ((b * M + r : Nat) : Int) = nowAt op nn a (b * M) r ∧ rd wh ((b * M + r : Nat) : Int) = nowAt op nn a 0 (b * M + r)) : Ev (fun k => w05_ScanBlocks.l1 k op a (M : Int) wh pa ah 0) true := by
  have H := up (n := a.length) (P := fun i => Ev (fun k => w05_ScanBlocks.l1 k op a (M : Int) wh pa ah (i : Int)) true)
    (Ev.step (f := fun _ => some true) (fun k => by simp only [w05_ScanBlocks.l1]; rw [if_neg (by omega)]; rfl) (Ev.now _))
    (fun i hi ih => by
      obtain ⟨b, r, hbr, hr, hd⟩ : ∃ b r : Nat, b * M + r = i ∧ r < M ∧ Aside0 (Int.tdiv (i : Int) (M : Int) = (b : Int)) :=
        ⟨i / M, i % M, by have := Nat.div_add_mod i M; rw [Nat.mul_comm] at this; exact this, Nat.mod_lt i hM0, ⟨by rw [Int.tdiv_eq_ediv_of_nonneg (by omega)]; rfl⟩⟩
      have hb1 : b ≤ b * M := Nat.le_mul_of_pos_right b hM0
      have hbl : b * M + r < a.length := by omega
      have hb60 : b ≤ 60 := by omega
      have hwb : wrap64 (b : Int) = (b : Int) := wrap_in (by omega) (by omega)
      have hM0' : ¬ ((M : Int) = 0) := by omega
      have hws := wsucc hi (by omega)
      have g1 : (i : Int) < (a.length : Int) := by omega
      have g2 : (0 : Int) ≤ (b : Int) := by omega
      have g3 : (b : Int) < (ah.length : Int) := by have := (hq b r hr hbl).1; omega
      have g4 : (0 : Int) ≤ (i : Int) := by omega
      have g5 : (i : Int) < (pa.length : Int) := by omega
      have g6 : (i : Int) < (wh.length : Int) := by omega
      have hj := nowAt_join hn haw 0 (b * M) r (by omega)
      rw [Nat.zero_add] at hj
      have hv := f_val hn (nowAt_word hn haw 0 (b * M) (by omega)) (nowAt_word hn haw (b * M) r (by omega))
      obtain ⟨q1, q2, q3, q4⟩ := hq b r hr hbl
      rw [hj] at hv
      rw [hbr] at q3 q4 hv
      generalize nowAt op nn a 0 (b * M) = X at *
      generalize nowAt op nn a (b * M) r = Y at *
      generalize nowAt op nn a 0 i = Z at *
      refine Ev.step (f := fun k => w05_ScanBlocks.l1 k op a (M : Int) wh pa ah ((i + 1 : Nat) : Int)) (fun k => ?_) ih
      simp only [w05_ScanBlocks.l1]
      rw [if_pos g1, if_neg hM0', hd.out, hwb, if_pos g2, if_pos g3, if_pos g4, if_pos g5, q2, q3, hv, Option.bind_some, if_pos g6, q4, if_pos rfl, hws]) 0 (Nat.zero_le _)
  exact H
theorem ScanBlocks : w05_ScanBlocks.Pure := by
  intro n l m _ _ h1 _ _
  have s1 : Sh l := by unfold Sh; omega
  have key : Ev (fun k => w05_ScanBlocks.f k n l m) true := by
    obtain ⟨op, nn, ho, hn⟩ := f_opOf n
    obtain ⟨a, ha, hal, haw⟩ := ev_Wrap l 60 (by omega) s1
    have hal : a.length ≤ 60 := by omega
    obtain ⟨t, ht, ht0, ht1⟩ := f_Turn m 20 (by omega)
    have ht1 := ht1 (by omega)
    obtain ⟨M, hM⟩ : ∃ M : Nat, wrap64 (1 + t) = (M : Int) := ⟨(1 + t).toNat, by rw [wrap_in (by omega) (by omega)]; omega⟩
    have hM1 : 0 < M ∧ M ≤ 20 := by
      rw [wrap_in (by omega) (by omega)] at hM
      omega
    obtain ⟨hM0, hM2⟩ := hM1
    unfold w05_ScanBlocks.f
    rw [ho]
    simp only [Option.bind_some]
    refine Ev.bind ha ?_
    simp only [ht, Option.bind_some, hM]
    clear hM ht ht0 ht1
    have hb : scan_Blocks.g op a (M : Int) = (sumsTo op nn a M (nbOf a.length M), scanW op nn a, 0) := by
      have hs : wsE a = 0 := wsE_zero (by omega) haw
      have hx : a.length ≤ nbOf a.length M * M := by
        rcases Nat.lt_or_ge (nbOf a.length M * M) a.length with h | h
        · have := (nbOf_lt hM0).2 h; omega
        · exact h
      have hbt := (blocks_scan hn haw M hM0 _ (Nat.le_refl _)).2
      rw [Nat.min_eq_right hx, outs_map] at hbt
      unfold scan_Blocks.g
      rw [hn, if_pos rfl, if_pos hs, if_neg (by simp; omega), Int.toNat_natCast, hbt]
      rfl
    have hsc := scan_one hn (show a.length ≤ 1048576 by omega) haw
    have hnb := nbOf_le (n := a.length) hM0
    have hoc := ok_chunks a M hM0
    have hcw := words_chunks a.length M (nbOf a.length M) (by omega)
    have hcl := chunksTo_length a.length M (nbOf a.length M)
    have hfo := fold_fine hn (show a.length ≤ 1048576 by omega) haw (show (chunksTo a.length M (nbOf a.length M)).length ≤ 1048576 by omega) hcw hoc
    rw [hcl, fold_sums op nn a M hM0 _ _ (Nat.le_refl _)] at hfo
    have hpa := scan_fine hn (show a.length ≤ 1048576 by omega) haw (show (chunksTo a.length M (nbOf a.length M)).length ≤ 1048576 by omega) hcw hoc
    have hpl := segTo_len op nn (fun a _ => a) hoc _ (Nat.le_refl _)
    rw [(okLens_of hoc).2] at hpl
    have hsl := sumsTo_length op nn a M (nbOf a.length M)
    have hah := scan_one hn (show (sumsTo op nn a M (nbOf a.length M)).length ≤ 1048576 by omega) (sums_words hn haw hM0 _ (Nat.le_refl _))
    rw [hcl] at hpa hpl
    rw [hsl] at hah
    have hlv := levels_fine hn (show a.length ≤ 1048576 by omega) haw
    have hdo := down_fine hn (show a.length ≤ 1048576 by omega) haw
    have hwl := scanW_length op nn a
    have hal2 := scanW_length op nn (sumsTo op nn a M (nbOf a.length M))
    have L1 : Ev (fun k => w05_ScanBlocks.l1 k op a (M : Int) (scanW op nn a) (segTo op nn a (chunksTo a.length M (nbOf a.length M)) true (fun a _ => a) false (nbOf a.length M)) (scanW op nn (sumsTo op nn a M (nbOf a.length M))) 0) true := by
      refine blocks_last hn haw hM0 hM2 hal _ _ _ hwl hpl (fun b r hr hb2 => ?_)
      have hbn : b < nbOf a.length M := (nbOf_lt hM0).2 (by omega)
      have hck : rd (chunksTo a.length M (nbOf a.length M)) (b : Int) = chunkAt a.length M b := chunksTo_rd _ _ _ _ hbn
      have hst := start_chunks a.length M hM0 b (by omega)
      have hmin : min (b * M) a.length = b * M := Nat.min_eq_left (by omega)
      rw [hmin] at hst
      have hlt : (r : Int) < rd (chunksTo a.length M (nbOf a.length M)) (b : Int) := by
        rw [hck]
        unfold chunkAt
        generalize b * M = q at *
        omega
      have hpr := segs_rd op nn hoc hlt (nbOf a.length M) hbn (by omega)
      rw [hst] at hpr
      have hq := (blocks_scan hn haw M hM0 b (by omega)).1
      rw [hmin] at hq
      refine ⟨by omega, ?_, hpr, scanW_rd op nn a _ hb2⟩
      rw [scanW_rd op nn _ _ (by omega), now_sums op nn a M _ _ (by omega), hq]
    simp only [sBlocks.f, hb, Option.bind_some, sScan.f, hsc]
    have L0 := up (n := nbOf a.length M) (P := fun i => Ev (fun k => w05_ScanBlocks.l0 k op a (M : Int) (sumsTo op nn a M (nbOf a.length M)) (scanW op nn a) 0 (scanW op nn a) 0 (chunksTo a.length M i) ((a.length : Int) - ((i * M : Nat) : Int))) true)
      (by
        have hx : a.length ≤ nbOf a.length M * M := by
          rcases Nat.lt_or_ge (nbOf a.length M * M) a.length with h | h
          · have := (nbOf_lt hM0).2 h; omega
          · exact h
        generalize nbOf a.length M * M = q at *
        refine Ev.step (f := fun k => w05_ScanBlocks.j1 k op a (M : Int) (scanW op nn a) (segTo op nn a (chunksTo a.length M (nbOf a.length M)) true (fun a _ => a) false (nbOf a.length M)) (scanW op nn (sumsTo op nn a M (nbOf a.length M))) false) (fun k => ?_) (Ev.step (f := fun k => w05_ScanBlocks.l1 k op a (M : Int) (scanW op nn a) (segTo op nn a (chunksTo a.length M (nbOf a.length M)) true (fun a _ => a) false (nbOf a.length M)) (scanW op nn (sumsTo op nn a M (nbOf a.length M))) 0) (fun k => by simp only [w05_ScanBlocks.j1]; rw [if_neg (by simp)]) L1)
        simp only [w05_ScanBlocks.l0]
        rw [if_neg (by omega)]
        simp only [sFold.f, hfo, sScan.f, hpa, hah, sLevels.f, hlv, sDown.f, hdo, Option.bind_some, Eq_.f, beq_self_eq_true, if_true, hpl, hal2, hsl, hcl, hwl, bne_self_eq_false])
      (fun i hi ih => by
        have hx := (nbOf_lt hM0).1 hi
        have he : (i + 1) * M = i * M + M := by rw [Nat.add_mul]; omega
        rw [he, chunksTo_succ] at ih
        have hck : chunkAt a.length M i = min (M : Int) ((a.length : Int) - ((i * M : Nat) : Int)) := by unfold chunkAt; omega
        have hlen := chunksTo_length a.length M i
        generalize i * M = q at *
        have hmn : mn ((a.length : Int) - (q : Int)) (M : Int) = chunkAt a.length M i := by rw [mn_min, hck]; omega
        have hw : wrap64 ((a.length : Int) - (q : Int) - (M : Int)) = (a.length : Int) - ((q + M : Nat) : Int) := by rw [wrap_in (by omega) (by omega)]; omega
        refine Ev.step (f := fun k => w05_ScanBlocks.l0 k op a (M : Int) (sumsTo op nn a M (nbOf a.length M)) (scanW op nn a) 0 (scanW op nn a) 0 (chunksTo a.length M i ++ [chunkAt a.length M i]) ((a.length : Int) - ((q + M : Nat) : Int))) (fun k => ?_) ih
        simp only [w05_ScanBlocks.l0]
        rw [if_pos (by omega), if_pos (by omega), hmn, hw]) 0 (Nat.zero_le _)
    simpa [chunksTo] using L0
  obtain ⟨k, hk⟩ := key
  exact ⟨k, hk k (Nat.le_refl _)⟩
end Go.Proofs.YtpenkemabeonaaaDoor.Pure
