/- ScanShapes: in whatever order neighbours are joined it is the same word; it is told of numbers and lists alone. -/
import Derived.Test.YtpenkemabeonaaaDoorPScanShapesx
namespace Go.Proofs.YtpenkemabeonaaaDoor.Pure
open Go.RowKit Go.Proofs.YtpenkemabeonaaaDoor.PScanShapes Go.Proofs.YtpenkemabeonaaaDoor.Hand Go.Proofs.YtpenkemabeonaaaDoorW.PrintWords Go.Proofs.YtpenkemabeonaaaDoorW.PrintLast Go.Proofs.YtpenkemabeonaaaDoorW.PrintMore
set_option linter.unusedVariables false
set_option linter.unusedSimpArgs false
/-- Lists so short that a place's successor is no other number. -/
def Sh {α : Type} (l : List α) : Prop := l.length ≤ 4611686018427387904
theorem wsucc {i n : Nat} (h : i < n) (hn : n ≤ 4611686018427387904) : wrap64 ((i : Int) + 1) = ((i + 1 : Nat) : Int) := by unfold wrap64; omega
theorem rdn (l : List Int) (i : Nat) : rd l (i : Int) = l.getD i 0 := by simp [rd]
theorem rd_get {l : List Int} {i : Nat} (h : i < l.length) : rd l (i : Int) = l[i] := by simp [rd, h]
theorem rdL_get {l : List (List Int)} {i : Nat} (h : i < l.length) : rd_L1 l (i : Int) = l[i] := by simp [rd_L1, h]
theorem up {n : Nat} {P : Nat → Prop} (h0 : P n) (hs : ∀ i, i < n → P (i + 1) → P i) (i : Nat) (hi : i ≤ n) : P i := by
  have key : ∀ d, ∀ i, i + d = n → P i := by
    intro d
    induction d with
    | zero => intro i h; have : i = n := by omega
              subst this; exact h0
    | succ d ih => intro i h; exact hs i (by omega) (ih (i + 1) (by omega))
  exact key (n - i) i (by omega)
theorem f_Word (n : Int) : r00_Word.f n = some (wrap64 (wrap32 n)) := by
  unfold r00_Word.f
  congr 2
  unfold wrap32 IntKind.wrap
  simp only [IntKind.signed, IntKind.bits]
  simp
theorem wrap32_64 (x : Int) : wrap32 (wrap64 x) = wrap32 x := by unfold wrap32 wrap64; omega
theorem take_rd {l : List Int} {i : Nat} (h : i < l.length) : l.take (i + 1) = l.take i ++ [rd l (i : Int)] := by
  rw [rd_get h, List.take_add_one, List.getElem?_eq_getElem h]; rfl
theorem isWordB_iff (n : Int) : isWordB n = true ↔ -2147483648 ≤ n ∧ n ≤ 2147483647 := by simp [isWordB]
theorem wrap_in {n : Int} (h0 : -9223372036854775808 ≤ n) (h1 : n ≤ 9223372036854775807) : wrap64 n = n := by unfold wrap64; omega
theorem Do_ok (op a b : Int) (ho : isOpB op = true) (ha : isWordB a = true) (hb : isWordB b = true) : word_Do.g op a b = if zeroB op b then (0, 14) else (deed op a b, 0) := by
  unfold word_Do.g
  rw [ho, ha, hb]; rfl
theorem i64_toInt (x : BitVec 64) : IntKind.i64.wrap (x.toNat : Int) = x.toInt := by
  have h : IntKind.i64.wrap (x.toNat : Int) = ((x.toNat : Int) + 9223372036854775808) % 18446744073709551616 - 9223372036854775808 := by
    simp [IntKind.wrap, IntKind.bits, IntKind.signed]
    split <;> omega
  rw [h, BitVec.toInt_eq_toNat_cond]
  have := x.isLt
  split <;> omega
theorem ext64 (a : Int) (h : -2147483648 ≤ a ∧ a ≤ 2147483647) : BitVec.ofInt 64 a = (BitVec.ofInt 32 a).signExtend 64 := by
  apply BitVec.eq_of_toInt_eq
  rw [BitVec.toInt_signExtend_of_le (by decide), BitVec.toInt_ofInt, BitVec.toInt_ofInt]
  rw [Int.bmod_eq_of_le (by omega) (by omega), Int.bmod_eq_of_le (by omega) (by omega)]
theorem word_of_ext (c : BitVec 32) : -2147483648 ≤ IntKind.i64.wrap (((c.signExtend 64).toNat : Nat) : Int) ∧ IntKind.i64.wrap (((c.signExtend 64).toNat : Nat) : Int) ≤ 2147483647 := by
  rw [i64_toInt, BitVec.toInt_signExtend_of_le (by decide)]
  have h1 := BitVec.le_toInt c
  have h2 := BitVec.toInt_lt (x := c)
  omega
theorem and_word (a b : Int) (ha : -2147483648 ≤ a ∧ a ≤ 2147483647) (hb : -2147483648 ≤ b ∧ b ≤ 2147483647) : -2147483648 ≤ bits .and .i64 a b ∧ bits .and .i64 a b ≤ 2147483647 := by
  have e : bits .and .i64 a b = IntKind.i64.wrap ((((BitVec.ofInt 32 a &&& BitVec.ofInt 32 b).signExtend 64).toNat : Nat) : Int) := by
    show IntKind.i64.wrap (((BitVec.ofInt 64 a &&& BitVec.ofInt 64 b).toNat : Nat) : Int) = _
    rw [ext64 a ha, ext64 b hb, BitVec.signExtend_and]
  rw [e]; exact word_of_ext _
theorem or_word (a b : Int) (ha : -2147483648 ≤ a ∧ a ≤ 2147483647) (hb : -2147483648 ≤ b ∧ b ≤ 2147483647) : -2147483648 ≤ bits .or .i64 a b ∧ bits .or .i64 a b ≤ 2147483647 := by
  have e : bits .or .i64 a b = IntKind.i64.wrap ((((BitVec.ofInt 32 a ||| BitVec.ofInt 32 b).signExtend 64).toNat : Nat) : Int) := by
    show IntKind.i64.wrap (((BitVec.ofInt 64 a ||| BitVec.ofInt 64 b).toNat : Nat) : Int) = _
    rw [ext64 a ha, ext64 b hb, BitVec.signExtend_or]
  rw [e]; exact word_of_ext _
theorem xor_word (a b : Int) (ha : -2147483648 ≤ a ∧ a ≤ 2147483647) (hb : -2147483648 ≤ b ∧ b ≤ 2147483647) : -2147483648 ≤ bits .xor .i64 a b ∧ bits .xor .i64 a b ≤ 2147483647 := by
  have e : bits .xor .i64 a b = IntKind.i64.wrap ((((BitVec.ofInt 32 a ^^^ BitVec.ofInt 32 b).signExtend 64).toNat : Nat) : Int) := by
    show IntKind.i64.wrap (((BitVec.ofInt 64 a ^^^ BitVec.ofInt 64 b).toNat : Nat) : Int) = _
    rw [ext64 a ha, ext64 b hb, BitVec.signExtend_xor]
  rw [e]; exact word_of_ext _
/-- An operation, but division. -/
def plainOp (op : Int) : Prop := 0 ≤ op ∧ op < 12 ∧ op ≠ 3 ∧ op ≠ 4
theorem deed_word (op a b : Int) (ho : plainOp op) (ha : isWordB a = true) (hb : isWordB b = true) : isWordB (deed op a b) = true := by
  rw [isWordB_iff] at *
  unfold deed
  by_cases h0 : op = 0
  · rw [if_pos h0]; unfold wrap64 wrap32; omega
  rw [if_neg h0]
  by_cases h1 : op = 1
  · rw [if_pos h1]; unfold wrap64 wrap32; omega
  rw [if_neg h1]
  by_cases h2 : op = 2
  · rw [if_pos h2]; generalize wrap64 (a * b) = x; unfold wrap64 wrap32; omega
  rw [if_neg h2, if_neg ho.2.2.1, if_neg ho.2.2.2]
  by_cases h5 : op = 5
  · rw [if_pos h5]; unfold truthI; split <;> omega
  rw [if_neg h5]
  by_cases h6 : op = 6
  · rw [if_pos h6]; unfold truthI; split <;> omega
  rw [if_neg h6]
  by_cases h7 : op = 7
  · rw [if_pos h7]; omega
  rw [if_neg h7]
  by_cases h8 : op = 8
  · rw [if_pos h8]; omega
  rw [if_neg h8]
  by_cases h9 : op = 9
  · rw [if_pos h9]; exact and_word a b ha hb
  rw [if_neg h9]
  by_cases h10 : op = 10
  · rw [if_pos h10]; exact or_word a b ha hb
  rw [if_neg h10]
  exact xor_word a b ha hb
theorem f_Turn (n m : Int) (hm : m ≤ 4611686018427387904) : ∃ t, r00_Turn.f n m = some t ∧ 0 ≤ t ∧ (0 < m → t < m) := by
  unfold r00_Turn.f
  by_cases h1 : m < 1
  · exact ⟨0, by rw [if_pos h1], by omega, fun h => by omega⟩
  · rw [if_neg h1, if_neg (by omega)]
    have hlt := Int.tmod_lt_of_pos n (show 0 < m by omega)
    have hgt : -m < n.tmod m := by
      have := Int.lt_tmod_of_pos n (show 0 < m by omega)
      exact this
    by_cases h2 : n.tmod m < 0
    · rw [if_pos h2]
      exact ⟨_, rfl, by unfold wrap64; omega, fun _ => by unfold wrap64; omega⟩
    · rw [if_neg h2]
      exact ⟨_, rfl, by omega, fun _ => hlt⟩
theorem f_Nth (l : List Int) (at_ : Int) (hl : Sh l) : ∃ x, r00_Nth.f l at_ = some x := by
  unfold r00_Nth.f
  by_cases h0 : (l.length : Int) = 0
  · exact ⟨0, by rw [if_pos h0]⟩
  · obtain ⟨t, h1, h2, h3⟩ := f_Turn at_ (l.length : Int) (by unfold Sh at hl; omega)
    exact ⟨rd l t, by rw [if_neg h0, h1]; simp only [Option.bind_some]; rw [if_pos h2, if_pos (h3 (by omega))]⟩
theorem wrap32_word (x : Int) : isWordB (wrap64 (wrap32 x)) = true := by
  rw [isWordB_iff]; unfold wrap64 wrap32; omega
theorem rd_app_left (a b : List Int) (i : Nat) (h : i < a.length) : rd (a ++ b) (i : Int) = rd a (i : Int) := by
  rw [rdn, rdn, List.getD_eq_getElem?_getD, List.getD_eq_getElem?_getD, List.getElem?_append_left h]
theorem rd_app_right (a b : List Int) (i : Nat) : rd (a ++ b) ((a.length + i : Nat) : Int) = rd b (i : Int) := by
  rw [rdn, rdn, List.getD_eq_getElem?_getD, List.getD_eq_getElem?_getD, List.getElem?_append_right (by omega)]
  congr 2; omega
/-- An operation that is associative. -/
theorem assoc_of {op nn : Int} (h : neutG op = (nn, 0)) : isOpB op = true ∧ assocB op = true ∧ nn = neutI op := by
  unfold neutG at h
  cases h1 : isOpB op
  · rw [h1] at h; simp at h
  · cases h2 : assocB op
    · rw [h1, h2] at h; simp at h
    · rw [h1, h2] at h
      simp at h
      exact ⟨rfl, rfl, h.symm⟩
theorem assoc_ops {op : Int} (h : assocB op = true) : op = 0 ∨ op = 2 ∨ op = 7 ∨ op = 8 ∨ op = 9 ∨ op = 10 ∨ op = 11 := by
  simp only [assocB, Bool.or_eq_true, beq_iff_eq] at h
  omega
theorem assoc_zero {op : Int} (h : assocB op = true) (b : Int) : zeroB op b = false := by
  rcases assoc_ops h with rfl | rfl | rfl | rfl | rfl | rfl | rfl <;> simp [zeroB]
theorem assoc_plain {op : Int} (h : assocB op = true) : plainOp op := by
  unfold plainOp
  rcases assoc_ops h with rfl | rfl | rfl | rfl | rfl | rfl | rfl <;> omega
theorem neut_word {op nn : Int} (h : neutG op = (nn, 0)) : isWordB nn = true := by
  obtain ⟨_, h2, rfl⟩ := assoc_of h
  rcases assoc_ops h2 with rfl | rfl | rfl | rfl | rfl | rfl | rfl <;> rfl
theorem joinI_deed {op nn : Int} (h : neutG op = (nn, 0)) {a b : Int} (ha : isWordB a = true) (hb : isWordB b = true) : joinI op a b = deed op a b := by
  obtain ⟨h1, h2, _⟩ := assoc_of h
  unfold joinI
  rw [Do_ok op a b h1 ha hb, assoc_zero h2]
  rfl
theorem joinI_word {op nn : Int} (h : neutG op = (nn, 0)) {a b : Int} (ha : isWordB a = true) (hb : isWordB b = true) : isWordB (joinI op a b) = true := by
  rw [joinI_deed h ha hb]
  exact deed_word op a b (assoc_plain (assoc_of h).2.1) ha hb
theorem wsE_words {l : List Int} (h : l.length ≤ 1048576) : wsE l = if noWords l then 2 else 0 := by
  unfold wsE
  rw [if_neg (by omega)]
/-- What is asked of a list in segments. -/
def segE (op : Int) (l lens : List Int) : Int :=
  if (neutG op).2 = 0 then (if decide (1048576 < l.length) || decide (1048576 < lens.length) then 3 else if (wsE l != 0) || (wsE lens != 0) then 2 else if okLens l lens then 0 else 6) else (neutG op).2
theorem told_segE (op : Int) (l lens : List Int) (has : Bool) (f : Int → Int → Int) (en : Bool) : told_g op l lens has f en = if segE op l lens = 0 then (segTo op (neutG op).1 l lens has f en lens.length, 0) else ([], segE op l lens) := by
  unfold told_g segE
  by_cases h1 : (neutG op).2 = 0
  · rw [if_pos h1, if_pos h1]
    by_cases h2 : (decide (1048576 < l.length) || decide (1048576 < lens.length)) = true
    · rw [if_pos h2, if_pos h2]; rfl
    · rw [if_neg h2, if_neg h2]
      by_cases h3 : ((wsE l != 0) || (wsE lens != 0)) = true
      · rw [if_pos h3, if_pos h3]; rfl
      · rw [if_neg h3, if_neg h3]
        by_cases h4 : okLens l lens = true
        · rw [if_pos h4, if_pos h4]; rfl
        · rw [if_neg h4, if_neg h4]; rfl
  · rw [if_neg h1, if_neg h1, if_neg h1]
theorem rdw {l : List Int} (hw : ∀ x ∈ l, isWordB x = true) {i : Nat} (hi : i < l.length) : isWordB (rd l (i : Int)) = true := by
  rw [rd_get hi]; exact hw _ (List.getElem_mem _)
theorem nowAt_word {op nn : Int} (h : neutG op = (nn, 0)) {l : List Int} (hw : ∀ x ∈ l, isWordB x = true) (st : Nat) : ∀ k, st + k ≤ l.length → isWordB (nowAt op nn l st k) = true
  | 0, _ => neut_word h
  | k + 1, hk => joinI_word h (nowAt_word h hw st k (by omega)) (rdw hw (by omega))
theorem segTo_false (op nn : Int) (l lens : List Int) (f : Int → Int → Int) (i : Nat) : segTo op nn l lens false f true (i + 1) = segTo op nn l lens false f true i ++ [nowAt op nn l (startOf lens i) (rd lens (i : Int)).toNat] := by
  have e : ∀ k, outsAt op nn l (startOf lens i) false f k = [] := by
    intro k
    induction k with
    | zero => rfl
    | succ k ih => unfold outsAt; simpa using ih
  rw [segTo, e, List.append_nil]
  rfl
theorem w32_mod (x : Int) : ∃ q : Int, wrap32 x = x - 4294967296 * q := ⟨(x + 2147483648) / 4294967296, by unfold wrap32; omega⟩
theorem w32_sub (x q : Int) : wrap32 (x - 4294967296 * q) = wrap32 x := by unfold wrap32; omega
theorem w32_mul_left (a c : Int) : wrap32 (wrap32 a * c) = wrap32 (a * c) := by
  obtain ⟨q, hq⟩ := w32_mod a
  rw [hq, Int.sub_mul, Int.mul_assoc, w32_sub]
theorem w32_mul_right (a c : Int) : wrap32 (a * wrap32 c) = wrap32 (a * c) := by
  rw [Int.mul_comm, w32_mul_left, Int.mul_comm]
theorem w64_w32 (x : Int) : wrap64 (wrap32 x) = wrap32 x := by unfold wrap64 wrap32; omega
theorem w32_word {x : Int} (h : isWordB x = true) : wrap32 x = x := by
  rw [isWordB_iff] at h
  unfold wrap32
  omega
theorem ofInt_wrap (v : BitVec 64) : BitVec.ofInt 64 (IntKind.i64.wrap ((v.toNat : Nat) : Int)) = v := by
  have e : IntKind.i64.wrap ((v.toNat : Nat) : Int) = v.toInt := by
    rw [i64_w]
    unfold wrap64
    have := v.isLt
    rw [BitVec.toInt_eq_toNat_cond]
    split <;> omega
  rw [e, BitVec.ofInt_toInt]
theorem wrap_ofInt {x : Int} (h : isWordB x = true) : IntKind.i64.wrap (((BitVec.ofInt 64 x).toNat : Nat) : Int) = x := by
  rw [isWordB_iff] at h
  rw [i64_w]
  unfold wrap64
  rw [BitVec.toNat_ofInt]
  omega
theorem bits_assoc (o : BinOp) (f : BitVec 64 → BitVec 64 → BitVec 64) (hf : ∀ a b : Int, bits o .i64 a b = IntKind.i64.wrap (((f (BitVec.ofInt 64 a) (BitVec.ofInt 64 b)).toNat : Nat) : Int)) (ha : ∀ x y z, f (f x y) z = f x (f y z)) (a b c : Int) : bits o .i64 (bits o .i64 a b) c = bits o .i64 a (bits o .i64 b c) := by
  rw [hf (bits o .i64 a b) c, hf a (bits o .i64 b c), hf a b, hf b c, ofInt_wrap, ofInt_wrap, ha]
theorem joinI_assoc {op nn : Int} (h : neutG op = (nn, 0)) {a b c : Int} (ha : isWordB a = true) (hb : isWordB b = true) (hc : isWordB c = true) : joinI op (joinI op a b) c = joinI op a (joinI op b c) := by
  rw [joinI_deed h (joinI_word h ha hb) hc, joinI_deed h ha (joinI_word h hb hc), joinI_deed h ha hb, joinI_deed h hb hc]
  rcases assoc_ops (assoc_of h).2.1 with rfl | rfl | rfl | rfl | rfl | rfl | rfl
  · show wrap64 (wrap32 (wrap64 (wrap32 (a + b)) + c)) = wrap64 (wrap32 (a + wrap64 (wrap32 (b + c))))
    rw [w64_w32, w64_w32, w64_w32, w64_w32]
    unfold wrap32
    omega
  · show wrap64 (wrap32 (wrap64 (wrap64 (wrap32 (wrap64 (a * b))) * c))) = wrap64 (wrap32 (wrap64 (a * wrap64 (wrap32 (wrap64 (b * c))))))
    simp only [wrap32_64, w64_w32, w32_mul_left, w32_mul_right, Int.mul_assoc]
  · show min (min a b) c = min a (min b c)
    omega
  · show max (max a b) c = max a (max b c)
    omega
  · exact bits_assoc .and (· &&& ·) (fun _ _ => rfl) BitVec.and_assoc a b c
  · exact bits_assoc .or (· ||| ·) (fun _ _ => rfl) BitVec.or_assoc a b c
  · exact bits_assoc .xor (· ^^^ ·) (fun _ _ => rfl) BitVec.xor_assoc a b c
theorem joinI_none {op nn : Int} (h : neutG op = (nn, 0)) {a : Int} (ha : isWordB a = true) : joinI op nn a = a := by
  rw [joinI_deed h (neut_word h) ha]
  have hw := (isWordB_iff a).1 ha
  obtain ⟨_, h2, rfl⟩ := assoc_of h
  rcases assoc_ops h2 with rfl | rfl | rfl | rfl | rfl | rfl | rfl
  · show wrap64 (wrap32 (0 + a)) = a
    rw [Int.zero_add, w64_w32, w32_word ha]
  · show wrap64 (wrap32 (wrap64 (1 * a))) = a
    rw [Int.one_mul, wrap32_64, w64_w32, w32_word ha]
  · show min 2147483647 a = a
    omega
  · show max (-2147483648) a = a
    omega
  · show IntKind.i64.wrap (((BitVec.ofInt 64 (-1) &&& BitVec.ofInt 64 a).toNat : Nat) : Int) = a
    rw [show BitVec.ofInt 64 (-1) = BitVec.allOnes 64 by decide, BitVec.allOnes_and, wrap_ofInt ha]
  · show IntKind.i64.wrap (((BitVec.ofInt 64 0 ||| BitVec.ofInt 64 a).toNat : Nat) : Int) = a
    rw [show BitVec.ofInt 64 0 = 0#64 by decide, BitVec.zero_or, wrap_ofInt ha]
  · show IntKind.i64.wrap (((BitVec.ofInt 64 0 ^^^ BitVec.ofInt 64 a).toNat : Nat) : Int) = a
    rw [show BitVec.ofInt 64 0 = 0#64 by decide, BitVec.zero_xor, wrap_ofInt ha]
theorem joinI_comm {op nn : Int} (h : neutG op = (nn, 0)) {a b : Int} (ha : isWordB a = true) (hb : isWordB b = true) : joinI op a b = joinI op b a := by
  rw [joinI_deed h ha hb, joinI_deed h hb ha]
  rcases assoc_ops (assoc_of h).2.1 with rfl | rfl | rfl | rfl | rfl | rfl | rfl
  · show wrap64 (wrap32 (a + b)) = wrap64 (wrap32 (b + a))
    rw [Int.add_comm]
  · show wrap64 (wrap32 (wrap64 (a * b))) = wrap64 (wrap32 (wrap64 (b * a)))
    rw [Int.mul_comm]
  · show min a b = min b a
    omega
  · show max a b = max b a
    omega
  · show IntKind.i64.wrap (((BitVec.ofInt 64 a &&& BitVec.ofInt 64 b).toNat : Nat) : Int) = IntKind.i64.wrap (((BitVec.ofInt 64 b &&& BitVec.ofInt 64 a).toNat : Nat) : Int)
    rw [BitVec.and_comm]
  · show IntKind.i64.wrap (((BitVec.ofInt 64 a ||| BitVec.ofInt 64 b).toNat : Nat) : Int) = IntKind.i64.wrap (((BitVec.ofInt 64 b ||| BitVec.ofInt 64 a).toNat : Nat) : Int)
    rw [BitVec.or_comm]
  · show IntKind.i64.wrap (((BitVec.ofInt 64 a ^^^ BitVec.ofInt 64 b).toNat : Nat) : Int) = IntKind.i64.wrap (((BitVec.ofInt 64 b ^^^ BitVec.ofInt 64 a).toNat : Nat) : Int)
    rw [BitVec.xor_comm]
theorem joinI_none_r {op nn : Int} (h : neutG op = (nn, 0)) {a : Int} (ha : isWordB a = true) : joinI op a nn = a := by
  rw [joinI_comm h ha (neut_word h), joinI_none h ha]
theorem treeStep_eq (op : Int) (now : List Int) (p : Nat) (h : p + 2 ≤ now.length) : treeStep op now p = (now.take p ++ [joinI op (rd now (p : Int)) (rd now ((p : Int) + 1))]) ++ now.drop (p + 2) := by
  unfold treeStep
  generalize joinI op (rd now (p : Int)) (rd now ((p : Int) + 1)) = v
  congr 1
  · rw [List.take_add_one, List.take_set_of_le (Nat.le_refl _), List.getElem?_set_self (by omega)]
    rfl
  · rw [List.drop_set_of_lt (by omega)]
theorem treeTo_word {op nn : Int} (hn : neutG op = (nn, 0)) {l shape : List Int} (hw : ∀ x ∈ l, isWordB x = true) (h : shapeB l shape = true) : ∀ k, k ≤ shape.length → ∀ x ∈ treeTo op l shape k, isWordB x = true
  | 0, _ => hw
  | k + 1, hk => by
    have ih := treeTo_word hn hw h k (by omega)
    have hl := treeTo_length op h k (by omega)
    obtain ⟨g1, g2, g3⟩ := shapeB_pos h
    have h3 := g3 k (by omega)
    intro x hx
    rw [treeTo, treeStep_eq op _ _ (by omega), List.mem_append, List.mem_append, List.mem_singleton] at hx
    rcases hx with (hx | rfl) | hx
    · exact ih x (List.mem_of_mem_take hx)
    · refine joinI_word hn (rdw ih (by omega)) ?_
      rw [show (((rd shape (k : Int)).toNat : Int) + 1) = (((rd shape (k : Int)).toNat + 1 : Nat) : Int) by omega]
      exact rdw ih (by omega)
    · exact ih x (List.mem_of_mem_drop hx)
theorem segE_all {op : Int} {l lens : List Int} (hn : (neutG op).2 = 0) (h1 : wsE l = 0) (h2 : wsE lens = 0) (h3 : okLens l lens = true) : segE op l lens = 0 := by
  have hl1 := (wsE_ok h1).1
  have hl2 := (wsE_ok h2).1
  unfold segE
  rw [if_pos hn, if_neg (by simp; omega), if_neg (by simp [h1, h2]), if_pos h3]
theorem wsE_zero {l : List Int} (h1 : l.length ≤ 1048576) (h2 : ∀ x ∈ l, isWordB x = true) : wsE l = 0 := by
  rw [wsE_words h1]
  have : noWords l = false := by
    unfold noWords
    rw [List.any_eq_false]
    intro x hx
    simp [h2 x hx]
  rw [this]
  rfl
theorem lvE_9 {n : Nat} (h : n ≤ 400) : lvE n ≤ 9 := by
  rcases Nat.lt_or_ge 9 (lvE n) with h1 | h1
  · have := lvE_lt h1
    omega
  · exact h1
theorem halvesTo_word {op nn : Int} (hn : neutG op = (nn, 0)) {l : List Int} (hw : ∀ x ∈ l, isWordB x = true) : ∀ k, 2 * k ≤ l.length → ∀ x ∈ halvesTo op l k, isWordB x = true
  | 0, _ => by intro x hx; simp [halvesTo] at hx
  | k + 1, hk => by
    intro x hx
    rw [halvesTo, List.mem_append, List.mem_singleton] at hx
    rcases hx with hx | rfl
    · exact halvesTo_word hn hw k (by omega) x hx
    · exact joinI_word hn (rdw hw (by omega)) (rdw hw (by omega))
theorem lvlI_word {op nn : Int} (hn : neutG op = (nn, 0)) {l : List Int} (hw : ∀ x ∈ l, isWordB x = true) : ∀ k, ∀ x ∈ lvlI op l k, isWordB x = true
  | 0 => hw
  | k + 1 => halvesTo_word hn (lvlI_word hn hw k) _ (by omega)
theorem rdL_lvs (op : Int) (fi : List Int) (i k : Nat) (h : k < i) : rd_L1 (lvsI op fi i) (k : Int) = lvlI op fi k := by
  rw [rdL_get (by rw [lvsI_length]; exact h)]
  simp [lvsI]
theorem first_word {op nn : Int} (hn : neutG op = (nn, 0)) {l : List Int} (hw : ∀ x ∈ l, isWordB x = true) : ∀ x ∈ lvFirst nn l, isWordB x = true := by
  intro x hx
  unfold lvFirst at hx
  rw [List.mem_append] at hx
  rcases hx with hx | hx
  · exact hw x hx
  · rw [(List.mem_replicate.1 hx).2]
    exact neut_word hn
theorem f_opOf (n : Int) : ∃ op nn, w05_opOf.f n = some op ∧ neutG op = (nn, 0) := by
  obtain ⟨t, h1, h2, h3⟩ := f_Turn n 7 (by omega)
  have h3 := h3 (by omega)
  have e : w05_opOf.f n = some (rd [0, 2, 7, 8, 9, 10, 11] t) := by
    unfold w05_opOf.f
    rw [Option.bind_some, h1, Option.bind_some, if_pos h2, if_pos (by simpa using h3)]
  rw [e]
  have : t = 0 ∨ t = 1 ∨ t = 2 ∨ t = 3 ∨ t = 4 ∨ t = 5 ∨ t = 6 := by omega
  rcases this with rfl | rfl | rfl | rfl | rfl | rfl | rfl
  · exact ⟨_, _, rfl, rfl⟩
  · exact ⟨_, _, rfl, rfl⟩
  · exact ⟨_, _, rfl, rfl⟩
  · exact ⟨_, _, rfl, rfl⟩
  · exact ⟨_, _, rfl, rfl⟩
  · exact ⟨_, _, rfl, rfl⟩
  · exact ⟨_, _, rfl, rfl⟩
theorem ev_Wrap (l : List Int) (most : Nat) (hm : most ≤ 1000) (hl : Sh l) : ∃ a, Ev (fun k => r00_Wrap.f k l (most : Int)) a ∧ a.length = min l.length most ∧ (∀ x ∈ a, isWordB x = true) := by
  let g : Nat → Int := fun i => wrap64 (wrap32 (rd l (i : Int)))
  have H := up (n := min l.length most) (P := fun i => Ev (fun k => r00_Wrap.l0 k l (most : Int) ((List.range i).map g) (i : Int)) ((List.range (min l.length most)).map g))
    (Ev.step (f := fun _ => some ((List.range (min l.length most)).map g)) (fun k => by
      simp only [r00_Wrap.l0]
      by_cases h : ((min l.length most : Nat) : Int) < (l.length : Int)
      · rw [if_pos h, if_neg (by omega)]
      · rw [if_neg h]) (Ev.now _))
    (fun i hi ih => by
      refine Ev.step (f := fun k => r00_Wrap.l0 k l (most : Int) ((List.range (i + 1)).map g) ((i + 1 : Nat) : Int)) (fun k => ?_) ih
      simp only [r00_Wrap.l0]; rw [if_pos (by omega), if_pos (by omega), if_pos (by omega), f_Word]
      simp only [Option.bind_some]
      rw [if_pos (by simp; omega), wsucc hi (by omega), List.range_succ, List.map_append]
      rfl) 0 (Nat.zero_le _)
  refine ⟨(List.range (min l.length most)).map g, H, by simp, fun x hx => ?_⟩
  obtain ⟨i, _, rfl⟩ := List.mem_map.1 hx
  exact wrap32_word _
/-- All words, joined. -/
def foldG (op nn : Int) (l : List Int) : Int := l.foldl (joinI op) nn
theorem now_fold (op nn : Int) (l : List Int) : ∀ k, k ≤ l.length → nowAt op nn l 0 k = foldG op nn (l.take k)
  | 0, _ => rfl
  | k + 1, hk => by
    rw [nowAt, now_fold op nn l k (by omega), Nat.zero_add, take_rd (by omega)]
    unfold foldG
    rw [List.foldl_append]
    rfl
theorem now_all (op nn : Int) (l : List Int) : nowAt op nn l 0 l.length = foldG op nn l := by
  rw [now_fold op nn l _ (Nat.le_refl _), List.take_length]
theorem foldG_word {op nn : Int} (hn : neutG op = (nn, 0)) (l : List Int) (hw : ∀ x ∈ l, isWordB x = true) : isWordB (foldG op nn l) = true := by
  rw [← now_all]
  exact nowAt_word hn hw 0 _ (by omega)
theorem foldG_pair {op nn : Int} (hn : neutG op = (nn, 0)) (a b : List Int) (x y : Int) (ha : ∀ x ∈ a, isWordB x = true) (hx : isWordB x = true) (hy : isWordB y = true) : foldG op nn ((a ++ [joinI op x y]) ++ b) = foldG op nn ((a ++ [x, y]) ++ b) := by
  unfold foldG
  rw [List.foldl_append, List.foldl_append, List.foldl_append, List.foldl_append]
  congr 1
  have hw := foldG_word hn a ha
  unfold foldG at hw
  show joinI op _ (joinI op x y) = joinI op (joinI op _ x) y
  rw [joinI_assoc hn hw hx hy]
theorem foldG_one {op nn : Int} (hn : neutG op = (nn, 0)) {x : Int} (hx : isWordB x = true) : foldG op nn [x] = x := joinI_none hn hx
theorem fold_halves {op nn : Int} (hn : neutG op = (nn, 0)) {l : List Int} (hw : ∀ x ∈ l, isWordB x = true) : ∀ k, 2 * k ≤ l.length → foldG op nn (halvesTo op l k) = foldG op nn (l.take (2 * k))
  | 0, _ => rfl
  | k + 1, hk => by
    have ih := fold_halves hn hw k (by omega)
    rw [halvesTo, show 2 * (k + 1) = (2 * k + 1) + 1 by omega, take_rd (show 2 * k + 1 < l.length by omega), take_rd (show 2 * k < l.length by omega)]
    unfold foldG at ih ⊢
    rw [List.foldl_append, List.foldl_append, List.foldl_append, ih]
    have hww := foldG_word hn (l.take (2 * k)) (fun x hx => hw x (List.mem_of_mem_take hx))
    unfold foldG at hww
    show joinI op _ (joinI op _ _) = joinI op (joinI op _ _) _
    rw [joinI_assoc hn hww (rdw hw (by omega)) (rdw hw (by omega))]
theorem fold_first {op nn : Int} (hn : neutG op = (nn, 0)) {l : List Int} (hw : ∀ x ∈ l, isWordB x = true) : foldG op nn (lvFirst nn l) = foldG op nn l := by
  unfold lvFirst
  generalize 2 ^ lvE l.length - l.length = q
  induction q with
  | zero => simp
  | succ q ih =>
    rw [← rep_snoc]
    unfold foldG at ih ⊢
    rw [List.foldl_append, ih]
    exact joinI_none_r hn (foldG_word hn l hw)
theorem fold_level {op nn : Int} (hn : neutG op = (nn, 0)) {fi : List Int} {E : Nat} (hl : fi.length = 2 ^ E) (hw : ∀ x ∈ fi, isWordB x = true) : ∀ j, j ≤ E → foldG op nn (lvlI op fi j) = foldG op nn fi
  | 0, _ => rfl
  | j + 1, hj => by
    have hlj := lvlI_length op fi E hl j (by omega)
    have he : 2 * ((lvlI op fi j).length / 2) = (lvlI op fi j).length := by
      rw [hlj, show E - j = (E - j - 1) + 1 by omega, Nat.pow_succ]
      omega
    rw [lvlI, fold_halves hn (lvlI_word hn hw j) _ (by omega), he, List.take_length, fold_level hn hl hw j (by omega)]
/-- The word of the last level. -/
theorem last_level {op nn : Int} (hn : neutG op = (nn, 0)) {l : List Int} (hw : ∀ x ∈ l, isWordB x = true) : lvlI op (lvFirst nn l) (lvE l.length) = [foldG op nn l] := by
  have hfl := lvFirst_length nn l
  have hfw := first_word hn hw
  have hlen := lvlI_length op (lvFirst nn l) _ hfl _ (Nat.le_refl _)
  rw [Nat.sub_self, Nat.pow_zero] at hlen
  have hf := fold_level hn hfl hfw _ (Nat.le_refl _)
  rw [fold_first hn hw] at hf
  have hww := lvlI_word hn hfw (lvE l.length)
  obtain ⟨x, hx⟩ := List.length_eq_one_iff.1 hlen
  rw [hx] at hf hww ⊢
  rw [foldG_one hn (hww x (by simp))] at hf
  rw [hf]
theorem fold_tree {op nn : Int} (hn : neutG op = (nn, 0)) {l shape : List Int} (hw : ∀ x ∈ l, isWordB x = true) (h : shapeB l shape = true) : ∀ k, k ≤ shape.length → foldG op nn (treeTo op l shape k) = foldG op nn l
  | 0, _ => rfl
  | k + 1, hk => by
    have ih := fold_tree hn hw h k (by omega)
    have hl := treeTo_length op h k (by omega)
    have hww := treeTo_word hn hw h k (by omega)
    obtain ⟨g1, g2, g3⟩ := shapeB_pos h
    have h3 := g3 k (by omega)
    have hp : (rd shape (k : Int)).toNat + 2 ≤ (treeTo op l shape k).length := by omega
    rw [treeTo, treeStep_eq op _ _ hp, ← ih]
    generalize (rd shape (k : Int)).toNat = p at *
    generalize treeTo op l shape k = now at *
    rw [foldG_pair hn _ _ _ _ (fun x hx => hww x (List.mem_of_mem_take hx)) (rdw hww (by omega)) (by
      rw [show ((p : Int) + 1) = ((p + 1 : Nat) : Int) by omega]
      exact rdw hww (by omega))]
    congr 1
    have e1 : now.take p ++ [rd now (p : Int), rd now ((p : Int) + 1)] = now.take (p + 2) := by
      rw [show ((p : Int) + 1) = ((p + 1 : Nat) : Int) by omega, take_rd (show p + 1 < now.length by omega), take_rd (show p < now.length by omega), List.append_assoc]
      rfl
    rw [e1, List.take_append_drop]
theorem segE_fine {op nn : Int} (hn : neutG op = (nn, 0)) {l lens : List Int} (h1 : l.length ≤ 1048576) (hw : ∀ x ∈ l, isWordB x = true) (h2 : lens.length ≤ 1048576) (hw2 : ∀ x ∈ lens, isWordB x = true) (h3 : okLens l lens = true) : segE op l lens = 0 :=
  segE_all (by rw [hn]) (wsE_zero h1 hw) (wsE_zero h2 hw2) h3
theorem okLens_one (l : List Int) : okLens l [(l.length : Int)] = true := by
  have h2 := startOf_succ [(l.length : Int)] (0 : Int) (by omega) (by simp)
  have e : rd [(l.length : Int)] 0 = (l.length : Int) := rfl
  have e0 : startOf [(l.length : Int)] 0 = 0 := by simp [startOf]
  rw [e, e0] at h2
  have h3 : startOf [(l.length : Int)] ((([(l.length : Int)] : List Int).length : Nat) : Int) = l.length := by
    show startOf [(l.length : Int)] (0 + 1) = l.length
    rw [h2]
    omega
  simp only [okLens, h3]
  simp
theorem len_word {n : Nat} (h : n ≤ 1048576) : ∀ x ∈ [(n : Int)], isWordB x = true := by
  intro x hx
  rw [List.mem_singleton] at hx
  rw [hx, isWordB_iff]
  omega
theorem fold_one {op nn : Int} (hn : neutG op = (nn, 0)) {l : List Int} (h1 : l.length ≤ 1048576) (hw : ∀ x ∈ l, isWordB x = true) : scan_Fold.g op l [(l.length : Int)] = ([foldG op nn l], 0) := by
  unfold scan_Fold.g
  rw [told_segE, if_pos (segE_fine hn h1 hw (by simp) (len_word h1) (okLens_one l)), hn]
  show (segTo op nn l [(l.length : Int)] false (fun _ _ => 0) true (0 + 1), 0) = _
  rw [segTo_false]
  have e : (rd [(l.length : Int)] ((0 : Nat) : Int)).toNat = l.length := by
    show ((l.length : Int)).toNat = l.length
    omega
  have e0 : startOf [(l.length : Int)] ((0 : Nat) : Int) = 0 := by simp [startOf]
  rw [e, e0, now_all]
  rfl
theorem tree_fine {op nn : Int} (hn : neutG op = (nn, 0)) {l shape : List Int} (h1 : l.length ≤ 1048576) (hw : ∀ x ∈ l, isWordB x = true) (h : shapeB l shape = true) : scan_Tree.g op l shape = (foldG op nn l, 0) := by
  have hs : wsE l = 0 := wsE_zero h1 hw
  have e : scan_Tree.g op l shape = (rd (treeTo op l shape shape.length) 0, 0) := by
    unfold scan_Tree.g
    simp [hn, hs, h]
  obtain ⟨g1, g2, g3⟩ := shapeB_pos h
  have hl := treeTo_length op h shape.length (Nat.le_refl _)
  have hf := fold_tree hn hw h shape.length (Nat.le_refl _)
  have hww := treeTo_word hn hw h shape.length (Nat.le_refl _)
  obtain ⟨x, hx⟩ := List.length_eq_one_iff.1 (show (treeTo op l shape shape.length).length = 1 by omega)
  rw [e, ← hf, hx]
  rw [hx] at hww
  rw [foldG_one hn (hww x (by simp))]
  rfl
theorem levels_fine {op nn : Int} (hn : neutG op = (nn, 0)) {l : List Int} (h1 : l.length ≤ 1048576) (hw : ∀ x ∈ l, isWordB x = true) : scan_Levels.g op l = (lvsI op (lvFirst nn l) (lvE l.length + 1), 0) := by
  have hs : wsE l = 0 := wsE_zero h1 hw
  unfold scan_Levels.g
  simp [hn, hs]
theorem shape_round {op nn : Int} (hn : neutG op = (nn, 0)) {a : List Int} (h0 : 0 < a.length) (h1 : a.length ≤ 60) (hw : ∀ x ∈ a, isWordB x = true) (l2 l3 : List Int) (s2 : Sh l2) (s3 : Sh l3) (i : Int) (hi : 0 ≤ i ∧ i < 2) (next : Ev (fun k => w05_ScanShapes.l0 k l2 l3 op a [foldG op nn a] (wrap64 (i + 1))) true) : Ev (fun k => w05_ScanShapes.l1 k l2 l3 op a [foldG op nn a] i [] (a.length : Int)) true := by
  have H := up (n := a.length - 1) (P := fun j => ∀ sh : List Int, sh.length = j → (∀ q : Nat, q < j → 0 ≤ rd sh (q : Int) ∧ rd sh (q : Int) ≤ (a.length : Int) - 2 - (q : Int)) → Ev (fun k => w05_ScanShapes.l1 k l2 l3 op a [foldG op nn a] i sh ((a.length : Int) - (j : Int))) true)
    (fun sh hl hq => by
      have hs : shapeB a sh = true := by
        unfold shapeB
        rw [decide_eq_true h0, decide_eq_true (show sh.length + 1 = a.length by omega), Bool.true_and, Bool.true_and, List.all_eq_true]
        intro q hq2
        rw [List.mem_range] at hq2
        have := hq q (by omega)
        rw [decide_eq_true this.1, decide_eq_true this.2]
        rfl
      have ht := tree_fine hn (by omega) hw hs
      refine Ev.step (f := fun k => w05_ScanShapes.l0 k l2 l3 op a [foldG op nn a] (wrap64 (i + 1))) (fun k => ?_) next
      simp only [w05_ScanShapes.l1]
      rw [if_neg (by omega)]
      simp only [sTree.f, ht, Option.bind_some]
      rw [if_pos trivial, if_pos (by simp), if_pos (show foldG op nn a = rd [foldG op nn a] 0 from rfl)])
    (fun j hj ih sh hl hq => by
      obtain ⟨x, hx⟩ : ∃ x, r00_Nth.f (rd_L1 [l2, l3] i) ((a.length : Int) - (j : Int)) = some x := by
        rcases (show i = 0 ∨ i = 1 by omega) with rfl | rfl
        · exact f_Nth l2 _ s2
        · exact f_Nth l3 _ s3
      have w1 : wrap64 ((a.length : Int) - (j : Int) - 1) = (a.length : Int) - ((j + 1 : Nat) : Int) := by rw [wrap_in (by omega) (by omega)]; omega
      obtain ⟨t, h2, h3, h4⟩ := f_Turn (wrap64 (x + wrap64 (i * ((a.length : Int) - (j : Int))))) ((a.length : Int) - ((j + 1 : Nat) : Int)) (by omega)
      have h5 := h4 (by omega)
      refine Ev.step (f := fun k => w05_ScanShapes.l1 k l2 l3 op a [foldG op nn a] i (sh ++ [t]) ((a.length : Int) - ((j + 1 : Nat) : Int))) (fun k => ?_) (ih (sh ++ [t]) (by simp [hl]) (fun q hq2 => ?_))
      · simp only [w05_ScanShapes.l1]
        rw [if_pos (by omega)]
        simp only [Option.bind_some]
        rw [if_pos hi.1, if_pos (show i < (([l2, l3] : List (List Int)).length : Int) from hi.2), hx]
        simp only [Option.bind_some]
        rw [w1, h2]
        simp only [Option.bind_some]
        rw [if_pos (by omega)]
      · rcases (show q < j ∨ q = j by omega) with h | rfl
        · rw [rd_app_left _ _ _ (by omega)]
          exact hq q h
        · have e : rd (sh ++ [t]) (q : Int) = t := by
            have := rd_app_right sh [t] 0
            rw [hl] at this
            exact this
          rw [e]
          omega) 0 (Nat.zero_le _) [] rfl (fun q hq => by omega)
  simpa using H
theorem ScanShapes : w05_ScanShapes.Pure := by
  intro n l1 l2 l3 _ _ h1 _ _ h2 _ _ h3 _
  have s1 : Sh l1 := by unfold Sh; omega
  have s2 : Sh l2 := by unfold Sh; omega
  have s3 : Sh l3 := by unfold Sh; omega
  have key : Ev (fun k => w05_ScanShapes.f k n l1 l2 l3) true := by
    obtain ⟨op, nn, ho, hn⟩ := f_opOf n
    obtain ⟨a, ha, hal, haw⟩ := ev_Wrap l1 60 (by omega) s1
    unfold w05_ScanShapes.f
    rw [ho]
    simp only [Option.bind_some]
    refine Ev.bind ha ?_
    have hal : a.length ≤ 60 := by omega
    by_cases h0 : a.length = 0
    · refine Ev.congr (f := fun _ => some true) (fun k => ?_) (Ev.now _)
      rw [if_pos (by omega)]
      rfl
    · have hlast := last_level hn haw
      have hlen := lvsI_length op (lvFirst nn a) (lvE a.length + 1)
      have hE : lvE a.length ≤ 9 := lvE_9 (by omega)
      have hrd := rdL_lvs op (lvFirst nn a) (lvE a.length + 1) (lvE a.length) (by omega)
      rw [hlast] at hrd
      have hw1 : wrap64 (((lvsI op (lvFirst nn a) (lvE a.length + 1)).length : Int) - 1) = ((lvE a.length : Nat) : Int) := by rw [hlen, wrap_in (by omega) (by omega)]; omega
      refine Ev.congr (f := fun k => w05_ScanShapes.j0 k l2 l3 op a [foldG op nn a] false) (fun k => ?_) ?_
      · rw [if_neg (by omega)]
        simp only [sFold.f, fold_one hn (show a.length ≤ 1048576 by omega) haw, Option.bind_some, sLevels.f, levels_fine hn (show a.length ≤ 1048576 by omega) haw, hw1]
        rw [if_pos trivial, if_pos trivial, if_pos (show (([foldG op nn a] : List Int).length : Int) = 1 from rfl), if_neg (by omega), if_pos (by omega), if_pos (by omega), hrd]
        simp [Eq_.f]
      · refine Ev.step (f := fun k => w05_ScanShapes.l0 k l2 l3 op a [foldG op nn a] 0) (fun k => by simp only [w05_ScanShapes.j0]; rw [if_neg (by simp)]) ?_
        refine Ev.step (f := fun k => w05_ScanShapes.l1 k l2 l3 op a [foldG op nn a] 0 [] (a.length : Int)) (fun k => by simp only [w05_ScanShapes.l0]; rw [if_pos (by omega)]) ?_
        refine shape_round hn (by omega) hal haw l2 l3 s2 s3 0 (by omega) ?_
        refine Ev.step (f := fun k => w05_ScanShapes.l1 k l2 l3 op a [foldG op nn a] 1 [] (a.length : Int)) (fun k => by simp only [w05_ScanShapes.l0]; rw [show wrap64 (0 + 1) = 1 by unfold wrap64; omega, if_pos (by omega)]) ?_
        refine shape_round hn (by omega) hal haw l2 l3 s2 s3 1 (by omega) ?_
        refine Ev.step (f := fun _ => some true) (fun k => by simp only [w05_ScanShapes.l0]; rw [show wrap64 (1 + 1) = 2 by unfold wrap64; omega, if_neg (by omega)]; rfl) (Ev.now _)
  obtain ⟨k, hk⟩ := key
  exact ⟨k, hk k (Nat.le_refl _)⟩
end Go.Proofs.YtpenkemabeonaaaDoor.Pure
