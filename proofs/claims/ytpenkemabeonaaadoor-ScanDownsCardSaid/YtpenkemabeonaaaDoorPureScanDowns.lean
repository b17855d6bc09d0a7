/- ScanDowns: Down returns what the reference returns, for any operation, levels and number; it is told of numbers and lists alone. -/
import Derived.Test.YtpenkemabeonaaaDoorPScanDownsx
namespace Go.Proofs.YtpenkemabeonaaaDoor.Pure
open Go.RowKit Go.Proofs.YtpenkemabeonaaaDoor.PScanDowns Go.Proofs.YtpenkemabeonaaaDoor.Hand Go.Proofs.YtpenkemabeonaaaDoorW.PrintWords Go.Proofs.YtpenkemabeonaaaDoorW.PrintLast Go.Proofs.YtpenkemabeonaaaDoorW.PrintMore
set_option linter.unusedVariables false
set_option linter.unusedSimpArgs false
/-- Lists so short that a place's successor is no other number. -/
def Sh {α : Type} (l : List α) : Prop := l.length ≤ 4611686018427387904
theorem wsucc {i n : Nat} (h : i < n) (hn : n ≤ 4611686018427387904) : wrap64 ((i : Int) + 1) = ((i + 1 : Nat) : Int) := by unfold wrap64; omega
theorem rd_get {l : List Int} {i : Nat} (h : i < l.length) : rd l (i : Int) = l[i] := by simp [rd, h]
theorem drop_rd {l : List Int} {i : Nat} (h : i < l.length) : l.drop i = rd l (i : Int) :: l.drop (i + 1) := by rw [List.drop_eq_getElem_cons h, rd_get h]
theorem up {n : Nat} {P : Nat → Prop} (h0 : P n) (hs : ∀ i, i < n → P (i + 1) → P i) (i : Nat) (hi : i ≤ n) : P i := by
  have key : ∀ d, ∀ i, i + d = n → P i := by
    intro d
    induction d with
    | zero => intro i h; have : i = n := by omega
              subst this; exact h0
    | succ d ih => intro i h; exact hs i (by omega) (ih (i + 1) (by omega))
  exact key (n - i) i (by omega)
theorem f_Lies (a b c : Int) : r00_Lies.f a b c = some (decide (b ≤ a) && decide (a ≤ c)) := by unfold r00_Lies.f; split <;> simp [*]
theorem f_IsWord (n : Int) : r00_IsWord.f n = some (isWordB n) := by unfold r00_IsWord.f; rw [f_Lies]; rfl
theorem f_Word (n : Int) : r00_Word.f n = some (wrap64 (wrap32 n)) := by
  unfold r00_Word.f
  congr 2
  unfold wrap32 IntKind.wrap
  simp only [IntKind.signed, IntKind.bits]
  simp
theorem ev_Words (l : List Int) (hl : Sh l) : Ev (fun k => r00_Words.f k l) (!noWords l) := by
  have H := up (n := l.length) (P := fun i => Ev (fun k => r00_Words.l0 k l (i : Int)) (!noWords (l.drop i)))
    (Ev.step (f := fun _ => some true) (fun k => by simp only [r00_Words.l0]; rw [if_neg (by omega)]) (by rw [List.drop_length]; exact Ev.now _))
    (fun i hi ih => by
      cases hw : isWordB (rd l (i : Int))
      · rw [drop_rd hi]
        refine Ev.step (f := fun _ => some false) (fun k => ?_) (by simp only [noWords, List.any_cons, hw]; exact Ev.now _)
        simp only [r00_Words.l0]; rw [if_pos (by omega), if_pos (by omega), f_IsWord, hw]; rfl
      · rw [drop_rd hi]
        refine Ev.step (f := fun k => r00_Words.l0 k l ((i + 1 : Nat) : Int)) (fun k => ?_) (by simp only [noWords, List.any_cons, hw]; exact ih)
        simp only [r00_Words.l0]; rw [if_pos (by omega), if_pos (by omega), f_IsWord, hw, wsucc hi hl]; rfl) 0 (Nat.zero_le _)
  exact H
theorem wrap32_64 (x : Int) : wrap32 (wrap64 x) = wrap32 x := by unfold wrap32 wrap64; omega
theorem isWordB_iff (n : Int) : isWordB n = true ↔ -2147483648 ≤ n ∧ n ≤ 2147483647 := by simp [isWordB]
theorem f_truth (b : Bool) : r01_truth.f b = some (truthI b) := by cases b <;> rfl
theorem wrap_in {n : Int} (h0 : -9223372036854775808 ≤ n) (h1 : n ≤ 9223372036854775807) : wrap64 n = n := by unfold wrap64; omega
theorem tmod_zero (a b : Int) : a.tdiv b * b = a ↔ a.tmod b = 0 := by
  have := Int.tdiv_mul_add_tmod a b
  omega
theorem f_quotient (a b : Int) (ha : W32 a) (hb : W32 b) (h0 : b ≠ 0) : r01_quotient.f a b = some (quot a b) := by
  have hr := tdiv_range a b ha
  have hm : (a.tdiv b * b).natAbs ≤ a.natAbs := by
    rw [Int.natAbs_mul, Int.natAbs_tdiv]
    exact Nat.div_mul_le_self _ _
  unfold r01_quotient.f quot quotB
  rw [if_neg h0, wrap_in (n := a.tdiv b) (by omega) (by omega)]
  rw [wrap_in (n := a.tdiv b * b) (by unfold W32 at ha; omega) (by unfold W32 at ha; omega)]
  by_cases hz : a.tmod b = 0
  · rw [if_pos ((tmod_zero a b).2 hz), if_neg (by simp [hz])]
  · rw [if_neg (fun h => hz ((tmod_zero a b).1 h))]
    have hz2 : (a.tmod b != 0) = true := by simpa using hz
    rw [hz2, Bool.true_and]
    by_cases hs : ((decide (a < 0)) != (decide (b < 0))) = true
    · rw [if_pos hs, if_pos hs, wrap_in (by omega) (by omega)]
    · rw [if_neg hs, if_neg hs]
theorem mn_min (a b : Int) : mn a b = min a b := by unfold mn; split <;> omega
theorem mx_max (a b : Int) : mx a b = max a b := by unfold mx; split <;> omega
theorem f_Value (op a b : Int) (ha : W32 a) (hb : W32 b) (hz : zeroB op b = false) : r01_Value.f op a b = some (deed op a b) := by
  unfold r01_Value.f deed
  by_cases h0 : op = 0
  · rw [if_pos h0, if_pos h0, f_Word, wrap32_64]; rfl
  rw [if_neg h0, if_neg h0]
  by_cases h1 : op = 1
  · rw [if_pos h1, if_pos h1, f_Word, wrap32_64]; rfl
  rw [if_neg h1, if_neg h1]
  by_cases h2 : op = 2
  · rw [if_pos h2, if_pos h2, f_Word]; rfl
  rw [if_neg h2, if_neg h2]
  by_cases h3 : op = 3
  · rw [if_pos h3, if_pos h3]
    have hb0 : b ≠ 0 := by intro h; simp [zeroB, h, h3] at hz
    rw [f_quotient a b ha hb hb0]
    simp only [Option.bind_some]
    rw [f_Word]; rfl
  rw [if_neg h3, if_neg h3]
  by_cases h4 : op = 4
  · rw [if_pos h4, if_pos h4]
    have hb0 : b ≠ 0 := by intro h; simp [zeroB, h, h4] at hz
    rw [f_quotient a b ha hb hb0]
    simp only [Option.bind_some]
    rw [Int.mul_comm]
  rw [if_neg h4, if_neg h4]
  by_cases h5 : op = 5
  · rw [if_pos h5, if_pos h5, f_truth]; rfl
  rw [if_neg h5, if_neg h5]
  by_cases h6 : op = 6
  · rw [if_pos h6, if_pos h6, f_truth]; rfl
  rw [if_neg h6, if_neg h6]
  by_cases h7 : op = 7
  · rw [if_pos h7, if_pos h7, mn_min]
  rw [if_neg h7, if_neg h7]
  by_cases h8 : op = 8
  · rw [if_pos h8, if_pos h8, mx_max]
  rw [if_neg h8, if_neg h8]
  by_cases h9 : op = 9
  · rw [if_pos h9, if_pos h9]
  rw [if_neg h9, if_neg h9]
  by_cases h10 : op = 10
  · rw [if_pos h10, if_pos h10]
  rw [if_neg h10, if_neg h10]
theorem Do_ok (op a b : Int) (ho : isOpB op = true) (ha : isWordB a = true) (hb : isWordB b = true) : word_Do.g op a b = if zeroB op b then (0, 14) else (deed op a b, 0) := by
  unfold word_Do.g
  rw [ho, ha, hb]; rfl
theorem i64_toInt (x : BitVec 64) : IntKind.i64.wrap (x.toNat : Int) = x.toInt := by
  have h : IntKind.i64.wrap (x.toNat : Int) = ((x.toNat : Int) + 9223372036854775808) % 18446744073709551616 - 9223372036854775808 := by
    simp [IntKind.wrap, IntKind.bits, IntKind.signed]
    split <;> omega
  rw [h, BitVec.toInt_eq_toNat_cond]
  have := x.isLt
  split <;> omega
theorem ext64 (a : Int) (h : -2147483648 ≤ a ∧ a ≤ 2147483647) : BitVec.ofInt 64 a = (BitVec.ofInt 32 a).signExtend 64 := by
  apply BitVec.eq_of_toInt_eq
  rw [BitVec.toInt_signExtend_of_le (by decide), BitVec.toInt_ofInt, BitVec.toInt_ofInt]
  rw [Int.bmod_eq_of_le (by omega) (by omega), Int.bmod_eq_of_le (by omega) (by omega)]
theorem word_of_ext (c : BitVec 32) : -2147483648 ≤ IntKind.i64.wrap (((c.signExtend 64).toNat : Nat) : Int) ∧ IntKind.i64.wrap (((c.signExtend 64).toNat : Nat) : Int) ≤ 2147483647 := by
  rw [i64_toInt, BitVec.toInt_signExtend_of_le (by decide)]
  have h1 := BitVec.le_toInt c
  have h2 := BitVec.toInt_lt (x := c)
  omega
theorem and_word (a b : Int) (ha : -2147483648 ≤ a ∧ a ≤ 2147483647) (hb : -2147483648 ≤ b ∧ b ≤ 2147483647) : -2147483648 ≤ bits .and .i64 a b ∧ bits .and .i64 a b ≤ 2147483647 := by
  have e : bits .and .i64 a b = IntKind.i64.wrap ((((BitVec.ofInt 32 a &&& BitVec.ofInt 32 b).signExtend 64).toNat : Nat) : Int) := by
    show IntKind.i64.wrap (((BitVec.ofInt 64 a &&& BitVec.ofInt 64 b).toNat : Nat) : Int) = _
    rw [ext64 a ha, ext64 b hb, BitVec.signExtend_and]
  rw [e]; exact word_of_ext _
theorem or_word (a b : Int) (ha : -2147483648 ≤ a ∧ a ≤ 2147483647) (hb : -2147483648 ≤ b ∧ b ≤ 2147483647) : -2147483648 ≤ bits .or .i64 a b ∧ bits .or .i64 a b ≤ 2147483647 := by
  have e : bits .or .i64 a b = IntKind.i64.wrap ((((BitVec.ofInt 32 a ||| BitVec.ofInt 32 b).signExtend 64).toNat : Nat) : Int) := by
    show IntKind.i64.wrap (((BitVec.ofInt 64 a ||| BitVec.ofInt 64 b).toNat : Nat) : Int) = _
    rw [ext64 a ha, ext64 b hb, BitVec.signExtend_or]
  rw [e]; exact word_of_ext _
theorem xor_word (a b : Int) (ha : -2147483648 ≤ a ∧ a ≤ 2147483647) (hb : -2147483648 ≤ b ∧ b ≤ 2147483647) : -2147483648 ≤ bits .xor .i64 a b ∧ bits .xor .i64 a b ≤ 2147483647 := by
  have e : bits .xor .i64 a b = IntKind.i64.wrap ((((BitVec.ofInt 32 a ^^^ BitVec.ofInt 32 b).signExtend 64).toNat : Nat) : Int) := by
    show IntKind.i64.wrap (((BitVec.ofInt 64 a ^^^ BitVec.ofInt 64 b).toNat : Nat) : Int) = _
    rw [ext64 a ha, ext64 b hb, BitVec.signExtend_xor]
  rw [e]; exact word_of_ext _
/-- An operation, but division. -/
def plainOp (op : Int) : Prop := 0 ≤ op ∧ op < 12 ∧ op ≠ 3 ∧ op ≠ 4
theorem deed_word (op a b : Int) (ho : plainOp op) (ha : isWordB a = true) (hb : isWordB b = true) : isWordB (deed op a b) = true := by
  rw [isWordB_iff] at *
  unfold deed
  by_cases h0 : op = 0
  · rw [if_pos h0]; unfold wrap64 wrap32; omega
  rw [if_neg h0]
  by_cases h1 : op = 1
  · rw [if_pos h1]; unfold wrap64 wrap32; omega
  rw [if_neg h1]
  by_cases h2 : op = 2
  · rw [if_pos h2]; generalize wrap64 (a * b) = x; unfold wrap64 wrap32; omega
  rw [if_neg h2, if_neg ho.2.2.1, if_neg ho.2.2.2]
  by_cases h5 : op = 5
  · rw [if_pos h5]; unfold truthI; split <;> omega
  rw [if_neg h5]
  by_cases h6 : op = 6
  · rw [if_pos h6]; unfold truthI; split <;> omega
  rw [if_neg h6]
  by_cases h7 : op = 7
  · rw [if_pos h7]; omega
  rw [if_neg h7]
  by_cases h8 : op = 8
  · rw [if_pos h8]; omega
  rw [if_neg h8]
  by_cases h9 : op = 9
  · rw [if_pos h9]; exact and_word a b ha hb
  rw [if_neg h9]
  by_cases h10 : op = 10
  · rw [if_pos h10]; exact or_word a b ha hb
  rw [if_neg h10]
  exact xor_word a b ha hb
theorem f_Neutral (op : Int) : rNeut.f op = some (neutG op) := rfl
/-- An operation that is associative. -/
theorem assoc_of {op nn : Int} (h : neutG op = (nn, 0)) : isOpB op = true ∧ assocB op = true ∧ nn = neutI op := by
  unfold neutG at h
  cases h1 : isOpB op
  · rw [h1] at h; simp at h
  · cases h2 : assocB op
    · rw [h1, h2] at h; simp at h
    · rw [h1, h2] at h
      simp at h
      exact ⟨rfl, rfl, h.symm⟩
theorem assoc_ops {op : Int} (h : assocB op = true) : op = 0 ∨ op = 2 ∨ op = 7 ∨ op = 8 ∨ op = 9 ∨ op = 10 ∨ op = 11 := by
  simp only [assocB, Bool.or_eq_true, beq_iff_eq] at h
  omega
theorem assoc_zero {op : Int} (h : assocB op = true) (b : Int) : zeroB op b = false := by
  rcases assoc_ops h with rfl | rfl | rfl | rfl | rfl | rfl | rfl <;> simp [zeroB]
theorem assoc_plain {op : Int} (h : assocB op = true) : plainOp op := by
  unfold plainOp
  rcases assoc_ops h with rfl | rfl | rfl | rfl | rfl | rfl | rfl <;> omega
theorem neut_word {op nn : Int} (h : neutG op = (nn, 0)) : isWordB nn = true := by
  obtain ⟨_, h2, rfl⟩ := assoc_of h
  rcases assoc_ops h2 with rfl | rfl | rfl | rfl | rfl | rfl | rfl <;> rfl
theorem joinI_deed {op nn : Int} (h : neutG op = (nn, 0)) {a b : Int} (ha : isWordB a = true) (hb : isWordB b = true) : joinI op a b = deed op a b := by
  obtain ⟨h1, h2, _⟩ := assoc_of h
  unfold joinI
  rw [Do_ok op a b h1 ha hb, assoc_zero h2]
  rfl
theorem joinI_word {op nn : Int} (h : neutG op = (nn, 0)) {a b : Int} (ha : isWordB a = true) (hb : isWordB b = true) : isWordB (joinI op a b) = true := by
  rw [joinI_deed h ha hb]
  exact deed_word op a b (assoc_plain (assoc_of h).2.1) ha hb
theorem f_Value5 {op nn : Int} (h : neutG op = (nn, 0)) {a b : Int} (ha : isWordB a = true) (hb : isWordB b = true) : r01_Value.f op a b = some (joinI op a b) := by
  rw [f_Value op a b ((isWordB_iff a).1 ha) ((isWordB_iff b).1 hb) (assoc_zero (assoc_of h).2.1 b), joinI_deed h ha hb]
theorem wsE_words {l : List Int} (h : l.length ≤ 1048576) : wsE l = if noWords l then 2 else 0 := by
  unfold wsE
  rw [if_neg (by omega)]
theorem noWords_all {l : List Int} (h : noWords l = false) : ∀ x ∈ l, isWordB x = true := by
  intro x hx
  have := List.any_eq_false.1 h x hx
  simpa using this
theorem rdw {l : List Int} (hw : ∀ x ∈ l, isWordB x = true) {i : Nat} (hi : i < l.length) : isWordB (rd l (i : Int)) = true := by
  rw [rd_get hi]; exact hw _ (List.getElem_mem _)
theorem neut_pair {op : Int} (h : (neutG op).2 = 0) : neutG op = ((neutG op).1, 0) := Prod.ext rfl h
theorem ev_halves {op nn : Int} (hn : neutG op = (nn, 0)) (l : List Int) (hl : l.length ≤ 1048576) (hw : ∀ x ∈ l, isWordB x = true) : Ev (fun k => r05_halves.f k op l) (halvesTo op l (l.length / 2)) := by
  have H := up (n := l.length / 2) (P := fun i => Ev (fun k => r05_halves.l0 k op l (halvesTo op l i) ((2 * i : Nat) : Int)) (halvesTo op l (l.length / 2)))
    (by
      have w : Aside0 (wrap64 (((2 * (l.length / 2) : Nat) : Int) + 1) = ((2 * (l.length / 2) + 1 : Nat) : Int)) := ⟨by rw [wrap_in (by omega) (by omega)]; rfl⟩
      refine Ev.step (f := fun _ => some (halvesTo op l (l.length / 2))) (fun k => ?_) (Ev.now _)
      simp only [r05_halves.l0]
      rw [w.out, if_neg (by omega)])
    (fun i hi ih => by
      have w : Aside0 (wrap64 (((2 * i : Nat) : Int) + 1) = ((2 * i + 1 : Nat) : Int)) := ⟨by rw [wrap_in (by omega) (by omega)]; rfl⟩
      have w2 : Aside0 (wrap64 (((2 * i : Nat) : Int) + 2) = ((2 * (i + 1) : Nat) : Int)) := ⟨by rw [wrap_in (by omega) (by omega)]; omega⟩
      have hv := f_Value5 hn (rdw hw (show 2 * i < l.length by omega)) (rdw hw (show 2 * i + 1 < l.length by omega))
      have hlen := halvesTo_length op l i
      refine Ev.step (f := fun k => r05_halves.l0 k op l (halvesTo op l (i + 1)) ((2 * (i + 1) : Nat) : Int)) (fun k => ?_) ih
      simp only [r05_halves.l0]
      rw [w.out, if_pos (by omega), if_pos (by omega), if_pos (by omega), if_pos (by omega), hv, Option.bind_some, if_pos (by omega), w2.out]
      rfl) 0 (Nat.zero_le _)
  exact H
theorem halvesTo_word {op nn : Int} (hn : neutG op = (nn, 0)) {l : List Int} (hw : ∀ x ∈ l, isWordB x = true) : ∀ k, 2 * k ≤ l.length → ∀ x ∈ halvesTo op l k, isWordB x = true
  | 0, _ => by intro x hx; simp [halvesTo] at hx
  | k + 1, hk => by
    intro x hx
    rw [halvesTo, List.mem_append, List.mem_singleton] at hx
    rcases hx with hx | rfl
    · exact halvesTo_word hn hw k (by omega) x hx
    · exact joinI_word hn (rdw hw (by omega)) (rdw hw (by omega))
theorem lvlI_word {op nn : Int} (hn : neutG op = (nn, 0)) {l : List Int} (hw : ∀ x ∈ l, isWordB x = true) : ∀ k, ∀ x ∈ lvlI op l k, isWordB x = true
  | 0 => hw
  | k + 1 => halvesTo_word hn (lvlI_word hn hw k) _ (by omega)
theorem set_two (A : List Int) (n : Nat) (i : Nat) (hA : A.length = i) (a b : Int) : ((A ++ List.replicate (n + 2) 0).set i a).set (i + 1) b = (A ++ [a] ++ [b]) ++ List.replicate n 0 := by
  rw [List.replicate_succ, List.replicate_succ, List.set_append_right _ _ (by omega), hA, Nat.sub_self, List.set_cons_zero, List.set_append_right _ _ (by omega), hA, show i + 1 - i = 0 + 1 by omega, List.set_cons_succ, List.set_cons_zero, List.append_assoc, List.append_assoc]
  rfl
theorem and_small (a b : Nat) (ha : a < 4611686018427387904) (hb : b < 4611686018427387904) : Go.bits .and .i64 (a : Int) (b : Int) = ((a &&& b : Nat) : Int) := by
  show IntKind.i64.wrap (((BitVec.ofInt 64 (a : Int) &&& BitVec.ofInt 64 (b : Int)).toNat : Nat) : Int) = _
  have h1 : (BitVec.ofInt 64 (a : Int)).toNat = a := by rw [BitVec.toNat_ofInt]; omega
  have h2 : (BitVec.ofInt 64 (b : Int)).toNat = b := by rw [BitVec.toNat_ofInt]; omega
  have h3 : a &&& b ≤ a := Nat.and_le_left
  rw [BitVec.toNat_and, h1, h2, i64_w, wrap_in (by omega) (by omega)]
theorem f_isPow (n : Nat) (h : n < 4611686018427387904) : ∃ b, r05_isPower.f (n : Int) = some b ∧ (b = true ↔ ∃ e, n = 2 ^ e) := by
  unfold r05_isPower.f
  by_cases h0 : n = 0
  · refine ⟨false, by rw [if_neg (by omega)], ?_⟩
    constructor
    · intro h; cases h
    · rintro ⟨e, he⟩
      have := Nat.pos_of_ne_zero (show 2 ^ e ≠ 0 by simp)
      omega
  · have w1 : wrap64 ((n : Int) - 1) = ((n - 1 : Nat) : Int) := by rw [wrap_in (by omega) (by omega)]; omega
    refine ⟨_, by rw [if_pos (by omega)], ?_⟩
    rw [w1, and_small _ _ h (by omega), beq_iff_eq]
    rw [show (0 : Int) = ((0 : Nat) : Int) from rfl, Int.ofNat_inj]
    exact Nat.and_sub_one_eq_zero_iff_isPowerOfTwo h0
theorem getD_rdL (ls : List (List Int)) (i : Nat) : rd_L1 ls (i : Int) = ls.getD i [] := by
  unfold rd_L1
  rw [Int.toNat_natCast]
theorem tower_words {op : Int} {ls : List (List Int)} (h : isTower.g op ls = true) : wsE (ls.getD 0 []) = 0 := by
  simp only [isTower.g, towPre, Bool.and_eq_true, bne_iff_ne, ne_eq, decide_eq_true_eq, beq_iff_eq] at h
  exact h.1.2
theorem pow_inj {a b : Nat} (h : 2 ^ a = 2 ^ b) : a = b := (Nat.pow_right_inj (by decide)).1 h
theorem ev_areLevels {op nn : Int} (hn : neutG op = (nn, 0)) (ls : List (List Int)) (hlen : ls.length < 4611686018427387904) (hrow : ∀ x ∈ ls, x.length < 17592186044416) : Ev (fun k => r05_areLevels.f k op ls) (isTower.g op ls) := by
  have no : isTower.g op ls = false → Ev (fun k => r05_areLevels.j0 k op ls true) (isTower.g op ls) := fun h => by
    rw [h]
    exact Ev.step (f := fun _ => some false) (fun k => by simp only [r05_areLevels.j0, if_true]) (Ev.now _)
  have notT : ∀ {P : Prop}, (isTower.g op ls = true → P) → ¬ P → isTower.g op ls = false := fun h1 h2 => by
    cases hT : isTower.g op ls
    · rfl
    · exact absurd (h1 hT) h2
  simp only [r05_areLevels.f]
  by_cases h0 : ls.length = 0
  · refine Ev.congr (f := fun k => r05_areLevels.j0 k op ls true) (fun k => by rw [if_pos (by omega)]) (no (notT (P := ls.length ≠ 0) (fun h => ?_) (by omega)))
    obtain ⟨e, he, _⟩ := tower_level h
    omega
  · have hz := getD_rdL ls 0
    have hz : rd_L1 ls 0 = ls.getD 0 [] := hz
    have hr00 : (ls.getD 0 []).length < 17592186044416 := by
      have : ls.getD 0 [] = ls[0] := by simp [List.getD_eq_getElem?_getD, show 0 < ls.length by omega]
      rw [this]
      exact hrow _ (List.getElem_mem _)
    have hr0 : Sh (ls.getD 0 []) := by unfold Sh; omega
    have hr0' : (ls.getD 0 []).length < 4611686018427387904 := by omega
    obtain ⟨b, hb1, hb2⟩ := f_isPow (ls.getD 0 []).length hr0'
    have hne : ¬ ((ls.length : Int) = 0) := by omega
    have hpos : 0 < (ls.length : Int) := by omega
    simp only [hz, hb1, Option.bind_some, hne, hpos, if_true, if_false]
    cases b
    · simp only [Bool.false_eq_true, if_false]
      refine no (notT (fun h => ?_) (show ¬ (∃ e, (ls.getD 0 []).length = 2 ^ e) from fun h => by have := hb2.2 h; cases this))
      obtain ⟨e, _, _, h3, _⟩ := tower_level h
      exact ⟨e, h3 0 (by omega)⟩
    · simp only [if_true]
      obtain ⟨E, hE⟩ := hb2.1 rfl
      by_cases hbig : 1048576 < (ls.getD 0 []).length
      · have e1 : (((ls.getD 0 []).length : Int) > 1048576) := by omega
        simp only [e1, if_true]
        refine no (notT (P := (ls.getD 0 []).length ≤ 1048576) (fun h => ?_) (by omega))
        obtain ⟨e, _, h2, h3, _⟩ := tower_level h
        rw [h3 0 (by omega)]
        exact Nat.le_trans (Nat.pow_le_pow_right (by decide) (show e - 0 ≤ 20 by omega)) (by decide)
      · have e1 : ¬ (((ls.getD 0 []).length : Int) > 1048576) := by omega
        simp only [e1, if_false]
        refine Ev.bind (ev_Words _ hr0) ?_
        cases hw : noWords (ls.getD 0 [])
        · simp only [Bool.not_false, if_true]
          have hws : wsE (ls.getD 0 []) = 0 := by rw [wsE_words (by omega), hw]; rfl
          have hfw := noWords_all hw
          have w1 := Aside0.mk (show wrap64 ((ls.length : Int) - 1) = ((ls.length - 1 : Nat) : Int) by rw [wrap_in (by omega) (by omega)]; omega)
          have g1 : (0 : Int) ≤ ((ls.length - 1 : Nat) : Int) := by omega
          have g2 : ((ls.length - 1 : Nat) : Int) < (ls.length : Int) := by omega
          simp only [w1.out, g1, g2, if_true, getD_rdL]
          by_cases hl1 : (ls.getD (ls.length - 1) []).length = 1
          · have hb0 : (((ls.getD (ls.length - 1) []).length : Int) != 1) = false := by rw [bne_eq_false_iff_eq]; omega
            rw [hb0]
            have hE20 : E ≤ 20 := by
              rcases Nat.lt_or_ge 20 E with h | h
              · exfalso
                have h21 : 2 ^ 21 ≤ 2 ^ E := Nat.pow_le_pow_right (by decide) h
                have h22 : (2 : Nat) ^ 21 = 2097152 := by decide
                omega
              · exact h
            have H := up (n := ls.length - 1) (P := fun j => (∀ k, k ≤ j → ls.getD k [] = lvlI op (ls.getD 0 []) k) → j ≤ E → Ev (fun k => r05_areLevels.l0 k op ls ((j + 1 : Nat) : Int)) (isTower.g op ls))
              (fun hk hj => by
                have hj2 := lvlI_length op (ls.getD 0 []) E hE (ls.length - 1) hj
                rw [← hk _ (Nat.le_refl _), hl1] at hj2
                have hEl : E = ls.length - 1 := by
                  have := pow_inj (show 2 ^ 0 = 2 ^ (E - (ls.length - 1)) by rw [← hj2])
                  omega
                have hT : isTower.g op ls = true := by
                  simp only [isTower.g, towPre, Bool.and_eq_true, bne_iff_ne, ne_eq, decide_eq_true_eq, beq_iff_eq]
                  exact ⟨⟨⟨⟨h0, by omega⟩, by rw [hE, hEl]⟩, hws⟩, eq_of_beq (lvsI_eq (fun k hk2 => (hk k (by omega)).symm))⟩
                rw [hT]
                exact Ev.step (f := fun _ => some true) (fun k => by simp only [r05_areLevels.l0]; rw [if_neg (by omega)]) (Ev.now _))
              (fun j hj ih hk hjE => by
                have hlj := lvlI_length op (ls.getD 0 []) E hE j hjE
                rw [← hk j (Nat.le_refl _)] at hlj
                have w2 := Aside0.mk (show wrap64 (((j + 1 : Nat) : Int) - 1) = (j : Int) by rw [wrap_in (by omega) (by omega)]; omega)
                have g3 : ((j + 1 : Nat) : Int) < (ls.length : Int) := by omega
                have g4 : (0 : Int) ≤ (j : Int) := by omega
                have g5 : (j : Int) < (ls.length : Int) := by omega
                have g6 : (0 : Int) ≤ ((j + 1 : Nat) : Int) := by omega
                by_cases h1 : (ls.getD j []).length = 1
                · have hF : isTower.g op ls = false := notT (P := (ls.getD j []).length ≠ 1) (fun h => by
                    obtain ⟨e, he, _, h3, _⟩ := tower_level h
                    rw [h3 j (by omega), show e - j = (e - j - 1) + 1 by omega, Nat.pow_succ]
                    omega) (by omega)
                  rw [hF]
                  refine Ev.step (f := fun _ => some false) (fun k => ?_) (Ev.now _)
                  simp only [r05_areLevels.l0, w2.out, g3, g4, g5, if_true, getD_rdL]
                  rw [if_pos (by omega)]
                · have h1' : ¬ (((ls.getD j []).length : Int) = 1) := by omega
                  have hjE2 : j + 1 ≤ E := by
                    rcases Nat.lt_or_ge j E with h | h
                    · omega
                    · exfalso
                      rw [show E - j = 0 by omega] at hlj
                      exact h1 hlj
                  have hle : (ls.getD j []).length ≤ 1048576 := by
                    rw [hlj]
                    exact Nat.le_trans (Nat.pow_le_pow_right (by decide) (show E - j ≤ 20 by omega)) (by decide)
                  have hh := ev_halves hn (ls.getD j []) hle (by rw [hk j (Nat.le_refl _)]; exact lvlI_word hn hfw j)
                  have hnx : halvesTo op (ls.getD j []) ((ls.getD j []).length / 2) = lvlI op (ls.getD 0 []) (j + 1) := by rw [hk j (Nat.le_refl _)]; rfl
                  refine Ev.step (f := fun k => (r05_halves.f k op (ls.getD j [])).bind fun t => ((Hand.Eq_.f (ls.getD (j + 1) []) t).bind fun t2 => (if t2 = true then (r05_areLevels.l0 k op ls (wrap64 (((j + 1 : Nat) : Int) + 1))) else (some false)))) (fun k => ?_) (Ev.bind hh ?_)
                  · simp only [r05_areLevels.l0, w2.out, g3, g4, g5, g6, if_true, getD_rdL, h1', if_false]
                  · rw [hnx]
                    simp only [Eq_.f, Option.bind_some]
                    by_cases hq : ls.getD (j + 1) [] = lvlI op (ls.getD 0 []) (j + 1)
                    · rw [hq, beq_self_eq_true]
                      simp only [if_true]
                      have w3 : wrap64 (((j + 1 : Nat) : Int) + 1) = ((j + 1 + 1 : Nat) : Int) := by rw [wrap_in (by omega) (by omega)]; omega
                      rw [w3]
                      clear w3
                      refine ih (fun k hk2 => ?_) hjE2
                      rcases (show k ≤ j ∨ k = j + 1 by omega) with h | rfl
                      · exact hk k h
                      · exact hq
                    · have hqb : (ls.getD (j + 1) [] == lvlI op (ls.getD 0 []) (j + 1)) = false := by rw [beq_eq_false_iff_ne]; exact hq
                      rw [hqb]
                      simp only [Bool.false_eq_true, if_false]
                      have hF : isTower.g op ls = false := by
                        unfold isTower.g
                        rw [lvsI_ne (show j + 1 < ls.length by omega) (fun h => hq h.symm), Bool.and_false]
                      rw [hF]
                      exact Ev.now _) 0 (Nat.zero_le _) (fun k hk => by
                        obtain rfl : k = 0 := by omega
                        rfl) (Nat.zero_le _)
            exact Ev.step (f := fun k => r05_areLevels.l0 k op ls 1) (fun k => by simp only [r05_areLevels.j0, Bool.false_eq_true, if_false]) H
          · have hb0 : (((ls.getD (ls.length - 1) []).length : Int) != 1) = true := by rw [bne_iff_ne]; omega
            rw [hb0]
            refine no (notT (P := (ls.getD (ls.length - 1) []).length = 1) (fun h => ?_) hl1)
            obtain ⟨e, he, _, h3, _⟩ := tower_level h
            rw [h3 _ (by omega), show e - (ls.length - 1) = 0 by omega, Nat.pow_zero]
        · simp only [Bool.not_true, Bool.false_eq_true, if_false]
          refine no (notT (fun h => tower_words h) ?_)
          rw [wsE_words (by omega), hw]
          decide
/-- A level's scan, as far as it is told. -/
def pairsTo (op : Int) (now lv : List Int) : Nat → List Int
  | 0 => []
  | i + 1 => pairsTo op now lv i ++ [rd now (i : Int), joinI op (rd now (i : Int)) (rd lv ((2 * i : Nat) : Int))]
theorem pairsTo_length (op : Int) (now lv : List Int) : ∀ i, (pairsTo op now lv i).length = 2 * i
  | 0 => rfl
  | i + 1 => by rw [pairsTo, List.length_append, pairsTo_length op now lv i]; simp; omega
theorem pairs_down (op : Int) (now lv : List Int) {K : Nat} (hK : lv.length = 2 * K) : ∀ i, i ≤ K → downTo op now lv i = pairsTo op now lv i ++ List.replicate (2 * K - 2 * i) 0
  | 0, _ => by rw [downTo, pairsTo, List.nil_append, hK]; rfl
  | i + 1, hi => by
    rw [downTo, pairs_down op now lv hK i (by omega), show 2 * K - 2 * i = (2 * K - 2 * (i + 1)) + 2 by omega, set_two _ _ _ (pairsTo_length op now lv i), pairsTo]
    simp only [List.append_assoc]
    rfl
theorem pairs_words {op nn : Int} (hn : neutG op = (nn, 0)) {now lv : List Int} (h1 : ∀ x ∈ now, isWordB x = true) (h2 : ∀ x ∈ lv, isWordB x = true) : ∀ i, i ≤ now.length → 2 * i ≤ lv.length → ∀ x ∈ pairsTo op now lv i, isWordB x = true
  | 0, _, _ => by intro x hx; simp [pairsTo] at hx
  | i + 1, hi, hj => by
    intro x hx
    rw [pairsTo, List.mem_append] at hx
    rcases hx with hx | hx
    · exact pairs_words hn h1 h2 i (by omega) (by omega) x hx
    · simp only [List.mem_cons, List.not_mem_nil, or_false] at hx
      rcases hx with rfl | rfl
      · exact rdw h1 (by omega)
      · exact joinI_word hn (rdw h1 (by omega)) (rdw h2 (by omega))
theorem ev_Down (op : Int) (ls : List (List Int)) (many : Int) (hlen : ls.length < 4611686018427387904) (hrow : ∀ x ∈ ls, x.length < 17592186044416) : Ev (fun k => r05_Down.f k op ls many) (scan_Down.g op ls many) := by
  unfold scan_Down.g
  simp only [r05_Down.f, f_Neutral, Option.bind_some]
  by_cases h0 : (neutG op).2 = 0
  · simp only [h0, if_true]
    have hn := neut_pair h0
    generalize (neutG op).1 = nn at *
    refine Ev.bind (ev_areLevels hn ls hlen hrow) ?_
    cases hT : isTower.g op ls
    · simp only [Bool.false_eq_true, if_false]; exact Ev.now _
    · simp only [if_true]
      obtain ⟨E, he, hE, hlv, hlq⟩ := tower_level hT
      have hfw : ∀ x ∈ ls.getD 0 [], isWordB x = true := (wsE_ok (tower_words hT)).2
      have hpos : 0 < (ls.length : Int) := by omega
      have hz : rd_L1 ls 0 = ls.getD 0 [] := getD_rdL ls 0
      simp only [hpos, if_true, hz, f_Lies, Option.bind_some]
      by_cases hm : many < 0 ∨ ((ls.getD 0 []).length : Int) < many
      · rw [if_pos hm]
        have hb : (decide (0 ≤ many) && decide (many ≤ ((ls.getD 0 []).length : Int))) = false := by
          rcases hm with hm | hm
          · rw [decide_eq_false (by omega)]; rfl
          · rw [decide_eq_false (show ¬ (many ≤ ((ls.getD 0 []).length : Int)) by omega), Bool.and_false]
        rw [hb]
        simp only [Bool.false_eq_true, if_false]
        exact Ev.now _
      · rw [if_neg hm]
        have hb : (decide (0 ≤ many) && decide (many ≤ ((ls.getD 0 []).length : Int))) = true := by
          rw [decide_eq_true (by omega), decide_eq_true (by omega)]
          rfl
        rw [hb]
        simp only [if_true]
        have hm0 : 0 ≤ many := by omega
        have hm1 : many ≤ ((ls.getD 0 []).length : Int) := by omega
        clear hm hb
        have hlen2 : ∀ s, s ≤ E → (downAt op nn ls s).length = 2 ^ s := fun s hs => downAt_length nn he hlv s hs
        have h20 : ∀ s, s ≤ E → 2 ^ s ≤ 1048576 := fun s hs => Nat.le_trans (Nat.pow_le_pow_right (by decide) (show s ≤ 20 by omega)) (by decide)
        have hds : ∀ s, s < E → downAt op nn ls (s + 1) = pairsTo op (downAt op nn ls s) (ls.getD (E - (s + 1)) []) (2 ^ s) := fun s hs => by
          have hl2 := hlv (E - (s + 1)) (by omega)
          rw [show E - (E - (s + 1)) = s + 1 by omega, Nat.pow_succ, Nat.mul_comm] at hl2
          have hp := pairs_down op (downAt op nn ls s) (ls.getD (E - (s + 1)) []) hl2 (2 ^ s) (Nat.le_refl _)
          rw [Nat.sub_self, List.replicate_zero, List.append_nil] at hp
          rw [downAt, hlen2 s (by omega), show ls.length - 2 - s = E - (s + 1) by omega, hp]
        have hlw : ∀ k, k ≤ E → ∀ x ∈ ls.getD k [], isWordB x = true := fun k hk => by rw [hlq k hk]; exact lvlI_word hn hfw k
        have hdw : ∀ s, s ≤ E → ∀ x ∈ downAt op nn ls s, isWordB x = true := by
          intro s
          induction s with
          | zero =>
            intro _ x hx
            simp only [downAt, List.mem_singleton] at hx
            rw [hx]
            exact neut_word hn
          | succ s ih =>
            intro hs
            have hl2 := hlv (E - (s + 1)) (by omega)
            rw [show E - (E - (s + 1)) = s + 1 by omega, Nat.pow_succ] at hl2
            rw [hds s (by omega)]
            exact pairs_words hn (ih (by omega)) (hlw _ (by omega)) _ (by rw [hlen2 s (by omega)]; exact Nat.le_refl _) (by omega)
        have H := up (n := E) (P := fun s => Ev (fun k => r05_Down.l0 k op ls many (downAt op nn ls s) ((E : Int) - 1 - (s : Int))) ((downAt op nn ls E).take many.toNat, 0))
          (by
            have hq := hlen2 E (Nat.le_refl _)
            have h00 := hlv 0 (Nat.zero_le _)
            rw [Nat.sub_zero] at h00
            refine Ev.step (f := fun _ => some ((downAt op nn ls E).take many.toNat, 0)) (fun k => ?_) (Ev.now _)
            simp only [r05_Down.l0]
            rw [if_neg (by omega), if_pos hm0, if_pos (by omega)])
          (fun s hs ih => by
            have hq := hlen2 s (by omega)
            have hq20 := h20 s (by omega)
            have hl2 := hlv (E - (s + 1)) (by omega)
            rw [show E - (E - (s + 1)) = s + 1 by omega, Nat.pow_succ] at hl2
            have hnw := hdw s (by omega)
            have hvw := hlw (E - (s + 1)) (by omega)
            have hlvE : rd_L1 ls ((E : Int) - 1 - (s : Int)) = ls.getD (E - (s + 1)) [] := by
              rw [show ((E : Int) - 1 - (s : Int)) = ((E - (s + 1) : Nat) : Int) by omega]
              exact getD_rdL ls _
            rw [hds s hs] at ih
            generalize downAt op nn ls s = now at *
            generalize ls.getD (E - (s + 1)) [] = lv at *
            generalize 2 ^ s = K at *
            have w2 := Aside0.mk (show wrap64 ((E : Int) - 1 - (s : Int) - 1) = (E : Int) - 1 - ((s + 1 : Nat) : Int) by rw [wrap_in (by omega) (by omega)]; omega)
            have H1 := up (n := K) (P := fun i => Ev (fun k => r05_Down.l1 k op ls many now ((E : Int) - 1 - (s : Int)) (pairsTo op now lv i) (i : Int)) ((downAt op nn ls E).take many.toNat, 0))
              (Ev.step (fun k => by simp only [r05_Down.l1]; rw [if_neg (by omega), w2.out]) ih)
              (fun i hi ih2 => by
                have w3 := Aside0.mk (show wrap64 (2 * (i : Int)) = ((2 * i : Nat) : Int) by rw [wrap_in (by omega) (by omega)]; omega)
                have ws := Aside0.mk (wsucc hi (by omega))
                have hv := f_Value5 hn (rdw hnw (show i < now.length by omega)) (rdw hvw (show 2 * i < lv.length by omega))
                have hpl := pairsTo_length op now lv i
                have g1 : (i : Int) < (now.length : Int) := by omega
                have g2 : (0 : Int) ≤ (i : Int) := by omega
                have g3 : (0 : Int) ≤ (E : Int) - 1 - (s : Int) := by omega
                have g4 : (E : Int) - 1 - (s : Int) < (ls.length : Int) := by omega
                have g5 : (0 : Int) ≤ ((2 * i : Nat) : Int) := by omega
                have g6 : ((2 * i : Nat) : Int) < (lv.length : Int) := by omega
                have g7 : ∀ v : Int, (pairsTo op now lv i).length + ([rd now (i : Int), v] : List Int).length < 17592186044416 := fun v => by
                  show (pairsTo op now lv i).length + 2 < 17592186044416
                  omega
                refine Ev.step (f := fun k => r05_Down.l1 k op ls many now ((E : Int) - 1 - (s : Int)) (pairsTo op now lv (i + 1)) ((i + 1 : Nat) : Int)) (fun k => ?_) ih2
                simp only [r05_Down.l1]
                rw [if_pos g1, if_pos g2, if_pos g3, if_pos g4, w3.out, if_pos g5, hlvE, if_pos g6, hv, Option.bind_some, Option.bind_some, if_pos (g7 _), ws.out]
                rfl) 0 (Nat.zero_le _)
            exact Ev.step (f := fun k => r05_Down.l1 k op ls many now ((E : Int) - 1 - (s : Int)) [] 0) (fun k => by simp only [r05_Down.l0]; rw [if_pos (by omega)]) H1) 0 (Nat.zero_le _)
        have w0 : wrap64 ((ls.length : Int) - 2) = (E : Int) - 1 - ((0 : Nat) : Int) := by rw [wrap_in (by omega) (by omega)]; omega
        rw [w0, he, Nat.add_sub_cancel]
        exact H
  · simp only [h0, if_false]
    exact Ev.now _
theorem ScanDowns : w05_ScanDowns.Pure := by
  intro op ls many _ h1 h2 _
  obtain ⟨K0, e0⟩ := ev_Down op ls many (by omega) (fun x hx => by have := h2 x hx; omega)
  refine ⟨K0, ?_⟩
  have e0 := e0 K0 (Nat.le_refl _)
  simp only at e0
  unfold w05_ScanDowns.f
  simp [e0, sDown.f, Eq_.f, law_joined.f]
end Go.Proofs.YtpenkemabeonaaaDoor.Pure
