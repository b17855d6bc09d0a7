/- ScanFlags: Join and Flagged return what the references return, for any operation, flagged words and a list of them; it is told of numbers and lists alone. -/
import Derived.Test.YtpenkemabeonaaaDoorPScanFlagsx
namespace Go.Proofs.YtpenkemabeonaaaDoor.Pure
open Go.RowKit Go.Proofs.YtpenkemabeonaaaDoor.PScanFlags Go.Proofs.YtpenkemabeonaaaDoor.Hand Go.Proofs.YtpenkemabeonaaaDoorW.PrintWords Go.Proofs.YtpenkemabeonaaaDoorW.PrintLast Go.Proofs.YtpenkemabeonaaaDoorW.PrintMore
set_option linter.unusedVariables false
set_option linter.unusedSimpArgs false
theorem wsucc {i n : Nat} (h : i < n) (hn : n ≤ 4611686018427387904) : wrap64 ((i : Int) + 1) = ((i + 1 : Nat) : Int) := by unfold wrap64; omega
theorem up {n : Nat} {P : Nat → Prop} (h0 : P n) (hs : ∀ i, i < n → P (i + 1) → P i) (i : Nat) (hi : i ≤ n) : P i := by
  have key : ∀ d, ∀ i, i + d = n → P i := by
    intro d
    induction d with
    | zero => intro i h; have : i = n := by omega
              subst this; exact h0
    | succ d ih => intro i h; exact hs i (by omega) (ih (i + 1) (by omega))
  exact key (n - i) i (by omega)
theorem f_Lies (a b c : Int) : r00_Lies.f a b c = some (decide (b ≤ a) && decide (a ≤ c)) := by unfold r00_Lies.f; split <;> simp [*]
theorem f_IsWord (n : Int) : r00_IsWord.f n = some (isWordB n) := by unfold r00_IsWord.f; rw [f_Lies]; rfl
theorem f_Word (n : Int) : r00_Word.f n = some (wrap64 (wrap32 n)) := by
  unfold r00_Word.f
  congr 2
  unfold wrap32 IntKind.wrap
  simp only [IntKind.signed, IntKind.bits]
  simp
theorem wrap32_64 (x : Int) : wrap32 (wrap64 x) = wrap32 x := by unfold wrap32 wrap64; omega
theorem isWordB_iff (n : Int) : isWordB n = true ↔ -2147483648 ≤ n ∧ n ≤ 2147483647 := by simp [isWordB]
theorem f_truth (b : Bool) : r01_truth.f b = some (truthI b) := by cases b <;> rfl
theorem wrap_in {n : Int} (h0 : -9223372036854775808 ≤ n) (h1 : n ≤ 9223372036854775807) : wrap64 n = n := by unfold wrap64; omega
theorem tmod_zero (a b : Int) : a.tdiv b * b = a ↔ a.tmod b = 0 := by
  have := Int.tdiv_mul_add_tmod a b
  omega
theorem f_quotient (a b : Int) (ha : W32 a) (hb : W32 b) (h0 : b ≠ 0) : r01_quotient.f a b = some (quot a b) := by
  have hr := tdiv_range a b ha
  have hm : (a.tdiv b * b).natAbs ≤ a.natAbs := by
    rw [Int.natAbs_mul, Int.natAbs_tdiv]
    exact Nat.div_mul_le_self _ _
  unfold r01_quotient.f quot quotB
  rw [if_neg h0, wrap_in (n := a.tdiv b) (by omega) (by omega)]
  rw [wrap_in (n := a.tdiv b * b) (by unfold W32 at ha; omega) (by unfold W32 at ha; omega)]
  by_cases hz : a.tmod b = 0
  · rw [if_pos ((tmod_zero a b).2 hz), if_neg (by simp [hz])]
  · rw [if_neg (fun h => hz ((tmod_zero a b).1 h))]
    have hz2 : (a.tmod b != 0) = true := by simpa using hz
    rw [hz2, Bool.true_and]
    by_cases hs : ((decide (a < 0)) != (decide (b < 0))) = true
    · rw [if_pos hs, if_pos hs, wrap_in (by omega) (by omega)]
    · rw [if_neg hs, if_neg hs]
theorem mn_min (a b : Int) : mn a b = min a b := by unfold mn; split <;> omega
theorem mx_max (a b : Int) : mx a b = max a b := by unfold mx; split <;> omega
theorem f_Value (op a b : Int) (ha : W32 a) (hb : W32 b) (hz : zeroB op b = false) : r01_Value.f op a b = some (deed op a b) := by
  unfold r01_Value.f deed
  by_cases h0 : op = 0
  · rw [if_pos h0, if_pos h0, f_Word, wrap32_64]; rfl
  rw [if_neg h0, if_neg h0]
  by_cases h1 : op = 1
  · rw [if_pos h1, if_pos h1, f_Word, wrap32_64]; rfl
  rw [if_neg h1, if_neg h1]
  by_cases h2 : op = 2
  · rw [if_pos h2, if_pos h2, f_Word]; rfl
  rw [if_neg h2, if_neg h2]
  by_cases h3 : op = 3
  · rw [if_pos h3, if_pos h3]
    have hb0 : b ≠ 0 := by intro h; simp [zeroB, h, h3] at hz
    rw [f_quotient a b ha hb hb0]
    simp only [Option.bind_some]
    rw [f_Word]; rfl
  rw [if_neg h3, if_neg h3]
  by_cases h4 : op = 4
  · rw [if_pos h4, if_pos h4]
    have hb0 : b ≠ 0 := by intro h; simp [zeroB, h, h4] at hz
    rw [f_quotient a b ha hb hb0]
    simp only [Option.bind_some]
    rw [Int.mul_comm]
  rw [if_neg h4, if_neg h4]
  by_cases h5 : op = 5
  · rw [if_pos h5, if_pos h5, f_truth]; rfl
  rw [if_neg h5, if_neg h5]
  by_cases h6 : op = 6
  · rw [if_pos h6, if_pos h6, f_truth]; rfl
  rw [if_neg h6, if_neg h6]
  by_cases h7 : op = 7
  · rw [if_pos h7, if_pos h7, mn_min]
  rw [if_neg h7, if_neg h7]
  by_cases h8 : op = 8
  · rw [if_pos h8, if_pos h8, mx_max]
  rw [if_neg h8, if_neg h8]
  by_cases h9 : op = 9
  · rw [if_pos h9, if_pos h9]
  rw [if_neg h9, if_neg h9]
  by_cases h10 : op = 10
  · rw [if_pos h10, if_pos h10]
  rw [if_neg h10, if_neg h10]
theorem Do_ok (op a b : Int) (ho : isOpB op = true) (ha : isWordB a = true) (hb : isWordB b = true) : word_Do.g op a b = if zeroB op b then (0, 14) else (deed op a b, 0) := by
  unfold word_Do.g
  rw [ho, ha, hb]; rfl
theorem i64_toInt (x : BitVec 64) : IntKind.i64.wrap (x.toNat : Int) = x.toInt := by
  have h : IntKind.i64.wrap (x.toNat : Int) = ((x.toNat : Int) + 9223372036854775808) % 18446744073709551616 - 9223372036854775808 := by
    simp [IntKind.wrap, IntKind.bits, IntKind.signed]
    split <;> omega
  rw [h, BitVec.toInt_eq_toNat_cond]
  have := x.isLt
  split <;> omega
theorem ext64 (a : Int) (h : -2147483648 ≤ a ∧ a ≤ 2147483647) : BitVec.ofInt 64 a = (BitVec.ofInt 32 a).signExtend 64 := by
  apply BitVec.eq_of_toInt_eq
  rw [BitVec.toInt_signExtend_of_le (by decide), BitVec.toInt_ofInt, BitVec.toInt_ofInt]
  rw [Int.bmod_eq_of_le (by omega) (by omega), Int.bmod_eq_of_le (by omega) (by omega)]
theorem word_of_ext (c : BitVec 32) : -2147483648 ≤ IntKind.i64.wrap (((c.signExtend 64).toNat : Nat) : Int) ∧ IntKind.i64.wrap (((c.signExtend 64).toNat : Nat) : Int) ≤ 2147483647 := by
  rw [i64_toInt, BitVec.toInt_signExtend_of_le (by decide)]
  have h1 := BitVec.le_toInt c
  have h2 := BitVec.toInt_lt (x := c)
  omega
theorem and_word (a b : Int) (ha : -2147483648 ≤ a ∧ a ≤ 2147483647) (hb : -2147483648 ≤ b ∧ b ≤ 2147483647) : -2147483648 ≤ bits .and .i64 a b ∧ bits .and .i64 a b ≤ 2147483647 := by
  have e : bits .and .i64 a b = IntKind.i64.wrap ((((BitVec.ofInt 32 a &&& BitVec.ofInt 32 b).signExtend 64).toNat : Nat) : Int) := by
    show IntKind.i64.wrap (((BitVec.ofInt 64 a &&& BitVec.ofInt 64 b).toNat : Nat) : Int) = _
    rw [ext64 a ha, ext64 b hb, BitVec.signExtend_and]
  rw [e]; exact word_of_ext _
theorem or_word (a b : Int) (ha : -2147483648 ≤ a ∧ a ≤ 2147483647) (hb : -2147483648 ≤ b ∧ b ≤ 2147483647) : -2147483648 ≤ bits .or .i64 a b ∧ bits .or .i64 a b ≤ 2147483647 := by
  have e : bits .or .i64 a b = IntKind.i64.wrap ((((BitVec.ofInt 32 a ||| BitVec.ofInt 32 b).signExtend 64).toNat : Nat) : Int) := by
    show IntKind.i64.wrap (((BitVec.ofInt 64 a ||| BitVec.ofInt 64 b).toNat : Nat) : Int) = _
    rw [ext64 a ha, ext64 b hb, BitVec.signExtend_or]
  rw [e]; exact word_of_ext _
theorem xor_word (a b : Int) (ha : -2147483648 ≤ a ∧ a ≤ 2147483647) (hb : -2147483648 ≤ b ∧ b ≤ 2147483647) : -2147483648 ≤ bits .xor .i64 a b ∧ bits .xor .i64 a b ≤ 2147483647 := by
  have e : bits .xor .i64 a b = IntKind.i64.wrap ((((BitVec.ofInt 32 a ^^^ BitVec.ofInt 32 b).signExtend 64).toNat : Nat) : Int) := by
    show IntKind.i64.wrap (((BitVec.ofInt 64 a ^^^ BitVec.ofInt 64 b).toNat : Nat) : Int) = _
    rw [ext64 a ha, ext64 b hb, BitVec.signExtend_xor]
  rw [e]; exact word_of_ext _
/-- An operation, but division. -/
def plainOp (op : Int) : Prop := 0 ≤ op ∧ op < 12 ∧ op ≠ 3 ∧ op ≠ 4
theorem deed_word (op a b : Int) (ho : plainOp op) (ha : isWordB a = true) (hb : isWordB b = true) : isWordB (deed op a b) = true := by
  rw [isWordB_iff] at *
  unfold deed
  by_cases h0 : op = 0
  · rw [if_pos h0]; unfold wrap64 wrap32; omega
  rw [if_neg h0]
  by_cases h1 : op = 1
  · rw [if_pos h1]; unfold wrap64 wrap32; omega
  rw [if_neg h1]
  by_cases h2 : op = 2
  · rw [if_pos h2]; generalize wrap64 (a * b) = x; unfold wrap64 wrap32; omega
  rw [if_neg h2, if_neg ho.2.2.1, if_neg ho.2.2.2]
  by_cases h5 : op = 5
  · rw [if_pos h5]; unfold truthI; split <;> omega
  rw [if_neg h5]
  by_cases h6 : op = 6
  · rw [if_pos h6]; unfold truthI; split <;> omega
  rw [if_neg h6]
  by_cases h7 : op = 7
  · rw [if_pos h7]; omega
  rw [if_neg h7]
  by_cases h8 : op = 8
  · rw [if_pos h8]; omega
  rw [if_neg h8]
  by_cases h9 : op = 9
  · rw [if_pos h9]; exact and_word a b ha hb
  rw [if_neg h9]
  by_cases h10 : op = 10
  · rw [if_pos h10]; exact or_word a b ha hb
  rw [if_neg h10]
  exact xor_word a b ha hb
theorem f_Neutral (op : Int) : rNeut.f op = some (neutG op) := rfl
/-- An operation that is associative. -/
theorem assoc_of {op nn : Int} (h : neutG op = (nn, 0)) : isOpB op = true ∧ assocB op = true ∧ nn = neutI op := by
  unfold neutG at h
  cases h1 : isOpB op
  · rw [h1] at h; simp at h
  · cases h2 : assocB op
    · rw [h1, h2] at h; simp at h
    · rw [h1, h2] at h
      simp at h
      exact ⟨rfl, rfl, h.symm⟩
theorem assoc_ops {op : Int} (h : assocB op = true) : op = 0 ∨ op = 2 ∨ op = 7 ∨ op = 8 ∨ op = 9 ∨ op = 10 ∨ op = 11 := by
  simp only [assocB, Bool.or_eq_true, beq_iff_eq] at h
  omega
theorem assoc_zero {op : Int} (h : assocB op = true) (b : Int) : zeroB op b = false := by
  rcases assoc_ops h with rfl | rfl | rfl | rfl | rfl | rfl | rfl <;> simp [zeroB]
theorem assoc_plain {op : Int} (h : assocB op = true) : plainOp op := by
  unfold plainOp
  rcases assoc_ops h with rfl | rfl | rfl | rfl | rfl | rfl | rfl <;> omega
theorem neut_word {op nn : Int} (h : neutG op = (nn, 0)) : isWordB nn = true := by
  obtain ⟨_, h2, rfl⟩ := assoc_of h
  rcases assoc_ops h2 with rfl | rfl | rfl | rfl | rfl | rfl | rfl <;> rfl
theorem joinI_deed {op nn : Int} (h : neutG op = (nn, 0)) {a b : Int} (ha : isWordB a = true) (hb : isWordB b = true) : joinI op a b = deed op a b := by
  obtain ⟨h1, h2, _⟩ := assoc_of h
  unfold joinI
  rw [Do_ok op a b h1 ha hb, assoc_zero h2]
  rfl
theorem joinI_word {op nn : Int} (h : neutG op = (nn, 0)) {a b : Int} (ha : isWordB a = true) (hb : isWordB b = true) : isWordB (joinI op a b) = true := by
  rw [joinI_deed h ha hb]
  exact deed_word op a b (assoc_plain (assoc_of h).2.1) ha hb
theorem f_Value5 {op nn : Int} (h : neutG op = (nn, 0)) {a b : Int} (ha : isWordB a = true) (hb : isWordB b = true) : r01_Value.f op a b = some (joinI op a b) := by
  rw [f_Value op a b ((isWordB_iff a).1 ha) ((isWordB_iff b).1 hb) (assoc_zero (assoc_of h).2.1 b), joinI_deed h ha hb]
theorem neut_pair {op : Int} (h : (neutG op).2 = 0) : neutG op = ((neutG op).1, 0) := Prod.ext rfl h
theorem w64_w32 (x : Int) : wrap64 (wrap32 x) = wrap32 x := by unfold wrap64 wrap32; omega
theorem w32_word {x : Int} (h : isWordB x = true) : wrap32 x = x := by
  rw [isWordB_iff] at h
  unfold wrap32
  omega
theorem wrap_ofInt {x : Int} (h : isWordB x = true) : IntKind.i64.wrap (((BitVec.ofInt 64 x).toNat : Nat) : Int) = x := by
  rw [isWordB_iff] at h
  rw [i64_w]
  unfold wrap64
  rw [BitVec.toNat_ofInt]
  omega
theorem joinI_none {op nn : Int} (h : neutG op = (nn, 0)) {a : Int} (ha : isWordB a = true) : joinI op nn a = a := by
  rw [joinI_deed h (neut_word h) ha]
  have hw := (isWordB_iff a).1 ha
  obtain ⟨_, h2, rfl⟩ := assoc_of h
  rcases assoc_ops h2 with rfl | rfl | rfl | rfl | rfl | rfl | rfl
  · show wrap64 (wrap32 (0 + a)) = a
    rw [Int.zero_add, w64_w32, w32_word ha]
  · show wrap64 (wrap32 (wrap64 (1 * a))) = a
    rw [Int.one_mul, wrap32_64, w64_w32, w32_word ha]
  · show min 2147483647 a = a
    omega
  · show max (-2147483648) a = a
    omega
  · show IntKind.i64.wrap (((BitVec.ofInt 64 (-1) &&& BitVec.ofInt 64 a).toNat : Nat) : Int) = a
    rw [show BitVec.ofInt 64 (-1) = BitVec.allOnes 64 by decide, BitVec.allOnes_and, wrap_ofInt ha]
  · show IntKind.i64.wrap (((BitVec.ofInt 64 0 ||| BitVec.ofInt 64 a).toNat : Nat) : Int) = a
    rw [show BitVec.ofInt 64 0 = 0#64 by decide, BitVec.zero_or, wrap_ofInt ha]
  · show IntKind.i64.wrap (((BitVec.ofInt 64 0 ^^^ BitVec.ofInt 64 a).toNat : Nat) : Int) = a
    rw [show BitVec.ofInt 64 0 = 0#64 by decide, BitVec.zero_xor, wrap_ofInt ha]
theorem f_joined {op nn : Int} (hn : neutG op = (nn, 0)) (xf : Bool) (xn : Int) (yf : Bool) (yn : Int) (hx : isWordB xn = true) (hy : isWordB yn = true) : r05_joined.f op xf xn yf yn = some (flagJ op nn (xf, xn) (yf, yn)) := by
  unfold r05_joined.f
  cases yf
  · rw [if_neg (by decide), f_Value5 hn hx hy, Option.bind_some]
    by_cases h : ((xf, xn) : Bool × Int) = (false, nn)
    · rw [h, flagJ_a]
      obtain ⟨rfl, rfl⟩ := Prod.mk.inj h
      rw [joinI_none hn hy]
    · rw [flagJ_c op nn (xf, xn) (false, yn) h rfl]
  · rw [if_pos rfl, flagJ_b op nn (xf, xn) (true, yn) rfl]
theorem flagJ_word {op nn : Int} (hn : neutG op = (nn, 0)) {x y : Bool × Int} (hx : isWordB x.2 = true) (hy : isWordB y.2 = true) : isWordB (flagJ op nn x y).2 = true := by
  unfold flagJ
  split
  · exact hy
  · split
    · exact hy
    · exact joinI_word hn hx hy
theorem f_Join (op : Int) (xf : Bool) (xn : Int) (yf : Bool) (yn : Int) : r05_Join.f op xf xn yf yn = sJoin.f op xf xn yf yn := by
  unfold r05_Join.f sJoin.f scan_Join.g
  rw [f_Neutral, Option.bind_some]
  by_cases h0 : (neutG op).2 = 0
  · rw [if_pos h0, if_pos h0, f_IsWord, Option.bind_some]
    have hn := neut_pair h0
    cases hx : isWordB xn
    · rw [if_neg (by decide), if_neg (by simp [hx])]
    · rw [if_pos rfl, f_IsWord, Option.bind_some]
      cases hy : isWordB yn
      · rw [if_neg (by decide), if_neg (by simp [hy])]
      · rw [if_pos rfl, f_joined hn xf xn yf yn hx hy, Option.bind_some, if_pos (by simp [hx, hy])]
  · rw [if_neg h0, if_neg h0]
theorem rdT_map (l : List FlagS) (i : Nat) (h : i < l.length) : rdF (l.map toP) (i : Int) = ((rd_T41 l (i : Int)).f0, (rd_T41 l (i : Int)).f1) := by
  unfold rdF rd_T41
  rw [Int.toNat_natCast, List.getD_eq_getElem?_getD, List.getD_eq_getElem?_getD, List.getElem?_map, List.getElem?_eq_getElem h]
  rfl
theorem rdT_flags (op nn : Int) (L : List (Bool × Int)) (i j : Nat) (h : j < i) : rd_T41 ((flagsTo op nn L i).map ofP) (j : Int) = ofP (flagAt op nn L (j + 1)) := by
  unfold rd_T41 flagsTo
  rw [Int.toNat_natCast, List.getD_eq_getElem?_getD, List.getElem?_map, List.getElem?_map, List.getElem?_range h]
  rfl
theorem flagAt_word {op nn : Int} (hn : neutG op = (nn, 0)) {L : List (Bool × Int)} : ∀ i, i ≤ L.length → (∀ j : Nat, j < i → isWordB (rdF L (j : Int)).2 = true) → isWordB (flagAt op nn L i).2 = true
  | 0, _, _ => neut_word hn
  | i + 1, hi, h => flagJ_word hn (flagAt_word hn i (by omega) (fun j hj => h j (by omega))) (h i (by omega))
theorem ev_Flagged (op : Int) (l : List FlagS) : Ev (fun k => r05_Flagged.f k op l) ((scan_Flagged.g op (l.map toP)).1.map ofP, (scan_Flagged.g op (l.map toP)).2) := by
  unfold scan_Flagged.g
  simp only [r05_Flagged.f, f_Neutral, Option.bind_some]
  by_cases h0 : (neutG op).2 = 0
  · simp only [h0, if_true, List.length_map]
    have hn := neut_pair h0
    generalize (neutG op).1 = nn at *
    by_cases hl : 1048576 < l.length
    · have e1 : ((l.length : Int) > 1048576) := by omega
      simp only [e1, hl, if_true]
      exact Ev.now _
    · have e1 : ¬ ((l.length : Int) > 1048576) := by omega
      simp only [e1, hl, if_false]
      have hLl : (l.map toP).length = l.length := List.length_map _
      have hR : ∀ i : Nat, i < l.length → rdF (l.map toP) (i : Int) = ((rd_T41 l (i : Int)).f0, (rd_T41 l (i : Int)).f1) := fun i hi => rdT_map l i hi
      have hget : ∀ i : Nat, i < l.length → rdF (l.map toP) (i : Int) ∈ l.map toP := fun i hi => by
        unfold rdF
        rw [Int.toNat_natCast, List.getD_eq_getElem?_getD, List.getElem?_eq_getElem (by omega)]
        exact List.getElem_mem _
      have hall : (∀ i : Nat, i < l.length → isWordB (rdF (l.map toP) (i : Int)).2 = true) → (l.map toP).all (fun x => isWordB x.2) = true := fun h => by
        rw [List.all_eq_true]
        intro x hx
        obtain ⟨i, hi, rfl⟩ := List.getElem_of_mem hx
        have := h i (by omega)
        unfold rdF at this
        rw [Int.toNat_natCast, List.getD_eq_getElem?_getD, List.getElem?_eq_getElem (by omega)] at this
        exact this
      generalize hL : l.map toP = L at *
      have H := up (n := l.length) (P := fun i => (∀ j : Nat, j < i → isWordB (rdF L (j : Int)).2 = true) → Ev (fun k => r05_Flagged.l0 k op l ((flagsTo op nn L i).map ofP) (i : Int)) (((if L.all (fun x => isWordB x.2) then (flagsTo op nn L l.length, 0) else ([], 2) : List (Bool × Int) × Int)).1.map ofP, ((if L.all (fun x => isWordB x.2) then (flagsTo op nn L l.length, 0) else ([], 2) : List (Bool × Int) × Int)).2))
        (fun h => by
          rw [if_pos (hall h)]
          refine Ev.step (f := fun _ => some ((flagsTo op nn L l.length).map ofP, 0)) (fun k => ?_) (Ev.now _)
          simp only [r05_Flagged.l0]
          rw [if_neg (by omega)])
        (fun i hi ih h => by
          have hr := hR i hi
          have g1 : (i : Int) < (l.length : Int) := by omega
          have g2 : (0 : Int) ≤ (i : Int) := by omega
          cases hw : isWordB (rdF L (i : Int)).2
          · have hno : L.all (fun x => isWordB x.2) = false := by
              rw [List.all_eq_false]
              exact ⟨_, hget i hi, by rw [hw]; decide⟩
            rw [if_neg (by rw [hno]; decide)]
            rw [hr] at hw
            refine Ev.step (f := fun _ => some ([], 2)) (fun k => ?_) (Ev.now _)
            simp only [r05_Flagged.l0]
            rw [if_pos g1, if_pos g2, f_IsWord, Option.bind_some, hw, if_neg (by decide)]
          · have h2 : ∀ j : Nat, j < i + 1 → isWordB (rdF L (j : Int)).2 = true := fun j hj => by
              rcases (show j < i ∨ j = i by omega) with hj | rfl
              · exact h j hj
              · exact hw
            have hfl := flagsTo_length op nn L i
            have g3 : ((flagsTo op nn L i).map ofP).length < 8796093022208 := by rw [List.length_map]; omega
            have hws := Aside0.mk (wsucc hi (by omega))
            have hw' := hw
            rw [hr] at hw'
            have ih := ih h2
            rw [flagsTo_succ, List.map_append] at ih
            have key : flagAt op nn L (i + 1) = flagJ op nn (flagAt op nn L i) ((rd_T41 l (i : Int)).f0, (rd_T41 l (i : Int)).f1) := by rw [flagAt, hr]
            refine Ev.step (f := fun k => r05_Flagged.l0 k op l ((flagsTo op nn L i).map ofP ++ [flagAt op nn L (i + 1)].map ofP) ((i + 1 : Nat) : Int)) (fun k => ?_) ih
            simp only [r05_Flagged.l0]
            rw [if_pos g1, if_pos g2, f_IsWord, Option.bind_some, hw', if_pos rfl, hws.out]
            by_cases hz : i = 0
            · subst hz
              have g4 : (0 : Int) < (l.length : Int) := by omega
              rw [if_pos (by rfl), if_pos g4, if_pos g3, key, flagAt, flagJ_a]
              rfl
            · have hz2 : ¬ ((i : Int) = 0) := by omega
              have w1 : wrap64 ((i : Int) - 1) = ((i - 1 : Nat) : Int) := by rw [wrap_in (by omega) (by omega)]; omega
              have g5 : (0 : Int) ≤ ((i - 1 : Nat) : Int) := by omega
              have g6 : ((i - 1 : Nat) : Int) < (((flagsTo op nn L i).map ofP).length : Int) := by rw [List.length_map]; omega
              rw [if_neg hz2, w1, if_pos g5, if_pos g6, rdT_flags op nn L i (i - 1) (by omega), show i - 1 + 1 = i by omega]
              have hjn := f_joined hn (flagAt op nn L i).1 (flagAt op nn L i).2 (rd_T41 l (i : Int)).f0 (rd_T41 l (i : Int)).f1 (flagAt_word hn i (by omega) h) hw'
              have e : r05_joined.f op (ofP (flagAt op nn L i)).f0 (ofP (flagAt op nn L i)).f1 (rd_T41 l (i : Int)).f0 (rd_T41 l (i : Int)).f1 = some (flagAt op nn L (i + 1)) := by rw [key]; exact hjn
              rw [e, Option.bind_some, if_pos g3]
              rfl) 0 (Nat.zero_le _) (fun j hj => absurd hj (Nat.not_lt_zero _))
      exact H
  · simp only [h0, if_false]
    exact Ev.now _
theorem ev_same (l : List FlagS) (hl : l.length ≤ 4611686018427387904) : Ev (fun k => w05_same.f k l l) true := by
  have H := up (n := l.length) (P := fun i => Ev (fun k => w05_same.l0 k l l true (i : Int)) true)
    (Ev.step (f := fun _ => some true) (fun k => by simp only [w05_same.l0, if_true]; rw [if_neg (by omega)]) (Ev.now _))
    (fun i hi ih => by
      have g1 : (i : Int) < (l.length : Int) := by omega
      have g2 : (0 : Int) ≤ (i : Int) := by omega
      have hws := wsucc hi hl
      refine Ev.step (f := fun k => w05_same.l0 k l l true ((i + 1 : Nat) : Int)) (fun k => ?_) ih
      simp only [w05_same.l0, if_true]
      rw [if_pos g1, if_pos g2, if_pos g1, hws, beq_self_eq_true, beq_self_eq_true]
      rfl) 0 (Nat.zero_le _)
  refine Ev.congr (f := fun k => w05_same.l0 k l l true 0) (fun k => ?_) H
  simp only [w05_same.f, beq_self_eq_true]
theorem ScanFlags : w05_ScanFlags.Pure := by
  intro op xf xn yf yn l _ h1
  obtain ⟨K0, e0⟩ := ev_Flagged op l
  obtain ⟨K1, e1⟩ := ev_same ((scan_Flagged.g op (l.map toP)).1.map ofP) (by
    rw [List.length_map]
    unfold scan_Flagged.g
    split
    · split
      · exact Nat.zero_le _
      · split
        · show (flagsTo _ _ _ _).length ≤ _
          rw [flagsTo_length, List.length_map]
          omega
        · exact Nat.zero_le _
    · exact Nat.zero_le _)
  refine ⟨K0 + K1, ?_⟩
  have e0 := e0 (K0 + K1) (by omega)
  have e1 := e1 (K0 + K1) (by omega)
  generalize K0 + K1 = k at e0 e1
  simp only at e0 e1
  unfold w05_ScanFlags.f
  rw [f_Join, e0]
  unfold sJoin.f sFlagged.f
  simp only [Option.bind_some, beq_self_eq_true, Bool.and_self, if_true, e1]
  rfl
end Go.Proofs.YtpenkemabeonaaaDoor.Pure
