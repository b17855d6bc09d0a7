/- PrimAlike: what an operation makes of lists, place by place, goes with putting together, gathering, packing and picking, for any operation but division, words, places and flags as numbers choose them; it is told of numbers and lists alone. -/
import Derived.Test.YtpimackoadfcmaaDoorPPrimAlikex
namespace Go.Proofs.YtpimackoadfcmaaDoor.Pure
open Go.RowKit Go.Proofs.YtpimackoadfcmaaDoor.PPrimAlike Go.Proofs.YtpimackoadfcmaaDoor.Hand Go.Proofs.YtpimackoadfcmaaDoorW.PrintWords Go.Proofs.YtpimackoadfcmaaDoorW.PrintLast Go.Proofs.YtpimackoadfcmaaDoorW.PrintMore
set_option linter.unusedVariables false
set_option linter.unusedSimpArgs false
/-- Lists so short that a place's successor is no other number. -/
def Sh {α : Type} (l : List α) : Prop := l.length ≤ 4611686018427387904
theorem wsucc {i n : Nat} (h : i < n) (hn : n ≤ 4611686018427387904) : wrap64 ((i : Int) + 1) = ((i + 1 : Nat) : Int) := by unfold wrap64; omega
theorem rd_get {l : List Int} {i : Nat} (h : i < l.length) : rd l (i : Int) = l[i] := by simp [rd, h]
theorem drop_rd {l : List Int} {i : Nat} (h : i < l.length) : l.drop i = rd l (i : Int) :: l.drop (i + 1) := by rw [List.drop_eq_getElem_cons h, rd_get h]
theorem up {n : Nat} {P : Nat → Prop} (h0 : P n) (hs : ∀ i, i < n → P (i + 1) → P i) (i : Nat) (hi : i ≤ n) : P i := by
  have key : ∀ d, ∀ i, i + d = n → P i := by
    intro d
    induction d with
    | zero => intro i h; have : i = n := by omega
              subst this; exact h0
    | succ d ih => intro i h; exact hs i (by omega) (ih (i + 1) (by omega))
  exact key (n - i) i (by omega)
theorem f_Word (n : Int) : r00_Word.f n = some (wrap64 (wrap32 n)) := by
  unfold r00_Word.f
  congr 2
  unfold wrap32 IntKind.wrap
  simp only [IntKind.signed, IntKind.bits]
  simp
theorem f_Upto (n : Int) (hn : n ≤ 4611686018427) : Ev (fun k => r00_Upto.f k n) (upInts n.toNat) := by
  have H := up (n := n.toNat) (P := fun i => Ev (fun k => r00_Upto.l0 k n (upInts i) (i : Int)) (upInts n.toNat))
    (Ev.step (f := fun _ => some (upInts n.toNat)) (fun k => by simp only [r00_Upto.l0]; rw [if_neg (by omega)]) (Ev.now _))
    (fun i hi ih => by
      refine Ev.step (f := fun k => r00_Upto.l0 k n (upInts (i + 1)) ((i + 1 : Nat) : Int)) (fun k => ?_) ih
      simp only [r00_Upto.l0]; rw [if_pos (by omega), if_pos (by rw [upInts_length]; omega), upInts_succ, wsucc hi (by omega)]) 0 (Nat.zero_le _)
  exact H
theorem isWordB_iff (n : Int) : isWordB n = true ↔ -2147483648 ≤ n ∧ n ≤ 2147483647 := by simp [isWordB]
theorem stands_iff (p : List Int) (m : Nat) (k : Int) : stands p m k = true ↔ ∃ j : Nat, j < m ∧ rd p (j : Int) = k := by simp [stands]
/-- The places so far are right: numbers below n, each one once. -/
def okTo (n : Nat) (p : List Int) (i : Nat) : Prop := ∀ j : Nat, j < i → (decide (0 ≤ rd p (j : Int)) && decide (rd p (j : Int) < (n : Int)) && !stands p j (rd p (j : Int))) = true
theorem mn_min (a b : Int) : mn a b = min a b := by unfold mn; split <;> omega
theorem Do_ok (op a b : Int) (ho : isOpB op = true) (ha : isWordB a = true) (hb : isWordB b = true) : word_Do.g op a b = if zeroB op b then (0, 14) else (deed op a b, 0) := by
  unfold word_Do.g
  rw [ho, ha, hb]; rfl
theorem f_Turn (n m : Int) (hm : m ≤ 4611686018427387904) : ∃ t, r00_Turn.f n m = some t ∧ 0 ≤ t ∧ (0 < m → t < m) := by
  unfold r00_Turn.f
  by_cases h1 : m < 1
  · exact ⟨0, by rw [if_pos h1], by omega, fun h => by omega⟩
  · rw [if_neg h1, if_neg (by omega)]
    have hlt := Int.tmod_lt_of_pos n (show 0 < m by omega)
    have hgt : -m < n.tmod m := by
      have := Int.lt_tmod_of_pos n (show 0 < m by omega)
      exact this
    by_cases h2 : n.tmod m < 0
    · rw [if_pos h2]
      exact ⟨_, rfl, by unfold wrap64; omega, fun _ => by unfold wrap64; omega⟩
    · rw [if_neg h2]
      exact ⟨_, rfl, by omega, fun _ => hlt⟩
theorem f_Nth (l : List Int) (at_ : Int) (hl : Sh l) : ∃ x, r00_Nth.f l at_ = some x := by
  unfold r00_Nth.f
  by_cases h0 : (l.length : Int) = 0
  · exact ⟨0, by rw [if_pos h0]⟩
  · obtain ⟨t, h1, h2, h3⟩ := f_Turn at_ (l.length : Int) (by unfold Sh at hl; omega)
    exact ⟨rd l t, by rw [if_neg h0, h1]; simp only [Option.bind_some]; rw [if_pos h2, if_pos (h3 (by omega))]⟩
theorem wrap32_word (x : Int) : isWordB (wrap64 (wrap32 x)) = true := by
  rw [isWordB_iff]; unfold wrap64 wrap32; omega
theorem ev_words (l : List Int) (most : Nat) (hm : most ≤ 1000) (hl : Sh l) : ∃ a, Ev (fun k => w04_words.f k l (most : Int)) a ∧ a.length ≤ most ∧ a.length ≤ l.length ∧ (∀ x ∈ a, isWordB x = true) ∧ a.length = min l.length most := by
  let g : Nat → Int := fun i => wrap64 (wrap32 (rd l (i : Int)))
  have H := up (n := min l.length most) (P := fun i => Ev (fun k => r00_Wrap.l0 k l (most : Int) ((List.range i).map g) (i : Int)) ((List.range (min l.length most)).map g))
    (Ev.step (f := fun _ => some ((List.range (min l.length most)).map g)) (fun k => by
      simp only [r00_Wrap.l0]
      by_cases h : ((min l.length most : Nat) : Int) < (l.length : Int)
      · rw [if_pos h, if_neg (by omega)]
      · rw [if_neg h]) (Ev.now _))
    (fun i hi ih => by
      refine Ev.step (f := fun k => r00_Wrap.l0 k l (most : Int) ((List.range (i + 1)).map g) ((i + 1 : Nat) : Int)) (fun k => ?_) ih
      simp only [r00_Wrap.l0]; rw [if_pos (by omega), if_pos (by omega), if_pos (by omega), f_Word]
      simp only [Option.bind_some]
      rw [if_pos (by simp; omega), wsucc hi (by omega), List.range_succ, List.map_append]
      rfl) 0 (Nat.zero_le _)
  refine ⟨(List.range (min l.length most)).map g, ?_, ?_, ?_, ?_, ?_⟩
  · have e : (fun k => w04_words.f k l (most : Int)) = fun k => (r00_Wrap.f k l (most : Int)).bind fun t => some t := rfl
    rw [e]
    exact Ev.bind (f := fun _ t => some t) H (Ev.now _)
  · simp; omega
  · simp; omega
  · intro x hx
    obtain ⟨i, _, rfl⟩ := List.mem_map.1 hx
    exact wrap32_word _
  · simp
/-- A loop that puts something behind the others, whatever it is. -/
theorem ev_some {F : Nat → List Int → Int → Option (List Int)} (n : Nat) (Q : Int → Prop) (hend : ∀ k xs, F (k + 1) xs (n : Int) = some xs)
    (hstep : ∀ i : Nat, i < n → ∃ x, Q x ∧ ∀ k (xs : List Int), xs.length = i → F (k + 1) xs (i : Int) = F k (xs ++ [x]) ((i + 1 : Nat) : Int)) :
    ∃ r, Ev (fun k => F k [] 0) r ∧ r.length = n ∧ ∀ x ∈ r, Q x := by
  have H := up (n := n) (P := fun i => ∀ xs : List Int, xs.length = i → (∀ x ∈ xs, Q x) → ∃ r, Ev (fun k => F k xs (i : Int)) r ∧ r.length = n ∧ ∀ x ∈ r, Q x)
    (fun xs hx hq => ⟨xs, Ev.step (f := fun _ => some xs) (fun k => hend k xs) (Ev.now _), hx, hq⟩)
    (fun i hi ih xs hx hq => by
      obtain ⟨x, h1, h2⟩ := hstep i hi
      obtain ⟨r, h3, h4, h5⟩ := ih (xs ++ [x]) (by simp [hx]) (by intro y hy; rcases List.mem_append.1 hy with h | h; exact hq y h; simp at h; subst h; exact h1)
      exact ⟨r, Ev.step (fun k => h2 k xs hx) h3, h4, h5⟩) 0 (Nat.zero_le _) [] rfl (by simp)
  exact H
theorem ev_flagsOf (l : List Int) (n : Nat) (hn : n ≤ 1000) (hl : Sh l) : ∃ f, Ev (fun k => w04_flagsOf.f k l (n : Int)) f ∧ f.length = n ∧ ∀ x ∈ f, isWordB x = true := by
  refine ev_some (F := fun k xs i => w04_flagsOf.l0 k l (n : Int) xs i) n (fun x => isWordB x = true) (fun k xs => by simp only [w04_flagsOf.l0]; rw [if_neg (by omega)]) (fun i hi => ?_)
  obtain ⟨x, hx⟩ := f_Nth l (i : Int) hl
  obtain ⟨t, h1, h2, h3⟩ := f_Turn x 3 (by omega)
  refine ⟨wrap64 (t - 1), by rw [isWordB_iff]; have := h3 (by omega); unfold wrap64; omega, fun k xs hlen => ?_⟩
  simp only [w04_flagsOf.l0]; rw [if_pos (by omega), hx]
  simp only [Option.bind_some]
  rw [h1]
  simp only [Option.bind_some]
  rw [if_pos (by omega), wsucc hi (by omega)]
theorem wordsE_zero {ls : List (List Int)} {fit : Bool} (h1 : ∀ l ∈ ls, l.length ≤ 1048576) (h2 : ∀ l ∈ ls, ∀ n ∈ l, isWordB n = true) (h3 : fit = true) : wordsE ls fit = 0 := by
  unfold wordsE
  rw [if_neg, if_neg, if_pos h3]
  · intro h
    obtain ⟨l, hl, h⟩ := List.any_eq_true.1 h
    obtain ⟨n, hn, h⟩ := List.any_eq_true.1 h
    rw [h2 l hl n hn] at h
    cases h
  · intro h
    obtain ⟨l, hl, h⟩ := List.any_eq_true.1 h
    have := h1 l hl
    simp at h
    omega
theorem rd_upTo (val : Int → Int) (n i : Nat) (hi : i < n) : rd (upTo val (n : Int)) (i : Int) = val (i : Int) := by
  rw [rd_get (by rw [upTo_length]; simpa using hi)]
  simp [upTo]
theorem pack_g (f a : List Int) (hl : f.length = a.length) (hn : a.length ≤ 1048576) (hf : ∀ x ∈ f, isWordB x = true) (ha : ∀ x ∈ a, isWordB x = true) : prim_Pack.g f a = (packTo f a a.length, 0) := by
  unfold prim_Pack.g
  rw [if_pos (wordsE_zero (by intro l h; simp at h; rcases h with rfl | rfl <;> omega) (by intro l h; simp at h; rcases h with rfl | rfl <;> assumption) (by simp [hl])), hl]
theorem f_Copy (a : List Int) (h : a.length < 17592186044416) : r00_Copy.f a = some a := by
  unfold r00_Copy.f
  simp only [Option.bind_some]
  rw [if_pos (by simp; omega)]; rfl
theorem upInts_mem (n : Nat) (x : Int) : x ∈ upInts n ↔ 0 ≤ x ∧ x < n := by
  unfold upInts
  rw [List.mem_map]
  constructor
  · rintro ⟨i, hi, rfl⟩
    rw [List.mem_range] at hi
    omega
  · rintro ⟨h0, h1⟩
    exact ⟨x.toNat, by rw [List.mem_range]; omega, by omega⟩
theorem upInts_nodup (n : Nat) : (upInts n).Nodup := by
  unfold upInts
  rw [List.Nodup, List.pairwise_map]
  exact List.Pairwise.imp (fun h => by omega) List.pairwise_lt_range
theorem ev_orderOf (l : List Int) (n : Nat) (hn : n ≤ 1000) (hl : Sh l) : ∃ p, Ev (fun k => w04_orderOf.f k l (n : Int)) p ∧ p.Perm (upInts n) := by
  have H : ∀ (m : Nat) (left out : List Int) (i : Nat), left.length = m → (out ++ left).Perm (upInts n) → out.length = i → ∃ p, Ev (fun k => w04_orderOf.l0 k l left out (i : Int)) p ∧ p.Perm (upInts n) := by
    intro m
    induction m with
    | zero =>
      intro left out i hm hp ho
      have : left = [] := List.length_eq_zero_iff.1 hm
      subst this
      exact ⟨out, Ev.step (f := fun _ => some out) (fun k => by simp only [w04_orderOf.l0]; rw [if_neg (by simp)]) (Ev.now _), by simpa using hp⟩
    | succ m ih =>
      intro left out i hm hp ho
      have htot := hp.length_eq
      rw [List.length_append, upInts_length] at htot
      obtain ⟨x, hx⟩ := f_Nth l (i : Int) hl
      obtain ⟨t, h1, h2, h3⟩ := f_Turn (wrap64 (x + i)) (left.length : Int) (by omega)
      have h3 := h3 (by omega)
      obtain ⟨q, rfl⟩ : ∃ q : Nat, t = q := ⟨t.toNat, by omega⟩
      have hq : q < left.length := by omega
      have hsplit : left = left.take q ++ rd left (q : Int) :: left.drop (q + 1) := by
        rw [← drop_rd hq, List.take_append_drop]
      obtain ⟨p, hE, hP⟩ := ih (left.take q ++ left.drop (q + 1)) (out ++ [rd left (q : Int)]) (i + 1) (by simp; omega) (by
        refine List.Perm.trans ?_ hp
        rw [List.append_assoc]
        refine List.Perm.append_left out ?_
        conv => rhs; rw [hsplit]
        exact (List.perm_middle (a := rd left (q : Int)) (l₁ := left.take q) (l₂ := left.drop (q + 1))).symm) (by simp [ho])
      refine ⟨p, Ev.step (fun k => ?_) hE, hP⟩
      have ew : wrap64 ((q : Int) + 1) = ((q + 1 : Nat) : Int) := wsucc hq (by omega)
      have ew2 : wrap64 ((i : Int) + 1) = ((i + 1 : Nat) : Int) := by unfold wrap64; omega
      simp only [w04_orderOf.l0]
      rw [if_pos (by omega), hx]
      simp only [Option.bind_some]
      rw [h1]
      simp only [Option.bind_some]
      rw [if_pos h2, if_pos h3, if_pos (by omega), if_pos (by omega), Int.toNat_natCast, f_Copy _ (by simp; omega), ew, ew2]
      simp only [Option.bind_some]
      rw [if_pos (by omega), if_pos (by omega), Int.toNat_natCast, if_pos (by simp; omega)]
  obtain ⟨p, hE, hP⟩ := H n (upInts n) [] 0 (upInts_length n) (by simp) rfl
  refine ⟨p, ?_, hP⟩
  have hu := f_Upto (n : Int) (by omega)
  rw [Int.toNat_natCast] at hu
  exact Ev.bind hu hE
theorem perm_ok (p : List Int) (n : Nat) (h : p.Perm (upInts n)) : p.length = n ∧ okTo n p p.length := by
  have hl := h.length_eq
  rw [upInts_length] at hl
  refine ⟨hl, fun j hj => ?_⟩
  have hm := (upInts_mem n (rd p (j : Int))).1 (h.mem_iff.1 (rd_mem p (j : Int) (by omega) (by omega)))
  have hnd := h.nodup_iff.2 (upInts_nodup n)
  simp only [Bool.and_eq_true, decide_eq_true_eq, Bool.not_eq_true']
  refine ⟨hm, ?_⟩
  cases hs : stands p j (rd p (j : Int))
  · rfl
  · obtain ⟨i, hi, e⟩ := (stands_iff _ _ _).1 hs
    rw [rd_get (by omega), rd_get hj] at e
    have := (List.nodup_iff_pairwise_ne.1 hnd)
    have := (List.pairwise_iff_getElem.1 this) i j (by omega) hj hi
    exact absurd e this
theorem words_below (n : Nat) (l : List Int) (hn : n ≤ 1048576) (h : ∀ x ∈ l, 0 ≤ x ∧ x < n) : ∀ x ∈ l, isWordB x = true := fun x hx => by
  have := h x hx
  rw [isWordB_iff]; omega
theorem mem_rd {l : List Int} {x : Int} (h : x ∈ l) : ∃ i : Nat, i < l.length ∧ x = rd l (i : Int) := by
  obtain ⟨i, hi, e⟩ := List.getElem_of_mem h
  exact ⟨i, hi, by rw [rd_get hi, e]⟩
/-- Places of a list: numbers below its length. -/
theorem gather_g (a p : List Int) (hn : a.length ≤ 1048576) (hm : p.length ≤ 1048576) (ha : ∀ x ∈ a, isWordB x = true) (hp : ∀ x ∈ p, 0 ≤ x ∧ x < a.length) :
    prim_Gather.g a p = (p.map (fun x => rd a x), 0) := by
  unfold prim_Gather.g
  rw [if_pos (wordsE_zero (by intro l h; simp at h; rcases h with rfl | rfl <;> omega) (by
    intro l h; simp at h
    rcases h with rfl | rfl
    · exact ha
    · exact words_below a.length _ hn hp) rfl)]
  have hin : ∀ j : Nat, j < p.length → inB a.length (rd p (j : Int)) = true := fun j hj => by
    have := hp _ (rd_mem p (j : Int) (by omega) (by omega))
    simp [inB, this]
  rw [allOf_yes _ _ _ (fun j h0 h1 => by have := hin j.toNat (by omega); rwa [Int.toNat_of_nonneg h0] at this)]
  congr 1
  apply List.ext_getElem
  · rw [upTo_length]; simp
  · intro i h1 h2
    rw [List.length_map] at h2
    have := hin i h2
    rw [rd_get h2] at this
    simp [upTo, gatherAt, this, rd_get h2]
theorem rd_map (a p : List Int) (i : Nat) (hi : i < p.length) : rd (p.map (fun x => rd a x)) (i : Int) = rd a (rd p (i : Int)) := by
  rw [rd_get (by simpa using hi), rd_get hi]; simp
theorem map_words (a p : List Int) (ha : ∀ x ∈ a, isWordB x = true) (hp : ∀ x ∈ p, 0 ≤ x ∧ x < a.length) : ∀ x ∈ p.map (fun x => rd a x), isWordB x = true := by
  intro x hx
  obtain ⟨y, hy, rfl⟩ := List.mem_map.1 hx
  exact ha _ (rd_mem a y (hp y hy).1 (hp y hy).2)
theorem ext_rd {a b : List Int} (hl : a.length = b.length) (h : ∀ i : Nat, i < a.length → rd a (i : Int) = rd b (i : Int)) : a = b := by
  apply List.ext_getElem hl
  intro i h1 h2
  have := h i h1
  rwa [rd_get h1, rd_get h2] at this
theorem i64_toInt (x : BitVec 64) : IntKind.i64.wrap (x.toNat : Int) = x.toInt := by
  have h : IntKind.i64.wrap (x.toNat : Int) = ((x.toNat : Int) + 9223372036854775808) % 18446744073709551616 - 9223372036854775808 := by
    simp [IntKind.wrap, IntKind.bits, IntKind.signed]
    split <;> omega
  rw [h, BitVec.toInt_eq_toNat_cond]
  have := x.isLt
  split <;> omega
theorem ext64 (a : Int) (h : -2147483648 ≤ a ∧ a ≤ 2147483647) : BitVec.ofInt 64 a = (BitVec.ofInt 32 a).signExtend 64 := by
  apply BitVec.eq_of_toInt_eq
  rw [BitVec.toInt_signExtend_of_le (by decide), BitVec.toInt_ofInt, BitVec.toInt_ofInt]
  rw [Int.bmod_eq_of_le (by omega) (by omega), Int.bmod_eq_of_le (by omega) (by omega)]
theorem word_of_ext (c : BitVec 32) : -2147483648 ≤ IntKind.i64.wrap (((c.signExtend 64).toNat : Nat) : Int) ∧ IntKind.i64.wrap (((c.signExtend 64).toNat : Nat) : Int) ≤ 2147483647 := by
  rw [i64_toInt, BitVec.toInt_signExtend_of_le (by decide)]
  have h1 := BitVec.le_toInt c
  have h2 := BitVec.toInt_lt (x := c)
  omega
theorem and_word (a b : Int) (ha : -2147483648 ≤ a ∧ a ≤ 2147483647) (hb : -2147483648 ≤ b ∧ b ≤ 2147483647) : -2147483648 ≤ bits .and .i64 a b ∧ bits .and .i64 a b ≤ 2147483647 := by
  have e : bits .and .i64 a b = IntKind.i64.wrap ((((BitVec.ofInt 32 a &&& BitVec.ofInt 32 b).signExtend 64).toNat : Nat) : Int) := by
    show IntKind.i64.wrap (((BitVec.ofInt 64 a &&& BitVec.ofInt 64 b).toNat : Nat) : Int) = _
    rw [ext64 a ha, ext64 b hb, BitVec.signExtend_and]
  rw [e]; exact word_of_ext _
theorem or_word (a b : Int) (ha : -2147483648 ≤ a ∧ a ≤ 2147483647) (hb : -2147483648 ≤ b ∧ b ≤ 2147483647) : -2147483648 ≤ bits .or .i64 a b ∧ bits .or .i64 a b ≤ 2147483647 := by
  have e : bits .or .i64 a b = IntKind.i64.wrap ((((BitVec.ofInt 32 a ||| BitVec.ofInt 32 b).signExtend 64).toNat : Nat) : Int) := by
    show IntKind.i64.wrap (((BitVec.ofInt 64 a ||| BitVec.ofInt 64 b).toNat : Nat) : Int) = _
    rw [ext64 a ha, ext64 b hb, BitVec.signExtend_or]
  rw [e]; exact word_of_ext _
theorem xor_word (a b : Int) (ha : -2147483648 ≤ a ∧ a ≤ 2147483647) (hb : -2147483648 ≤ b ∧ b ≤ 2147483647) : -2147483648 ≤ bits .xor .i64 a b ∧ bits .xor .i64 a b ≤ 2147483647 := by
  have e : bits .xor .i64 a b = IntKind.i64.wrap ((((BitVec.ofInt 32 a ^^^ BitVec.ofInt 32 b).signExtend 64).toNat : Nat) : Int) := by
    show IntKind.i64.wrap (((BitVec.ofInt 64 a ^^^ BitVec.ofInt 64 b).toNat : Nat) : Int) = _
    rw [ext64 a ha, ext64 b hb, BitVec.signExtend_xor]
  rw [e]; exact word_of_ext _
/-- An operation, but division. -/
def plainOp (op : Int) : Prop := 0 ≤ op ∧ op < 12 ∧ op ≠ 3 ∧ op ≠ 4
theorem deed_word (op a b : Int) (ho : plainOp op) (ha : isWordB a = true) (hb : isWordB b = true) : isWordB (deed op a b) = true := by
  rw [isWordB_iff] at *
  unfold deed
  by_cases h0 : op = 0
  · rw [if_pos h0]; unfold wrap64 wrap32; omega
  rw [if_neg h0]
  by_cases h1 : op = 1
  · rw [if_pos h1]; unfold wrap64 wrap32; omega
  rw [if_neg h1]
  by_cases h2 : op = 2
  · rw [if_pos h2]; generalize wrap64 (a * b) = x; unfold wrap64 wrap32; omega
  rw [if_neg h2, if_neg ho.2.2.1, if_neg ho.2.2.2]
  by_cases h5 : op = 5
  · rw [if_pos h5]; unfold truthI; split <;> omega
  rw [if_neg h5]
  by_cases h6 : op = 6
  · rw [if_pos h6]; unfold truthI; split <;> omega
  rw [if_neg h6]
  by_cases h7 : op = 7
  · rw [if_pos h7]; omega
  rw [if_neg h7]
  by_cases h8 : op = 8
  · rw [if_pos h8]; omega
  rw [if_neg h8]
  by_cases h9 : op = 9
  · rw [if_pos h9]; exact and_word a b ha hb
  rw [if_neg h9]
  by_cases h10 : op = 10
  · rw [if_pos h10]; exact or_word a b ha hb
  rw [if_neg h10]
  exact xor_word a b ha hb
def binL (op : Int) (a b : List Int) : List Int := List.zipWith (deed op) a b
theorem binL_length (op : Int) (a b : List Int) (h : a.length = b.length) : (binL op a b).length = a.length := by simp [binL]; omega
theorem rd_binL (op : Int) (a b : List Int) (h : a.length = b.length) (i : Nat) (hi : i < a.length) : rd (binL op a b) (i : Int) = deed op (rd a (i : Int)) (rd b (i : Int)) := by
  rw [rd_get (by rw [binL_length op a b h]; exact hi), rd_get hi, rd_get (by omega)]
  simp [binL]
theorem binL_words (op : Int) (a b : List Int) (h : a.length = b.length) (ho : plainOp op) (ha : ∀ x ∈ a, isWordB x = true) (hb : ∀ x ∈ b, isWordB x = true) : ∀ x ∈ binL op a b, isWordB x = true := by
  intro x hx
  obtain ⟨i, hi, rfl⟩ := mem_rd hx
  rw [binL_length op a b h] at hi
  rw [rd_binL op a b h i hi]
  exact deed_word op _ _ ho (ha _ (rd_mem a (i : Int) (by omega) (by omega))) (hb _ (rd_mem b (i : Int) (by omega) (by omega)))
theorem bin_g (op : Int) (a b : List Int) (ho : plainOp op) (h : a.length = b.length) (hn : a.length ≤ 1048576) (ha : ∀ x ∈ a, isWordB x = true) (hb : ∀ x ∈ b, isWordB x = true) : prim_Bin.g op a b = (binL op a b, 0) := by
  have hop : isOpB op = true := by simp [isOpB, ho.1, ho.2.1]
  have hz : ∀ y : Int, zeroB op y = false := fun y => by simp [zeroB, ho.2.2.1, ho.2.2.2]
  have hD : ∀ i : Nat, i < a.length → word_Do.g op (rd a (i : Int)) (rd b (i : Int)) = (deed op (rd a (i : Int)) (rd b (i : Int)), 0) := fun i hi => by
    rw [Do_ok op _ _ hop (ha _ (rd_mem a (i : Int) (by omega) (by omega))) (hb _ (rd_mem b (i : Int) (by omega) (by omega))), hz]; rfl
  unfold prim_Bin.g
  rw [hop, if_pos rfl, if_pos (wordsE_zero (by intro l hl; simp at hl; rcases hl with rfl | rfl <;> omega) (by intro l hl; simp at hl; rcases hl with rfl | rfl <;> assumption) (by simp [h]))]
  rw [allOf_yes _ _ _ (fun j h0 h1 => by
    obtain ⟨i, rfl⟩ : ∃ i : Nat, j = i := ⟨j.toNat, by omega⟩
    rw [hD i (by omega)]; rfl)]
  congr 1
  refine ext_rd (by rw [upTo_length, binL_length op a b h]; simp) (fun i hi => ?_)
  rw [upTo_length, Int.toNat_natCast] at hi
  rw [rd_upTo _ a.length i hi, rd_binL op a b h i hi, hD i hi]
theorem binL_append (op : Int) (a b c d : List Int) (h : a.length = b.length) : binL op (a ++ c) (b ++ d) = binL op a b ++ binL op c d := by
  unfold binL; exact List.zipWith_append h
theorem cat_g (a b : List Int) (hn : a.length + b.length ≤ 1048576) (ha : ∀ x ∈ a, isWordB x = true) (hb : ∀ x ∈ b, isWordB x = true) : prim_Cat.g a b = (a ++ b, 0) := by
  unfold prim_Cat.g
  rw [if_pos (wordsE_zero (by intro l hl; simp at hl; rcases hl with rfl | rfl <;> omega) (by intro l hl; simp at hl; rcases hl with rfl | rfl <;> assumption) rfl), if_pos hn]
theorem pick_g (f a b : List Int) (h1 : f.length = a.length) (h2 : f.length = b.length) (hn : f.length ≤ 1048576) (hf : ∀ x ∈ f, isWordB x = true) (ha : ∀ x ∈ a, isWordB x = true) (hb : ∀ x ∈ b, isWordB x = true) : prim_Pick.g f a b = (upTo (pickAt f a b) f.length, 0) := by
  unfold prim_Pick.g
  rw [if_pos (wordsE_zero (by intro l hl; simp at hl; rcases hl with rfl | rfl | rfl <;> omega) (by intro l hl; simp at hl; rcases hl with rfl | rfl | rfl <;> assumption) (by simp [fit3, h1]; omega))]
theorem app_words {a b : List Int} (ha : ∀ x ∈ a, isWordB x = true) (hb : ∀ x ∈ b, isWordB x = true) : ∀ x ∈ a ++ b, isWordB x = true := by
  intro x hx
  rcases List.mem_append.1 hx with h | h
  · exact ha x h
  · exact hb x h
theorem pick_words (f a b : List Int) (h1 : f.length = a.length) (h2 : f.length = b.length) (ha : ∀ x ∈ a, isWordB x = true) (hb : ∀ x ∈ b, isWordB x = true) : ∀ x ∈ upTo (pickAt f a b) f.length, isWordB x = true := by
  intro x hx
  unfold upTo at hx
  obtain ⟨i, hi, rfl⟩ := List.mem_map.1 hx
  rw [List.mem_range, Int.toNat_natCast] at hi
  unfold pickAt
  split
  · exact ha _ (rd_mem a (i : Int) (by omega) (by omega))
  · exact hb _ (rd_mem b (i : Int) (by omega) (by omega))
theorem pack_pick (f a b : List Int) : packTo f (upTo (pickAt f a b) f.length) f.length = packTo f a f.length := by
  unfold packTo
  apply List.map_congr_left
  intro i hi
  obtain ⟨h1, h2⟩ := List.mem_filter.1 hi
  rw [List.mem_range, Int.toNat_natCast] at h1
  rw [rd_upTo _ f.length i h1]
  unfold pickAt
  rw [if_pos h2]
theorem alike_loop (n : Nat) (a b f : List Int) (hn : n ≤ 100) (ha : a.length = n) (hb : b.length = n) (hf : f.length = n) : Ev (fun k => w04_PrimAlike.l0 k (n : Int) a b f (upTo (pickAt f a b) n) 0) true := by
  have hl : (upTo (pickAt f a b) (n : Int)).length = n := by rw [upTo_length]; simp
  have H := up (n := n) (P := fun i => Ev (fun k => w04_PrimAlike.l0 k (n : Int) a b f (upTo (pickAt f a b) n) (i : Int)) true)
    (Ev.step (f := fun _ => some true) (fun k => by simp only [w04_PrimAlike.l0]; rw [if_neg (by omega)]; rfl) (Ev.now _))
    (fun i hi ih => by
      refine Ev.step (f := fun k => w04_PrimAlike.l0 k (n : Int) a b f (upTo (pickAt f a b) n) ((i + 1 : Nat) : Int)) (fun k => ?_) ih
      have hp := rd_upTo (pickAt f a b) n i hi
      unfold pickAt at hp
      have c1 : (i : Int) < (n : Int) := Int.ofNat_lt.2 hi
      have c2 : (0 : Int) ≤ (i : Int) := Int.natCast_nonneg i
      have c3 : (i : Int) < (f.length : Int) := by rw [hf]; exact c1
      have c4 : (i : Int) < ((upTo (pickAt f a b) (n : Int)).length : Int) := by rw [hl]; exact c1
      have c5 : (i : Int) < (a.length : Int) := by rw [ha]; exact c1
      have c6 : (i : Int) < (b.length : Int) := by rw [hb]; exact c1
      have ew : wrap64 ((i : Int) + 1) = ((i + 1 : Nat) : Int) := wsucc hi (Nat.le_trans hn (by decide))
      simp only [w04_PrimAlike.l0, c1, c2, c3, c4, c5, c6, ew, if_true]
      by_cases hz : rd f (i : Int) = 0
      · rw [if_neg (by simp [hz])] at hp
        rw [if_pos hz]
        exact if_pos hp
      · rw [if_pos (by simp [hz])] at hp
        rw [if_neg hz]
        exact if_pos hp) 0 (Nat.zero_le _)
  exact H
theorem op_plain (t : Nat) (ht : t < 10) : plainOp (rd [0, 1, 2, 5, 6, 7, 8, 9, 10, 11] (t : Int)) := by
  have : t = 0 ∨ t = 1 ∨ t = 2 ∨ t = 3 ∨ t = 4 ∨ t = 5 ∨ t = 6 ∨ t = 7 ∨ t = 8 ∨ t = 9 := by omega
  rcases this with rfl | rfl | rfl | rfl | rfl | rfl | rfl | rfl | rfl | rfl <;> exact ⟨by decide, by decide, by decide, by decide⟩
theorem alike_mid (k : Nat) (op : Int) (n : Nat) (a b f p : List Int) (hop : plainOp op) (hn : n ≤ 100) (hal : a.length = n) (hbl : b.length = n) (haw : ∀ x ∈ a, isWordB x = true) (hbw : ∀ x ∈ b, isWordB x = true)
    (hf : f.length = n) (hfw : ∀ x ∈ f, isWordB x = true) (hp : p.Perm (upInts n)) (e4 : w04_PrimAlike.l0 k (n : Int) a b f (upTo (pickAt f a b) n) 0 = some true) :
    prim_Bin.g op a b = (binL op a b, 0) ∧ prim_Pick.g f a b = (upTo (pickAt f a b) n, 0) ∧ prim_Cat.g a b = (a ++ b, 0) ∧ prim_Cat.g b a = (b ++ a, 0) ∧ prim_Bin.g op (a ++ b) (b ++ a) = (binL op a b ++ binL op b a, 0) ∧ prim_Bin.g op b a = (binL op b a, 0) ∧
    prim_Cat.g (binL op a b) (binL op b a) = (binL op a b ++ binL op b a, 0) ∧ ((binL op a b).length : Int) = (n : Int) ∧ ((upTo (pickAt f a b) (n : Int)).length : Int) = (n : Int) ∧
    w04_PrimAlike.j0 (k + 2) op (n : Int) a b f p (binL op a b) (upTo (pickAt f a b) n) false = some true := by
  have hab : a.length = b.length := by omega
  have g1 := bin_g op a b hop hab (by omega) haw hbw
  have g2 := pick_g f a b (by omega) (by omega) (by omega) hfw haw hbw
  rw [hf] at g2
  have g3 := cat_g a b (by omega) haw hbw
  have g4 := cat_g b a (by omega) hbw haw
  have g5 := bin_g op (a ++ b) (b ++ a) hop (by simp; omega) (by simp; omega) (app_words haw hbw) (app_words hbw haw)
  rw [binL_append op a b b a hab] at g5
  have g6 := bin_g op b a hop hab.symm (by omega) hbw haw
  have cl := binL_length op a b hab
  have tl := binL_length op b a hab.symm
  have cw := binL_words op a b hab hop haw hbw
  have tw := binL_words op b a hab.symm hop hbw haw
  have g7 := cat_g (binL op a b) (binL op b a) (by omega) cw tw
  have hpr : ∀ x ∈ p, 0 ≤ x ∧ x < n := fun x hx => (upInts_mem n x).1 (hp.mem_iff.1 hx)
  have hpl := (perm_ok p n hp).1
  have g8 := gather_g a p (by omega) (by omega) haw (by rw [hal]; exact hpr)
  have g9 := gather_g b p (by omega) (by omega) hbw (by rw [hbl]; exact hpr)
  have g10 := bin_g op (p.map (fun x => rd a x)) (p.map (fun x => rd b x)) hop (by simp) (by simp; omega) (map_words a p haw (by rw [hal]; exact hpr)) (map_words b p hbw (by rw [hbl]; exact hpr))
  have g11 := gather_g (binL op a b) p (by omega) (by omega) cw (by rw [cl, hal]; exact hpr)
  have e10 : binL op (p.map (fun x => rd a x)) (p.map (fun x => rd b x)) = p.map (fun x => rd (binL op a b) x) := by
    refine ext_rd (by rw [binL_length _ _ _ (by simp)]; simp) (fun i hi => ?_)
    rw [binL_length _ _ _ (by simp), List.length_map] at hi
    have hr := hpr _ (rd_mem p (i : Int) (by omega) (by omega))
    rw [rd_binL _ _ _ (by simp) i (by simpa using hi), rd_map _ _ _ hi, rd_map _ _ _ hi, rd_map _ _ _ hi]
    obtain ⟨v, hv⟩ : ∃ v : Nat, rd p (i : Int) = v := ⟨(rd p (i : Int)).toNat, by omega⟩
    rw [hv, rd_binL op a b hab v (by omega)]
  rw [e10] at g10
  have g12 := pack_g f a (by omega) (by omega) hfw haw
  have pl : (upTo (pickAt f a b) (n : Int)).length = n := by rw [upTo_length]; simp
  have pw := pick_words f a b (by omega) (by omega) haw hbw
  rw [hf] at pw
  have g13 := pack_g f (upTo (pickAt f a b) (n : Int)) (by omega) (by omega) hfw pw
  have e13 := pack_pick f a b
  rw [hf] at e13
  rw [pl, e13] at g13
  rw [hal] at g12
  have cl2 : ((binL op a b).length : Int) = (n : Int) := by omega
  have pl2 : ((upTo (pickAt f a b) (n : Int)).length : Int) = (n : Int) := by omega
  have j1 : w04_PrimAlike.j1 (k + 1) (n : Int) a b f (upTo (pickAt f a b) n) false = some true := by
    simp only [w04_PrimAlike.j1, Bool.false_eq_true, if_false]; exact e4
  have j0 : w04_PrimAlike.j0 (k + 2) op (n : Int) a b f p (binL op a b) (upTo (pickAt f a b) n) false = some true := by
    simp only [w04_PrimAlike.j0, Bool.false_eq_true, if_false, pGather.f, pBin.f, pPack.f, Eq_.f, g8, g9, g10, g11, g12, g13, Option.bind_some, if_true, BEq.rfl, Bool.not_true]
    exact j1
  exact ⟨g1, g2, g3, g4, g5, g6, g7, cl2, pl2, j0⟩
theorem PrimAlike : w04_PrimAlike.Pure := by
  intro o l1 l2 l3 _ _ h1 _ _ h2 _ _ h3 _
  have s1 : Sh l1 := by unfold Sh; omega
  have s2 : Sh l2 := by unfold Sh; omega
  have s3 : Sh l3 := by unfold Sh; omega
  obtain ⟨t, t1, t2, t3⟩ := f_Turn o 10 (by omega)
  have t3 := t3 (by omega)
  obtain ⟨t, rfl⟩ : ∃ m : Nat, t = m := ⟨t.toNat, by omega⟩
  have hlt : (t : Int) < ((([0, 1, 2, 5, 6, 7, 8, 9, 10, 11] : List Int).length : Nat) : Int) := t3
  obtain ⟨op, hO, hop⟩ : ∃ op : Int, Aside0 (rd [0, 1, 2, 5, 6, 7, 8, 9, 10, 11] (t : Int) = op) ∧ plainOp op := ⟨_, ⟨rfl⟩, op_plain t (by omega)⟩
  obtain ⟨n, hn⟩ : ∃ n : Nat, n = min (min l1.length l2.length) 100 := ⟨_, rfl⟩
  have hm : mn (mn (l1.length : Int) (l2.length : Int)) 100 = (n : Int) := by rw [mn_min, mn_min]; omega
  obtain ⟨a, ⟨K0, e0⟩, _, _, haw, hal⟩ := ev_words l1 n (by omega) s1
  obtain ⟨b, ⟨K1, e1⟩, _, _, hbw, hbl⟩ := ev_words l2 n (by omega) s2
  have hal : a.length = n := by omega
  have hbl : b.length = n := by omega
  obtain ⟨f, ⟨K2, e2⟩, hf, hfw⟩ := ev_flagsOf l3 n (by omega) s3
  obtain ⟨p, ⟨K3, e3⟩, hp⟩ := ev_orderOf l3 n (by omega) s3
  obtain ⟨K4, e4⟩ := alike_loop n a b f (by omega) hal hbl hf
  refine ⟨K0 + K1 + K2 + K3 + K4 + 2, ?_⟩
  have e0 := e0 (K0 + K1 + K2 + K3 + K4 + 2) (by omega)
  have e1 := e1 (K0 + K1 + K2 + K3 + K4 + 2) (by omega)
  have e2 := e2 (K0 + K1 + K2 + K3 + K4 + 2) (by omega)
  have e3 := e3 (K0 + K1 + K2 + K3 + K4 + 2) (by omega)
  have e4 := e4 (K0 + K1 + K2 + K3 + K4) (by omega)
  generalize K0 + K1 + K2 + K3 + K4 = k at e0 e1 e2 e3 e4
  simp only at e0 e1 e2 e3 e4
  obtain ⟨g1, g2, g3, g4, g5, g6, g7, cl2, pl2, j0⟩ := alike_mid k op n a b f p hop (by omega) hal hbl haw hbw hf hfw hp e4
  simp only [w04_PrimAlike.f, Option.bind_some, t1, t2, hlt, hm, e0, e1, e2, e3, hO.out, pBin.f, pPick.f, pCat.f, Eq_.f, g1, g2, g3, g4, g5, g6, g7, cl2, pl2, if_true, BEq.rfl, Bool.not_true]
  exact j0
end Go.Proofs.YtpimackoadfcmaaDoor.Pure
