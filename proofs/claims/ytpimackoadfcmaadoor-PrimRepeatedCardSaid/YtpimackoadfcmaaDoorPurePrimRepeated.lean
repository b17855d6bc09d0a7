/- PrimRepeated: to repeat words is to gather them at the places repeated, and with each goes its number, for any words and numbers of times as numbers choose them; it is told of numbers and lists alone. -/
import Derived.Test.YtpimackoadfcmaaDoorPPrimRepeatedx
namespace Go.Proofs.YtpimackoadfcmaaDoor.Pure
open Go.RowKit Go.Proofs.YtpimackoadfcmaaDoor.PPrimRepeated Go.Proofs.YtpimackoadfcmaaDoor.Hand Go.Proofs.YtpimackoadfcmaaDoorW.PrintWords Go.Proofs.YtpimackoadfcmaaDoorW.PrintLast Go.Proofs.YtpimackoadfcmaaDoorW.PrintMore
set_option linter.unusedVariables false
set_option linter.unusedSimpArgs false
/-- Lists so short that a place's successor is no other number. -/
def Sh {α : Type} (l : List α) : Prop := l.length ≤ 4611686018427387904
theorem wsucc {i n : Nat} (h : i < n) (hn : n ≤ 4611686018427387904) : wrap64 ((i : Int) + 1) = ((i + 1 : Nat) : Int) := by unfold wrap64; omega
theorem rdn (l : List Int) (i : Nat) : rd l (i : Int) = l.getD i 0 := by simp [rd]
theorem rd_get {l : List Int} {i : Nat} (h : i < l.length) : rd l (i : Int) = l[i] := by simp [rd, h]
theorem up {n : Nat} {P : Nat → Prop} (h0 : P n) (hs : ∀ i, i < n → P (i + 1) → P i) (i : Nat) (hi : i ≤ n) : P i := by
  have key : ∀ d, ∀ i, i + d = n → P i := by
    intro d
    induction d with
    | zero => intro i h; have : i = n := by omega
              subst this; exact h0
    | succ d ih => intro i h; exact hs i (by omega) (ih (i + 1) (by omega))
  exact key (n - i) i (by omega)
theorem f_Word (n : Int) : r00_Word.f n = some (wrap64 (wrap32 n)) := by
  unfold r00_Word.f
  congr 2
  unfold wrap32 IntKind.wrap
  simp only [IntKind.signed, IntKind.bits]
  simp
theorem f_Upto (n : Int) (hn : n ≤ 4611686018427) : Ev (fun k => r00_Upto.f k n) (upInts n.toNat) := by
  have H := up (n := n.toNat) (P := fun i => Ev (fun k => r00_Upto.l0 k n (upInts i) (i : Int)) (upInts n.toNat))
    (Ev.step (f := fun _ => some (upInts n.toNat)) (fun k => by simp only [r00_Upto.l0]; rw [if_neg (by omega)]) (Ev.now _))
    (fun i hi ih => by
      refine Ev.step (f := fun k => r00_Upto.l0 k n (upInts (i + 1)) ((i + 1 : Nat) : Int)) (fun k => ?_) ih
      simp only [r00_Upto.l0]; rw [if_pos (by omega), if_pos (by rw [upInts_length]; omega), upInts_succ, wsucc hi (by omega)]) 0 (Nat.zero_le _)
  exact H
theorem take_rd {l : List Int} {i : Nat} (h : i < l.length) : l.take (i + 1) = l.take i ++ [rd l (i : Int)] := by
  rw [rd_get h, List.take_add_one, List.getElem?_eq_getElem h]; rfl
theorem sum_bound (l : List Int) (B : Int) (h : ∀ x ∈ l, -B ≤ x ∧ x ≤ B) : -(l.length * B) ≤ l.sum ∧ l.sum ≤ l.length * B := by
  induction l with
  | nil => simp
  | cons a l ih =>
    have h1 := ih (fun x hx => h x (List.mem_cons_of_mem _ hx))
    have h2 := h a (List.mem_cons_self)
    rw [List.sum_cons, List.length_cons]
    have e : ((l.length + 1 : Nat) : Int) * B = l.length * B + B := by rw [Int.natCast_add, Int.add_mul]; simp
    rw [e]
    omega
theorem ev_Sum (l : List Int) (hl : l.length ≤ 1048576) (hb : ∀ x ∈ l, -4294967296 ≤ x ∧ x ≤ 4294967296) : Ev (fun k => r00_Sum.f k l) l.sum := by
  have H := up (n := l.length) (P := fun i => Ev (fun k => r00_Sum.l0 k l (l.take i).sum (i : Int)) l.sum)
    (Ev.step (f := fun _ => some l.sum) (fun k => by simp only [r00_Sum.l0]; rw [if_neg (by omega), List.take_length]) (Ev.now _))
    (fun i hi ih => by
      refine Ev.step (f := fun k => r00_Sum.l0 k l (l.take (i + 1)).sum ((i + 1 : Nat) : Int)) (fun k => ?_) ih
      have h1 := sum_bound (l.take (i + 1)) 4294967296 (fun x hx => hb x (List.mem_of_mem_take hx))
      have h2 : (l.take (i + 1)).length ≤ 1048576 := by rw [List.length_take]; omega
      have e : (l.take (i + 1)).sum = (l.take i).sum + rd l (i : Int) := by rw [take_rd hi, List.sum_append]; simp
      have e2 : wrap64 ((l.take i).sum + rd l (i : Int)) = (l.take (i + 1)).sum := by
        rw [← e]
        generalize (l.take (i + 1)).sum = S at h1
        generalize (l.take (i + 1)).length = n at h1 h2
        unfold wrap64
        omega
      simp only [r00_Sum.l0]; rw [if_pos (by omega), if_pos (by omega), e2, wsucc hi (by omega)]) 0 (Nat.zero_le _)
  exact H
theorem isWordB_iff (n : Int) : isWordB n = true ↔ -2147483648 ≤ n ∧ n ≤ 2147483647 := by simp [isWordB]
theorem iotaTo_nat (l : List Int) (i : Nat) : iotaTo l ((i + 1 : Nat) : Int) = iotaTo l (i : Int) ++ upInts (rd l (i : Int)).toNat := by
  have := iotaTo_succ l (i : Int) (by omega)
  rw [← this]; rfl
theorem repTo_nat (l r : List Int) (i : Nat) : repTo l r ((i + 1 : Nat) : Int) = repTo l r (i : Int) ++ List.replicate (rd r (i : Int)).toNat (rd l (i : Int)) := by
  have := repTo_succ l r (i : Int) (by omega)
  rw [← this]; rfl
theorem repTo_sum (l r : List Int) (h : ∀ x ∈ r, 0 ≤ x) : ∀ i : Nat, i ≤ r.length → ((repTo l r (i : Int)).length : Int) = (r.take i).sum
  | 0, _ => by simp [repTo]
  | i + 1, hi => by
    have hlt : i < r.length := by omega
    have ih := repTo_sum l r h i (by omega)
    have := h _ (rd_mem r (i : Int) (by omega) (by omega))
    rw [repTo_nat, List.length_append, List.length_replicate, take_rd hlt, List.sum_append, Int.natCast_add, ih]
    simp
    omega
theorem f_Turn (n m : Int) (hm : m ≤ 4611686018427387904) : ∃ t, r00_Turn.f n m = some t ∧ 0 ≤ t ∧ (0 < m → t < m) := by
  unfold r00_Turn.f
  by_cases h1 : m < 1
  · exact ⟨0, by rw [if_pos h1], by omega, fun h => by omega⟩
  · rw [if_neg h1, if_neg (by omega)]
    have hlt := Int.tmod_lt_of_pos n (show 0 < m by omega)
    have hgt : -m < n.tmod m := by
      have := Int.lt_tmod_of_pos n (show 0 < m by omega)
      exact this
    by_cases h2 : n.tmod m < 0
    · rw [if_pos h2]
      exact ⟨_, rfl, by unfold wrap64; omega, fun _ => by unfold wrap64; omega⟩
    · rw [if_neg h2]
      exact ⟨_, rfl, by omega, fun _ => hlt⟩
theorem f_Nth (l : List Int) (at_ : Int) (hl : Sh l) : ∃ x, r00_Nth.f l at_ = some x := by
  unfold r00_Nth.f
  by_cases h0 : (l.length : Int) = 0
  · exact ⟨0, by rw [if_pos h0]⟩
  · obtain ⟨t, h1, h2, h3⟩ := f_Turn at_ (l.length : Int) (by unfold Sh at hl; omega)
    exact ⟨rd l t, by rw [if_neg h0, h1]; simp only [Option.bind_some]; rw [if_pos h2, if_pos (h3 (by omega))]⟩
theorem wrap32_word (x : Int) : isWordB (wrap64 (wrap32 x)) = true := by
  rw [isWordB_iff]; unfold wrap64 wrap32; omega
theorem ev_words (l : List Int) (most : Nat) (hm : most ≤ 1000) (hl : Sh l) : ∃ a, Ev (fun k => w04_words.f k l (most : Int)) a ∧ a.length ≤ most ∧ a.length ≤ l.length ∧ (∀ x ∈ a, isWordB x = true) ∧ a.length = min l.length most := by
  let g : Nat → Int := fun i => wrap64 (wrap32 (rd l (i : Int)))
  have H := up (n := min l.length most) (P := fun i => Ev (fun k => r00_Wrap.l0 k l (most : Int) ((List.range i).map g) (i : Int)) ((List.range (min l.length most)).map g))
    (Ev.step (f := fun _ => some ((List.range (min l.length most)).map g)) (fun k => by
      simp only [r00_Wrap.l0]
      by_cases h : ((min l.length most : Nat) : Int) < (l.length : Int)
      · rw [if_pos h, if_neg (by omega)]
      · rw [if_neg h]) (Ev.now _))
    (fun i hi ih => by
      refine Ev.step (f := fun k => r00_Wrap.l0 k l (most : Int) ((List.range (i + 1)).map g) ((i + 1 : Nat) : Int)) (fun k => ?_) ih
      simp only [r00_Wrap.l0]; rw [if_pos (by omega), if_pos (by omega), if_pos (by omega), f_Word]
      simp only [Option.bind_some]
      rw [if_pos (by simp; omega), wsucc hi (by omega), List.range_succ, List.map_append]
      rfl) 0 (Nat.zero_le _)
  refine ⟨(List.range (min l.length most)).map g, ?_, ?_, ?_, ?_, ?_⟩
  · have e : (fun k => w04_words.f k l (most : Int)) = fun k => (r00_Wrap.f k l (most : Int)).bind fun t => some t := rfl
    rw [e]
    exact Ev.bind (f := fun _ t => some t) H (Ev.now _)
  · simp; omega
  · simp; omega
  · intro x hx
    obtain ⟨i, _, rfl⟩ := List.mem_map.1 hx
    exact wrap32_word _
  · simp
theorem wordsE_zero {ls : List (List Int)} {fit : Bool} (h1 : ∀ l ∈ ls, l.length ≤ 1048576) (h2 : ∀ l ∈ ls, ∀ n ∈ l, isWordB n = true) (h3 : fit = true) : wordsE ls fit = 0 := by
  unfold wordsE
  rw [if_neg, if_neg, if_pos h3]
  · intro h
    obtain ⟨l, hl, h⟩ := List.any_eq_true.1 h
    obtain ⟨n, hn, h⟩ := List.any_eq_true.1 h
    rw [h2 l hl n hn] at h
    cases h
  · intro h
    obtain ⟨l, hl, h⟩ := List.any_eq_true.1 h
    have := h1 l hl
    simp at h
    omega
theorem rd_app_left (a b : List Int) (i : Nat) (h : i < a.length) : rd (a ++ b) (i : Int) = rd a (i : Int) := by
  rw [rdn, rdn, List.getD_eq_getElem?_getD, List.getD_eq_getElem?_getD, List.getElem?_append_left h]
theorem rd_app_right (a b : List Int) (i : Nat) : rd (a ++ b) ((a.length + i : Nat) : Int) = rd b (i : Int) := by
  rw [rdn, rdn, List.getD_eq_getElem?_getD, List.getD_eq_getElem?_getD, List.getElem?_append_right (by omega)]
  congr 2; omega
theorem upInts_mem (n : Nat) (x : Int) : x ∈ upInts n ↔ 0 ≤ x ∧ x < n := by
  unfold upInts
  rw [List.mem_map]
  constructor
  · rintro ⟨i, hi, rfl⟩
    rw [List.mem_range] at hi
    omega
  · rintro ⟨h0, h1⟩
    exact ⟨x.toNat, by rw [List.mem_range]; omega, by omega⟩
theorem rd_upInts (n i : Nat) (h : i < n) : rd (upInts n) (i : Int) = i := by
  rw [rd_get (by rw [upInts_length]; exact h)]
  simp [upInts]
theorem words_below (n : Nat) (l : List Int) (hn : n ≤ 1048576) (h : ∀ x ∈ l, 0 ≤ x ∧ x < n) : ∀ x ∈ l, isWordB x = true := fun x hx => by
  have := h x hx
  rw [isWordB_iff]; omega
/-- Places of a list: numbers below its length. -/
theorem gather_g (a p : List Int) (hn : a.length ≤ 1048576) (hm : p.length ≤ 1048576) (ha : ∀ x ∈ a, isWordB x = true) (hp : ∀ x ∈ p, 0 ≤ x ∧ x < a.length) :
    prim_Gather.g a p = (p.map (fun x => rd a x), 0) := by
  unfold prim_Gather.g
  rw [if_pos (wordsE_zero (by intro l h; simp at h; rcases h with rfl | rfl <;> omega) (by
    intro l h; simp at h
    rcases h with rfl | rfl
    · exact ha
    · exact words_below a.length _ hn hp) rfl)]
  have hin : ∀ j : Nat, j < p.length → inB a.length (rd p (j : Int)) = true := fun j hj => by
    have := hp _ (rd_mem p (j : Int) (by omega) (by omega))
    simp [inB, this]
  rw [allOf_yes _ _ _ (fun j h0 h1 => by have := hin j.toNat (by omega); rwa [Int.toNat_of_nonneg h0] at this)]
  congr 1
  apply List.ext_getElem
  · rw [upTo_length]; simp
  · intro i h1 h2
    rw [List.length_map] at h2
    have := hin i h2
    rw [rd_get h2] at this
    simp [upTo, gatherAt, this, rd_get h2]
theorem repTo_prefix (l r : List Int) (i d : Nat) : ∃ rest, repTo l r ((i + d : Nat) : Int) = repTo l r (i : Int) ++ rest := by
  induction d with
  | zero => exact ⟨[], by simp⟩
  | succ d ih =>
    obtain ⟨rest, h⟩ := ih
    exact ⟨rest ++ List.replicate (rd r ((i + d : Nat) : Int)).toNat (rd l ((i + d : Nat) : Int)), by rw [← List.append_assoc, ← h]; exact repTo_nat l r (i + d)⟩
theorem iotaTo_prefix (r : List Int) (i d : Nat) : ∃ rest, iotaTo r ((i + d : Nat) : Int) = iotaTo r (i : Int) ++ rest := by
  induction d with
  | zero => exact ⟨[], by simp⟩
  | succ d ih =>
    obtain ⟨rest, h⟩ := ih
    exact ⟨rest ++ upInts (rd r ((i + d : Nat) : Int)).toNat, by rw [← List.append_assoc, ← h]; exact iotaTo_nat r (i + d)⟩
theorem rd_in_mid (A B C : List Int) (j : Nat) (hj : j < B.length) : rd (A ++ B ++ C) ((A.length + j : Nat) : Int) = rd B (j : Int) ∧ A.length + j < (A ++ B ++ C).length := by
  constructor
  · rw [List.append_assoc, rd_app_right, rd_app_left B C j hj]
  · simp; omega
theorem repTo_at (l r : List Int) (n i j : Nat) (hi : i < n) (hj : j < (rd r (i : Int)).toNat) :
    rd (repTo l r (n : Int)) (((repTo l r (i : Int)).length + j : Nat) : Int) = rd l (i : Int) ∧ (repTo l r (i : Int)).length + j < (repTo l r (n : Int)).length := by
  obtain ⟨rest, h⟩ := repTo_prefix l r (i + 1) (n - (i + 1))
  have e : i + 1 + (n - (i + 1)) = n := by omega
  rw [e, repTo_nat] at h
  have := rd_in_mid (repTo l r (i : Int)) (List.replicate (rd r (i : Int)).toNat (rd l (i : Int))) rest j (by simpa using hj)
  rw [← h] at this
  refine ⟨this.1.trans ?_, this.2⟩
  rw [rd_get (by simpa using hj)]; simp
theorem iotaTo_at (r : List Int) (n i j : Nat) (hi : i < n) (hj : j < (rd r (i : Int)).toNat) :
    rd (iotaTo r (n : Int)) (((iotaTo r (i : Int)).length + j : Nat) : Int) = j ∧ (iotaTo r (i : Int)).length + j < (iotaTo r (n : Int)).length := by
  obtain ⟨rest, h⟩ := iotaTo_prefix r (i + 1) (n - (i + 1))
  have e : i + 1 + (n - (i + 1)) = n := by omega
  rw [e, iotaTo_nat] at h
  have := rd_in_mid (iotaTo r (i : Int)) (upInts (rd r (i : Int)).toNat) rest j (by rw [upInts_length]; exact hj)
  rw [← h] at this
  exact ⟨this.1.trans (rd_upInts _ _ hj), this.2⟩
theorem repTo_len (l l' r : List Int) : ∀ i : Nat, (repTo l r (i : Int)).length = (repTo l' r (i : Int)).length
  | 0 => by simp [repTo]
  | i + 1 => by rw [repTo_nat, repTo_nat, List.length_append, List.length_append, repTo_len l l' r i]; simp
theorem iotaTo_len (l r : List Int) : ∀ i : Nat, (iotaTo r (i : Int)).length = (repTo l r (i : Int)).length
  | 0 => by simp [repTo, iotaTo]
  | i + 1 => by rw [repTo_nat, iotaTo_nat, List.length_append, List.length_append, iotaTo_len l r i, upInts_length]; simp
theorem repTo_map (a r : List Int) (n : Nat) : ∀ i : Nat, i ≤ n → (repTo (upInts n) r (i : Int)).map (fun x => rd a x) = repTo a r (i : Int)
  | 0, _ => by simp [repTo]
  | i + 1, hi => by rw [repTo_nat, repTo_nat, List.map_append, repTo_map a r n i (by omega), List.map_replicate, rd_upInts n i (by omega)]
theorem repTo_mem (l r : List Int) (n : Nat) (hn : n ≤ l.length) : ∀ x ∈ repTo l r (n : Int), x ∈ l := by
  intro x hx
  unfold repTo at hx
  obtain ⟨i, hi, h⟩ := List.mem_flatMap.1 hx
  rw [List.mem_range, Int.toNat_natCast] at hi
  have := (List.mem_replicate.1 h).2
  subst this
  exact rd_mem l (i : Int) (by omega) (by omega)
theorem rep_g (l r : List Int) (hl : l.length = r.length) (hn : l.length ≤ 1048576) (hlw : ∀ x ∈ l, isWordB x = true) (hrw : ∀ x ∈ r, isWordB x = true) (hr : ∀ x ∈ r, 0 ≤ x) (hs : (repTo l r l.length).length ≤ 1048576) : prim_Rep.g l r = (repTo l r l.length, 0) := by
  unfold prim_Rep.g
  rw [if_pos (wordsE_zero (by intro l h; simp at h; rcases h with rfl | rfl <;> omega) (by intro l h; simp at h; rcases h with rfl | rfl <;> assumption) (by simp [hl])), if_neg, if_pos hs]
  intro h
  obtain ⟨x, hx, h⟩ := List.any_eq_true.1 h
  have := hr x hx
  simp at h
  omega
theorem iota_g (r : List Int) (hn : r.length ≤ 1048576) (hrw : ∀ x ∈ r, isWordB x = true) (hr : ∀ x ∈ r, 0 ≤ x) (hs : (iotaTo r r.length).length ≤ 1048576) : prim_Iota.g r = (iotaTo r r.length, 0) := by
  unfold prim_Iota.g
  rw [if_pos (wordsE_zero (by intro l h; simp at h; subst h; omega) (by intro l h; simp at h; subst h; assumption) rfl), if_neg, if_pos hs]
  intro h
  obtain ⟨x, hx, h⟩ := List.any_eq_true.1 h
  have := hr x hx
  simp at h
  omega
theorem l2_step (k : Nat) (a t X Y I : List Int) (z i j : Nat) (h1 : i < t.length) (h2 : (j : Int) < rd t (i : Int)) (h7 : rd t (i : Int) < 7) (hY : z < Y.length) (y1 : rd Y (z : Int) = i) (hI : z < I.length) (w1 : rd I (z : Int) = j)
    (hX : z < X.length) (hn : X.length ≤ 700) (hi : i < a.length) (x1 : rd X (z : Int) = rd a (i : Int)) :
    w04_PrimRepeated.l2 (k + 1) a t X Y I (z : Int) (i : Int) (j : Int) = w04_PrimRepeated.l2 k a t X Y I ((z + 1 : Nat) : Int) (i : Int) ((j + 1 : Nat) : Int) := by
  have ew : wrap64 ((z : Int) + 1) = ((z + 1 : Nat) : Int) := wsucc hX (Nat.le_trans hn (by decide))
  have ej : wrap64 ((j : Int) + 1) = ((j + 1 : Nat) : Int) := wsucc (n := 7) (Int.ofNat_lt.1 (Int.lt_trans h2 h7)) (by decide)
  have c1 : (0 : Int) ≤ (i : Int) := Int.natCast_nonneg i
  have c2 : (i : Int) < (t.length : Int) := Int.ofNat_lt.2 h1
  have c3 : (0 : Int) ≤ (z : Int) := Int.natCast_nonneg z
  have c4 : (z : Int) < (Y.length : Int) := Int.ofNat_lt.2 hY
  have c5 : (z : Int) < (I.length : Int) := Int.ofNat_lt.2 hI
  have c6 : (z : Int) < (X.length : Int) := Int.ofNat_lt.2 hX
  have c7 : (i : Int) < (a.length : Int) := Int.ofNat_lt.2 hi
  simp only [w04_PrimRepeated.l2, c1, c2, h2, c3, c4, y1, c5, w1, c6, c7, x1, ew, ej, if_true]
theorem repeated_loop (a t : List Int) (hl : t.length = a.length) (hn : a.length ≤ 100) (ht : ∀ x ∈ t, 0 ≤ x ∧ x < 7) (hs : (repTo a t (a.length : Int)).length ≤ 700) :
    Ev (fun k => w04_PrimRepeated.l1 k a t (repTo a t a.length) (repTo (upInts a.length) t a.length) (iotaTo t a.length) 0 0) true := by
  obtain ⟨X, hX⟩ : ∃ X, X = repTo a t (a.length : Int) := ⟨_, rfl⟩
  obtain ⟨Y, hY⟩ : ∃ Y, Y = repTo (upInts a.length) t (a.length : Int) := ⟨_, rfl⟩
  obtain ⟨I, hI⟩ : ∃ I, I = iotaTo t (a.length : Int) := ⟨_, rfl⟩
  rw [← hX, ← hY, ← hI]
  rw [← hX] at hs
  have e0 : repTo a t ((0 : Nat) : Int) = [] := by simp [repTo]
  obtain ⟨Z, hZ⟩ : ∃ Z : Nat → Nat, Z = fun (i : Nat) => (repTo a t (i : Int)).length := ⟨_, rfl⟩
  have hZi : ∀ i : Nat, (repTo a t (i : Int)).length = Z i := fun i => by rw [hZ]
  have H := up (n := a.length) (P := fun i => Ev (fun k => w04_PrimRepeated.l1 k a t X Y I (Z i : Int) (i : Int)) true)
    (Ev.step (f := fun _ => some true) (fun k => by simp only [w04_PrimRepeated.l1]; rw [if_neg (by omega)]; rfl) (Ev.now _))
    (fun i hi ih => by
      have hr := ht _ (rd_mem t (i : Int) (by omega) (by omega))
      have e1 : Z (i + 1) = Z i + (rd t (i : Int)).toNat := by rw [← hZi, ← hZi, repTo_nat, List.length_append, List.length_replicate]
      have H2 := up (n := (rd t (i : Int)).toNat) (P := fun j => Ev (fun k => w04_PrimRepeated.l2 k a t X Y I ((Z i + j : Nat) : Int) (i : Int) (j : Int)) true)
        (by
          rw [e1] at ih
          refine Ev.step (f := fun k => w04_PrimRepeated.l1 k a t X Y I ((Z i + (rd t (i : Int)).toNat : Nat) : Int) ((i + 1 : Nat) : Int)) (fun k => ?_) ih
          simp only [w04_PrimRepeated.l2]
          rw [if_pos (by omega), if_pos (by omega), if_neg (by omega), wsucc hi (by omega)])
        (fun j hj ihj => by
          refine Ev.step (f := fun k => w04_PrimRepeated.l2 k a t X Y I ((Z i + (j + 1) : Nat) : Int) (i : Int) ((j + 1 : Nat) : Int)) (fun k => ?_) ihj
          obtain ⟨y1, y2⟩ := repTo_at (upInts a.length) t a.length i j hi hj
          obtain ⟨x1, x2⟩ := repTo_at a t a.length i j hi hj
          obtain ⟨w1, w2⟩ := iotaTo_at t a.length i j hi hj
          rw [← hY, repTo_len (upInts a.length) a t i, hZi i] at y1 y2
          rw [rd_upInts _ _ hi] at y1
          rw [← hX, hZi i] at x1 x2
          rw [← hI, iotaTo_len a t i, hZi i] at w1 w2
          exact l2_step k a t X Y I (Z i + j) i j (by omega) (by omega) hr.2 y2 y1 w2 w1 x2 hs hi x1) 0 (Nat.zero_le _)
      refine Ev.step (f := fun k => w04_PrimRepeated.l2 k a t X Y I (Z i : Int) (i : Int) 0) (fun k => ?_) (by rw [Nat.add_zero] at H2; exact H2)
      simp only [w04_PrimRepeated.l1]
      rw [if_pos (by omega)]) 0 (Nat.zero_le _)
  have hz0 : Z 0 = 0 := by rw [← hZi, e0]; rfl
  rw [hz0] at H
  exact H
theorem PrimRepeated : w04_PrimRepeated.Pure := by
  intro l0 l1 _ h1 _ _ h2 _
  have s0 : Sh l0 := by unfold Sh; omega
  have s1 : Sh l1 := by unfold Sh; omega
  obtain ⟨a, e0, ha, _, haw, _⟩ := ev_words l0 100 (by omega) s0
  have HJ : ∀ t : List Int, t.length = a.length → (∀ x ∈ t, 0 ≤ x ∧ x < 7) → Ev (fun k => w04_PrimRepeated.l0 k l1 a t (a.length : Int)) true := fun t hl ht => by
    have htw : ∀ x ∈ t, isWordB x = true := words_below 7 t (by omega) ht
    have ht0 : ∀ x ∈ t, 0 ≤ x := fun x hx => (ht x hx).1
    have hsum := sum_bound t 7 (fun x hx => by have := ht x hx; omega)
    have q1 := repTo_sum a t ht0 t.length (Nat.le_refl _)
    rw [List.take_length, hl] at q1
    rw [hl] at hsum
    have hlen : (repTo a t a.length).length ≤ 700 := by omega
    have g1 := rep_g a t hl.symm (by omega) haw htw ht0 (by omega)
    have g2 := rep_g (upInts a.length) t (by rw [upInts_length]; omega) (by rw [upInts_length]; omega) (words_below a.length _ (by omega) (fun x hx => (upInts_mem _ x).1 hx)) htw ht0 (by rw [upInts_length, repTo_len _ a t]; omega)
    rw [upInts_length] at g2
    have hy : ∀ x ∈ repTo (upInts a.length) t a.length, 0 ≤ x ∧ x < a.length := fun x hx => (upInts_mem _ x).1 (repTo_mem _ t a.length (by rw [upInts_length]; exact Nat.le_refl _) x hx)
    have hyl := repTo_len (upInts a.length) a t a.length
    have g3 := gather_g a (repTo (upInts a.length) t a.length) (by omega) (by omega) haw hy
    rw [repTo_map a t a.length a.length (Nat.le_refl _)] at g3
    have hil := iotaTo_len a t a.length
    have g4 := iota_g t (by omega) htw ht0 (by rw [hl]; omega)
    rw [hl] at g4
    obtain ⟨K1, hK1⟩ := f_Upto (a.length : Int) (by omega)
    rw [Int.toNat_natCast] at hK1
    obtain ⟨K2, hK2⟩ := ev_Sum t (by omega) (fun x hx => by have := ht x hx; omega)
    obtain ⟨K3, hK3⟩ := repeated_loop a t hl (by omega) ht hlen
    refine ⟨K1 + K2 + K3 + 2, fun k hk => ?_⟩
    obtain ⟨k, rfl⟩ : ∃ m, k = m + 2 := ⟨k - 2, by omega⟩
    have hK1 := hK1 (k + 1) (by omega)
    have hK2 := hK2 (k + 1) (by omega)
    have hK3 := hK3 k (by omega)
    simp only at hK1 hK2 hK3
    simp only [w04_PrimRepeated.l0]
    rw [if_neg (by omega)]
    have hb : ((repTo (upInts a.length) t (a.length : Int)).length : Int) = ((repTo a t (a.length : Int)).length : Int) := by omega
    have hc : (((iotaTo t (a.length : Int)).length : Int) != ((repTo a t (a.length : Int)).length : Int)) = false := by simp; omega
    simp only [pRep.f, pGather.f, pIota.f, Eq_.f, g1, g2, g3, g4, hK1, hK2, Option.bind_some, BEq.rfl, if_true, hb, hc, q1]
    simp only [w04_PrimRepeated.j1, Bool.false_eq_true, if_false]
    rw [← q1] at *
    simpa [hil] using hK3
  have H := up (n := a.length) (P := fun i => ∀ t : List Int, t.length = i → (∀ x ∈ t, 0 ≤ x ∧ x < 7) → Ev (fun k => w04_PrimRepeated.l0 k l1 a t (i : Int)) true)
    (fun t hs hr => HJ t hs hr)
    (fun i hi ih t hs hr => by
      obtain ⟨x, hx⟩ := f_Nth l1 (i : Int) s1
      obtain ⟨u, u1, u2, u3⟩ := f_Turn x 7 (by omega)
      refine Ev.step (f := fun k => w04_PrimRepeated.l0 k l1 a (t ++ [u]) ((i + 1 : Nat) : Int)) (fun k => ?_) (ih (t ++ [u]) (by simp [hs]) (by
        intro y hy
        rcases List.mem_append.1 hy with h | h
        · exact hr y h
        · simp at h; subst h; exact ⟨u2, u3 (by omega)⟩))
      simp only [w04_PrimRepeated.l0]
      rw [if_pos (by omega), hx]
      simp only [Option.bind_some]
      rw [u1]
      simp only [Option.bind_some]
      rw [if_pos (by omega), wsucc hi (by omega)]) 0 (Nat.zero_le _) [] rfl (by simp)
  have F : Ev (fun k => w04_PrimRepeated.f k l0 l1) true := Ev.bind e0 H
  exact F.rounds
end Go.Proofs.YtpimackoadfcmaaDoor.Pure
