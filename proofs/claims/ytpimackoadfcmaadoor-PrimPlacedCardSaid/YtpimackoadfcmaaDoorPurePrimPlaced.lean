/- PrimPlaced: what is put at places and gathered there is as it was, and what is gathered and put there, for any words and places as numbers choose them; it is told of numbers and lists alone. -/
import Derived.Test.YtpimackoadfcmaaDoorPPrimPlacedx
namespace Go.Proofs.YtpimackoadfcmaaDoor.Pure
open Go.RowKit Go.Proofs.YtpimackoadfcmaaDoor.PPrimPlaced Go.Proofs.YtpimackoadfcmaaDoor.Hand Go.Proofs.YtpimackoadfcmaaDoorW.PrintWords Go.Proofs.YtpimackoadfcmaaDoorW.PrintLast Go.Proofs.YtpimackoadfcmaaDoorW.PrintMore
set_option linter.unusedVariables false
set_option linter.unusedSimpArgs false
/-- Lists so short that a place's successor is no other number. -/
def Sh {α : Type} (l : List α) : Prop := l.length ≤ 4611686018427387904
theorem wsucc {i n : Nat} (h : i < n) (hn : n ≤ 4611686018427387904) : wrap64 ((i : Int) + 1) = ((i + 1 : Nat) : Int) := by unfold wrap64; omega
theorem rd_get {l : List Int} {i : Nat} (h : i < l.length) : rd l (i : Int) = l[i] := by simp [rd, h]
theorem drop_rd {l : List Int} {i : Nat} (h : i < l.length) : l.drop i = rd l (i : Int) :: l.drop (i + 1) := by rw [List.drop_eq_getElem_cons h, rd_get h]
theorem up {n : Nat} {P : Nat → Prop} (h0 : P n) (hs : ∀ i, i < n → P (i + 1) → P i) (i : Nat) (hi : i ≤ n) : P i := by
  have key : ∀ d, ∀ i, i + d = n → P i := by
    intro d
    induction d with
    | zero => intro i h; have : i = n := by omega
              subst this; exact h0
    | succ d ih => intro i h; exact hs i (by omega) (ih (i + 1) (by omega))
  exact key (n - i) i (by omega)
theorem f_Word (n : Int) : r00_Word.f n = some (wrap64 (wrap32 n)) := by
  unfold r00_Word.f
  congr 2
  unfold wrap32 IntKind.wrap
  simp only [IntKind.signed, IntKind.bits]
  simp
theorem f_Upto (n : Int) (hn : n ≤ 4611686018427) : Ev (fun k => r00_Upto.f k n) (upInts n.toNat) := by
  have H := up (n := n.toNat) (P := fun i => Ev (fun k => r00_Upto.l0 k n (upInts i) (i : Int)) (upInts n.toNat))
    (Ev.step (f := fun _ => some (upInts n.toNat)) (fun k => by simp only [r00_Upto.l0]; rw [if_neg (by omega)]) (Ev.now _))
    (fun i hi ih => by
      refine Ev.step (f := fun k => r00_Upto.l0 k n (upInts (i + 1)) ((i + 1 : Nat) : Int)) (fun k => ?_) ih
      simp only [r00_Upto.l0]; rw [if_pos (by omega), if_pos (by rw [upInts_length]; omega), upInts_succ, wsucc hi (by omega)]) 0 (Nat.zero_le _)
  exact H
theorem isWordB_iff (n : Int) : isWordB n = true ↔ -2147483648 ≤ n ∧ n ≤ 2147483647 := by simp [isWordB]
theorem stands_iff (p : List Int) (m : Nat) (k : Int) : stands p m k = true ↔ ∃ j : Nat, j < m ∧ rd p (j : Int) = k := by simp [stands]
/-- A place more is taken when the next one is. -/
theorem count_new (n : Nat) (A : Nat → Bool) (c : Nat) (hc : c < n) (hA : A c = false) : ((List.range n).countP fun (v : Nat) => A v || (c == v)) = (List.range n).countP A + 1 := by
  induction n with
  | zero => omega
  | succ n ih =>
    rw [List.range_succ, List.countP_append, List.countP_append]
    by_cases e : c = n
    · subst e
      have h1 : ((List.range c).countP fun (v : Nat) => A v || (c == v)) = (List.range c).countP A := by
        apply List.countP_congr
        intro v hv
        rw [List.mem_range] at hv
        have : (c == v) = false := by simp; omega
        simp [this]
      rw [h1]
      simp [hA]
    · have h1 : (c == n) = false := by simp; omega
      rw [ih (by omega)]
      simp [h1]
      omega
/-- The places so far are right: numbers below n, each one once. -/
def okTo (n : Nat) (p : List Int) (i : Nat) : Prop := ∀ j : Nat, j < i → (decide (0 ≤ rd p (j : Int)) && decide (rd p (j : Int) < (n : Int)) && !stands p j (rd p (j : Int))) = true
theorem count_ok (n : Nat) (p : List Int) : ∀ i : Nat, okTo n p i → ((List.range n).countP fun (v : Nat) => stands p i (v : Int)) = i
  | 0, _ => by simp [stands]
  | i + 1, h => by
    have ih := count_ok n p i (fun j hj => h j (by omega))
    have hi := h i (by omega)
    simp only [Bool.and_eq_true, decide_eq_true_eq, Bool.not_eq_true'] at hi
    have hc := count_new n (fun (v : Nat) => stands p i (v : Int)) (rd p (i : Int)).toNat (by omega) (by show stands p i (((rd p (i : Int)).toNat : Nat) : Int) = false; rw [Int.toNat_of_nonneg hi.1.1]; exact hi.2)
    rw [ih] at hc
    refine (List.countP_congr ?_).trans hc
    intro v hv
    rw [stands_succ]
    have : (rd p (i : Int) == (v : Int)) = ((rd p (i : Int)).toNat == v) := by
      rw [Bool.eq_iff_iff]; simp; omega
    rw [this]
/-- If as many places are right as there are, each number stands. -/
theorem all_stand (n : Nat) (p : List Int) (h : okTo n p n) (v : Nat) (hv : v < n) : stands p n (v : Int) = true := by
  have h1 := count_ok n p n h
  have h2 : ((List.range n).countP fun (v : Nat) => stands p n (v : Int)) = (List.range n).length := by rw [h1, List.length_range]
  exact List.countP_eq_length.1 h2 v (List.mem_range.2 hv)
theorem okPlaces_iff (n : Nat) (p : List Int) : okPlaces n p = true ↔ okTo n p p.length := by
  constructor
  · intro h j hj
    cases hb : (decide (0 ≤ rd p (j : Int)) && decide (rd p (j : Int) < (n : Int)) && !stands p j (rd p (j : Int)))
    · rw [okPlaces_false n p j hj hb] at h; cases h
    · rfl
  · exact okPlaces_true n p
theorem whereIs_at (p : List Int) (m : Nat) (k : Int) (h : stands p m k = true) : 0 ≤ whereIs p m k ∧ whereIs p m k < m ∧ rd p (whereIs p m k) = k := by
  unfold whereIs
  cases hf : (List.range m).find? (fun (j : Nat) => rd p (j : Int) == k) with
  | none =>
    obtain ⟨j, hj, e⟩ := (stands_iff p m k).1 h
    have := List.find?_eq_none.1 hf j (List.mem_range.2 hj)
    simp [e] at this
  | some j =>
    have h1 := List.mem_of_find?_eq_some hf
    have h2 := List.find?_some hf
    simp only [Option.elim_some]
    rw [List.mem_range] at h1
    exact ⟨by omega, by omega, by simpa using h2⟩
theorem f_Turn (n m : Int) (hm : m ≤ 4611686018427387904) : ∃ t, r00_Turn.f n m = some t ∧ 0 ≤ t ∧ (0 < m → t < m) := by
  unfold r00_Turn.f
  by_cases h1 : m < 1
  · exact ⟨0, by rw [if_pos h1], by omega, fun h => by omega⟩
  · rw [if_neg h1, if_neg (by omega)]
    have hlt := Int.tmod_lt_of_pos n (show 0 < m by omega)
    have hgt : -m < n.tmod m := by
      have := Int.lt_tmod_of_pos n (show 0 < m by omega)
      exact this
    by_cases h2 : n.tmod m < 0
    · rw [if_pos h2]
      exact ⟨_, rfl, by unfold wrap64; omega, fun _ => by unfold wrap64; omega⟩
    · rw [if_neg h2]
      exact ⟨_, rfl, by omega, fun _ => hlt⟩
theorem f_Nth (l : List Int) (at_ : Int) (hl : Sh l) : ∃ x, r00_Nth.f l at_ = some x := by
  unfold r00_Nth.f
  by_cases h0 : (l.length : Int) = 0
  · exact ⟨0, by rw [if_pos h0]⟩
  · obtain ⟨t, h1, h2, h3⟩ := f_Turn at_ (l.length : Int) (by unfold Sh at hl; omega)
    exact ⟨rd l t, by rw [if_neg h0, h1]; simp only [Option.bind_some]; rw [if_pos h2, if_pos (h3 (by omega))]⟩
theorem wrap32_word (x : Int) : isWordB (wrap64 (wrap32 x)) = true := by
  rw [isWordB_iff]; unfold wrap64 wrap32; omega
theorem ev_words (l : List Int) (most : Nat) (hm : most ≤ 1000) (hl : Sh l) : ∃ a, Ev (fun k => w04_words.f k l (most : Int)) a ∧ a.length ≤ most ∧ a.length ≤ l.length ∧ (∀ x ∈ a, isWordB x = true) ∧ a.length = min l.length most := by
  let g : Nat → Int := fun i => wrap64 (wrap32 (rd l (i : Int)))
  have H := up (n := min l.length most) (P := fun i => Ev (fun k => r00_Wrap.l0 k l (most : Int) ((List.range i).map g) (i : Int)) ((List.range (min l.length most)).map g))
    (Ev.step (f := fun _ => some ((List.range (min l.length most)).map g)) (fun k => by
      simp only [r00_Wrap.l0]
      by_cases h : ((min l.length most : Nat) : Int) < (l.length : Int)
      · rw [if_pos h, if_neg (by omega)]
      · rw [if_neg h]) (Ev.now _))
    (fun i hi ih => by
      refine Ev.step (f := fun k => r00_Wrap.l0 k l (most : Int) ((List.range (i + 1)).map g) ((i + 1 : Nat) : Int)) (fun k => ?_) ih
      simp only [r00_Wrap.l0]; rw [if_pos (by omega), if_pos (by omega), if_pos (by omega), f_Word]
      simp only [Option.bind_some]
      rw [if_pos (by simp; omega), wsucc hi (by omega), List.range_succ, List.map_append]
      rfl) 0 (Nat.zero_le _)
  refine ⟨(List.range (min l.length most)).map g, ?_, ?_, ?_, ?_, ?_⟩
  · have e : (fun k => w04_words.f k l (most : Int)) = fun k => (r00_Wrap.f k l (most : Int)).bind fun t => some t := rfl
    rw [e]
    exact Ev.bind (f := fun _ t => some t) H (Ev.now _)
  · simp; omega
  · simp; omega
  · intro x hx
    obtain ⟨i, _, rfl⟩ := List.mem_map.1 hx
    exact wrap32_word _
  · simp
theorem wordsE_zero {ls : List (List Int)} {fit : Bool} (h1 : ∀ l ∈ ls, l.length ≤ 1048576) (h2 : ∀ l ∈ ls, ∀ n ∈ l, isWordB n = true) (h3 : fit = true) : wordsE ls fit = 0 := by
  unfold wordsE
  rw [if_neg, if_neg, if_pos h3]
  · intro h
    obtain ⟨l, hl, h⟩ := List.any_eq_true.1 h
    obtain ⟨n, hn, h⟩ := List.any_eq_true.1 h
    rw [h2 l hl n hn] at h
    cases h
  · intro h
    obtain ⟨l, hl, h⟩ := List.any_eq_true.1 h
    have := h1 l hl
    simp at h
    omega
theorem upTo_rd (a : List Int) (val : Int → Int) (h : ∀ i : Nat, i < a.length → val (i : Int) = rd a (i : Int)) : upTo val a.length = a := by
  apply List.ext_getElem
  · rw [upTo_length]; simp
  · intro i h1 h2
    rw [← rd_get h2, ← h i h2]
    simp [upTo]
theorem rd_upTo (val : Int → Int) (n i : Nat) (hi : i < n) : rd (upTo val (n : Int)) (i : Int) = val (i : Int) := by
  rw [rd_get (by rw [upTo_length]; simpa using hi)]
  simp [upTo]
theorem f_Copy (a : List Int) (h : a.length < 17592186044416) : r00_Copy.f a = some a := by
  unfold r00_Copy.f
  simp only [Option.bind_some]
  rw [if_pos (by simp; omega)]; rfl
theorem upInts_mem (n : Nat) (x : Int) : x ∈ upInts n ↔ 0 ≤ x ∧ x < n := by
  unfold upInts
  rw [List.mem_map]
  constructor
  · rintro ⟨i, hi, rfl⟩
    rw [List.mem_range] at hi
    omega
  · rintro ⟨h0, h1⟩
    exact ⟨x.toNat, by rw [List.mem_range]; omega, by omega⟩
theorem upInts_nodup (n : Nat) : (upInts n).Nodup := by
  unfold upInts
  rw [List.Nodup, List.pairwise_map]
  exact List.Pairwise.imp (fun h => by omega) List.pairwise_lt_range
theorem rd_upInts (n i : Nat) (h : i < n) : rd (upInts n) (i : Int) = i := by
  rw [rd_get (by rw [upInts_length]; exact h)]
  simp [upInts]
theorem ev_orderOf (l : List Int) (n : Nat) (hn : n ≤ 1000) (hl : Sh l) : ∃ p, Ev (fun k => w04_orderOf.f k l (n : Int)) p ∧ p.Perm (upInts n) := by
  have H : ∀ (m : Nat) (left out : List Int) (i : Nat), left.length = m → (out ++ left).Perm (upInts n) → out.length = i → ∃ p, Ev (fun k => w04_orderOf.l0 k l left out (i : Int)) p ∧ p.Perm (upInts n) := by
    intro m
    induction m with
    | zero =>
      intro left out i hm hp ho
      have : left = [] := List.length_eq_zero_iff.1 hm
      subst this
      exact ⟨out, Ev.step (f := fun _ => some out) (fun k => by simp only [w04_orderOf.l0]; rw [if_neg (by simp)]) (Ev.now _), by simpa using hp⟩
    | succ m ih =>
      intro left out i hm hp ho
      have htot := hp.length_eq
      rw [List.length_append, upInts_length] at htot
      obtain ⟨x, hx⟩ := f_Nth l (i : Int) hl
      obtain ⟨t, h1, h2, h3⟩ := f_Turn (wrap64 (x + i)) (left.length : Int) (by omega)
      have h3 := h3 (by omega)
      obtain ⟨q, rfl⟩ : ∃ q : Nat, t = q := ⟨t.toNat, by omega⟩
      have hq : q < left.length := by omega
      have hsplit : left = left.take q ++ rd left (q : Int) :: left.drop (q + 1) := by
        rw [← drop_rd hq, List.take_append_drop]
      obtain ⟨p, hE, hP⟩ := ih (left.take q ++ left.drop (q + 1)) (out ++ [rd left (q : Int)]) (i + 1) (by simp; omega) (by
        refine List.Perm.trans ?_ hp
        rw [List.append_assoc]
        refine List.Perm.append_left out ?_
        conv => rhs; rw [hsplit]
        exact (List.perm_middle (a := rd left (q : Int)) (l₁ := left.take q) (l₂ := left.drop (q + 1))).symm) (by simp [ho])
      refine ⟨p, Ev.step (fun k => ?_) hE, hP⟩
      have ew : wrap64 ((q : Int) + 1) = ((q + 1 : Nat) : Int) := wsucc hq (by omega)
      have ew2 : wrap64 ((i : Int) + 1) = ((i + 1 : Nat) : Int) := by unfold wrap64; omega
      simp only [w04_orderOf.l0]
      rw [if_pos (by omega), hx]
      simp only [Option.bind_some]
      rw [h1]
      simp only [Option.bind_some]
      rw [if_pos h2, if_pos h3, if_pos (by omega), if_pos (by omega), Int.toNat_natCast, f_Copy _ (by simp; omega), ew, ew2]
      simp only [Option.bind_some]
      rw [if_pos (by omega), if_pos (by omega), Int.toNat_natCast, if_pos (by simp; omega)]
  obtain ⟨p, hE, hP⟩ := H n (upInts n) [] 0 (upInts_length n) (by simp) rfl
  refine ⟨p, ?_, hP⟩
  have hu := f_Upto (n : Int) (by omega)
  rw [Int.toNat_natCast] at hu
  exact Ev.bind hu hE
theorem perm_ok (p : List Int) (n : Nat) (h : p.Perm (upInts n)) : p.length = n ∧ okTo n p p.length := by
  have hl := h.length_eq
  rw [upInts_length] at hl
  refine ⟨hl, fun j hj => ?_⟩
  have hm := (upInts_mem n (rd p (j : Int))).1 (h.mem_iff.1 (rd_mem p (j : Int) (by omega) (by omega)))
  have hnd := h.nodup_iff.2 (upInts_nodup n)
  simp only [Bool.and_eq_true, decide_eq_true_eq, Bool.not_eq_true']
  refine ⟨hm, ?_⟩
  cases hs : stands p j (rd p (j : Int))
  · rfl
  · obtain ⟨i, hi, e⟩ := (stands_iff _ _ _).1 hs
    rw [rd_get (by omega), rd_get hj] at e
    have := (List.nodup_iff_pairwise_ne.1 hnd)
    have := (List.pairwise_iff_getElem.1 this) i j (by omega) hj hi
    exact absurd e this
theorem okTo_inj (n : Nat) (p : List Int) (h : okTo n p p.length) (i j : Nat) (hi : i < p.length) (hj : j < p.length) (e : rd p (i : Int) = rd p (j : Int)) : i = j := by
  rcases Nat.lt_trichotomy i j with hlt | he | hlt
  · have := h j hj
    simp only [Bool.and_eq_true, decide_eq_true_eq, Bool.not_eq_true'] at this
    have h2 : stands p j (rd p (j : Int)) = true := (stands_iff _ _ _).2 ⟨i, hlt, e⟩
    rw [this.2] at h2; cases h2
  · exact he
  · have := h i hi
    simp only [Bool.and_eq_true, decide_eq_true_eq, Bool.not_eq_true'] at this
    have h2 : stands p i (rd p (i : Int)) = true := (stands_iff _ _ _).2 ⟨j, hlt, e.symm⟩
    rw [this.2] at h2; cases h2
theorem okTo_range (n : Nat) (p : List Int) (h : okTo n p p.length) (i : Nat) (hi : i < p.length) : 0 ≤ rd p (i : Int) ∧ rd p (i : Int) < n := by
  have := h i hi
  simp only [Bool.and_eq_true, decide_eq_true_eq, Bool.not_eq_true'] at this
  exact this.1
theorem words_below (n : Nat) (l : List Int) (hn : n ≤ 1048576) (h : ∀ x ∈ l, 0 ≤ x ∧ x < n) : ∀ x ∈ l, isWordB x = true := fun x hx => by
  have := h x hx
  rw [isWordB_iff]; omega
/-- Places of a list: numbers below its length. -/
theorem gather_g (a p : List Int) (hn : a.length ≤ 1048576) (hm : p.length ≤ 1048576) (ha : ∀ x ∈ a, isWordB x = true) (hp : ∀ x ∈ p, 0 ≤ x ∧ x < a.length) :
    prim_Gather.g a p = (p.map (fun x => rd a x), 0) := by
  unfold prim_Gather.g
  rw [if_pos (wordsE_zero (by intro l h; simp at h; rcases h with rfl | rfl <;> omega) (by
    intro l h; simp at h
    rcases h with rfl | rfl
    · exact ha
    · exact words_below a.length _ hn hp) rfl)]
  have hin : ∀ j : Nat, j < p.length → inB a.length (rd p (j : Int)) = true := fun j hj => by
    have := hp _ (rd_mem p (j : Int) (by omega) (by omega))
    simp [inB, this]
  rw [allOf_yes _ _ _ (fun j h0 h1 => by have := hin j.toNat (by omega); rwa [Int.toNat_of_nonneg h0] at this)]
  congr 1
  apply List.ext_getElem
  · rw [upTo_length]; simp
  · intro i h1 h2
    rw [List.length_map] at h2
    have := hin i h2
    rw [rd_get h2] at this
    simp [upTo, gatherAt, this, rd_get h2]
theorem map_rd_length (a p : List Int) : (p.map (fun x => rd a x)).length = p.length := by simp
theorem rd_map (a p : List Int) (i : Nat) (hi : i < p.length) : rd (p.map (fun x => rd a x)) (i : Int) = rd a (rd p (i : Int)) := by
  rw [rd_get (by simpa using hi), rd_get hi]; simp
theorem map_words (a p : List Int) (ha : ∀ x ∈ a, isWordB x = true) (hp : ∀ x ∈ p, 0 ≤ x ∧ x < a.length) : ∀ x ∈ p.map (fun x => rd a x), isWordB x = true := by
  intro x hx
  obtain ⟨y, hy, rfl⟩ := List.mem_map.1 hx
  exact ha _ (rd_mem a y (hp y hy).1 (hp y hy).2)
theorem put_g (a p : List Int) (n : Nat) (hla : a.length = n) (hn : n ≤ 1048576) (ha : ∀ x ∈ a, isWordB x = true) (hp : p.Perm (upInts n)) :
    prim_Put.g a p = (upTo (fun x => rd a (whereIs p n x)) n, 0) := by
  obtain ⟨hl, hok⟩ := perm_ok p n hp
  unfold prim_Put.g
  rw [if_pos (wordsE_zero (by intro l h; simp at h; rcases h with rfl | rfl <;> omega) (by
    intro l h; simp at h
    rcases h with rfl | rfl
    · exact ha
    · exact words_below n _ hn (fun x hx => (upInts_mem n x).1 (hp.mem_iff.1 hx))) (by simp [hl, hla])), hla, (okPlaces_iff n p).2 hok, hl]
  rfl
theorem where_at (p : List Int) (n : Nat) (hp : p.Perm (upInts n)) (v : Nat) (hv : v < n) : 0 ≤ whereIs p n (v : Int) ∧ whereIs p n (v : Int) < n ∧ rd p (whereIs p n (v : Int)) = v := by
  obtain ⟨hl, hok⟩ := perm_ok p n hp
  exact whereIs_at p n (v : Int) (all_stand n p (hl ▸ hok) v hv)
theorem where_rd (p : List Int) (n : Nat) (hp : p.Perm (upInts n)) (i : Nat) (hi : i < n) : whereIs p n (rd p (i : Int)) = i := by
  obtain ⟨hl, hok⟩ := perm_ok p n hp
  have hr := okTo_range n p hok i (by omega)
  obtain ⟨h0, h1, h2⟩ := where_at p n hp (rd p (i : Int)).toNat (by omega)
  rw [Int.toNat_of_nonneg hr.1] at h0 h1 h2
  have := okTo_inj n p hok (whereIs p n (rd p (i : Int))).toNat i (by omega) (by omega) (by rw [Int.toNat_of_nonneg h0]; exact h2)
  omega
theorem upTo_words (a p : List Int) (n : Nat) (hla : a.length = n) (ha : ∀ x ∈ a, isWordB x = true) (hp : p.Perm (upInts n)) : ∀ x ∈ upTo (fun x => rd a (whereIs p n x)) n, isWordB x = true := by
  intro x hx
  unfold upTo at hx
  obtain ⟨v, hv, rfl⟩ := List.mem_map.1 hx
  rw [List.mem_range, Int.toNat_natCast] at hv
  obtain ⟨h0, h1, _⟩ := where_at p n hp v hv
  exact ha _ (rd_mem a _ h0 (by omega))
theorem ext_rd {a b : List Int} (hl : a.length = b.length) (h : ∀ i : Nat, i < a.length → rd a (i : Int) = rd b (i : Int)) : a = b := by
  apply List.ext_getElem hl
  intro i h1 h2
  have := h i h1
  rwa [rd_get h1, rd_get h2] at this
theorem placed_j (k : Nat) (a p s : List Int) (n : Nat) (hla : a.length = n) (hn : n ≤ 200) (ha : ∀ x ∈ a, isWordB x = true) (hp : p.Perm (upInts n)) (hs : ∀ x ∈ s, 0 ≤ x ∧ x < n) (hsl : s.length ≤ 50)
    (hu : r00_Upto.f k (n : Int) = some (upInts n)) : w04_PrimPlaced.j1 (k + 2) a p s = some true := by
  obtain ⟨hpl, hok⟩ := perm_ok p n hp
  have hpr : ∀ x ∈ p, 0 ≤ x ∧ x < n := fun x hx => (upInts_mem n x).1 (hp.mem_iff.1 hx)
  have g1 := put_g a p n hla (by omega) ha hp
  have hXl : (upTo (fun x => rd a (whereIs p n x)) n).length = n := by rw [upTo_length]; simp
  have hXw := upTo_words a p n hla ha hp
  have g2 := gather_g (upTo (fun x => rd a (whereIs p n x)) n) p (by omega) (by omega) hXw (by rw [hXl]; exact hpr)
  have g3 := gather_g a p (by omega) (by omega) ha (by rw [hla]; exact hpr)
  have hZw := map_words a p ha (by rw [hla]; exact hpr)
  have g4 := put_g (p.map (fun x => rd a x)) p n (by simp [hpl]) (by omega) hZw hp
  have e2 : p.map (fun x => rd (upTo (fun x => rd a (whereIs p n x)) n) x) = a := by
    refine ext_rd (by simp [hpl, hla]) (fun i hi => ?_)
    rw [List.length_map] at hi
    have hr := hpr _ (rd_mem p (i : Int) (by omega) (by omega))
    rw [rd_map _ p i hi]
    obtain ⟨v, hv⟩ : ∃ v : Nat, rd p (i : Int) = v := ⟨(rd p (i : Int)).toNat, by omega⟩
    rw [hv, rd_upTo _ n v (by omega), ← hv, where_rd p n hp i (by omega)]
  have e4 : upTo (fun x => rd (p.map (fun x => rd a x)) (whereIs p n x)) n = a := by
    have := upTo_rd a (fun x => rd (p.map (fun x => rd a x)) (whereIs p n x)) (fun i hi => ?_)
    · rwa [hla] at this
    · obtain ⟨h0, h1, h2⟩ := where_at p n hp i (by omega)
      obtain ⟨v, hv⟩ : ∃ v : Nat, whereIs p n (i : Int) = v := ⟨(whereIs p n (i : Int)).toNat, by omega⟩
      rw [hv] at h1 h2 ⊢
      rw [rd_map a p v (by omega), h2]
  rw [e2] at g2
  rw [e4] at g4
  have g5 := gather_g (p.map (fun x => rd a x)) s (by simp; omega) (by omega) hZw (by rw [map_rd_length, hpl]; exact hs)
  have g6 := gather_g p s (by omega) (by omega) (words_below n p (by omega) hpr) (by rw [hpl]; exact hs)
  have hUr : ∀ x ∈ s.map (fun x => rd p x), 0 ≤ x ∧ x < n := by
    intro x hx
    obtain ⟨y, hy, rfl⟩ := List.mem_map.1 hx
    exact hpr _ (rd_mem p y (hs y hy).1 (by rw [hpl]; exact (hs y hy).2))
  have g7 := gather_g a (s.map (fun x => rd p x)) (by omega) (by simp; omega) ha (by rw [hla]; exact hUr)
  have g8 := put_g (upInts n) p n (upInts_length n) (by omega) (words_below n _ (by omega) (fun x hx => (upInts_mem n x).1 hx)) hp
  have e8 : upTo (fun x => rd (upInts n) (whereIs p n x)) n = upTo (fun x => whereIs p n x) n := by
    unfold upTo
    apply List.map_congr_left
    intro v hv
    rw [List.mem_range, Int.toNat_natCast] at hv
    obtain ⟨h0, h1, _⟩ := where_at p n hp v hv
    obtain ⟨u, hu⟩ : ∃ u : Nat, whereIs p n (v : Int) = u := ⟨(whereIs p n (v : Int)).toNat, by omega⟩
    show rd (upInts n) (whereIs p n (v : Int)) = whereIs p n (v : Int)
    rw [hu] at h1 ⊢
    exact rd_upInts n u (by omega)
  rw [e8] at g8
  have hBl : (upTo (fun x => whereIs p n x) n).length = n := by rw [upTo_length]; simp
  have g9 := gather_g a (upTo (fun x => whereIs p n x) n) (by omega) (by omega) ha (by
    intro x hx
    unfold upTo at hx
    obtain ⟨v, hv, rfl⟩ := List.mem_map.1 hx
    rw [List.mem_range, Int.toNat_natCast] at hv
    obtain ⟨h0, h1, _⟩ := where_at p n hp v hv
    rw [hla]; exact ⟨h0, h1⟩)
  have e9 : (upTo (fun x => whereIs p n x) n).map (fun x => rd a x) = upTo (fun x => rd a (whereIs p n x)) n := by
    unfold upTo; rw [List.map_map]; rfl
  rw [e9] at g9
  have e5 : s.map (fun x => rd (p.map (fun x => rd a x)) x) = (s.map (fun x => rd p x)).map (fun x => rd a x) := by
    rw [List.map_map]
    apply List.map_congr_left
    intro x hx
    obtain ⟨h0, h1⟩ := hs x hx
    obtain ⟨v, rfl⟩ : ∃ v : Nat, x = v := ⟨x.toNat, by omega⟩
    exact rd_map a p v (by omega)
  rw [e5] at g5
  simp only [w04_PrimPlaced.j1, w04_PrimPlaced.j2, pPut.f, pGather.f, g1, g2, g3, g4, g5, g6, g7, g8, g9, hla, hu, Option.bind_some, Eq_.f, BEq.rfl, if_true, Bool.not_true, law_done.f, Bool.false_eq_true, if_false]
theorem PrimPlaced : w04_PrimPlaced.Pure := by
  intro l0 l1 l2 _ h1 _ _ h2 _ _ h3 _
  have s0 : Sh l0 := by unfold Sh; omega
  have s1 : Sh l1 := by unfold Sh; omega
  have s2 : Sh l2 := by unfold Sh; omega
  obtain ⟨a, e0, ha, _, haw, _⟩ := ev_words l0 200 (by omega) s0
  obtain ⟨p, e1, hp⟩ := ev_orderOf l1 a.length (by omega) s1
  obtain ⟨K, hu⟩ := f_Upto (a.length : Int) (by omega)
  rw [Int.toNat_natCast] at hu
  have HJ : ∀ s : List Int, s.length ≤ 50 → (∀ x ∈ s, 0 ≤ x ∧ x < (a.length : Int)) → Ev (fun k => w04_PrimPlaced.j1 k a p s) true := fun s hsl hs =>
    ⟨K + 2, fun k hk => by
      obtain ⟨m, rfl⟩ : ∃ m, k = m + 2 := ⟨k - 2, by omega⟩
      exact placed_j m a p s a.length rfl ha haw hp hs hsl (hu m (by omega))⟩
  have H := up (n := min l2.length 50) (P := fun i => ∀ s : List Int, s.length = i → (∀ x ∈ s, 0 ≤ x ∧ x < (a.length : Int)) → Ev (fun k => w04_PrimPlaced.l0 k l2 a p s (i : Int)) true)
    (fun s hs hr => by
      refine Ev.step (f := fun k => w04_PrimPlaced.j1 k a p s) (fun k => ?_) (HJ s (by omega) hr)
      simp only [w04_PrimPlaced.l0]
      by_cases h : ((min l2.length 50 : Nat) : Int) < (l2.length : Int)
      · rw [if_pos h, if_neg (by omega)]
      · rw [if_neg h])
    (fun i hi ih s hs hr => by
      by_cases h0 : (a.length : Int) > 0
      · obtain ⟨t, t1, t2, t3⟩ := f_Turn (rd l2 (i : Int)) (a.length : Int) (by omega)
        refine Ev.step (f := fun k => w04_PrimPlaced.l0 k l2 a p (s ++ [t]) ((i + 1 : Nat) : Int)) (fun k => ?_) (ih (s ++ [t]) (by simp [hs]) (by
          intro x hx
          rcases List.mem_append.1 hx with h | h
          · exact hr x h
          · simp at h; subst h; exact ⟨t2, t3 h0⟩))
        simp only [w04_PrimPlaced.l0]
        rw [if_pos (by omega), if_pos (by omega), if_pos h0, if_pos (by omega), t1]
        simp only [Option.bind_some]
        rw [if_pos (by omega), wsucc hi (by omega)]
      · refine Ev.step (f := fun k => w04_PrimPlaced.j1 k a p s) (fun k => ?_) (HJ s (by omega) hr)
        simp only [w04_PrimPlaced.l0]
        rw [if_pos (by omega), if_pos (by omega), if_neg h0]) 0 (Nat.zero_le _) [] rfl (by simp)
  have F : Ev (fun k => w04_PrimPlaced.f k l0 l1 l2) true := Ev.bind e0 (Ev.bind e1 H)
  exact F.rounds
end Go.Proofs.YtpimackoadfcmaaDoor.Pure
