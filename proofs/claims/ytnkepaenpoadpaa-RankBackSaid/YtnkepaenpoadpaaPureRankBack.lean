/- RankBack: places inverted twice are as they were; composed with what leads back nothing moves; composing is associative; it is told of numbers and lists alone. -/
import Derived.Test.YtnkepaenpoadpaaPRankBackx
namespace Go.Proofs.Ytnkepaenpoadpaa.Pure
open Go.RowKit Go.Proofs.Ytnkepaenpoadpaa.PRankBack Go.Proofs.Ytnkepaenpoadpaa.Hand Go.Proofs.YtnkepaenpoadpaaW.PrintWords Go.Proofs.YtnkepaenpoadpaaW.PrintLast Go.Proofs.YtnkepaenpoadpaaW.PrintMore
set_option linter.unusedVariables false
set_option linter.unusedSimpArgs false
/-- Lists so short that a place's successor is no other number. -/
def Sh {α : Type} (l : List α) : Prop := l.length ≤ 4611686018427387904
theorem wsucc {i n : Nat} (h : i < n) (hn : n ≤ 4611686018427387904) : wrap64 ((i : Int) + 1) = ((i + 1 : Nat) : Int) := by unfold wrap64; omega
theorem rd_get {l : List Int} {i : Nat} (h : i < l.length) : rd l (i : Int) = l[i] := by simp [rd, h]
theorem drop_rd {l : List Int} {i : Nat} (h : i < l.length) : l.drop i = rd l (i : Int) :: l.drop (i + 1) := by rw [List.drop_eq_getElem_cons h, rd_get h]
theorem up {n : Nat} {P : Nat → Prop} (h0 : P n) (hs : ∀ i, i < n → P (i + 1) → P i) (i : Nat) (hi : i ≤ n) : P i := by
  have key : ∀ d, ∀ i, i + d = n → P i := by
    intro d
    induction d with
    | zero => intro i h; have : i = n := by omega
              subst this; exact h0
    | succ d ih => intro i h; exact hs i (by omega) (ih (i + 1) (by omega))
  exact key (n - i) i (by omega)
def upInts (n : Nat) : List Int := (List.range n).map (fun (i : Nat) => (i : Int))
theorem upInts_length (n : Nat) : (upInts n).length = n := by simp [upInts]
theorem upInts_succ (n : Nat) : upInts (n + 1) = upInts n ++ [(n : Int)] := by simp [upInts, List.range_succ]
theorem f_Upto (n : Int) (hn : n ≤ 4611686018427) : Ev (fun k => r00_Upto.f k n) (upInts n.toNat) := by
  have H := up (n := n.toNat) (P := fun i => Ev (fun k => r00_Upto.l0 k n (upInts i) (i : Int)) (upInts n.toNat))
    (Ev.step (f := fun _ => some (upInts n.toNat)) (fun k => by simp only [r00_Upto.l0]; rw [if_neg (by omega)]) (Ev.now _))
    (fun i hi ih => by
      refine Ev.step (f := fun k => r00_Upto.l0 k n (upInts (i + 1)) ((i + 1 : Nat) : Int)) (fun k => ?_) ih
      simp only [r00_Upto.l0]; rw [if_pos (by omega), if_pos (by rw [upInts_length]; omega), upInts_succ, wsucc hi (by omega)]) 0 (Nat.zero_le _)
  exact H
theorem stands_iff (p : List Int) (m : Nat) (k : Int) : stands p m k = true ↔ ∃ j : Nat, j < m ∧ rd p (j : Int) = k := by simp [stands]
/-- A place more is taken when the next one is. -/
theorem count_new (n : Nat) (A : Nat → Bool) (c : Nat) (hc : c < n) (hA : A c = false) : ((List.range n).countP fun (v : Nat) => A v || (c == v)) = (List.range n).countP A + 1 := by
  induction n with
  | zero => omega
  | succ n ih =>
    rw [List.range_succ, List.countP_append, List.countP_append]
    by_cases e : c = n
    · subst e
      have h1 : ((List.range c).countP fun (v : Nat) => A v || (c == v)) = (List.range c).countP A := by
        apply List.countP_congr
        intro v hv
        rw [List.mem_range] at hv
        have : (c == v) = false := by simp; omega
        simp [this]
      rw [h1]
      simp [hA]
    · have h1 : (c == n) = false := by simp; omega
      rw [ih (by omega)]
      simp [h1]
      omega
/-- The places so far are right: numbers below n, each one once. -/
def okTo (n : Nat) (p : List Int) (i : Nat) : Prop := ∀ j : Nat, j < i → (decide (0 ≤ rd p (j : Int)) && decide (rd p (j : Int) < (n : Int)) && !stands p j (rd p (j : Int))) = true
theorem count_ok (n : Nat) (p : List Int) : ∀ i : Nat, okTo n p i → ((List.range n).countP fun (v : Nat) => stands p i (v : Int)) = i
  | 0, _ => by simp [stands]
  | i + 1, h => by
    have ih := count_ok n p i (fun j hj => h j (by omega))
    have hi := h i (by omega)
    simp only [Bool.and_eq_true, decide_eq_true_eq, Bool.not_eq_true'] at hi
    have hc := count_new n (fun (v : Nat) => stands p i (v : Int)) (rd p (i : Int)).toNat (by omega) (by show stands p i (((rd p (i : Int)).toNat : Nat) : Int) = false; rw [Int.toNat_of_nonneg hi.1.1]; exact hi.2)
    rw [ih] at hc
    refine (List.countP_congr ?_).trans hc
    intro v hv
    rw [stands_succ]
    have : (rd p (i : Int) == (v : Int)) = ((rd p (i : Int)).toNat == v) := by
      rw [Bool.eq_iff_iff]; simp; omega
    rw [this]
/-- If as many places are right as there are, each number stands. -/
theorem all_stand (n : Nat) (p : List Int) (h : okTo n p n) (v : Nat) (hv : v < n) : stands p n (v : Int) = true := by
  have h1 := count_ok n p n h
  have h2 : ((List.range n).countP fun (v : Nat) => stands p n (v : Int)) = (List.range n).length := by rw [h1, List.length_range]
  exact List.countP_eq_length.1 h2 v (List.mem_range.2 hv)
theorem okPlaces_iff (n : Nat) (p : List Int) : okPlaces n p = true ↔ okTo n p p.length := by
  constructor
  · intro h j hj
    cases hb : (decide (0 ≤ rd p (j : Int)) && decide (rd p (j : Int) < (n : Int)) && !stands p j (rd p (j : Int)))
    · rw [okPlaces_false n p j hj hb] at h; cases h
    · rfl
  · exact okPlaces_true n p
theorem whereIs_at (p : List Int) (m : Nat) (k : Int) (h : stands p m k = true) : 0 ≤ whereIs p m k ∧ whereIs p m k < m ∧ rd p (whereIs p m k) = k := by
  unfold whereIs
  cases hf : (List.range m).find? (fun (j : Nat) => rd p (j : Int) == k) with
  | none =>
    obtain ⟨j, hj, e⟩ := (stands_iff p m k).1 h
    have := List.find?_eq_none.1 hf j (List.mem_range.2 hj)
    simp [e] at this
  | some j =>
    have h1 := List.mem_of_find?_eq_some hf
    have h2 := List.find?_some hf
    simp only [Option.elim_some]
    rw [List.mem_range] at h1
    exact ⟨by omega, by omega, by simpa using h2⟩
theorem f_Turn (n m : Int) (hm : m ≤ 4611686018427387904) : ∃ t, r00_Turn.f n m = some t ∧ 0 ≤ t ∧ (0 < m → t < m) := by
  unfold r00_Turn.f
  by_cases h1 : m < 1
  · exact ⟨0, by rw [if_pos h1], by omega, fun h => by omega⟩
  · rw [if_neg h1, if_neg (by omega)]
    have hlt := Int.tmod_lt_of_pos n (show 0 < m by omega)
    have hgt : -m < n.tmod m := by
      have := Int.lt_tmod_of_pos n (show 0 < m by omega)
      exact this
    by_cases h2 : n.tmod m < 0
    · rw [if_pos h2]
      exact ⟨_, rfl, by unfold wrap64; omega, fun _ => by unfold wrap64; omega⟩
    · rw [if_neg h2]
      exact ⟨_, rfl, by omega, fun _ => hlt⟩
theorem f_Nth (l : List Int) (at_ : Int) (hl : Sh l) : ∃ x, r00_Nth.f l at_ = some x := by
  unfold r00_Nth.f
  by_cases h0 : (l.length : Int) = 0
  · exact ⟨0, by rw [if_pos h0]⟩
  · obtain ⟨t, h1, h2, h3⟩ := f_Turn at_ (l.length : Int) (by unfold Sh at hl; omega)
    exact ⟨rd l t, by rw [if_neg h0, h1]; simp only [Option.bind_some]; rw [if_pos h2, if_pos (h3 (by omega))]⟩
theorem f_Copy (a : List Int) (h : a.length < 17592186044416) : r00_Copy.f a = some a := by
  unfold r00_Copy.f
  simp only [Option.bind_some]
  rw [if_pos (by simp; omega)]; rfl
theorem upInts_mem (n : Nat) (x : Int) : x ∈ upInts n ↔ 0 ≤ x ∧ x < n := by
  unfold upInts
  rw [List.mem_map]
  constructor
  · rintro ⟨i, hi, rfl⟩
    rw [List.mem_range] at hi
    omega
  · rintro ⟨h0, h1⟩
    exact ⟨x.toNat, by rw [List.mem_range]; omega, by omega⟩
theorem upInts_nodup (n : Nat) : (upInts n).Nodup := by
  unfold upInts
  rw [List.Nodup, List.pairwise_map]
  exact List.Pairwise.imp (fun h => by omega) List.pairwise_lt_range
theorem rd_upInts (n i : Nat) (h : i < n) : rd (upInts n) (i : Int) = i := by
  rw [rd_get (by rw [upInts_length]; exact h)]
  simp [upInts]
theorem perm_ok (p : List Int) (n : Nat) (h : p.Perm (upInts n)) : p.length = n ∧ okTo n p p.length := by
  have hl := h.length_eq
  rw [upInts_length] at hl
  refine ⟨hl, fun j hj => ?_⟩
  have hm := (upInts_mem n (rd p (j : Int))).1 (h.mem_iff.1 (rd_mem p (j : Int) (by omega) (by omega)))
  have hnd := h.nodup_iff.2 (upInts_nodup n)
  simp only [Bool.and_eq_true, decide_eq_true_eq, Bool.not_eq_true']
  refine ⟨hm, ?_⟩
  cases hs : stands p j (rd p (j : Int))
  · rfl
  · obtain ⟨i, hi, e⟩ := (stands_iff _ _ _).1 hs
    rw [rd_get (by omega), rd_get hj] at e
    have := (List.nodup_iff_pairwise_ne.1 hnd)
    have := (List.pairwise_iff_getElem.1 this) i j (by omega) hj hi
    exact absurd e this
theorem ext_of_rd {a b : List Int} (hl : a.length = b.length) (h : ∀ i : Nat, i < a.length → rd a (i : Int) = rd b (i : Int)) : a = b := by
  apply List.ext_getElem hl
  intro i h1 h2
  have := h i h1
  rwa [rd_get h1, rd_get h2] at this
theorem okTo_inj' (n : Nat) (p : List Int) (h : okTo n p p.length) (i j : Nat) (hi : i < p.length) (hj : j < p.length) (e : rd p (i : Int) = rd p (j : Int)) : i = j := by
  by_cases hij : i = j
  · exact hij
  · exfalso
    rcases Nat.lt_or_gt_of_ne hij with c | c
    · have := h j hj
      rw [(stands_iff p j _).2 ⟨i, c, e⟩] at this
      simp at this
    · have := h i hi
      rw [(stands_iff p i _).2 ⟨j, c, e.symm⟩] at this
      simp at this
theorem where_of {p : List Int} (h : okPlaces p.length p = true) (q : Nat) (hq : q < p.length) : stands p p.length (rd p (q : Int)) = true ∧ whereIs p p.length (rd p (q : Int)) = q := by
  have hs : stands p p.length (rd p (q : Int)) = true := (stands_iff _ _ _).2 ⟨q, hq, rfl⟩
  obtain ⟨h0, h1, h2⟩ := whereIs_at p p.length _ hs
  refine ⟨hs, ?_⟩
  have := okTo_inj' p.length p ((okPlaces_iff _ _).1 h) (whereIs p p.length (rd p (q : Int))).toNat q (by omega) hq (by rw [Int.toNat_of_nonneg h0]; exact h2)
  omega
theorem ev_orderOf (l : List Int) (n : Nat) (hn : n ≤ 1000) (hl : Sh l) : ∃ p, Ev (fun k => w07_orderOf.f k l (n : Int)) p ∧ p.Perm (upInts n) := by
  have H : ∀ (m : Nat) (left out : List Int) (i : Nat), left.length = m → (out ++ left).Perm (upInts n) → out.length = i → ∃ p, Ev (fun k => w07_orderOf.l0 k l left out (i : Int)) p ∧ p.Perm (upInts n) := by
    intro m
    induction m with
    | zero =>
      intro left out i hm hp ho
      have : left = [] := List.length_eq_zero_iff.1 hm
      subst this
      exact ⟨out, Ev.step (f := fun _ => some out) (fun k => by simp only [w07_orderOf.l0]; rw [if_neg (by simp)]) (Ev.now _), by simpa using hp⟩
    | succ m ih =>
      intro left out i hm hp ho
      have htot := hp.length_eq
      rw [List.length_append, upInts_length] at htot
      obtain ⟨x, hx⟩ := f_Nth l (i : Int) hl
      obtain ⟨t, h1, h2, h3⟩ := f_Turn (wrap64 (x + i)) (left.length : Int) (by omega)
      have h3 := h3 (by omega)
      obtain ⟨q, rfl⟩ : ∃ q : Nat, t = q := ⟨t.toNat, by omega⟩
      have hq : q < left.length := by omega
      have hsplit : left = left.take q ++ rd left (q : Int) :: left.drop (q + 1) := by
        rw [← drop_rd hq, List.take_append_drop]
      obtain ⟨p, hE, hP⟩ := ih (left.take q ++ left.drop (q + 1)) (out ++ [rd left (q : Int)]) (i + 1) (by simp; omega) (by
        refine List.Perm.trans ?_ hp
        rw [List.append_assoc]
        refine List.Perm.append_left out ?_
        conv => rhs; rw [hsplit]
        exact (List.perm_middle (a := rd left (q : Int)) (l₁ := left.take q) (l₂ := left.drop (q + 1))).symm) (by simp [ho])
      refine ⟨p, Ev.step (fun k => ?_) hE, hP⟩
      have ew : wrap64 ((q : Int) + 1) = ((q + 1 : Nat) : Int) := wsucc hq (by omega)
      have ew2 : wrap64 ((i : Int) + 1) = ((i + 1 : Nat) : Int) := by unfold wrap64; omega
      simp only [w07_orderOf.l0]
      rw [if_pos (by omega), hx]
      simp only [Option.bind_some]
      rw [h1]
      simp only [Option.bind_some]
      rw [if_pos h2, if_pos h3, if_pos (by omega), if_pos (by omega), Int.toNat_natCast, f_Copy _ (by simp; omega), ew, ew2]
      simp only [Option.bind_some]
      rw [if_pos (by omega), if_pos (by omega), Int.toNat_natCast, if_pos (by simp; omega)]
  obtain ⟨p, hE, hP⟩ := H n (upInts n) [] 0 (upInts_length n) (by simp) rfl
  refine ⟨p, ?_, hP⟩
  have hu := f_Upto (n : Int) (by omega)
  rw [Int.toNat_natCast] at hu
  exact Ev.bind hu hE
/-- Places: all numbers below a length, each once. -/
structure Pl (n : Nat) (p : List Int) : Prop where
  len : p.length = n
  ok : okPlaces n p = true
theorem Pl.check {n : Nat} {p : List Int} (h : Pl n p) (hn : n ≤ 1048576) : rank_Check.g p = 0 := by
  have h1 := h.len
  subst h1
  unfold rank_Check.g
  rw [if_neg (by omega), h.ok]
  rfl
theorem Pl.at {n : Nat} {p : List Int} (h : Pl n p) (i : Nat) (hi : i < n) : ∃ v : Nat, rd p (i : Int) = v ∧ v < n := by
  obtain ⟨h0, h1, _⟩ := okPlaces_pos h.ok i (by rw [h.len]; exact hi)
  exact ⟨(rd p (i : Int)).toNat, by omega, by omega⟩
theorem Pl.inj {n : Nat} {p : List Int} (h : Pl n p) (i j : Nat) (hi : i < n) (hj : j < n) (e : rd p (i : Int) = rd p (j : Int)) : i = j :=
  okTo_inj' n p ((okPlaces_iff n p).1 h.ok) i j (by rw [h.len]; exact hi) (by rw [h.len]; exact hj) e
theorem Pl.mk2 {n : Nat} {p : List Int} (hl : p.length = n) (h1 : ∀ i, i < n → ∃ v : Nat, rd p (i : Int) = v ∧ v < n) (h2 : ∀ i j : Nat, i < n → j < n → rd p (i : Int) = rd p (j : Int) → i = j) : Pl n p := by
  refine ⟨hl, okPlaces_true n p (fun i hi => ?_)⟩
  rw [hl] at hi
  obtain ⟨v, hv, hvn⟩ := h1 i hi
  rw [hv, decide_eq_true (by omega), decide_eq_true (by omega), Bool.true_and, Bool.true_and, Bool.not_eq_true']
  cases hs : stands p i (v : Int)
  · rfl
  · exfalso
    obtain ⟨j, hj, e⟩ := (stands_iff _ _ _).1 hs
    have := h2 j i (by omega) hi (by rw [e, hv])
    omega
theorem Pl.of_perm {n : Nat} {p : List Int} (h : p.Perm (upInts n)) : Pl n p := by
  obtain ⟨h1, h2⟩ := perm_ok p n h
  exact ⟨h1, (okPlaces_iff n p).2 h2⟩
theorem Pl.find {n : Nat} {p : List Int} (h : Pl n p) (v : Nat) (hv : v < n) : ∃ i : Nat, i < n ∧ rd p (i : Int) = v := by
  have h1 := (okPlaces_iff n p).1 h.ok
  rw [h.len] at h1
  obtain ⟨i, hi, e⟩ := (stands_iff _ _ _).1 (all_stand n p h1 v hv)
  exact ⟨i, hi, e⟩
theorem Pl.where_rd {n : Nat} {p : List Int} (h : Pl n p) (i : Nat) (hi : i < n) : whereIs p n (rd p (i : Int)) = i := by
  have h1 := h.len
  subst h1
  exact (where_of h.ok i hi).2
theorem rd_invG {n : Nat} {p : List Int} (h : Pl n p) (i : Nat) (hi : i < n) : ∃ v : Nat, rd p (i : Int) = v ∧ v < n ∧ rd (invG p) (v : Int) = i := by
  obtain ⟨v, hv, hvn⟩ := h.at i hi
  refine ⟨v, hv, hvn, ?_⟩
  unfold invG
  rw [h.len, Hand.upTo_rd _ _ _ hvn, ← hv]
  exact h.where_rd i hi
theorem invG_length (p : List Int) : (invG p).length = p.length := by unfold invG; rw [upTo_length, Int.toNat_natCast]
theorem Pl.inv {n : Nat} {p : List Int} (h : Pl n p) : Pl n (invG p) := by
  have hat : ∀ v : Nat, v < n → ∃ i : Nat, i < n ∧ rd p (i : Int) = v ∧ rd (invG p) (v : Int) = i := fun v hv => by
    obtain ⟨i, hi, e⟩ := h.find v hv
    obtain ⟨v2, h1, _, h3⟩ := rd_invG h i hi
    obtain rfl : v2 = v := by omega
    exact ⟨i, hi, e, h3⟩
  refine Pl.mk2 (by rw [invG_length, h.len]) (fun v hv => ?_) (fun v u hv hu e => ?_)
  · obtain ⟨i, hi, _, h3⟩ := hat v hv
    exact ⟨i, h3, hi⟩
  · obtain ⟨i, hi, e1, h1⟩ := hat v hv
    obtain ⟨j, hj, e2, h2⟩ := hat u hu
    obtain rfl : i = j := by omega
    omega
theorem compG_length (f s : List Int) : (compG f s).length = f.length := by unfold compG; rw [upTo_length, Int.toNat_natCast]
theorem rd_compG (f s : List Int) (i : Nat) (hi : i < f.length) : rd (compG f s) (i : Int) = rd s (rd f (i : Int)) := by
  unfold compG
  rw [Hand.upTo_rd _ _ _ hi]
theorem Pl.comp {n : Nat} {p q : List Int} (h : Pl n p) (h2 : Pl n q) : Pl n (compG p q) := by
  refine Pl.mk2 (by rw [compG_length, h.len]) (fun i hi => ?_) (fun i j hi hj e => ?_)
  · obtain ⟨v, hv, hvn⟩ := h.at i hi
    obtain ⟨u, hu, hun⟩ := h2.at v hvn
    exact ⟨u, by rw [rd_compG _ _ _ (by rw [h.len]; exact hi), hv, hu], hun⟩
  · rw [rd_compG _ _ _ (by rw [h.len]; exact hi), rd_compG _ _ _ (by rw [h.len]; exact hj)] at e
    obtain ⟨v, hv, hvn⟩ := h.at i hi
    obtain ⟨u, hu, hun⟩ := h.at j hj
    rw [hv, hu] at e
    have := h2.inj v u hvn hun e
    exact h.inj i j hi hj (by omega)
theorem inv_inv {n : Nat} {p : List Int} (h : Pl n p) : invG (invG p) = p := by
  refine ext_of_rd (by rw [invG_length, invG_length]) (fun i hi => ?_)
  rw [invG_length, invG_length, h.len] at hi
  obtain ⟨v, h1, h2, h3⟩ := rd_invG h i hi
  obtain ⟨u, q1, q2, q3⟩ := rd_invG h.inv v h2
  rw [h3] at q1
  obtain rfl : u = i := by omega
  rw [q3, h1]
theorem comp_inv {n : Nat} {p : List Int} (h : Pl n p) : compG p (invG p) = upInts n := by
  refine ext_of_rd (by rw [compG_length, upInts_length, h.len]) (fun i hi => ?_)
  rw [compG_length, h.len] at hi
  obtain ⟨v, h1, h2, h3⟩ := rd_invG h i hi
  rw [rd_compG _ _ _ (by rw [h.len]; exact hi), h1, h3, rd_upInts n i hi]
theorem inv_comp {n : Nat} {p : List Int} (h : Pl n p) : compG (invG p) p = upInts n := by
  have := comp_inv h.inv
  rw [inv_inv h] at this
  exact this
theorem comp_assoc {n : Nat} {a b : List Int} (c : List Int) (ha : Pl n a) (hb : Pl n b) : compG (compG a b) c = compG a (compG b c) := by
  refine ext_of_rd (by rw [compG_length, compG_length, compG_length]) (fun i hi => ?_)
  rw [compG_length, compG_length, ha.len] at hi
  obtain ⟨v, hv, hvn⟩ := ha.at i hi
  rw [rd_compG _ _ _ (by rw [compG_length, ha.len]; exact hi), rd_compG _ _ _ (by rw [ha.len]; exact hi), rd_compG _ _ _ (by rw [ha.len]; exact hi), hv, rd_compG _ _ _ (by rw [hb.len]; exact hvn)]
theorem Pl.inverse_g {n : Nat} {p : List Int} (h : Pl n p) (hn : n ≤ 1048576) : rank_Inverse.g p = (invG p, 0) := by
  unfold rank_Inverse.g
  rw [if_pos (h.check hn)]
theorem Pl.compose_g {n : Nat} {p q : List Int} (h : Pl n p) (h2 : Pl n q) (hn : n ≤ 1048576) : rank_Compose.g p q = (compG p q, 0) := by
  unfold rank_Compose.g
  rw [if_pos (h.check hn), if_pos (h2.check hn), if_pos (by rw [h.len, h2.len])]
theorem j_Back (n : Nat) (a b c : List Int) (hn : n ≤ 1048576) (ha : Pl n a) (hb : Pl n b) (hc : Pl n c) : Ev (fun k => w07_RankBack.j0 k a b c false) true := by
  refine Ev.step (f := fun _ => some true) (fun k => ?_) (Ev.now _)
  have g1 := ha.compose_g hb hn
  have g2 := hb.compose_g hc hn
  have g3 := (ha.comp hb).compose_g hc hn
  have g4 := ha.compose_g (hb.comp hc) hn
  have g5 := (ha.comp hb).check hn
  rw [comp_assoc c ha hb] at g3
  simp only [w07_RankBack.j0, rCompose.f, rCheck.f, Eq_.f, law_ranked.f, g1, g2, g3, g4, g5, Option.bind_some, if_true, BEq.rfl, Bool.false_eq_true, if_false]
theorem RankBack : w07_RankBack.Pure := by
  intro n0 l1 l2 l3 _ _ h1 _ _ h2 _ _ h3 _
  have s1 : Sh l1 := by unfold Sh; omega
  have s2 : Sh l2 := by unfold Sh; omega
  have s3 : Sh l3 := by unfold Sh; omega
  obtain ⟨t, ht, t0, t1⟩ := f_Turn n0 41 (by omega)
  have t1 := t1 (by omega)
  obtain ⟨n, rfl⟩ : ∃ n : Nat, t = n := ⟨t.toNat, by omega⟩
  obtain ⟨a, ea, pa⟩ := ev_orderOf l1 n (by omega) s1
  obtain ⟨b, eb, pb⟩ := ev_orderOf l2 n (by omega) s2
  obtain ⟨c, ec, pc⟩ := ev_orderOf l3 n (by omega) s3
  have ha := Pl.of_perm pa
  have hb := Pl.of_perm pb
  have hc := Pl.of_perm pc
  have hu := f_Upto (n : Int) (by omega)
  rw [Int.toNat_natCast] at hu
  have hJ := j_Back n a b c (by omega) ha hb hc
  have g1 := ha.inverse_g (by omega)
  have g2 := ha.inv.inverse_g (by omega)
  have g3 := ha.compose_g ha.inv (by omega)
  have g4 := ha.inv.compose_g ha (by omega)
  rw [inv_inv ha] at g2
  rw [comp_inv ha] at g3
  rw [inv_comp ha] at g4
  have H : Ev (fun k => w07_RankBack.f k n0 l1 l2 l3) true := by
    unfold w07_RankBack.f
    simp only [ht]
    refine Ev.bind (g := fun _ => some ((n : Nat) : Int)) (Ev.now _) ?_
    refine Ev.bind ea ?_
    refine Ev.bind eb ?_
    refine Ev.bind ec ?_
    simp only [rInverse.f, rCompose.f, Eq_.f, g1, g2, g3, g4, Option.bind_some, if_true, BEq.rfl, Bool.not_true]
    exact Ev.bind hu (by simp only [if_true, BEq.rfl, Option.bind_some, Bool.not_true]; exact hJ)
  exact H.rounds
end Go.Proofs.Ytnkepaenpoadpaa.Pure
