/- SegPieces: pieces and nests; it is told of numbers and lists alone. -/
import Derived.Test.YthalgcpohnknbaaPSegPiecesx
namespace Go.Proofs.Ythalgcpohnknbaa.Pure
open Go.RowKit Go.Proofs.Ythalgcpohnknbaa.PSegPieces Go.Proofs.Ythalgcpohnknbaa.Hand Go.Proofs.YthalgcpohnknbaaW.PrintWords Go.Proofs.YthalgcpohnknbaaW.PrintLast Go.Proofs.YthalgcpohnknbaaW.PrintMore
set_option linter.unusedVariables false
set_option linter.unusedSimpArgs false
/-- Lists so short that a place's successor is no other number. -/
def Sh {α : Type} (l : List α) : Prop := l.length ≤ 4611686018427387904
theorem wsucc {i n : Nat} (h : i < n) (hn : n ≤ 4611686018427387904) : wrap64 ((i : Int) + 1) = ((i + 1 : Nat) : Int) := by unfold wrap64; omega
theorem rd_get {l : List Int} {i : Nat} (h : i < l.length) : rd l (i : Int) = l[i] := by simp [rd, h]
theorem up {n : Nat} {P : Nat → Prop} (h0 : P n) (hs : ∀ i, i < n → P (i + 1) → P i) (i : Nat) (hi : i ≤ n) : P i := by
  have key : ∀ d, ∀ i, i + d = n → P i := by
    intro d
    induction d with
    | zero => intro i h; have : i = n := by omega
              subst this; exact h0
    | succ d ih => intro i h; exact hs i (by omega) (ih (i + 1) (by omega))
  exact key (n - i) i (by omega)
theorem f_Lies (a b c : Int) : r00_Lies.f a b c = some (decide (b ≤ a) && decide (a ≤ c)) := by unfold r00_Lies.f; split <;> simp [*]
def m2 (s : Nat) : Int := ((min s 2097152 : Nat) : Int)
theorem rd_upTo_nat (f : Int → Int) (n k : Nat) (h : k < n) : rd (upTo f (n : Int)) (k : Int) = f k := upTo_rd f n k h
theorem list_rd_ext {a b : List Int} (h : a.length = b.length) (h2 : ∀ j : Nat, j < a.length → rd a (j : Int) = rd b (j : Int)) : a = b := by
  refine List.ext_getElem h fun j hj hj2 => ?_
  have := h2 j hj
  rw [rd_get hj, rd_get hj2] at this
  exact this
theorem rd_app (a b : List Int) (j : Nat) : rd (a ++ b) (j : Int) = if j < a.length then rd a (j : Int) else rd b ((j - a.length : Nat) : Int) := by
  unfold rd
  simp only [Int.toNat_natCast, List.getD_eq_getElem?_getD]
  by_cases h : j < a.length
  · rw [if_pos h, List.getElem?_append_left h]
  · rw [if_neg h, List.getElem?_append_right (by omega)]
theorem f_Turn (n m : Int) (hm : m ≤ 4611686018427387904) : ∃ t, r00_Turn.f n m = some t ∧ 0 ≤ t ∧ (0 < m → t < m) := by
  unfold r00_Turn.f
  by_cases h1 : m < 1
  · exact ⟨0, by rw [if_pos h1], by omega, fun h => by omega⟩
  · rw [if_neg h1, if_neg (by omega)]
    have hlt := Int.tmod_lt_of_pos n (show 0 < m by omega)
    have hgt : -m < n.tmod m := by
      have := Int.lt_tmod_of_pos n (show 0 < m by omega)
      exact this
    by_cases h2 : n.tmod m < 0
    · rw [if_pos h2]
      exact ⟨_, rfl, by unfold wrap64; omega, fun _ => by unfold wrap64; omega⟩
    · rw [if_neg h2]
      exact ⟨_, rfl, by omega, fun _ => hlt⟩
theorem upTo_rd (a : List Int) (val : Int → Int) (h : ∀ i : Nat, i < a.length → val (i : Int) = rd a (i : Int)) : upTo val a.length = a := by
  apply List.ext_getElem
  · rw [upTo_length]; simp
  · intro i h1 h2
    rw [← rd_get h2, ← h i h2]
    simp [upTo]
theorem ttl_small (l : List Int) (c : Nat) (h : ∀ n ∈ l, n ≤ c) : ∀ m : Nat, m ≤ l.length → startOf l (m : Int) ≤ c * m
  | 0, _ => by rw [show ((0 : Nat) : Int) = 0 from rfl, startOf_zero]; omega
  | m + 1, hm => by
    have ih := ttl_small l c h m (by omega)
    have := h _ (rd_mem l (m : Int) (by omega) (by omega))
    rw [show ((m + 1 : Nat) : Int) = (m : Int) + 1 by omega, startOf_succ l (m : Int) (by omega) (by omega), Nat.mul_succ]
    omega
theorem ev_some (l : List Int) (hl : Sh l) : ∃ q, Ev (fun k => w02_some.f k l) q ∧ q.length ≤ 40 ∧ (∀ n ∈ q, 0 ≤ n ∧ n < 10) ∧ chkE q = 0 := by
  have H : ∀ (d i : Nat) (x : List Int), i + d = 40 → i ≤ l.length → x.length = i → (∀ n ∈ x, 0 ≤ n ∧ n < 10) → ∃ q, Ev (fun k => w02_some.l0 k l x (i : Int)) q ∧ q.length ≤ 40 ∧ (∀ n ∈ q, 0 ≤ n ∧ n < 10) := by
    intro d
    induction d with
    | zero =>
      intro i x hi hil hx hb
      refine ⟨x, Ev.step (f := fun _ => some x) (fun k => ?_) (Ev.now _), by omega, hb⟩
      simp only [w02_some.l0]
      by_cases h : (i : Int) < l.length
      · rw [if_pos h, if_neg (by omega)]
      · rw [if_neg h]
    | succ d ih =>
      intro i x hi hil hx hb
      by_cases h : (i : Int) < l.length
      · obtain ⟨t, t1, t2, t3⟩ := f_Turn (rd l (i : Int)) 10 (by omega)
        obtain ⟨q, h1, h2, h3⟩ := ih (i + 1) (x ++ [t]) (by omega) (by omega) (by rw [List.length_append]; simp; omega) (fun n hn => by
          rcases List.mem_append.1 hn with hn | hn
          · exact hb n hn
          · have := List.mem_singleton.1 hn
            subst this
            exact ⟨t2, t3 (by omega)⟩)
        refine ⟨q, Ev.step (f := fun k => w02_some.l0 k l (x ++ [t]) ((i + 1 : Nat) : Int)) (fun k => ?_) h1, h2, h3⟩
        simp only [w02_some.l0]
        rw [if_pos h, if_pos (by omega), if_pos (by omega), t1, Option.bind_some, if_pos (by omega), wsucc (n := l.length) (by omega) hl]
      · refine ⟨x, Ev.step (f := fun _ => some x) (fun k => ?_) (Ev.now _), by omega, hb⟩
        simp only [w02_some.l0]
        rw [if_neg h]
  obtain ⟨q, h1, h2, h3⟩ := H 40 0 [] (by omega) (by omega) rfl (by simp)
  refine ⟨q, h1, h2, h3, ?_⟩
  have ht : ttl q ≤ 9 * q.length := ttl_small q 9 (fun n hn => by have := h3 n hn; omega) q.length (Nat.le_refl _)
  have hn : negs q = false := by
    unfold negs
    rw [List.any_eq_false]
    intro x hx
    have := h3 x hx
    simp
    omega
  unfold chkE
  rw [if_neg (by omega), hn, if_neg (by simp), if_neg (by omega)]
theorem start_ext (a b : List Int) (ha : ∀ n ∈ a, 0 ≤ n) (hb : ∀ n ∈ b, 0 ≤ n) (hl : a.length = b.length) (h : ∀ i : Nat, i ≤ a.length → startOf a (i : Int) = startOf b (i : Int)) : a = b := by
  refine list_rd_ext hl fun j hj => ?_
  have h1 := startOf_succ a (j : Int) (by omega) (by omega)
  have h2 := startOf_succ b (j : Int) (by omega) (by omega)
  have h3 := h j (by omega)
  have h4 := h (j + 1) (by omega)
  rw [show ((j + 1 : Nat) : Int) = (j : Int) + 1 by omega] at h4
  have := ha _ (rd_mem a (j : Int) (by omega) (by omega))
  have := hb _ (rd_mem b (j : Int) (by omega) (by omega))
  omega
theorem startOf_step (lens : List Int) (i : Nat) (hi : i < lens.length) : startOf lens ((i + 1 : Nat) : Int) = startOf lens (i : Int) + (rd lens (i : Int)).toNat := by
  rw [show ((i + 1 : Nat) : Int) = (i : Int) + 1 by omega]; exact startOf_succ lens (i : Int) (by omega) (by omega)
def nestL (o l : List Int) : List Int := upTo (nestAt o l) (o.length : Int)
theorem nestL_length (o l : List Int) : (nestL o l).length = o.length := by unfold nestL; rw [upTo_length]; omega
theorem nestL_rd (o l : List Int) (i : Nat) (h : i < o.length) : rd (nestL o l) (i : Int) = nestAt o l (i : Int) := by unfold nestL; exact rd_upTo_nat _ _ i h
theorem nestL_pos (o l : List Int) : ∀ n ∈ nestL o l, 0 ≤ n := by
  intro n hn
  unfold nestL upTo at hn
  obtain ⟨i, _, rfl⟩ := List.mem_map.1 hn
  unfold nestAt
  omega
theorem nestL_start (o l : List Int) : ∀ i : Nat, i ≤ o.length → startOf (nestL o l) (i : Int) = startOf l ((startOf o (i : Int) : Nat) : Int)
  | 0, _ => rfl
  | i + 1, h => by
    rw [startOf_step _ i (by rw [nestL_length]; omega), startOf_step o i (by omega), nestL_start o l i (by omega), startOf_add, nestL_rd o l i (by omega)]
    unfold nestAt
    rw [Int.toNat_natCast]
theorem nestL_ttl (o l : List Int) (h : ttl o = l.length) : ttl (nestL o l) = ttl l := by
  unfold ttl at h ⊢
  rw [nestL_length, nestL_start o l _ (Nat.le_refl _), h]
theorem nestL_assoc (a b c : List Int) (h1 : ttl a = b.length) : nestL (nestL a b) c = nestL a (nestL b c) := by
  refine start_ext _ _ (nestL_pos _ _) (nestL_pos _ _) (by rw [nestL_length, nestL_length, nestL_length]) fun i hi => ?_
  rw [nestL_length, nestL_length] at hi
  have h2 := startOf_le_ttl a i (by omega)
  rw [nestL_start _ _ i (by rw [nestL_length]; omega), nestL_start a b i hi, nestL_start a _ i hi, nestL_start b c _ (by omega)]
theorem startOf_app (a b : List Int) : ∀ i : Nat, i ≤ b.length → startOf (a ++ b) ((a.length + i : Nat) : Int) = ttl a + startOf b (i : Int)
  | 0, _ => by
    unfold ttl startOf
    simp
  | i + 1, h => by
    have e := rd_app a b (a.length + i)
    rw [if_neg (by omega), show a.length + i - a.length = i by omega] at e
    rw [show a.length + (i + 1) = (a.length + i) + 1 by omega, startOf_step _ _ (by rw [List.length_append]; omega), startOf_app a b i (by omega), startOf_step b i (by omega), e]
    omega
theorem startOf_app_le (a b : List Int) (i : Nat) (h : i ≤ a.length) : startOf (a ++ b) (i : Int) = startOf a (i : Int) := by
  unfold startOf
  rw [Int.toNat_natCast, List.take_append_of_le_length h]
theorem ttl_app (a b : List Int) : ttl (a ++ b) = ttl a + ttl b := by
  have h := startOf_app a b b.length (Nat.le_refl _)
  unfold ttl at *
  rw [List.length_append]
  exact h
theorem ttl_cons (n : Int) (b : List Int) : ttl (n :: b) = n.toNat + ttl b := by
  have h := ttl_app [n] b
  have h2 : ttl [n] = n.toNat := by simp [ttl, startOf]
  rw [h2] at h
  exact h
theorem pcs_ttl (m : Nat) (hm : 1 ≤ m) : ∀ f n, n ≤ f → ttl (pcs m f n) = n
  | 0, n, h => by
    have : n = 0 := by omega
    subst this
    rfl
  | f + 1, n, h => by
    unfold pcs
    by_cases h0 : n = 0
    · rw [if_pos h0, h0]; rfl
    · rw [if_neg h0, ttl_cons, pcs_ttl m hm f _ (by omega), Int.toNat_natCast]
      omega
theorem pcs_pos (m : Nat) (hm : 1 ≤ m) : ∀ f n, ∀ x ∈ pcs m f n, 1 ≤ x ∧ x ≤ (m : Int)
  | 0, n, x, h => by simp [pcs] at h
  | f + 1, n, x, h => by
    unfold pcs at h
    by_cases h0 : n = 0
    · rw [if_pos h0] at h; simp at h
    · rw [if_neg h0] at h
      rcases List.mem_cons.1 h with rfl | h
      · omega
      · exact pcs_pos m hm f _ x h
theorem pcs_full (m : Nat) (hm : 1 ≤ m) : ∀ f n, n ≤ f → ∀ k : Nat, k + 1 < (pcs m f n).length → rd (pcs m f n) (k : Int) = (m : Int)
  | 0, n, _, k, h => by simp [pcs] at h
  | f + 1, n, hf, k, h => by
    unfold pcs at h ⊢
    by_cases h0 : n = 0
    · rw [if_pos h0] at h; simp at h
    · rw [if_neg h0] at h ⊢
      rw [List.length_cons] at h
      cases k with
      | zero =>
        have : n - min n m ≠ 0 := fun e => by rw [e, pcs_zero] at h; simp at h
        have : min n m = m := by omega
        rw [this]
        rfl
      | succ k =>
        have ih := pcs_full m hm f (n - min n m) (by omega) k (by omega)
        rw [← ih]
        simp [rd]
theorem pieces_pos (l : List Int) (m : Nat) (hm : 1 ≤ m) (k : Nat) : ∀ x ∈ piecesTo l m k, 1 ≤ x ∧ x ≤ (m : Int) := by
  intro x hx
  unfold piecesTo at hx
  obtain ⟨i, _, hx⟩ := List.mem_flatMap.1 hx
  exact pcs_pos m hm _ _ x hx
theorem pieces_ttl (l : List Int) (m : Nat) (hm : 1 ≤ m) : ∀ k : Nat, k ≤ l.length → ttl (piecesTo l m k) = startOf l (k : Int)
  | 0, _ => rfl
  | k + 1, h => by
    rw [piecesTo_succ, ttl_app, pieces_ttl l m hm k (by omega), startOf_step l k (by omega)]
    unfold pcsAt
    rw [pcs_ttl m hm _ _ (Nat.le_refl _)]
/-- The first pieces are the pieces of the first segments. -/
theorem pieces_pre (l : List Int) (m : Nat) (k : Nat) : ∀ d : Nat, ∃ r, piecesTo l m (k + d) = piecesTo l m k ++ r
  | 0 => ⟨[], by simp⟩
  | d + 1 => by
    obtain ⟨r, hr⟩ := pieces_pre l m k d
    exact ⟨r ++ pcsAt l m (k + d), by rw [← Nat.add_assoc, piecesTo_succ, hr, List.append_assoc]⟩
def outerL (l : List Int) (m : Nat) : List Int := upTo (manyOf l m) (l.length : Int)
theorem outerL_length (l : List Int) (m : Nat) : (outerL l m).length = l.length := by unfold outerL; rw [upTo_length]; omega
theorem outerL_rd (l : List Int) (m i : Nat) (h : i < l.length) : rd (outerL l m) (i : Int) = (((pcsAt l m i).length : Nat) : Int) := by
  unfold outerL
  rw [rd_upTo_nat _ _ i h]
  unfold manyOf
  rw [Int.toNat_natCast]
theorem outerL_pos (l : List Int) (m : Nat) : ∀ n ∈ outerL l m, 0 ≤ n := by
  intro n hn
  unfold outerL upTo at hn
  obtain ⟨i, _, rfl⟩ := List.mem_map.1 hn
  unfold manyOf
  omega
theorem outerL_start (l : List Int) (m : Nat) : ∀ k : Nat, k ≤ l.length → startOf (outerL l m) (k : Int) = (piecesTo l m k).length
  | 0, _ => rfl
  | k + 1, h => by
    rw [startOf_step _ k (by rw [outerL_length]; omega), outerL_start l m k (by omega), outerL_rd l m k (by omega), piecesTo_succ, List.length_append]
    omega
theorem outerL_ttl (l : List Int) (m : Nat) : ttl (outerL l m) = (piecesTo l m l.length).length := by
  unfold ttl
  rw [outerL_length]
  exact outerL_start l m _ (Nat.le_refl _)
theorem pieces_nest (l : List Int) (m : Nat) (hm : 1 ≤ m) (hp : ∀ n ∈ l, 0 ≤ n) : nestL (outerL l m) (piecesTo l m l.length) = l := by
  refine start_ext _ _ (nestL_pos _ _) hp (by rw [nestL_length, outerL_length]) fun i hi => ?_
  rw [nestL_length, outerL_length] at hi
  rw [nestL_start _ _ i (by rw [outerL_length]; omega), outerL_start l m i hi]
  obtain ⟨r, hr⟩ := pieces_pre l m i (l.length - i)
  rw [show i + (l.length - i) = l.length by omega] at hr
  rw [hr, startOf_app_le _ _ _ (Nat.le_refl _)]
  exact pieces_ttl l m hm i hi
/-- A piece of a segment, by its place among all pieces. -/
theorem pieces_rd (l : List Int) (m i k : Nat) (hi : i < l.length) (hk : k < (pcsAt l m i).length) : rd (piecesTo l m l.length) (((piecesTo l m i).length + k : Nat) : Int) = rd (pcsAt l m i) (k : Int) ∧ (piecesTo l m i).length + k < (piecesTo l m l.length).length := by
  obtain ⟨r, hr⟩ := pieces_pre l m (i + 1) (l.length - (i + 1))
  rw [show i + 1 + (l.length - (i + 1)) = l.length by omega, piecesTo_succ] at hr
  rw [hr, rd_app, if_pos (by rw [List.length_append]; omega), rd_app, if_neg (by omega), show (piecesTo l m i).length + k - (piecesTo l m i).length = k by omega]
  refine ⟨rfl, ?_⟩
  rw [List.length_append, List.length_append]
  omega
theorem chk_of (l : List Int) (h1 : l.length ≤ 1048576) (h2 : ∀ n ∈ l, 0 ≤ n) (h3 : ttl l ≤ 1048576) : chkE l = 0 := by
  have hn : negs l = false := by
    unfold negs
    rw [List.any_eq_false]
    intro x hx
    have := h2 x hx
    simp
    omega
  unfold chkE
  rw [if_neg (by omega), hn, if_neg (by simp), if_neg (by omega)]
theorem nest_g (o l : List Int) (h1 : chkE o = 0) (h2 : chkE l = 0) (h3 : ttl o = l.length) : seg_Nest.g o l = (nestL o l, 0) := by
  unfold seg_Nest.g
  rw [if_pos h1, if_pos h2, if_pos h3]
  rfl
theorem split_g (l : List Int) (m : Nat) (h0 : chkE l = 0) (h1 : 1 ≤ m) (h2 : m ≤ 1048576) : seg_Split.g l (m : Int) = (piecesTo l m l.length, outerL l m, 0) := by
  unfold seg_Split.g
  rw [if_pos h0, if_neg (by simp; omega), Int.toNat_natCast]
  rfl
theorem chk_pieces (l : List Int) (m : Nat) (h0 : chkE l = 0) (hm : 1 ≤ m) : chkE (piecesTo l m l.length) = 0 ∧ chkE (outerL l m) = 0 := by
  obtain ⟨q1, q2, q3⟩ := chkE_ok h0
  have h1 := piecesTo_length l m hm l.length (Nat.le_refl _)
  have h2 := startOf_le_ttl l l.length (Nat.le_refl _)
  refine ⟨chk_of _ (by omega) (fun n hn => by have := pieces_pos l m hm _ n hn; omega) ?_, chk_of _ (by rw [outerL_length]; omega) (outerL_pos l m) ?_⟩
  · rw [pieces_ttl l m hm _ (Nat.le_refl _)]; omega
  · rw [outerL_ttl]; omega
theorem chk_nest (o l : List Int) (h1 : chkE o = 0) (h2 : chkE l = 0) (h3 : ttl o = l.length) : chkE (nestL o l) = 0 := by
  obtain ⟨q1, q2, q3⟩ := chkE_ok h1
  obtain ⟨p1, p2, p3⟩ := chkE_ok h2
  exact chk_of _ (by rw [nestL_length]; omega) (nestL_pos o l) (by rw [nestL_ttl o l h3]; omega)
theorem f_Turn4 (n : Int) : r00_Turn.f n 4 = some (n % 4) := by
  unfold r00_Turn.f
  rw [if_neg (by omega), if_neg (by omega)]
  have h := Int.tmod_eq_emod (a := n) (b := 4)
  rw [h]
  by_cases c : 0 ≤ n ∨ (4 : Int) ∣ n
  · have h4 : ((if 0 ≤ n ∨ (4 : Int) ∣ n then 0 else (4 : Int).natAbs : Nat) : Int) = 0 := by rw [if_pos c]; rfl
    rw [h4, if_neg (by omega), Int.sub_zero]
  · have h4 : ((if 0 ≤ n ∨ (4 : Int) ∣ n then 0 else (4 : Int).natAbs : Nat) : Int) = 4 := by rw [if_neg c]; rfl
    rw [h4, if_pos (by omega)]
    congr 1
    unfold wrap64
    omega
theorem wrap_mod4 (x : Int) : wrap64 x % 4 = x % 4 := by unfold wrap64; omega
theorem turn_at (x1 : Int) (i : Nat) : wrap64 (x1 + wrap64 (7 * (i : Int))) % 4 = (x1 + 7 * (i : Int)) % 4 := by
  rw [wrap_mod4]
  have := wrap_mod4 (7 * (i : Int))
  generalize wrap64 (7 * (i : Int)) = y at *
  omega
theorem groups_step (x1 : Int) (many i : Nat) (x6 : List Int) (hm : 0 < many) (hb : many ≤ 1048576) (hi : i < 1000) (hx : x6.length = i) (R : List Int × Bool) (H : Ev (fun k => w02_groups.l0 k (((many - min many ((x1 + 7 * (i : Int)) % 4).toNat : Nat)) : Int) x1 (x6 ++ [((min many ((x1 + 7 * (i : Int)) % 4).toNat : Nat) : Int)]) ((i + 1 : Nat) : Int)) R) :
    Ev (fun k => w02_groups.l0 k (many : Int) x1 x6 (i : Int)) R := by
  refine Ev.step (f := fun k => w02_groups.l0 k (((many - min many ((x1 + 7 * (i : Int)) % 4).toNat : Nat)) : Int) x1 (x6 ++ [((min many ((x1 + 7 * (i : Int)) % 4).toNat : Nat) : Int)]) ((i + 1 : Nat) : Int)) (fun k => ?_) H
  have ht := turn_at x1 i
  simp only [w02_groups.l0]
  rw [if_pos (by omega), if_pos (by omega), f_Turn4, ht]
  generalize hr : (x1 + 7 * (i : Int)) % 4 = r
  have hr0 : 0 ≤ r := by omega
  obtain ⟨t, rfl⟩ : ∃ t : Nat, r = t := ⟨r.toNat, by omega⟩
  have hmn : mn (many : Int) (t : Int) = ((min many t : Nat) : Int) := by unfold mn; split <;> omega
  have hw := Aside0.mk (show wrap64 ((many : Int) - ((min many t : Nat) : Int)) = ((many - min many t : Nat) : Int) by unfold wrap64; omega)
  rw [Option.bind_some, if_pos (by omega), hmn, hw.out, wsucc hi (by omega), Int.toNat_natCast]
theorem groups_done (x1 : Int) (i : Nat) (x6 : List Int) : Ev (fun k => w02_groups.l0 k ((0 : Nat) : Int) x1 x6 (i : Int)) (x6, true) := by
  refine Ev.step (f := fun _ => some (x6, true)) (fun k => ?_) (Ev.now _)
  simp only [w02_groups.l0]
  rw [if_neg (by omega)]
  rfl
theorem ev_groups1 (x1 : Int) : ∀ (N many i : Nat) (x6 : List Int), many ≤ N → i + 2 * N < 1000 → x6.length = i → ∃ r, Ev (fun k => w02_groups.l0 k (many : Int) x1 x6 (i : Int)) (x6 ++ r, true) ∧ (∀ x ∈ r, 0 ≤ x) ∧ ttl r = many ∧ r.length ≤ 2 * N
  | 0, many, i, x6, h, hi, hx => by
    have : many = 0 := by omega
    subst this
    exact ⟨[], by rw [List.append_nil]; exact groups_done x1 i x6, by simp, rfl, by simp⟩
  | N + 1, 0, i, x6, h, hi, hx => ⟨[], by rw [List.append_nil]; exact groups_done x1 i x6, by simp, rfl, by simp⟩
  | N + 1, many + 1, i, x6, h, hi, hx => by
    generalize hr : ((x1 + 7 * (i : Int)) % 4).toNat = t
    by_cases ht : t = 0
    · subst ht
      generalize hr2 : ((x1 + 7 * ((i + 1 : Nat) : Int)) % 4).toNat = t2
      have ht2 : 0 < t2 := by omega
      obtain ⟨r, h1, h2, h3, h4⟩ := ev_groups1 x1 N (many + 1 - min (many + 1) t2) (i + 2) (x6 ++ [((0 : Nat) : Int)] ++ [((min (many + 1) t2 : Nat) : Int)]) (by omega) (by omega) (by simp; omega)
      refine ⟨((0 : Nat) : Int) :: ((min (many + 1) t2 : Nat) : Int) :: r, ?_, ?_, ?_, by simp; omega⟩
      · refine groups_step x1 (many + 1) i x6 (by omega) (by omega) (by omega) hx _ ?_
        rw [hr, Nat.min_zero, Nat.sub_zero]
        refine groups_step x1 (many + 1) (i + 1) _ (by omega) (by omega) (by omega) (by simp; omega) _ ?_
        rw [hr2]
        have e : x6 ++ ((0 : Nat) : Int) :: ((min (many + 1) t2 : Nat) : Int) :: r = x6 ++ [((0 : Nat) : Int)] ++ [((min (many + 1) t2 : Nat) : Int)] ++ r := by simp
        rw [e]
        exact h1
      · intro x hx2
        rcases List.mem_cons.1 hx2 with rfl | hx2
        · omega
        · rcases List.mem_cons.1 hx2 with rfl | hx2
          · omega
          · exact h2 x hx2
      · rw [ttl_cons, ttl_cons, h3, Int.toNat_natCast, Int.toNat_natCast]
        omega
    · obtain ⟨r, h1, h2, h3, h4⟩ := ev_groups1 x1 N (many + 1 - min (many + 1) t) (i + 1) (x6 ++ [((min (many + 1) t : Nat) : Int)]) (by omega) (by omega) (by simp; omega)
      refine ⟨((min (many + 1) t : Nat) : Int) :: r, ?_, ?_, ?_, by simp; omega⟩
      · refine groups_step x1 (many + 1) i x6 (by omega) (by omega) (by omega) hx _ ?_
        rw [hr]
        have e : x6 ++ ((min (many + 1) t : Nat) : Int) :: r = x6 ++ [((min (many + 1) t : Nat) : Int)] ++ r := by simp
        rw [e]
        exact h1
      · intro x hx2
        rcases List.mem_cons.1 hx2 with rfl | hx2
        · omega
        · exact h2 x hx2
      · rw [ttl_cons, h3, Int.toNat_natCast]
        omega
theorem ev_groups (n : Nat) (hn : n ≤ 40) (x1 : Int) : ∃ r, Ev (fun k => w02_groups.f k (n : Int) x1) (r, true) ∧ ttl r = n ∧ chkE r = 0 := by
  obtain ⟨r, h1, h2, h3, h4⟩ := ev_groups1 x1 40 n 0 [] hn (by omega) rfl
  exact ⟨r, h1, h3, chk_of r (by omega) h2 (by omega)⟩
set_option maxHeartbeats 1000000 in
theorem ev_pieces3 (q cuts : List Int) (m m2 : Nat) (h0 : chkE q = 0) (hm : 1 ≤ m) (hm2 : 1 ≤ m2) (hc : ttl cuts = q.length) (hc0 : chkE cuts = 0) :
    Ev (fun k => w02_SegPieces.j3 k q (piecesTo q m q.length) (outerL q m) (piecesTo (piecesTo q m q.length) m2 (piecesTo q m q.length).length) (outerL (piecesTo q m q.length) m2) cuts false) true := by
  obtain ⟨q1, q2, q3⟩ := chkE_ok h0
  obtain ⟨c1, c2⟩ := chk_pieces q m h0 hm
  obtain ⟨d1, d2⟩ := chk_pieces (piecesTo q m q.length) m2 c1 hm2
  have e1 := pieces_nest q m hm q2
  have e2 := pieces_nest (piecesTo q m q.length) m2 hm2 (chkE_ok c1).2.1
  have t1 := outerL_ttl q m
  have t2 := outerL_ttl (piecesTo q m q.length) m2
  have lo := outerL_length q m
  have lo2 := outerL_length (piecesTo q m q.length) m2
  generalize piecesTo q m q.length = P at *
  generalize outerL q m = O at *
  generalize piecesTo P m2 P.length = sm at *
  generalize outerL P m2 = ag at *
  have n1 := nest_g O ag c2 d2 (by omega)
  have k1 := chk_nest O ag c2 d2 (by omega)
  have n2 := nest_g (nestL O ag) sm k1 d1 (by rw [nestL_ttl O ag (by omega)]; exact t2)
  rw [nestL_assoc O ag sm (by omega), e2, e1] at n2
  have n3 := nest_g cuts O hc0 c2 (by omega)
  have k3 := chk_nest cuts O hc0 c2 (by omega)
  have n4 := nest_g (nestL cuts O) P k3 c1 (by rw [nestL_ttl cuts O (by omega)]; exact t1)
  rw [nestL_assoc cuts O P (by omega), e1] at n4
  have n5 := nest_g cuts q hc0 h0 (by omega)
  refine Ev.step (f := fun _ => some true) (fun k => ?_) (Ev.now _)
  simp only [w02_SegPieces.j3, Bool.false_eq_true, if_false, rNest.f, Option.bind_some, n1, n2, n3, n4, n5, if_true, Eq_.f, BEq.rfl, law_cut.f]
set_option maxHeartbeats 1000000 in
theorem ev_pieces0 (q : List Int) (x1 : Int) (m : Nat) (h0 : chkE q = 0) (hq : q.length ≤ 40) (hm : 1 ≤ m) (hmb : m ≤ 11) :
    Ev (fun k => w02_SegPieces.l0 k x1 q (m : Int) (piecesTo q m q.length) (outerL q m) ((0 : Nat) : Int) ((0 : Nat) : Int)) true := by
  obtain ⟨q1, q2, q3⟩ := chkE_ok h0
  obtain ⟨c1, c2⟩ := chk_pieces q m h0 hm
  obtain ⟨cuts, g1, g2, g3⟩ := ev_groups q.length hq x1
  have hlo := outerL_length q m
  have H := up (n := q.length) (P := fun i => Ev (fun k => w02_SegPieces.l0 k x1 q (m : Int) (piecesTo q m q.length) (outerL q m) (((piecesTo q m i).length : Nat) : Int) (i : Int)) true)
    (by
      have hsp := split_g (piecesTo q m q.length) (1 + m / 2) c1 (by omega) (by omega)
      have hw1 := Aside0.mk (show wrap64 ((m : Int) / 2) = ((m / 2 : Nat) : Int) by unfold wrap64; omega)
      have hw2 := Aside0.mk (show wrap64 (1 + ((m / 2 : Nat) : Int)) = ((1 + m / 2 : Nat) : Int) by unfold wrap64; omega)
      have htd : Int.tdiv (m : Int) 2 = (m : Int) / 2 := Int.tdiv_eq_ediv_of_nonneg (by omega)
      refine Ev.step (f := fun k => (w02_groups.f k (q.length : Int) x1).bind fun bt144 => (if bt144.2 = true then (w02_SegPieces.j3 k q (piecesTo q m q.length) (outerL q m) (piecesTo (piecesTo q m q.length) (1 + m / 2) (piecesTo q m q.length).length) (outerL (piecesTo q m q.length) (1 + m / 2)) bt144.1 false) else (w02_SegPieces.j3 k q (piecesTo q m q.length) (outerL q m) (piecesTo (piecesTo q m q.length) (1 + m / 2) (piecesTo q m q.length).length) (outerL (piecesTo q m q.length) (1 + m / 2)) bt144.1 true))) (fun k => ?_) ?_
      · simp only [w02_SegPieces.l0]
        rw [if_neg (by omega), htd, hw1.out, hw2.out]
        simp only [rSplit.f, hsp, Option.bind_some, if_true, bne_self_eq_false]
      · refine Ev.bind g1 ?_
        simp only [if_true]
        exact ev_pieces3 q cuts m (1 + m / 2) h0 hm (by omega) g2 g3)
    (fun i hi ih => by
      have hor := outerL_rd q m i hi
      have hsucc : (piecesTo q m (i + 1)).length = (piecesTo q m i).length + (pcsAt q m i).length := by rw [piecesTo_succ, List.length_append]
      have hPl := (chkE_ok c1).1
      have H2 := up (n := (pcsAt q m i).length) (P := fun j => Ev (fun k => w02_SegPieces.l1 k x1 q (m : Int) (piecesTo q m q.length) (outerL q m) (((piecesTo q m i).length + j : Nat) : Int) (i : Int) (j : Int)) true)
        (by
          refine Ev.step (f := fun k => w02_SegPieces.l0 k x1 q (m : Int) (piecesTo q m q.length) (outerL q m) (((piecesTo q m (i + 1)).length : Nat) : Int) ((i + 1 : Nat) : Int)) (fun k => ?_) ih
          simp only [w02_SegPieces.l1]
          rw [if_pos (by omega), if_pos (by omega), hor, if_neg (by omega), wsucc hi (by omega), hsucc])
        (fun j hj ih2 => by
          obtain ⟨r1, r2⟩ := pieces_rd q m i j hi hj
          have r3 := pieces_pos q m hm q.length _ (rd_mem (piecesTo q m q.length) (((piecesTo q m i).length + j : Nat) : Int) (by omega) (by omega))
          have r4 : j + 1 < (pcsAt q m i).length → rd (pcsAt q m i) (j : Int) = (m : Int) := fun h => pcs_full m hm _ _ (Nat.le_refl _) j h
          rw [r1] at r3
          have hli : (decide (1 ≤ rd (pcsAt q m i) (j : Int)) && decide (rd (pcsAt q m i) (j : Int) ≤ (m : Int))) = true := by simp; omega
          have hw := Aside0.mk (wsucc (i := (piecesTo q m i).length + j) (n := 1048577) (by omega) (by omega))
          refine Ev.step (f := fun k => w02_SegPieces.l1 k x1 q (m : Int) (piecesTo q m q.length) (outerL q m) (((piecesTo q m i).length + j + 1 : Nat) : Int) (i : Int) ((j + 1 : Nat) : Int)) (fun k => ?_) ih2
          simp only [w02_SegPieces.l1, f_Lies, Option.bind_some]
          rw [if_pos (by omega), if_pos (by omega), hor, if_pos (by omega), if_neg (by omega), if_pos (by omega), if_pos (by omega), r1, if_pos hli, hw.out, wsucc (n := 1048577) (by omega) (by omega)]
          by_cases c : ((j + 1 : Nat) : Int) < (((pcsAt q m i).length : Nat) : Int)
          · rw [if_pos c, if_pos (r4 (by omega))]
          · rw [if_neg c]) 0 (Nat.zero_le _)
      refine Ev.step (f := fun k => w02_SegPieces.l1 k x1 q (m : Int) (piecesTo q m q.length) (outerL q m) (((piecesTo q m i).length + 0 : Nat) : Int) (i : Int) ((0 : Nat) : Int)) (fun k => ?_) H2
      simp only [w02_SegPieces.l0]
      rw [if_pos (by omega)]
      rfl) 0 (Nat.zero_le _)
  exact H
theorem SegPieces : w02_SegPieces.Pure := by
  intro l0 a1 _ h1 _ _
  have s0 : Sh l0 := by unfold Sh; omega
  obtain ⟨q, hq, hq1, hq2, h0⟩ := ev_some l0 s0
  obtain ⟨t, t1, t2, t3⟩ := f_Turn a1 11 (by omega)
  have t4 := t3 (by omega)
  obtain ⟨m, hm⟩ : ∃ m : Nat, wrap64 (1 + t) = m := ⟨(1 + t).toNat, by unfold wrap64; omega⟩
  have hm1 : 1 ≤ m ∧ m ≤ 11 := by unfold wrap64 at hm; omega
  obtain ⟨c1, c2⟩ := chk_pieces q m h0 hm1.1
  have H : Ev (fun k => w02_SegPieces.f k l0 a1) true := by
    unfold w02_SegPieces.f
    refine Ev.bind hq ?_
    have e1 := split_g q m h0 hm1.1 (by omega)
    have e2 := nest_g (outerL q m) (piecesTo q m q.length) c2 c1 (outerL_ttl q m)
    rw [pieces_nest q m hm1.1 (fun n hn => (hq2 n hn).1)] at e2
    have hlo := outerL_length q m
    simp only [t1, Option.bind_some, hm, rSplit.f, rNest.f, e1, e2, if_true, hlo, Eq_.f, BEq.rfl, Bool.not_true]
    refine Ev.step (f := fun k => w02_SegPieces.l0 k a1 q (m : Int) (piecesTo q m q.length) (outerL q m) ((0 : Nat) : Int) ((0 : Nat) : Int)) (fun k => ?_) (ev_pieces0 q a1 m h0 (by omega) hm1.1 hm1.2)
    simp only [w02_SegPieces.j0, Bool.false_eq_true, if_false]
    rfl
  exact H.rounds
end Go.Proofs.Ythalgcpohnknbaa.Pure
