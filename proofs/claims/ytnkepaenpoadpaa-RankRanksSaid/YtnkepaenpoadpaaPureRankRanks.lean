/- RankRanks: of two elements of a segment the one with the less word has the less rank, and same words have the same; firsts are the first ones of their words; ranks of a segment are all numbers from 0 up to one less than it has firsts; it is told of numbers and lists alone. -/
import Derived.Test.YtnkepaenpoadpaaPRankRanksx
namespace Go.Proofs.Ytnkepaenpoadpaa.Pure
open Go.RowKit Go.Proofs.Ytnkepaenpoadpaa.PRankRanks Go.Proofs.Ytnkepaenpoadpaa.Hand Go.Proofs.YtnkepaenpoadpaaW.PrintWords Go.Proofs.YtnkepaenpoadpaaW.PrintLast Go.Proofs.YtnkepaenpoadpaaW.PrintMore
set_option linter.unusedVariables false
set_option linter.unusedSimpArgs false
/-- Lists so short that a place's successor is no other number. -/
def Sh {α : Type} (l : List α) : Prop := l.length ≤ 4611686018427387904
theorem wsucc {i n : Nat} (h : i < n) (hn : n ≤ 4611686018427387904) : wrap64 ((i : Int) + 1) = ((i + 1 : Nat) : Int) := by unfold wrap64; omega
theorem rdn (l : List Int) (i : Nat) : rd l (i : Int) = l.getD i 0 := by simp [rd]
theorem rd_get {l : List Int} {i : Nat} (h : i < l.length) : rd l (i : Int) = l[i] := by simp [rd, h]
theorem drop_rd {l : List Int} {i : Nat} (h : i < l.length) : l.drop i = rd l (i : Int) :: l.drop (i + 1) := by rw [List.drop_eq_getElem_cons h, rd_get h]
theorem up {n : Nat} {P : Nat → Prop} (h0 : P n) (hs : ∀ i, i < n → P (i + 1) → P i) (i : Nat) (hi : i ≤ n) : P i := by
  have key : ∀ d, ∀ i, i + d = n → P i := by
    intro d
    induction d with
    | zero => intro i h; have : i = n := by omega
              subst this; exact h0
    | succ d ih => intro i h; exact hs i (by omega) (ih (i + 1) (by omega))
  exact key (n - i) i (by omega)
theorem f_Lies (a b c : Int) : r00_Lies.f a b c = some (decide (b ≤ a) && decide (a ≤ c)) := by unfold r00_Lies.f; split <;> simp [*]
theorem f_Word (n : Int) : r00_Word.f n = some (wrap64 (wrap32 n)) := by
  unfold r00_Word.f
  congr 2
  unfold wrap32 IntKind.wrap
  simp only [IntKind.signed, IntKind.bits]
  simp
def upInts (n : Nat) : List Int := (List.range n).map (fun (i : Nat) => (i : Int))
theorem upInts_length (n : Nat) : (upInts n).length = n := by simp [upInts]
theorem upInts_succ (n : Nat) : upInts (n + 1) = upInts n ++ [(n : Int)] := by simp [upInts, List.range_succ]
theorem f_Upto (n : Int) (hn : n ≤ 4611686018427) : Ev (fun k => r00_Upto.f k n) (upInts n.toNat) := by
  have H := up (n := n.toNat) (P := fun i => Ev (fun k => r00_Upto.l0 k n (upInts i) (i : Int)) (upInts n.toNat))
    (Ev.step (f := fun _ => some (upInts n.toNat)) (fun k => by simp only [r00_Upto.l0]; rw [if_neg (by omega)]) (Ev.now _))
    (fun i hi ih => by
      refine Ev.step (f := fun k => r00_Upto.l0 k n (upInts (i + 1)) ((i + 1 : Nat) : Int)) (fun k => ?_) ih
      simp only [r00_Upto.l0]; rw [if_pos (by omega), if_pos (by rw [upInts_length]; omega), upInts_succ, wsucc hi (by omega)]) 0 (Nat.zero_le _)
  exact H
theorem take_rd {l : List Int} {i : Nat} (h : i < l.length) : l.take (i + 1) = l.take i ++ [rd l (i : Int)] := by
  rw [rd_get h, List.take_add_one, List.getElem?_eq_getElem h]; rfl
theorem sum_bound (l : List Int) (B : Int) (h : ∀ x ∈ l, -B ≤ x ∧ x ≤ B) : -(l.length * B) ≤ l.sum ∧ l.sum ≤ l.length * B := by
  induction l with
  | nil => simp
  | cons a l ih =>
    have h1 := ih (fun x hx => h x (List.mem_cons_of_mem _ hx))
    have h2 := h a (List.mem_cons_self)
    rw [List.sum_cons, List.length_cons]
    have e : ((l.length + 1 : Nat) : Int) * B = l.length * B + B := by rw [Int.natCast_add, Int.add_mul]; simp
    rw [e]
    omega
theorem ev_Sum (l : List Int) (hl : l.length ≤ 1048576) (hb : ∀ x ∈ l, -4294967296 ≤ x ∧ x ≤ 4294967296) : Ev (fun k => r00_Sum.f k l) l.sum := by
  have H := up (n := l.length) (P := fun i => Ev (fun k => r00_Sum.l0 k l (l.take i).sum (i : Int)) l.sum)
    (Ev.step (f := fun _ => some l.sum) (fun k => by simp only [r00_Sum.l0]; rw [if_neg (by omega), List.take_length]) (Ev.now _))
    (fun i hi ih => by
      refine Ev.step (f := fun k => r00_Sum.l0 k l (l.take (i + 1)).sum ((i + 1 : Nat) : Int)) (fun k => ?_) ih
      have h1 := sum_bound (l.take (i + 1)) 4294967296 (fun x hx => hb x (List.mem_of_mem_take hx))
      have h2 : (l.take (i + 1)).length ≤ 1048576 := by rw [List.length_take]; omega
      have e : (l.take (i + 1)).sum = (l.take i).sum + rd l (i : Int) := by rw [take_rd hi, List.sum_append]; simp
      have e2 : wrap64 ((l.take i).sum + rd l (i : Int)) = (l.take (i + 1)).sum := by
        rw [← e]
        generalize (l.take (i + 1)).sum = S at h1
        generalize (l.take (i + 1)).length = n at h1 h2
        unfold wrap64
        omega
      simp only [r00_Sum.l0]; rw [if_pos (by omega), if_pos (by omega), e2, wsucc hi (by omega)]) 0 (Nat.zero_le _)
  exact H
theorem isWordB_iff (n : Int) : isWordB n = true ↔ -2147483648 ≤ n ∧ n ≤ 2147483647 := by simp [isWordB]
theorem stands_iff (p : List Int) (m : Nat) (k : Int) : stands p m k = true ↔ ∃ j : Nat, j < m ∧ rd p (j : Int) = k := by simp [stands]
theorem whereIs_at (p : List Int) (m : Nat) (k : Int) (h : stands p m k = true) : 0 ≤ whereIs p m k ∧ whereIs p m k < m ∧ rd p (whereIs p m k) = k := by
  unfold whereIs
  cases hf : (List.range m).find? (fun (j : Nat) => rd p (j : Int) == k) with
  | none =>
    obtain ⟨j, hj, e⟩ := (stands_iff p m k).1 h
    have := List.find?_eq_none.1 hf j (List.mem_range.2 hj)
    simp [e] at this
  | some j =>
    have h1 := List.mem_of_find?_eq_some hf
    have h2 := List.find?_some hf
    simp only [Option.elim_some]
    rw [List.mem_range] at h1
    exact ⟨by omega, by omega, by simpa using h2⟩
theorem f_Turn (n m : Int) (hm : m ≤ 4611686018427387904) : ∃ t, r00_Turn.f n m = some t ∧ 0 ≤ t ∧ (0 < m → t < m) := by
  unfold r00_Turn.f
  by_cases h1 : m < 1
  · exact ⟨0, by rw [if_pos h1], by omega, fun h => by omega⟩
  · rw [if_neg h1, if_neg (by omega)]
    have hlt := Int.tmod_lt_of_pos n (show 0 < m by omega)
    have hgt : -m < n.tmod m := by
      have := Int.lt_tmod_of_pos n (show 0 < m by omega)
      exact this
    by_cases h2 : n.tmod m < 0
    · rw [if_pos h2]
      exact ⟨_, rfl, by unfold wrap64; omega, fun _ => by unfold wrap64; omega⟩
    · rw [if_neg h2]
      exact ⟨_, rfl, by omega, fun _ => hlt⟩
theorem f_Nth (l : List Int) (at_ : Int) (hl : Sh l) : ∃ x, r00_Nth.f l at_ = some x := by
  unfold r00_Nth.f
  by_cases h0 : (l.length : Int) = 0
  · exact ⟨0, by rw [if_pos h0]⟩
  · obtain ⟨t, h1, h2, h3⟩ := f_Turn at_ (l.length : Int) (by unfold Sh at hl; omega)
    exact ⟨rd l t, by rw [if_neg h0, h1]; simp only [Option.bind_some]; rw [if_pos h2, if_pos (h3 (by omega))]⟩
theorem wrap32_word (x : Int) : isWordB (wrap64 (wrap32 x)) = true := by
  rw [isWordB_iff]; unfold wrap64 wrap32; omega
theorem upInts_mem (n : Nat) (x : Int) : x ∈ upInts n ↔ 0 ≤ x ∧ x < n := by
  unfold upInts
  rw [List.mem_map]
  constructor
  · rintro ⟨i, hi, rfl⟩
    rw [List.mem_range] at hi
    omega
  · rintro ⟨h0, h1⟩
    exact ⟨x.toNat, by rw [List.mem_range]; omega, by omega⟩
theorem mem_rd {l : List Int} {x : Int} (h : x ∈ l) : ∃ i : Nat, i < l.length ∧ x = rd l (i : Int) := by
  obtain ⟨i, hi, e⟩ := List.getElem_of_mem h
  exact ⟨i, hi, by rw [rd_get hi, e]⟩
def cn (P : Nat → Bool) : Nat → Nat
  | 0 => 0
  | k + 1 => cn P k + (if P k = true then 1 else 0)
theorem startOf_step (lens : List Int) (i : Nat) (hi : i < lens.length) : startOf lens ((i + 1 : Nat) : Int) = startOf lens (i : Int) + (rd lens (i : Int)).toNat := by
  rw [show ((i + 1 : Nat) : Int) = (i : Int) + 1 from by omega, startOf_succ lens (i : Int) (by omega) (by omega)]
theorem startOf_up (lens : List Int) (i j : Nat) (hij : i ≤ j) (hj : j ≤ lens.length) : startOf lens (i : Int) ≤ startOf lens (j : Int) := by
  obtain ⟨d, rfl⟩ : ∃ d, j = i + d := ⟨j - i, by omega⟩
  have := startOf_mono lens (i : Int) (by omega) d (by omega)
  rw [show ((i + d : Nat) : Int) = (i : Int) + d from by omega]
  exact this
theorem rd_app_lt (a b : List Int) (i : Nat) (h : i < a.length) : rd (a ++ b) (i : Int) = rd a (i : Int) := by
  rw [rdn, rdn, List.getD_eq_getElem?_getD, List.getD_eq_getElem?_getD, List.getElem?_append_left h]
theorem rd_app_ge (a b : List Int) (i : Nat) : rd (a ++ b) ((a.length + i : Nat) : Int) = rd b (i : Int) := by
  rw [rdn, rdn, List.getD_eq_getElem?_getD, List.getD_eq_getElem?_getD, List.getElem?_append_right (by omega)]
  congr 2
  omega
def ltK (K : Int → Int) (l : List Int) (i k : Nat) : Bool := decide (K (rd l (i : Int)) < K (rd l (k : Int))) || (decide (K (rd l (i : Int)) = K (rd l (k : Int))) && decide (i < k))
theorem mn_min' (a b : Int) : mn a b = min a b := by unfold mn; split <;> omega
theorem seg_in {l lens : List Int} (hok : okLens l lens = true) (s : Nat) (hs : s < lens.length) : 0 ≤ rd lens (s : Int) ∧ startOf lens (s : Int) + (rd lens (s : Int)).toNat ≤ l.length := by
  obtain ⟨h1, h2⟩ := okLens_pos hok
  have h3 := startOf_up lens (s + 1) lens.length (by omega) (Nat.le_refl _)
  rw [startOf_step lens s hs, h2] at h3
  refine ⟨?_, h3⟩
  rw [rd_get hs]
  exact h1 _ (List.getElem_mem hs)
theorem cn_succ (P : Nat → Bool) (n : Nat) : cn P (n + 1) = cn P n + (if P n = true then 1 else 0) := rfl
theorem cn_countP (P : Nat → Bool) : ∀ n, cn P n = (List.range n).countP P
  | 0 => rfl
  | n + 1 => by
    rw [cn_succ, cn_countP P n, List.range_succ, List.countP_append, List.countP_singleton]
theorem countP_index {α : Type} (L : List α) (P : α → Bool) (k : Nat) (hk : k ≤ L.length) (h1 : ∀ m (hm : m < L.length), m < k → P L[m] = true) (h2 : ∀ m (hm : m < L.length), k ≤ m → P L[m] = false) : L.countP P = k := by
  have e : L.countP P = (L.take k ++ L.drop k).countP P := by rw [List.take_append_drop]
  rw [e, List.countP_append]
  have e1 : (L.take k).countP P = (L.take k).length := by
    rw [List.countP_eq_length]
    intro x hx
    obtain ⟨m, hm, rfl⟩ := List.mem_iff_getElem.1 hx
    rw [List.length_take] at hm
    rw [List.getElem_take]
    exact h1 m (by omega) (by omega)
  have e2 : (L.drop k).countP P = 0 := by
    rw [List.countP_eq_zero]
    intro x hx
    obtain ⟨m, hm, rfl⟩ := List.mem_iff_getElem.1 hx
    rw [List.length_drop] at hm
    rw [List.getElem_drop, h2 (k + m) (by omega) (by omega)]
    simp
  rw [e1, e2, List.length_take]
  omega
theorem elemsOf_nodup (b : Nat) (l : List Int) (k : Nat) : (elemsOf b l k).Nodup := by
  unfold elemsOf
  rw [List.nodup_iff_pairwise_ne, List.pairwise_map]
  exact List.pairwise_lt_range.imp (fun {a c} h e => by
    have := (Prod.mk.inj e).2
    omega)
theorem ltOf_elem (b : Nat) (l : List Int) (j i : Nat) : Go.Proofs.ltOf cfE (rd l (j : Int), ((b + j : Nat) : Int)) (rd l (i : Int), ((b + i : Nat) : Int)) = ltK (fun x => x) l j i := by
  rw [ltE]
  unfold ltK
  congr 2
  apply decide_eq_decide.2
  omega
theorem sorted_lt (b : Nat) (l : List Int) (i j : Nat) (hij : i < j) (hj : j < (sortedG b l).length) : Go.Proofs.ltOf cfE (sortedG b l)[i] (sortedG b l)[j] = true := by
  have hp : (sortedG b l).Pairwise (fun a b => leE a b = true) := List.pairwise_mergeSort leE_trans leE_total _
  have hn : (sortedG b l).Nodup := (List.mergeSort_perm (elemsOf b l l.length) leE).nodup_iff.2 (elemsOf_nodup b l l.length)
  have h1 := (List.pairwise_iff_getElem.1 hp) i j (by omega) hj hij
  have h2 := (List.pairwise_iff_getElem.1 (List.nodup_iff_pairwise_ne.1 hn)) i j (by omega) hj hij
  cases h : Go.Proofs.ltOf cfE (sortedG b l)[i] (sortedG b l)[j]
  · unfold leE at h1
    exact absurd (totE _ _ h (by simpa using h1)) h2
  · rfl
theorem sorted_index (b : Nat) (l : List Int) (i : Nat) (hi : i < l.length) : ∃ k, k < l.length ∧ (sortedG b l).getD k (0, 0) = (rd l (i : Int), ((b + i : Nat) : Int)) ∧ k = cn (fun j => ltK (fun x => x) l j i) l.length := by
  have hperm := List.mergeSort_perm (elemsOf b l l.length) leE
  have hm : (rd l (i : Int), ((b + i : Nat) : Int)) ∈ sortedG b l := hperm.mem_iff.2 (List.mem_map.2 ⟨i, List.mem_range.2 hi, rfl⟩)
  obtain ⟨k, hk, he⟩ := List.mem_iff_getElem.1 hm
  have hlen := sortedG_length b l
  refine ⟨k, by omega, by rw [List.getD_eq_getElem?_getD, List.getElem?_eq_getElem hk, Option.getD_some, he], ?_⟩
  have hc : (sortedG b l).countP (fun y => Go.Proofs.ltOf cfE y (rd l (i : Int), ((b + i : Nat) : Int))) = k := by
    refine countP_index _ _ k (by omega) (fun m hm hmk => ?_) (fun m hm hkm => ?_)
    · rw [← he]; exact sorted_lt b l m k hmk hk
    · rw [← he]
      by_cases e : m = k
      · subst e; exact swoE.irrefl _
      · have := sorted_lt b l k m (by omega) hm
        rw [ltE] at this ⊢
        simp at this ⊢
        omega
  have h2 : (sortedG b l).countP (fun y => Go.Proofs.ltOf cfE y (rd l (i : Int), ((b + i : Nat) : Int))) = (elemsOf b l l.length).countP (fun y => Go.Proofs.ltOf cfE y (rd l (i : Int), ((b + i : Nat) : Int))) := hperm.countP_eq _
  rw [cn_countP, ← hc, h2]
  unfold elemsOf
  rw [List.countP_map]
  congr 1
  funext j
  exact ltOf_elem b l j i
theorem rd_set (l : List Int) (q : Nat) (v : Int) (p : Nat) (hq : q < l.length) : rd (l.set q v) (p : Int) = if p = q then v else rd l (p : Int) := by
  rw [rdn, rdn, List.getD_eq_getElem?_getD, List.getD_eq_getElem?_getD, List.getElem?_set]
  by_cases e : p = q
  · subst e; simp [hq]
  · rw [if_neg (fun h => e h.symm), if_neg e]
theorem setsTo_miss (xs : List Int) (S : List (Int × Int)) (val : Nat → Int) (p : Nat) : ∀ m, (∀ k, k < m → (S.getD k (0, 0)).2.toNat < xs.length ∧ (S.getD k (0, 0)).2.toNat ≠ p) → rd (setsTo xs S val m) (p : Int) = rd xs (p : Int)
  | 0, _ => rfl
  | m + 1, h => by
    obtain ⟨h1, h2⟩ := h m (by omega)
    rw [setsTo, rd_set _ _ _ _ (by rw [setsTo_length]; exact h1), if_neg (fun e => h2 e.symm)]
    exact setsTo_miss xs S val p m (fun k hk => h k (by omega))
theorem setsTo_hit (xs : List Int) (S : List (Int × Int)) (val : Nat → Int) (q : Nat) : ∀ m, q < m → (∀ k, k < m → (S.getD k (0, 0)).2.toNat < xs.length) → (∀ k, q < k → k < m → (S.getD k (0, 0)).2.toNat ≠ (S.getD q (0, 0)).2.toNat) → rd (setsTo xs S val m) (((S.getD q (0, 0)).2.toNat : Nat) : Int) = val q
  | 0, h, _, _ => absurd h (Nat.not_lt_zero _)
  | m + 1, hq, h1, h2 => by
    rw [setsTo, rd_set _ _ _ _ (by rw [setsTo_length]; exact h1 m (by omega))]
    by_cases e : q = m
    · subst e; rw [if_pos rfl]
    · rw [if_neg (fun x => h2 m (by omega) (by omega) x.symm)]
      exact setsTo_hit xs S val q m (by omega) (fun k hk => h1 k (by omega)) (fun k hk hk2 => h2 k hk (by omega))
theorem setsTo_seg (xs : List Int) (b : Nat) (s : List Int) (val : Nat → Int) (hx : b + s.length ≤ xs.length) (i : Nat) (hi : i < s.length) :
    ∃ k, k < s.length ∧ (sortedG b s).getD k (0, 0) = (rd s (i : Int), ((b + i : Nat) : Int)) ∧ k = cn (fun j => ltK (fun x => x) s j i) s.length ∧ rd (setsTo xs (sortedG b s) val s.length) ((b + i : Nat) : Int) = val k := by
  obtain ⟨k, hk, he, hc⟩ := sorted_index b s i hi
  refine ⟨k, hk, he, hc, ?_⟩
  have hr : ∀ k, k < s.length → (((sortedG b s).getD k (0, 0)).2.toNat < xs.length) := fun k hk => by
    obtain ⟨j, hj, e⟩ := sortedG_mem b s k hk
    rw [e]; simp only [Int.toNat_natCast]; omega
  have H := setsTo_hit xs (sortedG b s) val k s.length hk hr (fun k2 h1 h2 e => by
    obtain ⟨j, hj, e2⟩ := sortedG_mem b s k2 h2
    rw [he, e2] at e
    simp only [Int.toNat_natCast] at e
    obtain rfl : j = i := by omega
    have hlen := sortedG_length b s
    have hlt := sorted_lt b s k k2 h1 (by omega)
    have q1 : (sortedG b s)[k]'(by omega) = (sortedG b s).getD k (0, 0) := by rw [List.getD_eq_getElem?_getD, List.getElem?_eq_getElem (by omega), Option.getD_some]
    have q2 : (sortedG b s)[k2]'(by omega) = (sortedG b s).getD k2 (0, 0) := by rw [List.getD_eq_getElem?_getD, List.getElem?_eq_getElem (by omega), Option.getD_some]
    rw [q1, q2, he, e2, swoE.irrefl] at hlt
    cases hlt)
  rw [he] at H
  simp only [Int.toNat_natCast] at H
  exact H
theorem setsTo_out (xs : List Int) (b : Nat) (s : List Int) (val : Nat → Int) (hx : b + s.length ≤ xs.length) (p : Nat) (hp : p < b) : rd (setsTo xs (sortedG b s) val s.length) (p : Int) = rd xs (p : Int) :=
  setsTo_miss xs _ val p s.length (fun k hk => by
    obtain ⟨j, hj, e⟩ := sortedG_mem b s k hk
    rw [e]; simp only [Int.toNat_natCast]
    exact ⟨by omega, by omega⟩)
theorem rd_segOf (l lens : List Int) (s j : Nat) (hj : j < (rd lens (s : Int)).toNat) : rd (segOf l lens s) (j : Int) = rd l ((startOf lens (s : Int) + j : Nat) : Int) := rd_seg l _ _ j hj
theorem segOf_len {l lens : List Int} (hok : okLens l lens = true) (s : Nat) (hs : s < lens.length) : (segOf l lens s).length = (rd lens (s : Int)).toNat := by
  obtain ⟨_, h⟩ := seg_in hok s hs
  unfold segOf
  rw [List.length_take, List.length_drop]
  omega
/-- The first place of a word in a list, or one below none. -/
def wh (l : List Int) (x : Int) : Int := if stands l l.length x then whereIs l l.length x else -1
theorem whereIs_of {l : List Int} {x : Int} {n i : Nat} (hi : i < n) (h : rd l (i : Int) = x) (h0 : ∀ j : Nat, j < i → rd l (j : Int) ≠ x) : whereIs l n x = i := by
  obtain ⟨h1, h2, h3⟩ := whereIs_at l n x ((stands_iff _ _ _).2 ⟨i, hi, h⟩)
  obtain ⟨q, hq⟩ : ∃ q : Nat, whereIs l n x = q := ⟨(whereIs l n x).toNat, by omega⟩
  rw [hq] at h3 ⊢
  have hge : ¬ q < i := fun c => h0 q c h3
  by_cases e : q = i
  · rw [e]
  · exfalso
    have hf : (List.range n).find? (fun (j : Nat) => rd l (j : Int) == x) = some q := by
      unfold whereIs at hq
      cases hf : (List.range n).find? (fun (j : Nat) => rd l (j : Int) == x) with
      | none =>
        have := List.find?_eq_none.1 hf i (List.mem_range.2 hi)
        simp [h] at this
      | some v =>
        rw [hf] at hq
        simp only [Option.elim_some] at hq
        rw [show v = q by omega]
    rw [List.find?_range_eq_some] at hf
    have := hf.2.2 i (by omega)
    simp [h] at this
theorem ev_Where (l : List Int) (x : Int) (hl : l.length ≤ 1048576) : Ev (fun k => r00_Where.f k l x) (wh l x) := by
  have H := up (n := l.length) (P := fun i => (∀ j : Nat, j < i → rd l (j : Int) ≠ x) → Ev (fun k => r00_Where.l0 k l x (i : Int)) (wh l x))
    (by
      intro h
      have hs : stands l l.length x = false := by
        cases hs : stands l l.length x
        · rfl
        · obtain ⟨j, hj, e⟩ := (stands_iff _ _ _).1 hs
          exact absurd e (h j hj)
      have e : wh l x = -1 := by unfold wh; rw [hs]; rfl
      rw [e]
      refine Ev.step (f := fun _ => some (-1)) (fun k => ?_) (Ev.now _)
      simp only [r00_Where.l0]
      rw [if_neg (by omega)])
    (fun i hi ih h => by
      by_cases c : rd l (i : Int) = x
      · have e : wh l x = i := by
          unfold wh
          rw [(stands_iff _ _ _).2 ⟨i, hi, c⟩, if_pos rfl, whereIs_of hi c h]
        rw [e]
        refine Ev.step (f := fun _ => some (i : Int)) (fun k => ?_) (Ev.now _)
        simp only [r00_Where.l0]
        rw [if_pos (by omega), if_pos (by omega), if_pos c]
      · refine Ev.step (fun k => ?_) (ih (fun j hj => ?_))
        · simp only [r00_Where.l0]
          rw [if_pos (by omega), if_pos (by omega), if_neg c, wsucc hi (by omega)]
        · by_cases e : j = i
          · subst e; exact c
          · exact h j (by omega)) 0 (Nat.zero_le _) (fun j hj => absurd hj (Nat.not_lt_zero _))
  exact H
/-- A word put into an increasing list. -/
def insG : List Int → Int → List Int
  | [], x => [x]
  | a :: t, x => if x ≤ a then (if x < a then x :: a :: t else a :: t) else a :: insG t x
theorem insG_mem (x y : Int) : ∀ l, y ∈ insG l x ↔ y = x ∨ y ∈ l
  | [] => by simp [insG]
  | a :: t => by
    have ih := insG_mem x y t
    unfold insG
    by_cases c : x ≤ a
    · rw [if_pos c]
      by_cases c2 : x < a
      · rw [if_pos c2]; simp
      · rw [if_neg c2]
        have : x = a := by omega
        subst this
        simp
    · rw [if_neg c]
      simp only [List.mem_cons, ih]
      constructor
      · rintro (h | h | h) <;> simp [h]
      · rintro (h | h | h) <;> simp [h]
theorem insG_length (x : Int) : ∀ l, (insG l x).length ≤ l.length + 1
  | [] => by simp [insG]
  | a :: t => by
    have ih := insG_length x t
    unfold insG
    split
    · split <;> simp
    · simp; omega
theorem insG_sorted (x : Int) : ∀ l : List Int, l.Pairwise (fun a b => a < b) → (insG l x).Pairwise (fun a b => a < b)
  | [], _ => by simp [insG]
  | a :: t, h => by
    have h1 := List.pairwise_cons.1 h
    unfold insG
    by_cases c : x ≤ a
    · rw [if_pos c]
      by_cases c2 : x < a
      · rw [if_pos c2, List.pairwise_cons]
        refine ⟨fun y hy => ?_, h⟩
        rcases List.mem_cons.1 hy with e | e
        · omega
        · have := h1.1 y e; omega
      · rw [if_neg c2]; exact h
    · rw [if_neg c, List.pairwise_cons]
      refine ⟨fun y hy => ?_, insG_sorted x t h1.2⟩
      rcases (insG_mem x y t).1 hy with e | e
      · omega
      · exact h1.1 y e
theorem ev_Put1 (l : List Int) (x : Int) (hl : l.length ≤ 1048576) : ∀ i out, i ≤ l.length → out.length ≤ i + 1 → Ev (fun k => r00_Put.l0 k l x out true (i : Int)) (out ++ l.drop i) := by
  intro i out hi ho
  have H := up (n := l.length) (P := fun i => ∀ out : List Int, out.length ≤ i + 1 → Ev (fun k => r00_Put.l0 k l x out true (i : Int)) (out ++ l.drop i))
    (by
      intro out ho
      refine Ev.step (f := fun _ => some _) (fun k => ?_) (Ev.now _)
      simp only [r00_Put.l0]
      rw [if_neg (by omega), List.drop_length, List.append_nil]
      rfl)
    (fun i hi ih out ho => by
      have h1 := ih (out ++ [rd l (i : Int)]) (by simp; omega)
      rw [List.append_assoc, List.singleton_append, ← drop_rd hi] at h1
      refine Ev.step (f := fun k => r00_Put.j1 k l x out true (i : Int) false) (fun k => ?_) (Ev.step (fun k => ?_) h1)
      · simp only [r00_Put.l0]
        rw [if_pos (by omega)]
        rfl
      · simp only [r00_Put.j1]
        rw [if_neg (by simp), if_pos (by omega), if_pos (by omega), if_pos (by omega), wsucc hi (by omega)]) i hi
  exact H out ho
theorem ev_Put (l : List Int) (x : Int) (hl : l.length ≤ 1048576) : Ev (fun k => r00_Put.f k l x) (insG l x) := by
  have H := up (n := l.length) (P := fun i => ∀ out : List Int, out.length ≤ i → Ev (fun k => r00_Put.l0 k l x out false (i : Int)) (out ++ insG (l.drop i) x))
    (by
      intro out ho
      refine Ev.step (f := fun _ => some _) (fun k => ?_) (Ev.now _)
      simp only [r00_Put.l0]
      rw [if_neg (by omega), List.drop_length, if_neg (by simp), if_pos (by omega)]
      rfl)
    (fun i hi ih out ho => by
      rw [drop_rd hi, insG]
      by_cases c : x ≤ rd l (i : Int)
      · rw [if_pos c]
        by_cases c2 : x < rd l (i : Int)
        · rw [if_pos c2]
          have h1 := ev_Put1 l x hl (i + 1) (out ++ [x] ++ [rd l (i : Int)]) (by omega) (by simp; omega)
          have e : out ++ [x] ++ [rd l (i : Int)] ++ l.drop (i + 1) = out ++ x :: rd l (i : Int) :: l.drop (i + 1) := by simp
          rw [e] at h1
          refine Ev.step (f := fun k => r00_Put.j1 k l x out false (i : Int) true) (fun k => ?_) (Ev.step (fun k => ?_) h1)
          · simp only [r00_Put.l0]
            rw [if_pos (by omega), if_neg (by simp), if_pos (by omega), decide_eq_true c]
          · simp only [r00_Put.j1]
            rw [if_pos trivial, if_pos (by omega), if_pos (by omega), if_pos c2, if_pos (by omega), Option.bind_some, if_pos (by simp; omega), wsucc hi (by omega)]
        · rw [if_neg c2]
          have h1 := ev_Put1 l x hl (i + 1) (out ++ [rd l (i : Int)]) (by omega) (by simp; omega)
          rw [List.append_assoc, List.singleton_append] at h1
          refine Ev.step (f := fun k => r00_Put.j1 k l x out false (i : Int) true) (fun k => ?_) (Ev.step (fun k => ?_) h1)
          · simp only [r00_Put.l0]
            rw [if_pos (by omega), if_neg (by simp), if_pos (by omega), decide_eq_true c]
          · simp only [r00_Put.j1]
            rw [if_pos trivial, if_pos (by omega), if_pos (by omega), if_neg c2, if_pos (by omega), wsucc hi (by omega)]
      · rw [if_neg c]
        have h1 := ih (out ++ [rd l (i : Int)]) (by simp; omega)
        rw [List.append_assoc, List.singleton_append] at h1
        refine Ev.step (f := fun k => r00_Put.j1 k l x out false (i : Int) false) (fun k => ?_) (Ev.step (fun k => ?_) h1)
        · simp only [r00_Put.l0]
          rw [if_pos (by omega), if_neg (by simp), if_pos (by omega), decide_eq_false c]
        · simp only [r00_Put.j1]
          rw [if_neg (by simp), if_pos (by omega), if_pos (by omega), if_pos (by omega), wsucc hi (by omega)]) 0 (Nat.zero_le _) [] (by simp)
  exact H
/-- The words of the first elements of a list, increasing. -/
def unG (s : List Int) : Nat → List Int
  | 0 => []
  | m + 1 => insG (unG s m) (rd s (m : Int))
theorem unG_sorted (s : List Int) : ∀ m, (unG s m).Pairwise (fun a b => a < b)
  | 0 => List.Pairwise.nil
  | m + 1 => insG_sorted _ _ (unG_sorted s m)
theorem unG_length (s : List Int) : ∀ m, (unG s m).length ≤ m
  | 0 => by simp [unG]
  | m + 1 => by
    have h1 := unG_length s m
    have h2 := insG_length (rd s (m : Int)) (unG s m)
    rw [unG]
    omega
theorem unG_mem (s : List Int) (x : Int) : ∀ m, x ∈ unG s m ↔ ∃ j : Nat, j < m ∧ rd s (j : Int) = x
  | 0 => by simp [unG]
  | m + 1 => by
    rw [unG, insG_mem, unG_mem s x m]
    constructor
    · rintro (h | ⟨j, hj, e⟩)
      · exact ⟨m, by omega, h.symm⟩
      · exact ⟨j, by omega, e⟩
    · rintro ⟨j, hj, e⟩
      by_cases c : j = m
      · subst c; exact .inl e.symm
      · exact .inr ⟨j, by omega, e⟩
theorem getElem_lt {U : List Int} (h : U.Pairwise (fun a b => a < b)) (i j : Nat) (hij : i < j) (hj : j < U.length) : rd U (i : Int) < rd U (j : Int) := by
  rw [rd_get (by omega), rd_get hj]
  exact (List.pairwise_iff_getElem.1 h) i j (by omega) hj hij
/-- The ranks of a sorted list's elements are the places of their words. -/
theorem rkOf_at (S : List (Int × Int)) (n : Nat) (U : List Int) (hU : U.Pairwise (fun a b => a < b)) (hm : ∀ x, x ∈ U ↔ ∃ k, k < n ∧ (S.getD k (0, 0)).1 = x) (hS : ∀ a b, a ≤ b → b < n → (S.getD a (0, 0)).1 ≤ (S.getD b (0, 0)).1) :
    ∀ k, k < n → rkOf S (k + 1) < U.length ∧ rd U (rkOf S (k + 1) : Int) = (S.getD k (0, 0)).1
  | 0, hk => by
    have h1 : (S.getD 0 (0, 0)).1 ∈ U := (hm _).2 ⟨0, hk, rfl⟩
    obtain ⟨q, hq, e⟩ := List.mem_iff_getElem.1 h1
    have e0 : rkOf S (0 + 1) = 0 := by simp [rkOf]
    rw [e0]
    refine ⟨by omega, ?_⟩
    obtain ⟨j, hj, e2⟩ := (hm _).1 (List.getElem_mem (show 0 < U.length by omega))
    have h2 := hS 0 j (by omega) hj
    rw [← rd_get hq] at e
    rw [← rd_get] at e2
    by_cases c : q = 0
    · subst c; exact e
    · have := getElem_lt hU 0 q (by omega) hq
      omega
  | k + 1, hk => by
    obtain ⟨h1, h2⟩ := rkOf_at S n U hU hm hS k (by omega)
    have e0 : rkOf S (k + 1 + 1) = rkOf S (k + 1) + (if (S.getD (k + 1) (0, 0)).1 ≠ (S.getD k (0, 0)).1 then 1 else 0) := by
      rw [rkOf]
      simp
    rw [e0]
    by_cases c : (S.getD (k + 1) (0, 0)).1 = (S.getD k (0, 0)).1
    · rw [if_neg (fun h => h c), c]
      exact ⟨h1, h2⟩
    · rw [if_pos c]
      have hlt : (S.getD k (0, 0)).1 < (S.getD (k + 1) (0, 0)).1 := by
        have := hS k (k + 1) (by omega) hk
        omega
      have hmem : (S.getD (k + 1) (0, 0)).1 ∈ U := (hm _).2 ⟨k + 1, hk, rfl⟩
      obtain ⟨q, hq, e⟩ := List.mem_iff_getElem.1 hmem
      rw [← rd_get hq] at e
      generalize rkOf S (k + 1) = r at *
      have hrq : r < q := by
        by_cases c2 : r < q
        · exact c2
        · by_cases c3 : q = r
          · subst c3; omega
          · have := getElem_lt hU q r (by omega) h1
            omega
      refine ⟨by omega, ?_⟩
      by_cases c4 : q = r + 1
      · rw [← c4]; exact e
      · exfalso
        have h5 := getElem_lt hU r (r + 1) (by omega) (by omega)
        have h6 := getElem_lt hU (r + 1) q (by omega) hq
        obtain ⟨j, hj, e2⟩ := (hm _).1 (List.getElem_mem (show r + 1 < U.length by omega))
        rw [← rd_get] at e2
        by_cases c5 : j ≤ k
        · have := hS j k c5 (by omega); omega
        · have := hS (k + 1) j (by omega) hj; omega
theorem sorted_fst (b : Nat) (s : List Int) (i j : Nat) (hij : i ≤ j) (hj : j < s.length) : ((sortedG b s).getD i (0, 0)).1 ≤ ((sortedG b s).getD j (0, 0)).1 := by
  by_cases e : i = j
  · subst e; exact Int.le_refl _
  · have hlen := sortedG_length b s
    have h := sorted_lt b s i j (by omega) (by omega)
    rw [List.getD_eq_getElem?_getD, List.getD_eq_getElem?_getD, List.getElem?_eq_getElem (by omega), List.getElem?_eq_getElem (by omega), Option.getD_some, Option.getD_some]
    rw [ltE] at h
    simp at h
    omega
theorem ranksTo_at {l lens : List Int} (hok : okLens l lens = true) : ∀ m, m ≤ lens.length → ∀ s j, s < m → j < (rd lens (s : Int)).toNat → ∃ r : Nat, rd (ranksTo l lens m) ((startOf lens (s : Int) + j : Nat) : Int) = r ∧ r < (unG (segOf l lens s) (segOf l lens s).length).length ∧ rd (unG (segOf l lens s) (segOf l lens s).length) (r : Int) = rd (segOf l lens s) (j : Int)
  | 0, _, s, _, h, _ => absurd h (Nat.not_lt_zero _)
  | m + 1, hm, s, j, hs, hj => by
    have hsl := segOf_len hok m (by omega)
    obtain ⟨_, hin⟩ := seg_in hok m (by omega)
    have hlen := ranksTo_length l lens m
    rw [ranksTo, ← hsl]
    by_cases e : s = m
    · subst e
      obtain ⟨k, hk, he, hc, hv⟩ := setsTo_seg (ranksTo l lens s) (startOf lens (s : Int)) (segOf l lens s) (fun k => ((rkOf (sortedG (startOf lens (s : Int)) (segOf l lens s)) (k + 1) : Nat) : Int)) (by omega) j (by omega)
      obtain ⟨h1, h2⟩ := rkOf_at (sortedG (startOf lens (s : Int)) (segOf l lens s)) (segOf l lens s).length (unG (segOf l lens s) (segOf l lens s).length) (unG_sorted _ _) (fun x => by
        rw [unG_mem]
        constructor
        · rintro ⟨i, hi, e⟩
          obtain ⟨q, hq, e2, _⟩ := sorted_index (startOf lens (s : Int)) (segOf l lens s) i hi
          exact ⟨q, hq, by rw [e2]; exact e⟩
        · rintro ⟨q, hq, e⟩
          obtain ⟨i, hi, e2⟩ := sortedG_mem (startOf lens (s : Int)) (segOf l lens s) q hq
          rw [e2] at e
          exact ⟨i, hi, e⟩) (fun a b hab hb => sorted_fst _ _ a b hab hb) k hk
      rw [he] at h2
      exact ⟨_, hv, h1, h2⟩
    · have h1 := startOf_up lens (s + 1) m (by omega) (by omega)
      rw [startOf_step lens s (by omega)] at h1
      rw [setsTo_out _ _ _ _ (by omega) _ (by omega)]
      exact ranksTo_at hok m (by omega) s j (by omega) hj
theorem drop_take_seg (l : List Int) (st n : Nat) : (l.take (st + n)).drop st = (l.drop st).take n := by
  rw [List.drop_take]
  congr 1
  omega
theorem rd_drop_take (l : List Int) (st n k : Nat) (hk : k < n) : rd ((l.drop st).take n) (k : Int) = rd l ((st + k : Nat) : Int) := rd_seg l st n k hk
theorem stands_congr {p q : List Int} {m : Nat} (h : ∀ j : Nat, j < m → rd p (j : Int) = rd q (j : Int)) (x : Int) : stands p m x = stands q m x := by
  rw [Bool.eq_iff_iff, stands_iff, stands_iff]
  constructor
  · rintro ⟨j, hj, e⟩
    exact ⟨j, hj, by rw [← h j hj]; exact e⟩
  · rintro ⟨j, hj, e⟩
    exact ⟨j, hj, by rw [h j hj]; exact e⟩
theorem wh_neg (l : List Int) (x : Int) : wh l x < 0 ↔ stands l l.length x = false := by
  unfold wh
  cases h : stands l l.length x
  · simp
  · have := whereIs_at l l.length x h
    simp
    omega
theorem ev_Wrap (l : List Int) (most : Nat) (hm : most ≤ 1000) (hl : Sh l) : ∃ a, Ev (fun k => r00_Wrap.f k l (most : Int)) a ∧ a.length ≤ most ∧ a.length ≤ l.length ∧ (∀ x ∈ a, isWordB x = true) ∧ a.length = min l.length most := by
  let g : Nat → Int := fun i => wrap64 (wrap32 (rd l (i : Int)))
  have H := up (n := min l.length most) (P := fun i => Ev (fun k => r00_Wrap.l0 k l (most : Int) ((List.range i).map g) (i : Int)) ((List.range (min l.length most)).map g))
    (Ev.step (f := fun _ => some ((List.range (min l.length most)).map g)) (fun k => by
      simp only [r00_Wrap.l0]
      by_cases h : ((min l.length most : Nat) : Int) < (l.length : Int)
      · rw [if_pos h, if_neg (by omega)]
      · rw [if_neg h]) (Ev.now _))
    (fun i hi ih => by
      refine Ev.step (f := fun k => r00_Wrap.l0 k l (most : Int) ((List.range (i + 1)).map g) ((i + 1 : Nat) : Int)) (fun k => ?_) ih
      simp only [r00_Wrap.l0]; rw [if_pos (by omega), if_pos (by omega), if_pos (by omega), f_Word]
      simp only [Option.bind_some]
      rw [if_pos (by simp; omega), wsucc hi (by omega), List.range_succ, List.map_append]
      rfl) 0 (Nat.zero_le _)
  refine ⟨(List.range (min l.length most)).map g, H, ?_, ?_, ?_, ?_⟩
  · simp; omega
  · simp; omega
  · intro x hx
    obtain ⟨i, _, rfl⟩ := List.mem_map.1 hx
    exact wrap32_word _
  · simp
def tot (lens : List Int) : Nat := startOf lens lens.length
theorem tot_snoc (lens : List Int) (x : Int) : tot (lens ++ [x]) = tot lens + x.toNat := by
  unfold tot startOf
  rw [Int.toNat_natCast, Int.toNat_natCast, List.take_of_length_le (Nat.le_refl _), List.take_of_length_le (Nat.le_refl _), List.foldl_append]
  rfl
/-- Lengths whose total is a number. -/
structure Ln (T : Nat) (lens : List Int) : Prop where
  len : lens.length ≤ 201
  pos : ∀ x ∈ lens, 0 ≤ x ∧ x ≤ T
  tot : tot lens = T
theorem ev_lensOf (l : List Int) (T : Nat) (hT : T ≤ 1000) (hl : Sh l) : ∃ lens, Ev (fun k => w07_lensOf.f k l (T : Int)) lens ∧ Ln T lens := by
  have hend : ∀ (x : Nat) (out : List Int) (i : Nat), out.length ≤ 200 → (∀ y ∈ out, 0 ≤ y ∧ y ≤ T) → tot out + x = T → ∃ lens, Ev (fun k => w07_lensOf.j1 k l (x : Int) out (i : Int) false) lens ∧ Ln T lens := by
    intro x out i h1 h2 h3
    by_cases c : 0 < x
    · refine ⟨out ++ [(x : Int)], Ev.step (f := fun _ => some _) (fun k => ?_) (Ev.now _), by simp; omega, fun y hy => ?_, by rw [tot_snoc, Int.toNat_natCast]; exact h3⟩
      · simp only [w07_lensOf.j1]
        rw [if_neg (by simp), if_pos (by omega), if_pos (by omega)]
      · rcases List.mem_append.1 hy with h | h
        · exact h2 y h
        · rw [List.mem_singleton] at h; omega
    · refine ⟨out, Ev.step (f := fun _ => some _) (fun k => ?_) (Ev.now _), by omega, h2, by omega⟩
      simp only [w07_lensOf.j1]
      rw [if_neg (by simp), if_neg (by omega)]
  have H := up (n := 200) (P := fun i => ∀ (x : Nat) (out : List Int), out.length ≤ i → (∀ y ∈ out, 0 ≤ y ∧ y ≤ T) → tot out + x = T → ∃ lens, Ev (fun k => w07_lensOf.l0 k l (x : Int) out (i : Int)) lens ∧ Ln T lens)
    (fun x out h1 h2 h3 => by
      obtain ⟨lens, g1, g2⟩ := hend x out 200 h1 h2 h3
      refine ⟨lens, Ev.step (fun k => ?_) g1, g2⟩
      simp only [w07_lensOf.l0]
      by_cases c : (x : Int) > 0
      · rw [if_pos c, decide_eq_false (by omega)]
      · rw [if_neg c])
    (fun i hi ih x out h1 h2 h3 => by
      by_cases c : (x : Int) > 0
      · obtain ⟨v, hv⟩ := f_Nth l (i : Int) hl
        obtain ⟨t, t1, t2, t3⟩ := f_Turn (wrap64 (v + i)) 7 (by omega)
        have t3 := t3 (by omega)
        obtain ⟨y, hy⟩ : ∃ y : Nat, mn (x : Int) t = y := ⟨(mn (x : Int) t).toNat, by rw [mn_min']; omega⟩
        have hyx : y ≤ x := by rw [mn_min'] at hy; omega
        have hw : wrap64 ((x : Int) - mn (x : Int) t) = ((x - y : Nat) : Int) := by rw [hy]; unfold wrap64; omega
        obtain ⟨lens, g1, g2⟩ := ih (x - y) (out ++ [(y : Int)]) (by simp; omega) (fun z hz => by
          rcases List.mem_append.1 hz with h | h
          · exact h2 z h
          · rw [List.mem_singleton] at h; omega) (by rw [tot_snoc, Int.toNat_natCast]; omega)
        refine ⟨lens, Ev.step (f := fun k => w07_lensOf.j1 k l (x : Int) out (i : Int) true) (fun k => ?_) (Ev.step (fun k => ?_) g1), g2⟩
        · simp only [w07_lensOf.l0]
          rw [if_pos c, decide_eq_true (by omega)]
        · simp only [w07_lensOf.j1]
          rw [if_pos trivial, hv, Option.bind_some, t1, Option.bind_some, hw, hy, if_pos (by omega), wsucc hi (by omega)]
      · obtain ⟨lens, g1, g2⟩ := hend x out i (by omega) h2 h3
        refine ⟨lens, Ev.step (fun k => ?_) g1, g2⟩
        simp only [w07_lensOf.l0]
        rw [if_neg c]) 0 (Nat.zero_le _) T [] (by simp) (by simp) (by simp [tot, startOf])
  exact H
theorem Ln.okLens {T : Nat} {l lens : List Int} (h : Ln T lens) (hl : l.length = T) : okLens l lens = true := by
  have h1 := h.tot
  unfold Pure.tot at h1
  unfold Hand.okLens
  rw [h1, hl, BEq.rfl, Bool.and_true, List.all_eq_true]
  intro x hx
  exact decide_eq_true (h.pos x hx).1
theorem Ln.openE {T : Nat} {l lens : List Int} (h : Ln T lens) (hT : T ≤ 1000) (hl : l.length = T) (hw : ∀ x ∈ l, isWordB x = true) : openE l lens = 0 := by
  have h1 : wordsE [l, lens] = 0 := by
    unfold wordsE
    have e1 : (List.any [l, lens] fun l => decide (1048576 < l.length)) = false := by
      have := h.len
      simp; omega
    have e2 : (List.any [l, lens] noWords) = false := by
      simp only [List.any_cons, List.any_nil, Bool.or_false, Bool.or_eq_false_iff]
      refine ⟨List.any_eq_false.2 (fun x hx => by rw [hw x hx]; simp), List.any_eq_false.2 (fun x hx => ?_)⟩
      have := h.pos x hx
      rw [(isWordB_iff x).2 (by omega)]
      simp
    rw [e1, e2]
    rfl
  unfold Hand.openE
  rw [if_pos h1, h.okLens hl]
  rfl
theorem insG_count (x : Int) : ∀ l : List Int, l.Pairwise (fun a b => a < b) → (insG l x).length = if x ∈ l then l.length else l.length + 1
  | [], _ => by simp [insG]
  | a :: t, h => by
    have h1 := List.pairwise_cons.1 h
    have ih := insG_count x t h1.2
    unfold insG
    by_cases c : x ≤ a
    · rw [if_pos c]
      by_cases c2 : x < a
      · have : ¬ x ∈ a :: t := fun hm => by
          rcases List.mem_cons.1 hm with e | e
          · omega
          · have := h1.1 x e; omega
        rw [if_pos c2, if_neg this]
        rfl
      · have : x = a := by omega
        subst this
        rw [if_neg c2, if_pos (by simp)]
    · rw [if_neg c, List.length_cons, ih]
      by_cases hm : x ∈ t
      · rw [if_pos hm, if_pos (List.mem_cons_of_mem _ hm)]; rfl
      · rw [if_neg hm, if_neg (fun h => (List.mem_cons.1 h).elim (fun e => by omega) hm)]; rfl
theorem stands_mem (s : List Int) (m : Nat) (x : Int) : stands s m x = true ↔ x ∈ unG s m := by rw [stands_iff, unG_mem]
theorem fst_count (st : Nat) (s : List Int) : ∀ m, (fstAt st s m).length = (unG s m).length
  | 0 => rfl
  | m + 1 => by
    have ih := fst_count st s m
    rw [fstAt, unG, insG_count _ _ (unG_sorted s m)]
    by_cases c : stands s m (rd s (m : Int)) = true
    · rw [if_pos c, if_pos ((stands_mem _ _ _).1 c)]; exact ih
    · rw [if_neg c, if_neg (fun h => c ((stands_mem _ _ _).2 h)), List.length_append, ih]; rfl
theorem fst_mem (st : Nat) (s : List Int) (x : Int) : ∀ m, x ∈ fstAt st s m ↔ ∃ j : Nat, j < m ∧ x = ((st + j : Nat) : Int) ∧ stands s j (rd s (j : Int)) = false
  | 0 => by simp [fstAt]
  | m + 1 => by
    have ih := fst_mem st s x m
    rw [fstAt]
    cases c : stands s m (rd s (m : Int))
    · rw [if_neg (by simp), List.mem_append, ih, List.mem_singleton]
      constructor
      · rintro (⟨j, h1, h2⟩ | h)
        · exact ⟨j, by omega, h2⟩
        · exact ⟨m, by omega, h, c⟩
      · rintro ⟨j, h1, h2, h3⟩
        by_cases e : j = m
        · subst e; exact .inr h2
        · exact .inl ⟨j, by omega, h2, h3⟩
    · rw [if_pos rfl, ih]
      constructor
      · rintro ⟨j, h1, h2⟩
        exact ⟨j, by omega, h2⟩
      · rintro ⟨j, h1, h2, h3⟩
        by_cases e : j = m
        · subst e; rw [c] at h3; cases h3
        · exact ⟨j, by omega, h2, h3⟩
theorem fst_sorted (st : Nat) (s : List Int) : ∀ m, (fstAt st s m).Pairwise (fun a b => a < b)
  | 0 => List.Pairwise.nil
  | m + 1 => by
    have ih := fst_sorted st s m
    rw [fstAt]
    split
    · exact ih
    · rw [List.pairwise_append]
      refine ⟨ih, List.pairwise_singleton _ _, fun a ha b hb => ?_⟩
      obtain ⟨j, h1, h2, _⟩ := (fst_mem st s a m).1 ha
      rw [List.mem_singleton] at hb
      omega
theorem firsts_mem {l lens : List Int} (hok : okLens l lens = true) (x : Int) : ∀ i, i ≤ lens.length → (x ∈ firstsTo l lens i ↔ ∃ s j : Nat, s < i ∧ j < (rd lens (s : Int)).toNat ∧ x = ((startOf lens (s : Int) + j : Nat) : Int) ∧ stands (segOf l lens s) j (rd (segOf l lens s) (j : Int)) = false)
  | 0, _ => by simp [firstsTo]
  | i + 1, hi => by
    have ih := firsts_mem hok x i (by omega)
    have hsl := segOf_len hok i (by omega)
    rw [firstsTo, List.mem_append, ih, fst_mem, hsl]
    constructor
    · rintro (⟨s, j, h1, h2⟩ | ⟨j, h1, h2⟩)
      · exact ⟨s, j, by omega, h2⟩
      · exact ⟨i, j, by omega, h1, h2⟩
    · rintro ⟨s, j, h1, h2, h3⟩
      by_cases e : s = i
      · subst e; exact .inr ⟨j, h2, h3⟩
      · exact .inl ⟨s, j, by omega, h2, h3⟩
theorem firsts_sorted {l lens : List Int} (hok : okLens l lens = true) : ∀ i, i ≤ lens.length → (firstsTo l lens i).Pairwise (fun a b => a < b)
  | 0, _ => List.Pairwise.nil
  | i + 1, hi => by
    have ih := firsts_sorted hok i (by omega)
    rw [firstsTo, List.pairwise_append]
    refine ⟨ih, fst_sorted _ _ _, fun a ha b hb => ?_⟩
    obtain ⟨s, j, h1, h2, h3, _⟩ := (firsts_mem hok a i (by omega)).1 ha
    obtain ⟨j2, h4, h5, _⟩ := (fst_mem _ _ b _).1 hb
    have h6 := startOf_up lens (s + 1) i (by omega) (by omega)
    rw [startOf_step lens s (by omega)] at h6
    omega
theorem firsts_at {l lens : List Int} (s k : Nat) (hk : k < (fstAt (startOf lens (s : Int)) (segOf l lens s) (segOf l lens s).length).length) : ∀ m, s < m → rd (firstsTo l lens m) (((firstsTo l lens s).length + k : Nat) : Int) = rd (fstAt (startOf lens (s : Int)) (segOf l lens s) (segOf l lens s).length) (k : Int) ∧ (firstsTo l lens s).length + k < (firstsTo l lens m).length
  | 0, h => absurd h (Nat.not_lt_zero _)
  | m + 1, h => by
    rw [firstsTo, List.length_append]
    by_cases e : s = m
    · subst e
      rw [rd_app_ge]
      exact ⟨rfl, by omega⟩
    · obtain ⟨h1, h2⟩ := firsts_at s k hk m (by omega)
      rw [rd_app_lt _ _ _ h2]
      exact ⟨h1, by omega⟩
theorem firsts_step (l lens : List Int) (s : Nat) : (firstsTo l lens (s + 1)).length = (firstsTo l lens s).length + (fstAt (startOf lens (s : Int)) (segOf l lens s) (segOf l lens s).length).length := by rw [firstsTo, List.length_append]
theorem many_at (l lens : List Int) (s : Nat) : ∀ m, s < m → rd (manyTo l lens m) (s : Int) = ((fstAt (startOf lens (s : Int)) (segOf l lens s) (segOf l lens s).length).length : Int)
  | 0, h => absurd h (Nat.not_lt_zero _)
  | m + 1, h => by
    have hl := manyTo_length l lens m
    rw [manyTo]
    by_cases e : s = m
    · subst e
      have h2 := rd_app_ge (manyTo l lens s) [((fstAt (startOf lens (s : Int)) (segOf l lens s) (segOf l lens s).length).length : Int)] 0
      rw [hl] at h2
      exact h2
    · rw [rd_app_lt _ _ _ (by omega)]
      exact many_at l lens s m (by omega)
theorem many_sum (l lens : List Int) : ∀ m, (manyTo l lens m).sum = ((firstsTo l lens m).length : Int)
  | 0 => rfl
  | m + 1 => by
    rw [manyTo, List.sum_append, many_sum l lens m, firsts_step]
    simp
theorem sorted_eq {a b : List Int} (ha : a.Pairwise (fun x y => x < y)) (hb : b.Pairwise (fun x y => x < y)) (h : ∀ x, x ∈ a ↔ x ∈ b) : a = b := by
  refine List.Perm.eq_of_pairwise (le := fun x y => x < y) (fun x y _ _ h1 h2 => by omega) ha hb ?_
  refine (List.perm_ext_iff_of_nodup ?_ ?_).2 h
  · exact List.nodup_iff_pairwise_ne.2 (ha.imp (fun h => by omega))
  · exact List.nodup_iff_pairwise_ne.2 (hb.imp (fun h => by omega))
theorem upInts_sorted (n : Nat) : (upInts n).Pairwise (fun x y => x < y) := by
  unfold upInts
  rw [List.pairwise_map]
  exact List.pairwise_lt_range.imp (fun h => by omega)
theorem ev_Ordered (l : List Int) (N : Nat) (hl : l.length ≤ 1048576) (hN : N ≤ 1048576) (h1 : ∀ x ∈ l, 0 ≤ x ∧ x < N) (h2 : l.Pairwise (fun a b => a < b)) : Ev (fun k => r00_Ordered.f k l (N : Int)) true := by
  have H := up (n := l.length) (P := fun i => Ev (fun k => r00_Ordered.l0 k l (N : Int) (i : Int)) true)
    (by
      refine Ev.step (f := fun _ => some true) (fun k => ?_) (Ev.now _)
      simp only [r00_Ordered.l0]
      rw [if_neg (by omega)])
    (fun i hi ih => by
      have hx := h1 (rd l (i : Int)) (by rw [rd_get hi]; exact List.getElem_mem _)
      have hw : wrap64 ((N : Int) - 1) = (N : Int) - 1 := by unfold wrap64; omega
      have hL : r00_Lies.f (rd l (i : Int)) 0 ((N : Int) - 1) = some true := by
        rw [f_Lies, decide_eq_true (by omega), decide_eq_true (by omega)]; rfl
      refine Ev.step (fun k => ?_) ih
      simp only [r00_Ordered.l0]
      rw [hw, if_pos (by omega), if_pos (by omega), hL, Option.bind_some, if_pos rfl, wsucc hi (by omega)]
      by_cases c : i = 0
      · subst c
        rw [if_neg (by omega)]
        try rfl
      · have hw2 : wrap64 ((i : Int) - 1) = ((i - 1 : Nat) : Int) := by unfold wrap64; omega
        have hlt := getElem_lt h2 (i - 1) i (by omega) hi
        rw [if_pos (by omega), hw2, if_pos (by omega), if_pos (by omega), if_neg (by omega)]) 0 (Nat.zero_le _)
  exact H
theorem wh_pos (l : List Int) (x : Int) : wh l x ≥ 0 ↔ x ∈ l := by
  have h := wh_neg l x
  have h2 : stands l l.length x = true ↔ x ∈ l := by
    rw [stands_iff]
    constructor
    · rintro ⟨j, hj, e⟩
      rw [← e, rd_get hj]
      exact List.getElem_mem _
    · intro hm
      obtain ⟨i, hi, e⟩ := mem_rd hm
      exact ⟨i, hi, e.symm⟩
  rw [← h2]
  cases hs : stands l l.length x
  · have := h.2 hs
    simp
    omega
  · have : ¬ wh l x < 0 := fun c => by rw [h.1 c] at hs; cases hs
    simp
    omega
theorem ranks_cmp {U : List Int} (hU : U.Pairwise (fun a b => a < b)) {x y : Int} {r q : Nat} (hr : r < U.length) (hq : q < U.length) (h1 : rd U (r : Int) = x) (h2 : rd U (q : Int) = y) : (x < y ↔ (r : Int) < (q : Int)) ∧ (x = y ↔ (r : Int) = (q : Int)) := by
  rcases Nat.lt_trichotomy r q with c | c | c
  · have := getElem_lt hU r q c hq
    omega
  · subst c; omega
  · have := getElem_lt hU q r c hr
    omega
theorem ranks_l3 {a lens R F M own : List Int} (N st n s bg i : Nat) (hN : N ≤ 60) (ha : a.length = N) (hR : R.length = N) (hst : st + n ≤ N) (hi : i < n) (hF : F.length ≤ N) (ho : own.length ≤ 1048576)
    (hcmp : ∀ i j : Nat, i < n → j < n → (rd a ((st + j : Nat) : Int) < rd a ((st + i : Nat) : Int) ↔ rd R ((st + j : Nat) : Int) < rd R ((st + i : Nat) : Int)) ∧ (rd a ((st + j : Nat) : Int) = rd a ((st + i : Nat) : Int) ↔ rd R ((st + j : Nat) : Int) = rd R ((st + i : Nat) : Int)))
    (hfirst : wh ((a.drop st).take i) (rd a ((st + i : Nat) : Int)) < 0 ↔ wh F ((st + i : Nat) : Int) ≥ 0)
    (h : Ev (fun k => w07_RankRanks.l2 k a lens R F M (st : Int) (bg : Int) (s : Int) (insG own (rd R ((st + i : Nat) : Int))) ((st + (i + 1) : Nat) : Int)) true) :
    Ev (fun k => w07_RankRanks.l3 k a lens R F M (st : Int) (bg : Int) (s : Int) own ((st + i : Nat) : Int) (st : Int)) true := by
  have H := up (n := i) (P := fun j => Ev (fun k => w07_RankRanks.l3 k a lens R F M (st : Int) (bg : Int) (s : Int) own ((st + i : Nat) : Int) ((st + j : Nat) : Int)) true)
    (by
      have g1 := ev_Where ((a.drop st).take i) (rd a ((st + i : Nat) : Int)) (by rw [List.length_take]; omega)
      have g2 := ev_Where F ((st + i : Nat) : Int) (by omega)
      have g3 := ev_Put own (rd R ((st + i : Nat) : Int)) ho
      have hd : (decide (wh ((a.drop st).take i) (rd a ((st + i : Nat) : Int)) < 0)) = (decide (wh F ((st + i : Nat) : Int) ≥ 0)) := decide_eq_decide.2 hfirst
      have hlt : ((st + i : Nat) : Int) < (R.length : Int) := by omega
      have G : Ev (fun k => (r00_Where.f k ((a.drop st).take i) (rd a ((st + i : Nat) : Int))).bind fun t197 => ((r00_Where.f k F ((st + i : Nat) : Int)).bind fun t198 => (if ((decide (t197 < 0)) != (decide (t198 ≥ 0))) = true then (none) else (if ((st + i : Nat) : Int) < (R.length : Int) then ((r00_Put.f k own (rd R ((st + i : Nat) : Int))).bind fun t200 => (w07_RankRanks.l2 k a lens R F M (st : Int) (bg : Int) (s : Int) t200 ((st + (i + 1) : Nat) : Int))) else (none))))) true := by
        refine Ev.bind g1 ?_
        refine Ev.bind g2 ?_
        rw [hd]
        simp only [bne_self_eq_false, Bool.false_eq_true, if_false, if_pos hlt]
        exact Ev.bind (f := fun k t200 => w07_RankRanks.l2 k a lens R F M (st : Int) (bg : Int) (s : Int) t200 ((st + (i + 1) : Nat) : Int)) g3 h
      refine Ev.step (fun k => ?_) G
      simp only [w07_RankRanks.l3]
      rw [if_neg (by omega), if_pos (by omega), if_pos (by omega), if_pos (by omega), if_pos (by omega), if_pos (by omega), Int.toNat_natCast, Int.toNat_natCast, drop_take_seg, wsucc (n := N) (i := st + i) (by omega) (by omega)]
      rfl)
    (fun j hj ih => by
      obtain ⟨c1, c2⟩ := hcmp i j hi (by omega)
      have d1 : (decide (rd a ((st + j : Nat) : Int) < rd a ((st + i : Nat) : Int))) = (decide (rd R ((st + j : Nat) : Int) < rd R ((st + i : Nat) : Int))) := decide_eq_decide.2 c1
      have d2 : (rd a ((st + j : Nat) : Int) == rd a ((st + i : Nat) : Int)) = (rd R ((st + j : Nat) : Int) == rd R ((st + i : Nat) : Int)) := by
        rw [Bool.eq_iff_iff, beq_iff_eq, beq_iff_eq]
        exact c2
      refine Ev.step (fun k => ?_) ih
      simp only [w07_RankRanks.l3]
      rw [if_pos (by omega), if_pos (by omega), if_pos (by omega), if_pos (by omega), if_pos (by omega), if_pos (by omega), if_pos (by omega), d1, d2, bne_self_eq_false, bne_self_eq_false, if_neg (by simp), if_neg (by simp), wsucc (n := N) (i := st + j) (by omega) (by omega)]
      try rfl) 0 (Nat.zero_le _)
  exact H
theorem ranks_l4 {a lens R F M f : List Int} (N st n s bg : Nat) (hN : N ≤ 60) (hst : st + n ≤ N) (hs : s < lens.length) (hl2 : lens.length ≤ 201) (hnn : rd lens (s : Int) = n) (hM : M.length = lens.length) (hMs : rd M (s : Int) = (f.length : Int)) (hF : F.length ≤ N) (hbg : bg ≤ N) (hfl : f.length ≤ N)
    (hfa : ∀ i : Nat, i < f.length → rd F ((bg + i : Nat) : Int) = rd f (i : Int) ∧ bg + i < F.length) (hfst : ∀ i : Nat, i < f.length → ∃ j : Nat, j < n ∧ rd f (i : Int) = ((st + j : Nat) : Int))
    (h : Ev (fun k => w07_RankRanks.l1 k a lens R F M ((st + n : Nat) : Int) ((bg + f.length : Nat) : Int) ((s + 1 : Nat) : Int)) true) :
    Ev (fun k => w07_RankRanks.l4 k a lens R F M (st : Int) (bg : Int) (s : Int) 0) true := by
  have hw : wrap64 ((st : Int) + rd lens (s : Int)) = ((st + n : Nat) : Int) := by rw [hnn]; unfold wrap64; omega
  have hw2 : wrap64 (((st + n : Nat) : Int) - 1) = ((st + n : Nat) : Int) - 1 := by unfold wrap64; omega
  have e3 : wrap64 ((bg : Int) + rd M (s : Int)) = ((bg + f.length : Nat) : Int) := by rw [hMs]; unfold wrap64; omega
  replace hw := Aside0.mk hw
  replace hw2 := Aside0.mk hw2
  replace e3 := Aside0.mk e3
  have H := up (n := f.length) (P := fun i => Ev (fun k => w07_RankRanks.l4 k a lens R F M (st : Int) (bg : Int) (s : Int) (i : Int)) true)
    (by
      refine Ev.step (fun k => ?_) h
      simp only [w07_RankRanks.l4]
      rw [hMs, if_pos (by omega), if_pos (by omega), if_neg (by omega), if_pos (by omega), hw.out, ← hMs, e3.out, wsucc hs (by omega)])
    (fun i hi ih => by
      obtain ⟨q1, q2⟩ := hfa i hi
      obtain ⟨j, j1, j2⟩ := hfst i hi
      rw [j2] at q1
      have e2 := Aside0.mk (show wrap64 ((bg : Int) + (i : Int)) = ((bg + i : Nat) : Int) from by unfold wrap64; omega)
      have hL : r00_Lies.f ((st + j : Nat) : Int) (st : Int) (((st + n : Nat) : Int) - 1) = some true := by
        rw [f_Lies, decide_eq_true (by omega), decide_eq_true (by omega)]; rfl
      refine Ev.step (fun k => ?_) ih
      simp only [w07_RankRanks.l4]
      rw [hMs, if_pos (by omega), if_pos (by omega), if_pos (by omega), e2.out, if_pos (by omega), if_pos (by omega), if_pos (by omega), hw.out, hw2.out, q1, hL, Option.bind_some, if_pos rfl, wsucc (n := f.length) hi (by omega)]) 0 (Nat.zero_le _)
  exact H
theorem ranks_l2 {a lens R F M : List Int} (N st n s bg c : Nat) (hN : N ≤ 60) (ha : a.length = N) (hR : R.length = N) (hst : st + n ≤ N) (hs : s < lens.length) (hl2 : lens.length ≤ 201) (hnn : rd lens (s : Int) = n) (hM : M.length = lens.length) (hMs : rd M (s : Int) = (c : Int)) (hc : c ≤ N) (hF : F.length ≤ N)
    (hcmp : ∀ i j : Nat, i < n → j < n → (rd a ((st + j : Nat) : Int) < rd a ((st + i : Nat) : Int) ↔ rd R ((st + j : Nat) : Int) < rd R ((st + i : Nat) : Int)) ∧ (rd a ((st + j : Nat) : Int) = rd a ((st + i : Nat) : Int) ↔ rd R ((st + j : Nat) : Int) = rd R ((st + i : Nat) : Int)))
    (hfirst : ∀ i : Nat, i < n → (wh ((a.drop st).take i) (rd a ((st + i : Nat) : Int)) < 0 ↔ wh F ((st + i : Nat) : Int) ≥ 0)) (hown : unG ((R.drop st).take n) n = upInts c)
    (H4 : Ev (fun k => w07_RankRanks.l4 k a lens R F M (st : Int) (bg : Int) (s : Int) 0) true) :
    Ev (fun k => w07_RankRanks.l2 k a lens R F M (st : Int) (bg : Int) (s : Int) [] (st : Int)) true := by
  have hw := Aside0.mk (show wrap64 ((st : Int) + rd lens (s : Int)) = ((st + n : Nat) : Int) from by rw [hnn]; unfold wrap64; omega)
  have hRs : ∀ j : Nat, j < n → rd ((R.drop st).take n) (j : Int) = rd R ((st + j : Nat) : Int) := fun j hj => rd_drop_take R st n j hj
  have hu := f_Upto (c : Int) (by omega)
  rw [Int.toNat_natCast] at hu
  have H2 := up (n := n) (P := fun i => Ev (fun k => w07_RankRanks.l2 k a lens R F M (st : Int) (bg : Int) (s : Int) (unG ((R.drop st).take n) i) ((st + i : Nat) : Int)) true)
    (by
      rw [hown]
      have H5 : Ev (fun k => w07_RankRanks.j5 k a lens R F M (st : Int) (bg : Int) (s : Int) false) true := by
        refine Ev.step (fun k => ?_) H4
        simp only [w07_RankRanks.j5]
        rw [if_neg (by simp)]
        try rfl
      have G : Ev (fun k => (r00_Upto.f k (c : Int)).bind fun t205 => ((Hand.Eq_.f (upInts c) t205).bind fun t208 => (w07_RankRanks.j5 k a lens R F M (st : Int) (bg : Int) (s : Int) (!t208)))) true := by
        refine Ev.bind hu ?_
        simp only [Eq_.f, BEq.rfl, Option.bind_some, Bool.not_true]
        exact H5
      refine Ev.step (fun k => ?_) G
      simp only [w07_RankRanks.l2]
      rw [if_pos (by omega), if_pos (by omega), hw.out, if_neg (by omega), if_pos (by omega), hMs, if_neg (by omega)])
    (fun i hi ih => by
      have hle := unG_length ((R.drop st).take n) i
      have e : unG ((R.drop st).take n) (i + 1) = insG (unG ((R.drop st).take n) i) (rd R ((st + i : Nat) : Int)) := by rw [unG, hRs i hi]
      rw [e] at ih
      have g := ranks_l3 (lens := lens) (M := M) N st n s bg i hN ha hR hst hi hF (by omega) hcmp (hfirst i hi) ih
      refine Ev.step (fun k => ?_) g
      simp only [w07_RankRanks.l2]
      rw [if_pos (by omega), if_pos (by omega), hw.out, if_pos (by omega)]) 0 (Nat.zero_le _)
  exact H2
set_option maxHeartbeats 2000000 in
theorem ranks_seg {a lens : List Int} (N : Nat) (hN : N ≤ 60) (ha : a.length = N) (hok : okLens a lens = true) (hl2 : lens.length ≤ 201) (s : Nat) (hs : s < lens.length)
    (h : Ev (fun k => w07_RankRanks.l1 k a lens (ranksTo a lens lens.length) (firstsTo a lens lens.length) (manyTo a lens lens.length) (startOf lens ((s + 1 : Nat) : Int) : Int) ((firstsTo a lens (s + 1)).length : Int) ((s + 1 : Nat) : Int)) true) :
    Ev (fun k => w07_RankRanks.l1 k a lens (ranksTo a lens lens.length) (firstsTo a lens lens.length) (manyTo a lens lens.length) (startOf lens (s : Int) : Int) ((firstsTo a lens s).length : Int) (s : Int)) true := by
  obtain ⟨h0, h1⟩ := seg_in hok s hs
  obtain ⟨hpos, htot⟩ := okLens_pos hok
  obtain ⟨n, hnn⟩ : ∃ n : Nat, rd lens (s : Int) = n := ⟨(rd lens (s : Int)).toNat, by omega⟩
  have hsl := segOf_len hok s hs
  have hseg : ∀ j : Nat, j < n → rd (segOf a lens s) (j : Int) = rd a ((startOf lens (s : Int) + j : Nat) : Int) := fun j hj => rd_segOf a lens s j (by omega)
  have hRat := fun j hj => ranksTo_at hok lens.length (Nat.le_refl _) s j hs hj
  have hRl := ranksTo_length a lens lens.length
  have hFl := firstsTo_length hpos htot lens.length (Nat.le_refl _)
  have hFs := firstsTo_length hpos htot s (by omega)
  have hMl := manyTo_length a lens lens.length
  have hMs := many_at a lens s lens.length hs
  have hfa := fun k hk => firsts_at (l := a) (lens := lens) s k hk lens.length hs
  have hst := firsts_step a lens s
  have hfm := fun x => firsts_mem hok x lens.length (Nat.le_refl _)
  have hfst := fun x => fst_mem (startOf lens (s : Int)) (segOf a lens s) x (segOf a lens s).length
  have hfirst : ∀ i : Nat, i < n → (wh ((a.drop (startOf lens (s : Int))).take i) (rd a ((startOf lens (s : Int) + i : Nat) : Int)) < 0 ↔ wh (firstsTo a lens lens.length) ((startOf lens (s : Int) + i : Nat) : Int) ≥ 0) := fun i hi => by
    have hdl : ((a.drop (startOf lens (s : Int))).take i).length = i := by rw [List.length_take, List.length_drop]; omega
    rw [wh_neg, hdl, wh_pos, hfm, ← hseg i hi, stands_congr (q := segOf a lens s) (fun j hj => by rw [rd_drop_take a _ i j hj, hseg j (by omega)])]
    constructor
    · intro q
      exact ⟨s, i, hs, by omega, rfl, q⟩
    · rintro ⟨s2, j, q1, q2, q3, q4⟩
      obtain ⟨_, h12⟩ := seg_in hok s2 q1
      have e : s2 = s := by
        rcases Nat.lt_trichotomy s2 s with c | c | c
        · have h6 := startOf_up lens (s2 + 1) s (by omega) (by omega)
          rw [startOf_step lens s2 q1] at h6
          omega
        · exact c
        · have h6 := startOf_up lens (s + 1) s2 (by omega) (by omega)
          rw [startOf_step lens s hs] at h6
          omega
      subst e
      obtain rfl : j = i := by omega
      exact q4
  have hcnt := fst_count (startOf lens (s : Int)) (segOf a lens s) (segOf a lens s).length
  have hUs := unG_sorted (segOf a lens s) (segOf a lens s).length
  have hUm := fun x => unG_mem (segOf a lens s) x (segOf a lens s).length
  have hUl := unG_length (segOf a lens s) (segOf a lens s).length
  rw [startOf_step lens s hs, hst] at h
  rw [hnn, Int.toNat_natCast] at hsl
  simp only [hnn, Int.toNat_natCast] at h h1 hRat
  rw [hsl] at *
  generalize segOf a lens s = sg at *
  generalize startOf lens (s : Int) = st at *
  generalize ranksTo a lens lens.length = R at *
  generalize firstsTo a lens lens.length = F at *
  generalize manyTo a lens lens.length = M at *
  generalize (firstsTo a lens s).length = bg at *
  generalize fstAt st sg n = f at *
  generalize unG sg n = U at *
  have hcmp : ∀ i j : Nat, i < n → j < n → (rd a ((st + j : Nat) : Int) < rd a ((st + i : Nat) : Int) ↔ rd R ((st + j : Nat) : Int) < rd R ((st + i : Nat) : Int)) ∧ (rd a ((st + j : Nat) : Int) = rd a ((st + i : Nat) : Int) ↔ rd R ((st + j : Nat) : Int) = rd R ((st + i : Nat) : Int)) := fun i j hi hj => by
    obtain ⟨r, r1, r2, r3⟩ := hRat j hj
    obtain ⟨q, q1, q2, q3⟩ := hRat i hi
    rw [hseg j hj] at r3
    rw [hseg i hi] at q3
    rw [r1, q1]
    exact ranks_cmp hUs r2 q2 r3 q3
  have hRs : ∀ j : Nat, j < n → rd ((R.drop st).take n) (j : Int) = rd R ((st + j : Nat) : Int) := fun j hj => rd_drop_take R st n j hj
  have hown : unG ((R.drop st).take n) n = upInts f.length := by
    refine sorted_eq (unG_sorted _ _) (upInts_sorted _) (fun x => ?_)
    rw [unG_mem, upInts_mem, hcnt]
    constructor
    · rintro ⟨j, hj, e⟩
      obtain ⟨r, r1, r2, _⟩ := hRat j hj
      rw [hRs j hj, r1] at e
      omega
    · rintro ⟨x0, x1⟩
      obtain ⟨v, rfl⟩ : ∃ v : Nat, x = v := ⟨x.toNat, by omega⟩
      have hv : v < U.length := by omega
      have hm : rd U (v : Int) ∈ U := by rw [rd_get hv]; exact List.getElem_mem _
      obtain ⟨j, hj, e⟩ := (hUm _).1 hm
      obtain ⟨r, r1, r2, r3⟩ := hRat j hj
      refine ⟨j, hj, ?_⟩
      rw [hRs j hj, r1]
      have := (ranks_cmp hUs r2 hv r3 e.symm).2.1 rfl
      omega
  have hfle : f.length ≤ n := by omega
  have H4 := ranks_l4 (a := a) (R := R) N st n s bg hN (by omega) hs hl2 hnn hMl hMs (by omega) (by omega) (by omega) hfa (fun i hi => by
    obtain ⟨j, j1, j2, _⟩ := (hfst (rd f (i : Int))).1 (by rw [rd_get hi]; exact List.getElem_mem _)
    exact ⟨j, j1, j2⟩) h
  have H2 := ranks_l2 N st n s bg f.length hN ha (by omega) (by omega) hs hl2 hnn hMl hMs (by omega) (by omega) hcmp hfirst hown H4
  refine Ev.step (fun k => ?_) H2
  simp only [w07_RankRanks.l1]
  rw [if_pos (by omega)]
theorem RankRanks : w07_RankRanks.Pure := by
  intro l0 l1 n0 _ h1 _ _ h2 _ _
  have s0 : Sh l0 := by unfold Sh; omega
  have s1 : Sh l1 := by unfold Sh; omega
  obtain ⟨b, eb, hb, _, hbw, _⟩ := ev_Wrap l0 60 (by omega) s0
  obtain ⟨t, ht, t0, t1⟩ := f_Turn n0 9 (by omega)
  have t1 := t1 (by omega)
  have hw1 : wrap64 (1 + t) = 1 + t := by unfold wrap64; omega
  have hal : (b.map (fun x => Int.tmod x (1 + t))).length = b.length := by simp
  have haw : ∀ x ∈ b.map (fun x => Int.tmod x (1 + t)), isWordB x = true := by
    intro x hx
    obtain ⟨y, _, rfl⟩ := List.mem_map.1 hx
    have q1 := Int.tmod_lt_of_pos y (show 0 < 1 + t by omega)
    have q2 := Int.lt_tmod_of_pos y (show 0 < 1 + t by omega)
    rw [isWordB_iff]
    omega
  obtain ⟨lens, el, hL⟩ := ev_lensOf l1 b.length (by omega) s1
  generalize hg : b.map (fun x => Int.tmod x (1 + t)) = a at *
  have hok := hL.okLens (l := a) hal
  have hE := hL.openE (by omega) hal haw
  have hlen := hL.len
  obtain ⟨hpos, htot⟩ := okLens_pos hok
  have g1 : rank_Ranks.g a lens = (ranksTo a lens lens.length, 0) := by unfold rank_Ranks.g; rw [if_pos hE]
  have g2 : rank_Firsts.g a lens = (firstsTo a lens lens.length, manyTo a lens lens.length, 0) := by unfold rank_Firsts.g; rw [if_pos hE]
  have hRl := ranksTo_length a lens lens.length
  have hFl := firstsTo_length hpos htot lens.length (Nat.le_refl _)
  have hMl := manyTo_length a lens lens.length
  have hsum := many_sum a lens lens.length
  have HL := up (n := lens.length) (P := fun s => Ev (fun k => w07_RankRanks.l1 k a lens (ranksTo a lens lens.length) (firstsTo a lens lens.length) (manyTo a lens lens.length) (startOf lens (s : Int) : Int) ((firstsTo a lens s).length : Int) (s : Int)) true)
    (by
      refine Ev.step (f := fun _ => some true) (fun k => ?_) (Ev.now _)
      simp only [w07_RankRanks.l1]
      rw [if_neg (by omega), law_ranked.f, Option.bind_some])
    (fun s hs ih => ranks_seg b.length hb hal hok hlen s hs ih) 0 (Nat.zero_le _)
  have HJ : Ev (fun k => w07_RankRanks.j1 k a lens (ranksTo a lens lens.length) (firstsTo a lens lens.length) (manyTo a lens lens.length) false) true := by
    refine Ev.step (fun k => ?_) HL
    simp only [w07_RankRanks.j1]
    rw [if_neg (by simp)]
    rfl
  have hFm : ∀ x ∈ firstsTo a lens lens.length, 0 ≤ x ∧ x < (b.length : Int) := fun x hx => by
    obtain ⟨s, j, q1, q2, q3, _⟩ := (firsts_mem hok x lens.length (Nat.le_refl _)).1 hx
    obtain ⟨_, h12⟩ := seg_in hok s q1
    omega
  have eO := ev_Ordered (firstsTo a lens lens.length) b.length (by omega) (by omega) hFm (firsts_sorted hok lens.length (Nat.le_refl _))
  have hMb : ∀ x ∈ manyTo a lens lens.length, -4294967296 ≤ x ∧ x ≤ 4294967296 := fun x hx => by
    obtain ⟨i, hi, rfl⟩ := mem_rd hx
    rw [hMl] at hi
    rw [many_at a lens i lens.length hi]
    have q1 := fstAt_length (startOf lens (i : Int)) (segOf a lens i) (segOf a lens i).length
    have q2 := segOf_len hok i hi
    obtain ⟨_, h12⟩ := seg_in hok i hi
    omega
  have eS := ev_Sum (manyTo a lens lens.length) (by omega) hMb
  rw [hsum] at eS
  have hRl2 : ((ranksTo a lens lens.length).length : Int) = (a.length : Int) := by rw [hRl]
  have hMl2 : ((manyTo a lens lens.length).length : Int) = (lens.length : Int) := by rw [hMl]
  generalize ranksTo a lens lens.length = R at *
  generalize firstsTo a lens lens.length = F at *
  generalize manyTo a lens lens.length = M at *
  have H0 := up (n := b.length) (P := fun i => Ev (fun k => w07_RankRanks.l0 k l1 (a.take i ++ b.drop i) (1 + t) (i : Int)) true)
    (by
      have e : a.take b.length ++ b.drop b.length = a := by rw [List.drop_length, List.append_nil, List.take_of_length_le (by omega)]
      rw [e]
      have G : Ev (fun k => (w07_lensOf.f k l1 (a.length : Int)).bind fun t163 => ((Hand.rRanks.f a t163).bind fun bt166 => ((Hand.rFirsts.f a t163).bind fun bt170 => (if bt166.2 = 0 then (if bt170.2.2 = 0 then (if (bt166.1.length : Int) = (a.length : Int) then (if (bt170.2.1.length : Int) = (t163.length : Int) then ((r00_Sum.f k bt170.2.1).bind fun t177 => (if (bt170.1.length : Int) = t177 then ((r00_Ordered.f k bt170.1 (a.length : Int)).bind fun t178 => (w07_RankRanks.j1 k a t163 bt166.1 bt170.1 bt170.2.1 (!t178))) else (w07_RankRanks.j1 k a t163 bt166.1 bt170.1 bt170.2.1 true))) else (w07_RankRanks.j1 k a t163 bt166.1 bt170.1 bt170.2.1 true)) else (w07_RankRanks.j1 k a t163 bt166.1 bt170.1 bt170.2.1 true)) else (w07_RankRanks.j1 k a t163 bt166.1 bt170.1 bt170.2.1 true)) else (w07_RankRanks.j1 k a t163 bt166.1 bt170.1 bt170.2.1 true))))) true := by
        rw [hal]
        refine Ev.bind el ?_
        simp only [rRanks.f, rFirsts.f, g1, g2, Option.bind_some]
        rw [hal] at hRl2
        simp only [if_true, hRl2, hMl2]
        refine Ev.bind eS ?_
        simp only [if_true]
        refine Ev.bind eO ?_
        exact HJ
      refine Ev.step (fun k => ?_) G
      simp only [w07_RankRanks.l0]
      rw [if_neg (by omega)])
    (fun i hi ih => by
      have hl : (a.take i ++ b.drop i).length = b.length := by rw [List.length_append, List.length_take, List.length_drop]; omega
      have hti : (a.take i).length = i := by rw [List.length_take]; omega
      have e1 : rd (a.take i ++ b.drop i) (i : Int) = rd b (i : Int) := by
        have h := rd_app_ge (a.take i) (b.drop i) 0
        rw [hti, Nat.add_zero] at h
        rw [h, drop_rd hi]
        rfl
      have e2 : rd a (i : Int) = Int.tmod (rd b (i : Int)) (1 + t) := by
        subst hg
        rw [rd_get (by rw [hal]; exact hi), rd_get hi, List.getElem_map]
      have e3 : (a.take i ++ b.drop i).set i (Int.tmod (rd b (i : Int)) (1 + t)) = a.take (i + 1) ++ b.drop (i + 1) := by
        rw [List.set_append_right _ _ (by omega), hti, Nat.sub_self, drop_rd hi, List.set_cons_zero, take_rd (by omega), e2, List.append_assoc, List.singleton_append]
      refine Ev.step (fun k => ?_) ih
      simp only [w07_RankRanks.l0]
      rw [if_pos (by omega), if_pos (by omega), if_neg (by omega), e1, Int.toNat_natCast, e3, wsucc hi (by omega)]) 0 (Nat.zero_le _)
  have H : Ev (fun k => w07_RankRanks.f k l0 l1 n0) true := by
    unfold w07_RankRanks.f
    refine Ev.bind eb ?_
    simp only [ht]
    refine Ev.bind (g := fun _ => some t) (Ev.now _) ?_
    rw [hw1]
    exact H0
  exact H.rounds
end Go.Proofs.Ytnkepaenpoadpaa.Pure
