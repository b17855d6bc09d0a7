/- PrimMerged: what flags pack, and what the opposite flags pack, merged by the flags, is the list, for any words and flags as numbers choose them; it is told of numbers and lists alone. -/
import Derived.Test.YtpimackoadfcmaaDoorPPrimMergedx
namespace Go.Proofs.YtpimackoadfcmaaDoor.Pure
open Go.RowKit Go.Proofs.YtpimackoadfcmaaDoor.PPrimMerged Go.Proofs.YtpimackoadfcmaaDoor.Hand Go.Proofs.YtpimackoadfcmaaDoorW.PrintWords Go.Proofs.YtpimackoadfcmaaDoorW.PrintLast Go.Proofs.YtpimackoadfcmaaDoorW.PrintMore
set_option linter.unusedVariables false
set_option linter.unusedSimpArgs false
/-- Lists so short that a place's successor is no other number. -/
def Sh {α : Type} (l : List α) : Prop := l.length ≤ 4611686018427387904
theorem wsucc {i n : Nat} (h : i < n) (hn : n ≤ 4611686018427387904) : wrap64 ((i : Int) + 1) = ((i + 1 : Nat) : Int) := by unfold wrap64; omega
theorem rdn (l : List Int) (i : Nat) : rd l (i : Int) = l.getD i 0 := by simp [rd]
theorem rd_get {l : List Int} {i : Nat} (h : i < l.length) : rd l (i : Int) = l[i] := by simp [rd, h]
theorem up {n : Nat} {P : Nat → Prop} (h0 : P n) (hs : ∀ i, i < n → P (i + 1) → P i) (i : Nat) (hi : i ≤ n) : P i := by
  have key : ∀ d, ∀ i, i + d = n → P i := by
    intro d
    induction d with
    | zero => intro i h; have : i = n := by omega
              subst this; exact h0
    | succ d ih => intro i h; exact hs i (by omega) (ih (i + 1) (by omega))
  exact key (n - i) i (by omega)
theorem f_Word (n : Int) : r00_Word.f n = some (wrap64 (wrap32 n)) := by
  unfold r00_Word.f
  congr 2
  unfold wrap32 IntKind.wrap
  simp only [IntKind.signed, IntKind.bits]
  simp
theorem take_rd {l : List Int} {i : Nat} (h : i < l.length) : l.take (i + 1) = l.take i ++ [rd l (i : Int)] := by
  rw [rd_get h, List.take_add_one, List.getElem?_eq_getElem h]; rfl
theorem isWordB_iff (n : Int) : isWordB n = true ↔ -2147483648 ≤ n ∧ n ≤ 2147483647 := by simp [isWordB]
theorem f_Turn (n m : Int) (hm : m ≤ 4611686018427387904) : ∃ t, r00_Turn.f n m = some t ∧ 0 ≤ t ∧ (0 < m → t < m) := by
  unfold r00_Turn.f
  by_cases h1 : m < 1
  · exact ⟨0, by rw [if_pos h1], by omega, fun h => by omega⟩
  · rw [if_neg h1, if_neg (by omega)]
    have hlt := Int.tmod_lt_of_pos n (show 0 < m by omega)
    have hgt : -m < n.tmod m := by
      have := Int.lt_tmod_of_pos n (show 0 < m by omega)
      exact this
    by_cases h2 : n.tmod m < 0
    · rw [if_pos h2]
      exact ⟨_, rfl, by unfold wrap64; omega, fun _ => by unfold wrap64; omega⟩
    · rw [if_neg h2]
      exact ⟨_, rfl, by omega, fun _ => hlt⟩
theorem f_Nth (l : List Int) (at_ : Int) (hl : Sh l) : ∃ x, r00_Nth.f l at_ = some x := by
  unfold r00_Nth.f
  by_cases h0 : (l.length : Int) = 0
  · exact ⟨0, by rw [if_pos h0]⟩
  · obtain ⟨t, h1, h2, h3⟩ := f_Turn at_ (l.length : Int) (by unfold Sh at hl; omega)
    exact ⟨rd l t, by rw [if_neg h0, h1]; simp only [Option.bind_some]; rw [if_pos h2, if_pos (h3 (by omega))]⟩
theorem wrap32_word (x : Int) : isWordB (wrap64 (wrap32 x)) = true := by
  rw [isWordB_iff]; unfold wrap64 wrap32; omega
theorem ev_words (l : List Int) (most : Nat) (hm : most ≤ 1000) (hl : Sh l) : ∃ a, Ev (fun k => w04_words.f k l (most : Int)) a ∧ a.length ≤ most ∧ a.length ≤ l.length ∧ (∀ x ∈ a, isWordB x = true) ∧ a.length = min l.length most := by
  let g : Nat → Int := fun i => wrap64 (wrap32 (rd l (i : Int)))
  have H := up (n := min l.length most) (P := fun i => Ev (fun k => r00_Wrap.l0 k l (most : Int) ((List.range i).map g) (i : Int)) ((List.range (min l.length most)).map g))
    (Ev.step (f := fun _ => some ((List.range (min l.length most)).map g)) (fun k => by
      simp only [r00_Wrap.l0]
      by_cases h : ((min l.length most : Nat) : Int) < (l.length : Int)
      · rw [if_pos h, if_neg (by omega)]
      · rw [if_neg h]) (Ev.now _))
    (fun i hi ih => by
      refine Ev.step (f := fun k => r00_Wrap.l0 k l (most : Int) ((List.range (i + 1)).map g) ((i + 1 : Nat) : Int)) (fun k => ?_) ih
      simp only [r00_Wrap.l0]; rw [if_pos (by omega), if_pos (by omega), if_pos (by omega), f_Word]
      simp only [Option.bind_some]
      rw [if_pos (by simp; omega), wsucc hi (by omega), List.range_succ, List.map_append]
      rfl) 0 (Nat.zero_le _)
  refine ⟨(List.range (min l.length most)).map g, ?_, ?_, ?_, ?_, ?_⟩
  · have e : (fun k => w04_words.f k l (most : Int)) = fun k => (r00_Wrap.f k l (most : Int)).bind fun t => some t := rfl
    rw [e]
    exact Ev.bind (f := fun _ t => some t) H (Ev.now _)
  · simp; omega
  · simp; omega
  · intro x hx
    obtain ⟨i, _, rfl⟩ := List.mem_map.1 hx
    exact wrap32_word _
  · simp
/-- A loop that puts something behind the others, whatever it is. -/
theorem ev_some {F : Nat → List Int → Int → Option (List Int)} (n : Nat) (Q : Int → Prop) (hend : ∀ k xs, F (k + 1) xs (n : Int) = some xs)
    (hstep : ∀ i : Nat, i < n → ∃ x, Q x ∧ ∀ k (xs : List Int), xs.length = i → F (k + 1) xs (i : Int) = F k (xs ++ [x]) ((i + 1 : Nat) : Int)) :
    ∃ r, Ev (fun k => F k [] 0) r ∧ r.length = n ∧ ∀ x ∈ r, Q x := by
  have H := up (n := n) (P := fun i => ∀ xs : List Int, xs.length = i → (∀ x ∈ xs, Q x) → ∃ r, Ev (fun k => F k xs (i : Int)) r ∧ r.length = n ∧ ∀ x ∈ r, Q x)
    (fun xs hx hq => ⟨xs, Ev.step (f := fun _ => some xs) (fun k => hend k xs) (Ev.now _), hx, hq⟩)
    (fun i hi ih xs hx hq => by
      obtain ⟨x, h1, h2⟩ := hstep i hi
      obtain ⟨r, h3, h4, h5⟩ := ih (xs ++ [x]) (by simp [hx]) (by intro y hy; rcases List.mem_append.1 hy with h | h; exact hq y h; simp at h; subst h; exact h1)
      exact ⟨r, Ev.step (fun k => h2 k xs hx) h3, h4, h5⟩) 0 (Nat.zero_le _) [] rfl (by simp)
  exact H
theorem ev_flagsOf (l : List Int) (n : Nat) (hn : n ≤ 1000) (hl : Sh l) : ∃ f, Ev (fun k => w04_flagsOf.f k l (n : Int)) f ∧ f.length = n ∧ ∀ x ∈ f, isWordB x = true := by
  refine ev_some (F := fun k xs i => w04_flagsOf.l0 k l (n : Int) xs i) n (fun x => isWordB x = true) (fun k xs => by simp only [w04_flagsOf.l0]; rw [if_neg (by omega)]) (fun i hi => ?_)
  obtain ⟨x, hx⟩ := f_Nth l (i : Int) hl
  obtain ⟨t, h1, h2, h3⟩ := f_Turn x 3 (by omega)
  refine ⟨wrap64 (t - 1), by rw [isWordB_iff]; have := h3 (by omega); unfold wrap64; omega, fun k xs hlen => ?_⟩
  simp only [w04_flagsOf.l0]; rw [if_pos (by omega), hx]
  simp only [Option.bind_some]
  rw [h1]
  simp only [Option.bind_some]
  rw [if_pos (by omega), wsucc hi (by omega)]
def opp (f : List Int) : List Int := f.map fun x => if x = 0 then 1 else 0
theorem opp_length (f : List Int) : (opp f).length = f.length := by simp [opp]
theorem rd_opp (f : List Int) (i : Nat) (hi : i < f.length) : rd (opp f) (i : Int) = if rd f (i : Int) = 0 then 1 else 0 := by
  rw [rd_get (by rw [opp_length]; exact hi), rd_get hi]; simp [opp]
theorem opp_words (f : List Int) : ∀ x ∈ opp f, isWordB x = true := by
  intro x hx
  obtain ⟨y, _, rfl⟩ := List.mem_map.1 hx
  split <;> rfl
theorem ev_opposite (f : List Int) (hn : f.length ≤ 1000) : Ev (fun k => w04_opposite.f k f) (opp f) := by
  have H := up (n := f.length) (P := fun i => Ev (fun k => w04_opposite.l0 k f (opp (f.take i)) (i : Int)) (opp f))
    (Ev.step (f := fun _ => some (opp f)) (fun k => by simp only [w04_opposite.l0]; rw [if_neg (by omega), List.take_length]) (Ev.now _))
    (fun i hi ih => by
      have hlen : (opp (f.take i)).length < 17592186044416 := by rw [opp_length, List.length_take]; omega
      have e : opp (f.take (i + 1)) = opp (f.take i) ++ [if rd f (i : Int) = 0 then 1 else 0] := by rw [take_rd hi]; simp [opp]
      refine Ev.step (f := fun k => w04_opposite.l0 k f (opp (f.take (i + 1))) ((i + 1 : Nat) : Int)) (fun k => ?_) ih
      simp only [w04_opposite.l0]
      rw [if_pos (by omega), if_pos (by omega), e, wsucc hi (by omega)]
      by_cases hz : rd f (i : Int) = 0
      · rw [if_pos hz, if_pos hlen, if_pos hz]
      · rw [if_neg hz, if_pos hlen, if_neg hz]) 0 (Nat.zero_le _)
  exact H
theorem wordsE_zero {ls : List (List Int)} {fit : Bool} (h1 : ∀ l ∈ ls, l.length ≤ 1048576) (h2 : ∀ l ∈ ls, ∀ n ∈ l, isWordB n = true) (h3 : fit = true) : wordsE ls fit = 0 := by
  unfold wordsE
  rw [if_neg, if_neg, if_pos h3]
  · intro h
    obtain ⟨l, hl, h⟩ := List.any_eq_true.1 h
    obtain ⟨n, hn, h⟩ := List.any_eq_true.1 h
    rw [h2 l hl n hn] at h
    cases h
  · intro h
    obtain ⟨l, hl, h⟩ := List.any_eq_true.1 h
    have := h1 l hl
    simp at h
    omega
theorem upTo_rd (a : List Int) (val : Int → Int) (h : ∀ i : Nat, i < a.length → val (i : Int) = rd a (i : Int)) : upTo val a.length = a := by
  apply List.ext_getElem
  · rw [upTo_length]; simp
  · intro i h1 h2
    rw [← rd_get h2, ← h i h2]
    simp [upTo]
theorem rd_app_right (a b : List Int) (i : Nat) : rd (a ++ b) ((a.length + i : Nat) : Int) = rd b (i : Int) := by
  rw [rdn, rdn, List.getD_eq_getElem?_getD, List.getD_eq_getElem?_getD, List.getElem?_append_right (by omega)]
  congr 2; omega
theorem packTo_cnt (f a : List Int) (i : Nat) : (packTo f a (i : Int)).length = cnt f i := by simp [packTo, cnt]
theorem packTo_prefix (f a : List Int) (i d : Nat) : ∃ rest, packTo f a ((i + d : Nat) : Int) = packTo f a (i : Int) ++ rest := by
  induction d with
  | zero => exact ⟨[], by simp⟩
  | succ d ih =>
    obtain ⟨rest, h⟩ := ih
    cases hf : (rd f ((i + d : Nat) : Int) != 0)
    · exact ⟨rest, by rw [← h]; exact packTo_no f a (i + d) hf⟩
    · exact ⟨rest ++ [rd a ((i + d : Nat) : Int)], by rw [← List.append_assoc, ← h]; exact packTo_yes f a (i + d) hf⟩
theorem packTo_at (f a : List Int) (n i : Nat) (hi : i < n) (hf : (rd f (i : Int) != 0) = true) : rd (packTo f a (n : Int)) (cnt f i : Int) = rd a (i : Int) := by
  obtain ⟨rest, h⟩ := packTo_prefix f a (i + 1) (n - (i + 1))
  have e : i + 1 + (n - (i + 1)) = n := by omega
  rw [e, packTo_yes f a i hf] at h
  rw [h, ← packTo_cnt f a i, List.append_assoc]
  have := rd_app_right (packTo f a (i : Int)) ([rd a (i : Int)] ++ rest) 0
  rw [Nat.add_zero] at this
  rw [this]; rfl
theorem packTo_mem (f a : List Int) (n : Nat) (hn : n ≤ a.length) : ∀ x ∈ packTo f a (n : Int), x ∈ a := by
  intro x hx
  unfold packTo at hx
  obtain ⟨i, hi, rfl⟩ := List.mem_map.1 hx
  have := List.mem_range.1 (List.mem_filter.1 hi).1
  exact rd_mem a (i : Int) (by omega) (by omega)
theorem packTo_congr (f f' a : List Int) (n : Nat) (h : ∀ i : Nat, i < n → (rd f (i : Int) != 0) = (rd f' (i : Int) != 0)) : packTo f a (n : Int) = packTo f' a (n : Int) := by
  unfold packTo
  congr 1
  exact List.filter_congr (fun i hi => h i (by have := List.mem_range.1 hi; simpa using this))
theorem opp_ne (f : List Int) (i : Nat) (hi : i < f.length) : (rd (opp f) (i : Int) != 0) = !(rd f (i : Int) != 0) := by
  rw [rd_opp f i hi]
  by_cases h : rd f (i : Int) = 0 <;> simp [h]
theorem cnt_opp (f : List Int) : ∀ i : Nat, i ≤ f.length → cnt (opp f) i = i - cnt f i
  | 0, _ => by simp [cnt]
  | i + 1, hi => by
    have ih := cnt_opp f i (by omega)
    have hle := cnt_le f i
    have ho := opp_ne f i (by omega)
    cases hf : (rd f (i : Int) != 0)
    · rw [hf] at ho; rw [cnt_yes _ i ho, cnt_no f i hf, ih]; omega
    · rw [hf] at ho; rw [cnt_no _ i ho, cnt_yes f i hf, ih]; omega
theorem opp_opp (f : List Int) (i : Nat) (hi : i < f.length) : (rd (opp (opp f)) (i : Int) != 0) = (rd f (i : Int) != 0) := by
  rw [opp_ne _ i (by rw [opp_length]; exact hi), opp_ne f i hi, Bool.not_not]
theorem pack_g (f a : List Int) (hl : f.length = a.length) (hn : a.length ≤ 1048576) (hf : ∀ x ∈ f, isWordB x = true) (ha : ∀ x ∈ a, isWordB x = true) : prim_Pack.g f a = (packTo f a a.length, 0) := by
  unfold prim_Pack.g
  rw [if_pos (wordsE_zero (by intro l h; simp at h; rcases h with rfl | rfl <;> omega) (by intro l h; simp at h; rcases h with rfl | rfl <;> assumption) (by simp [hl])), hl]
theorem merge_pack (f a : List Int) (hl : f.length = a.length) (hn : a.length ≤ 1048576) (hf : ∀ x ∈ f, isWordB x = true) (ha : ∀ x ∈ a, isWordB x = true) :
    prim_Merge.g f (packTo f a a.length) (packTo (opp f) a a.length) = (a, 0) := by
  have h1 := packTo_cnt f a a.length
  have h2 := packTo_cnt (opp f) a a.length
  rw [cnt_opp f a.length (by omega)] at h2
  have h3 := cnt_le f a.length
  unfold prim_Merge.g
  rw [if_pos (wordsE_zero (by intro l h; simp at h; rcases h with rfl | rfl | rfl <;> omega) (by
    intro l h; simp at h
    rcases h with rfl | rfl | rfl
    · exact hf
    · exact fun x hx => ha x (packTo_mem f a a.length (Nat.le_refl _) x hx)
    · exact fun x hx => ha x (packTo_mem (opp f) a a.length (Nat.le_refl _) x hx)) (by simp [fitM, hl, h1, h2])), hl]
  rw [upTo_rd a _ (fun i hi => ?_)]
  unfold mergeAt
  rw [Int.toNat_natCast]
  cases hz : (rd f (i : Int) != 0)
  · rw [if_neg (by simp)]
    have ho : (rd (opp f) (i : Int) != 0) = true := by rw [opp_ne f i (by omega), hz]; rfl
    have := packTo_at (opp f) a a.length i hi ho
    rw [cnt_opp f i (by omega)] at this
    exact this
  · rw [if_pos rfl]
    exact packTo_at f a a.length i hi hz
theorem merge_opp (f a : List Int) (hl : f.length = a.length) (hn : a.length ≤ 1048576) (hf : ∀ x ∈ f, isWordB x = true) (ha : ∀ x ∈ a, isWordB x = true) :
    prim_Merge.g (opp f) (packTo (opp f) a a.length) (packTo f a a.length) = (a, 0) := by
  have h := merge_pack (opp f) a (by rw [opp_length]; exact hl) hn (opp_words f) ha
  rwa [packTo_congr (opp (opp f)) f a a.length (fun i hi => opp_opp f i (by omega))] at h
theorem PrimMerged : w04_PrimMerged.Pure := by
  intro l0 l1 _ h1 _ _ h2 _
  have s0 : Sh l0 := by unfold Sh; omega
  have s1 : Sh l1 := by unfold Sh; omega
  obtain ⟨a, ⟨K0, e0⟩, ha, _, haw, _⟩ := ev_words l0 200 (by omega) s0
  obtain ⟨f, ⟨K1, e1⟩, hf, hfw⟩ := ev_flagsOf l1 a.length (by omega) s1
  obtain ⟨K2, e2⟩ := ev_opposite f (by omega)
  refine ⟨K0 + K1 + K2 + 1, ?_⟩
  have e0 := e0 (K0 + K1 + K2 + 1) (by omega)
  have e1 := e1 (K0 + K1 + K2 + 1) (by omega)
  have e3 := e2 (K0 + K1 + K2) (by omega)
  have e2 := e2 (K0 + K1 + K2 + 1) (by omega)
  generalize K0 + K1 + K2 = k at e0 e1 e2 e3
  simp only at e0 e1 e2 e3
  have e0 : w04_words.f (k + 1) l0 200 = some a := e0
  have p1 := pack_g f a hf (by omega) hfw haw
  have p2 := pack_g (opp f) a (by rw [opp_length]; exact hf) (by omega) (opp_words f) haw
  have m1 := merge_pack f a hf (by omega) hfw haw
  have m2 := merge_opp f a hf (by omega) hfw haw
  have c1 := packTo_cnt f a a.length
  have c2 := packTo_cnt (opp f) a a.length
  rw [cnt_opp f a.length (by omega)] at c2
  have c3 := cnt_le f a.length
  have hsum : wrap64 (((packTo f a a.length).length : Int) + ((packTo (opp f) a a.length).length : Int)) = (a.length : Int) := by unfold wrap64; omega
  unfold w04_PrimMerged.f
  simp [e0, e1, e2, e3, p1, p2, m1, m2, hsum, w04_PrimMerged.j0, pPack.f, pMerge.f, Eq_.f, law_done.f]
end Go.Proofs.YtpimackoadfcmaaDoor.Pure
