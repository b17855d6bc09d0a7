/- PrimPacks: Pack, Merge and Weave return what the references return, for any three lists, which Weave weaves; it is told of numbers and lists alone. -/
import Derived.Test.YtpimackoadfcmaaDoorPPrimPacksx
namespace Go.Proofs.YtpimackoadfcmaaDoor.Pure
open Go.RowKit Go.Proofs.YtpimackoadfcmaaDoor.PPrimPacks Go.Proofs.YtpimackoadfcmaaDoor.Hand Go.Proofs.YtpimackoadfcmaaDoorW.PrintWords Go.Proofs.YtpimackoadfcmaaDoorW.PrintLast Go.Proofs.YtpimackoadfcmaaDoorW.PrintMore
set_option linter.unusedVariables false
set_option linter.unusedSimpArgs false
/-- Lists so short that a place's successor is no other number. -/
def Sh {α : Type} (l : List α) : Prop := l.length ≤ 4611686018427387904
theorem wsucc {i n : Nat} (h : i < n) (hn : n ≤ 4611686018427387904) : wrap64 ((i : Int) + 1) = ((i + 1 : Nat) : Int) := by unfold wrap64; omega
theorem rd_get {l : List Int} {i : Nat} (h : i < l.length) : rd l (i : Int) = l[i] := by simp [rd, h]
theorem rdL_get {l : List (List Int)} {i : Nat} (h : i < l.length) : rd_L1 l (i : Int) = l[i] := by simp [rd_L1, h]
theorem drop_rd {l : List Int} {i : Nat} (h : i < l.length) : l.drop i = rd l (i : Int) :: l.drop (i + 1) := by rw [List.drop_eq_getElem_cons h, rd_get h]
theorem drop_rdL {l : List (List Int)} {i : Nat} (h : i < l.length) : l.drop i = rd_L1 l (i : Int) :: l.drop (i + 1) := by rw [List.drop_eq_getElem_cons h, rdL_get h]
theorem up {n : Nat} {P : Nat → Prop} (h0 : P n) (hs : ∀ i, i < n → P (i + 1) → P i) (i : Nat) (hi : i ≤ n) : P i := by
  have key : ∀ d, ∀ i, i + d = n → P i := by
    intro d
    induction d with
    | zero => intro i h; have : i = n := by omega
              subst this; exact h0
    | succ d ih => intro i h; exact hs i (by omega) (ih (i + 1) (by omega))
  exact key (n - i) i (by omega)
theorem f_Lies (a b c : Int) : r00_Lies.f a b c = some (decide (b ≤ a) && decide (a ≤ c)) := by unfold r00_Lies.f; split <;> simp [*]
theorem f_IsWord (n : Int) : r00_IsWord.f n = some (isWordB n) := by unfold r00_IsWord.f; rw [f_Lies]; rfl
theorem ev_Words (l : List Int) (hl : Sh l) : Ev (fun k => r00_Words.f k l) (!noWords l) := by
  have H := up (n := l.length) (P := fun i => Ev (fun k => r00_Words.l0 k l (i : Int)) (!noWords (l.drop i)))
    (Ev.step (f := fun _ => some true) (fun k => by simp only [r00_Words.l0]; rw [if_neg (by omega)]) (by rw [List.drop_length]; exact Ev.now _))
    (fun i hi ih => by
      cases hw : isWordB (rd l (i : Int))
      · rw [drop_rd hi]
        refine Ev.step (f := fun _ => some false) (fun k => ?_) (by simp only [noWords, List.any_cons, hw]; exact Ev.now _)
        simp only [r00_Words.l0]; rw [if_pos (by omega), if_pos (by omega), f_IsWord, hw]; rfl
      · rw [drop_rd hi]
        refine Ev.step (f := fun k => r00_Words.l0 k l ((i + 1 : Nat) : Int)) (fun k => ?_) (by simp only [noWords, List.any_cons, hw]; exact ih)
        simp only [r00_Words.l0]; rw [if_pos (by omega), if_pos (by omega), f_IsWord, hw, wsucc hi hl]; rfl) 0 (Nat.zero_le _)
  exact H
theorem ev_Lists (ls : List (List Int)) (hl : Sh ls) (hw : ∀ l ∈ ls, Sh l) : Ev (fun k => r04_Lists.f k ls) (wordsE ls true) := by
  have H1 := up (n := ls.length) (P := fun i => Ev (fun k => r04_Lists.l1 k ls (i : Int)) (if (ls.drop i).any noWords then 2 else 0))
    (Ev.step (f := fun _ => some 0) (fun k => by simp only [r04_Lists.l1]; rw [if_neg (by omega)]) (by rw [List.drop_length]; exact Ev.now _))
    (fun i hi ih => by
      obtain ⟨K1, h1⟩ := ev_Words (rd_L1 ls (i : Int)) (hw _ (by rw [rdL_get hi]; exact List.getElem_mem _))
      rw [drop_rdL hi]
      cases hn : noWords (rd_L1 ls (i : Int)) <;> rw [hn] at h1
      · obtain ⟨K2, h2⟩ := ih
        refine ⟨K1 + K2 + 1, fun k hk => ?_⟩
        obtain ⟨k, rfl⟩ : ∃ m, k = m + 1 := ⟨k - 1, by omega⟩
        have h1 := h1 k (by omega)
        have h2 := h2 k (by omega)
        simp only at h1 h2
        simp only [r04_Lists.l1]; rw [if_pos (by omega), if_pos (by omega), h1, wsucc hi hl]
        simp only [List.any_cons, hn, Bool.false_or]
        exact h2
      · refine ⟨K1 + 1, fun k hk => ?_⟩
        obtain ⟨k, rfl⟩ : ∃ m, k = m + 1 := ⟨k - 1, by omega⟩
        have h1 := h1 k (by omega)
        simp only at h1
        simp only [r04_Lists.l1]; rw [if_pos (by omega), if_pos (by omega), h1]
        simp only [List.any_cons, hn, Bool.true_or]
        rfl) 0 (Nat.zero_le _)
  have H := up (n := ls.length) (P := fun i => Ev (fun k => r04_Lists.l0 k ls (i : Int)) (if (ls.drop i).any (fun l => decide (1048576 < l.length)) then 3 else if ls.any noWords then 2 else 0))
    (Ev.step (f := fun k => r04_Lists.l1 k ls 0) (fun k => by simp only [r04_Lists.l0]; rw [if_neg (by omega)]) (by rw [List.drop_length]; exact H1))
    (fun i hi ih => by
      rw [drop_rdL hi]
      by_cases hn : 1048576 < (rd_L1 ls (i : Int)).length
      · refine Ev.step (f := fun _ => some 3) (fun k => ?_) (by simp only [List.any_cons, hn, decide_true, Bool.true_or]; exact Ev.now _)
        simp only [r04_Lists.l0]; rw [if_pos (by omega), if_pos (by omega), if_pos (by omega)]
      · refine Ev.step (f := fun k => r04_Lists.l0 k ls ((i + 1 : Nat) : Int)) (fun k => ?_) (by simp only [List.any_cons, hn, decide_false, Bool.false_or]; exact ih)
        simp only [r04_Lists.l0]; rw [if_pos (by omega), if_pos (by omega), if_neg (by omega), wsucc hi hl]) 0 (Nat.zero_le _)
  exact H
def sameLen (ls : List (List Int)) : Bool := ls.all (fun l => l.length == (ls.getD 0 []).length)
theorem wordsE_fit (ls : List (List Int)) (b : Bool) (h : wordsE ls true = 0) : wordsE ls b = if b then 0 else 6 := by
  unfold wordsE at h ⊢
  split at h
  · cases h
  · rename_i h1
    split at h
    · cases h
    · rename_i h2
      rw [if_neg h1, if_neg h2]
theorem wordsE_bad (ls : List (List Int)) (b : Bool) (h : wordsE ls true ≠ 0) : wordsE ls b = wordsE ls true := by
  unfold wordsE at h ⊢
  split
  · rfl
  · split
    · rfl
    · rename_i h1 h2
      rw [if_neg h1, if_neg h2] at h
      exact absurd rfl h
theorem ev_alike (ls : List (List Int)) (hl : Sh ls) (hw : ∀ l ∈ ls, Sh l) : Ev (fun k => r04_alike.f k ls) (wordsE ls (sameLen ls)) := by
  obtain ⟨K, hK⟩ := ev_Lists ls hl hw
  by_cases h0 : wordsE ls true = 0
  · have H := up (n := ls.length) (P := fun i => Ev (fun k => r04_alike.l0 k ls (i : Int)) (if (ls.drop i).all (fun l => l.length == (ls.getD 0 []).length) then 0 else 6))
      (Ev.step (f := fun _ => some 0) (fun k => by simp only [r04_alike.l0]; rw [if_neg (by omega)]) (by rw [List.drop_length]; exact Ev.now _))
      (fun i hi ih => by
        rw [drop_rdL hi]
        have e0 : rd_L1 ls 0 = ls.getD 0 [] := rfl
        by_cases hn : (rd_L1 ls (i : Int)).length = (ls.getD 0 []).length
        · refine Ev.step (f := fun k => r04_alike.l0 k ls ((i + 1 : Nat) : Int)) (fun k => ?_) (by simp only [List.all_cons, hn, BEq.rfl, Bool.true_and]; exact ih)
          simp only [r04_alike.l0]; rw [if_pos (by omega), if_pos (by omega), if_pos (by omega), e0, if_pos (by omega), wsucc hi hl]
        · refine Ev.step (f := fun _ => some 6) (fun k => ?_) (by simp only [List.all_cons, beq_eq_false_iff_ne.2 hn, Bool.false_and]; exact Ev.now _)
          simp only [r04_alike.l0]; rw [if_pos (by omega), if_pos (by omega), if_pos (by omega), e0, if_neg (by omega)]) 0 (Nat.zero_le _)
    obtain ⟨K2, h2⟩ := H
    refine ⟨K + K2, fun k hk => ?_⟩
    have h1 := hK k (by omega)
    have h2 := h2 k (by omega)
    simp only [h0] at h1
    simp only [r04_alike.f, h1, Option.bind_some, if_true]
    rw [wordsE_fit _ _ h0]
    exact h2
  · refine ⟨K, fun k hk => ?_⟩
    have h1 := hK k hk
    simp only at h1
    simp only [r04_alike.f, h1, Option.bind_some]
    rw [if_neg h0, wordsE_bad ls (sameLen ls) h0]
theorem Sh.two {α : Type} (a b : α) : Sh [a, b] := by simp [Sh]
theorem Sh.three {α : Type} (a b c : α) : Sh [a, b, c] := by simp [Sh]
theorem Sh.all2 {a b : List Int} (ha : Sh a) (hb : Sh b) : ∀ l ∈ [a, b], Sh l := by intro l hl; simp at hl; rcases hl with rfl | rfl <;> assumption
theorem Sh.all3 {a b c : List Int} (ha : Sh a) (hb : Sh b) (hc : Sh c) : ∀ l ∈ [a, b, c], Sh l := by intro l hl; simp at hl; rcases hl with rfl | rfl | rfl <;> assumption
theorem upTo_nat (val : Int → Int) (i : Nat) : upTo val ((i + 1 : Nat) : Int) = upTo val (i : Int) ++ [val (i : Int)] := by
  have := upTo_succ val (i : Int) (by omega)
  rw [← this]; rfl
/-- What comes behind the check of the lists. -/
theorem ev_after {α : Type} {g : Nat → Option Int} {e : Int} (hg : Ev g e) {F : Nat → Option α} {bad : Int → α} {H : Nat → Option α} (hF : ∀ k, F k = (g k).bind fun t => if t = 0 then H k else some (bad t)) {r : α} (h0 : e = 0 → Ev H r) (h1 : e ≠ 0 → r = bad e) : Ev F r := by
  refine Ev.congr hF ?_
  refine Ev.bind hg ?_
  by_cases h : e = 0
  · simp only [h, if_true]; exact h0 h
  · simp only [h, if_false]; rw [h1 h]; exact Ev.now _
theorem same2 (a b : List Int) : ((a.length : Int) == (b.length : Int)) = sameLen [a, b] := by
  rw [Bool.eq_iff_iff]
  simp [sameLen]
  omega
theorem wrap_in {n : Int} (h0 : -9223372036854775808 ≤ n) (h1 : n ≤ 9223372036854775807) : wrap64 n = n := by unfold wrap64; omega
theorem ev_Pack (f a : List Int) (h1 : Sh f) (h2 : Sh a) : Ev (fun k => r04_Pack.f k f a) (prim_Pack.g f a) := by
  unfold prim_Pack.g
  rw [same2]
  refine ev_after (bad := fun t => ([], t)) (ev_alike [f, a] (Sh.two _ _) (Sh.all2 h1 h2)) (fun k => rfl) (fun h => ?_) (fun h => by rw [if_neg h])
  rw [if_pos h]
  have hok := wordsE_ok h
  have hlen := hok.1 f (by simp)
  have hsame := hok.2.2
  rw [← same2] at hsame
  have hsame : f.length = a.length := by simp at hsame; omega
  have H := up (n := f.length) (P := fun i => Ev (fun k => r04_Pack.l0 k f a (packTo f a (i : Int)) (i : Int)) (packTo f a f.length, 0))
    (Ev.step (f := fun _ => some (packTo f a f.length, 0)) (fun k => by simp only [r04_Pack.l0]; rw [if_neg (by omega)]) (Ev.now _))
    (fun i hi ih => by
      have hp := packTo_length f a i
      refine Ev.step (f := fun k => r04_Pack.l0 k f a (packTo f a ((i + 1 : Nat) : Int)) ((i + 1 : Nat) : Int)) (fun k => ?_) ih
      have c0 : (packTo f a (i : Int)).length < 17592186044416 := by omega
      simp only [r04_Pack.l0]; rw [if_pos (by omega), if_pos (by omega), wsucc hi (by omega)]
      by_cases hz : rd f (i : Int) = 0
      · rw [if_pos hz, packTo_no f a i (by simp [hz])]
      · rw [if_neg hz, if_pos (by omega), if_pos c0, packTo_yes f a i (by simp [hz])]) 0 (Nat.zero_le _)
  exact H
theorem ev_Merge (f a b : List Int) (h1 : Sh f) (h2 : Sh a) (h3 : Sh b) : Ev (fun k => r04_Merge.f k f a b) (prim_Merge.g f a b) := by
  unfold prim_Merge.g
  refine ev_after (bad := fun t => ([], t)) (ev_Lists [f, a, b] (Sh.three _ _ _) (Sh.all3 h1 h2 h3)) (fun k => rfl) (fun h => ?_) (fun h => by rw [wordsE_bad _ _ h, if_neg h])
  rw [wordsE_fit _ _ h]
  have hok := wordsE_ok h
  have hlen := hok.1 f (by simp)
  have hlena := hok.1 a (by simp)
  have hlenb := hok.1 b (by simp)
  have hJ : Ev (fun k => if (a.length : Int) = (cnt f f.length : Int) then r04_Merge.j1 k f a b ((b.length : Int) != wrap64 ((f.length : Int) - (cnt f f.length : Int))) else r04_Merge.j1 k f a b true) (if (if fitM f a b = true then (0 : Int) else 6) = 0 then (upTo (mergeAt f a b) f.length, 0) else ([], if fitM f a b = true then (0 : Int) else 6)) := by
    have hw : wrap64 ((f.length : Int) - (cnt f f.length : Int)) = (f.length : Int) - (cnt f f.length : Int) := by have := cnt_le f f.length; unfold wrap64; omega
    have hcle := cnt_le f f.length
    cases hf : fitM f a b
    · have hbad : Ev (fun k => r04_Merge.j1 k f a b true) ([], (6 : Int)) := Ev.step (f := fun _ => some ([], 6)) (fun k => rfl) (Ev.now _)
      by_cases hc : (a.length : Int) = (cnt f f.length : Int)
      · have hne : ((b.length : Int) != wrap64 ((f.length : Int) - (cnt f f.length : Int))) = true := by
          rw [hw]; simp [fitM] at hf; simp; omega
        simp only [hc, hne, if_true]
        simpa using hbad
      · simp only [hc, if_false]
        simpa using hbad
    · have hf2 := hf
      simp only [fitM, Bool.and_eq_true, decide_eq_true_eq] at hf2
      have hc : (a.length : Int) = (cnt f f.length : Int) := by omega
      have hne : ((b.length : Int) != wrap64 ((f.length : Int) - (cnt f f.length : Int))) = false := by rw [hw]; simp; omega
      simp only [hc, hne, if_true]
      have H := up (n := f.length) (P := fun i => Ev (fun k => r04_Merge.l1 k f a b (upTo (mergeAt f a b) (i : Int)) (cnt f i : Int) ((i - cnt f i : Nat) : Int) (i : Int)) (upTo (mergeAt f a b) f.length, 0))
        (Ev.step (f := fun _ => some (upTo (mergeAt f a b) f.length, 0)) (fun k => by simp only [r04_Merge.l1]; rw [if_neg (by omega)]) (Ev.now _))
        (fun i hi ih => by
          have hul : (upTo (mergeAt f a b) (i : Int)).length = i := by rw [upTo_length]; simp
          have hci := cnt_le f i
          have hm := cnt_mono f (i + 1) (f.length - (i + 1))
          rw [show i + 1 + (f.length - (i + 1)) = f.length by omega] at hm
          have c0 : (upTo (mergeAt f a b) (i : Int)).length < 17592186044416 := by omega
          refine Ev.step (f := fun k => r04_Merge.l1 k f a b (upTo (mergeAt f a b) ((i + 1 : Nat) : Int)) (cnt f (i + 1) : Int) ((i + 1 - cnt f (i + 1) : Nat) : Int) ((i + 1 : Nat) : Int)) (fun k => ?_) ih
          simp only [r04_Merge.l1]; rw [if_pos (by omega), if_pos (by omega), wsucc hi (by omega), upTo_nat]
          by_cases hz : rd f (i : Int) = 0
          · have hb0 : (rd f (i : Int) != 0) = false := by simp [hz]
            have hcn := cnt_no f i hb0
            rw [hcn] at hm ⊢
            have c1 : (0 : Int) ≤ ((i - cnt f i : Nat) : Int) := Int.natCast_nonneg _
            have c2 : ((i - cnt f i : Nat) : Int) < (b.length : Int) := by clear hz; omega
            have c3 : ((i - cnt f i : Nat) : Int) + 1 = ((i + 1 - cnt f i : Nat) : Int) := by clear hz; omega
            have ew : wrap64 (((i - cnt f i : Nat) : Int) + 1) = ((i + 1 - cnt f i : Nat) : Int) := by rw [c3]; exact wrap_in (by omega) (by omega)
            have ev : mergeAt f a b (i : Int) = rd b ((i - cnt f i : Nat) : Int) := by unfold mergeAt; rw [if_neg (by simp [hz]), Int.toNat_natCast]
            rw [if_pos hz, if_pos c1, if_pos c2, if_pos c0, ev, ew]
          · have hb0 : (rd f (i : Int) != 0) = true := by simp [hz]
            have hcn := cnt_yes f i hb0
            rw [hcn] at hm ⊢
            have c1 : (0 : Int) ≤ (cnt f i : Int) := Int.natCast_nonneg _
            have c2 : (cnt f i : Int) < (a.length : Int) := by clear hz; omega
            have e2 : i + 1 - (cnt f i + 1) = i - cnt f i := by clear hz; omega
            have ew : wrap64 ((cnt f i : Int) + 1) = ((cnt f i + 1 : Nat) : Int) := wsucc (n := f.length) (by omega) (by omega)
            have ev : mergeAt f a b (i : Int) = rd a (cnt f i : Int) := by unfold mergeAt; rw [if_pos (by simp [hz]), Int.toNat_natCast]
            rw [if_neg hz, if_pos c1, if_pos c2, if_pos c0, ev, ew, e2]) 0 (Nat.zero_le _)
      have H2 : Ev (fun k => r04_Merge.l1 k f a b [] 0 0 0) (upTo (mergeAt f a b) f.length, 0) := H
      have H3 : Ev (fun k => r04_Merge.j1 k f a b false) (upTo (mergeAt f a b) f.length, 0) := Ev.step (f := fun k => r04_Merge.l1 k f a b [] 0 0 0) (fun k => rfl) H2
      simpa using H3
  have H := up (n := f.length) (P := fun i => Ev (fun k => r04_Merge.l0 k f a b (cnt f i : Int) (i : Int)) (if (if fitM f a b = true then (0 : Int) else 6) = 0 then (upTo (mergeAt f a b) f.length, 0) else ([], if fitM f a b = true then (0 : Int) else 6)))
    (Ev.step (fun k => by simp only [r04_Merge.l0]; rw [if_neg (by omega)]) hJ)
    (fun i hi ih => by
      have hci := cnt_le f i
      refine Ev.step (f := fun k => r04_Merge.l0 k f a b (cnt f (i + 1) : Int) ((i + 1 : Nat) : Int)) (fun k => ?_) ih
      simp only [r04_Merge.l0]; rw [if_pos (by omega), if_pos (by omega), wsucc hi (by omega)]
      by_cases hz : rd f (i : Int) = 0
      · rw [if_pos hz, cnt_no f i (by simp [hz])]
      · have ew : wrap64 ((cnt f i : Int) + 1) = ((cnt f i + 1 : Nat) : Int) := by unfold wrap64; omega
        rw [if_neg hz, cnt_yes f i (by simp [hz]), ew]) 0 (Nat.zero_le _)
  exact H
theorem fitW_same (ls : List (List Int)) : fitW ls = sameLen ls := by
  rw [Bool.eq_iff_iff]
  simp only [fitW, sameLen, longOf, Bool.not_eq_true', List.any_eq_false, List.all_eq_true]
  constructor
  · intro h l hl; have := h l hl; simp at this; simp; omega
  · intro h l hl; have := h l hl; simp at this; simp; omega
theorem weaveTo_nat (ls : List (List Int)) (i : Nat) : weaveTo ls ((i + 1 : Nat) : Int) = weaveTo ls (i : Int) ++ ls.map (fun l => rd l (i : Int)) := by
  have := weaveTo_succ ls (i : Int) (by omega)
  rw [← this]; rfl
theorem ev_Weave (ls : List (List Int)) (hn : ls.length ≤ 1000) (hw : ∀ l ∈ ls, Sh l) : Ev (fun k => r04_Weave.f k ls) (prim_Weave.g ls) := by
  unfold prim_Weave.g
  rw [fitW_same]
  refine ev_after (bad := fun t => ([], t)) (ev_alike ls (by unfold Sh; omega) hw) (fun k => rfl) (fun h => ?_) (fun h => by rw [if_neg h])
  rw [if_pos h]
  have hok := wordsE_ok h
  have hlong := longOf_le hok.1
  by_cases h0 : ls.length = 0
  · have : ls = [] := List.length_eq_zero_iff.1 h0
    subst this
    simp only [List.length_nil]
    simp [longOf, weaveTo]
    exact Ev.now _
  have e0 : rd_L1 ls 0 = ls.getD 0 [] := rfl
  have hmul : ls.length * longOf ls ≤ 1000 * 1048576 := Nat.mul_le_mul hn hlong
  have hw2 : wrap64 ((ls.length : Int) * ((rd_L1 ls 0).length : Int)) = ((ls.length * longOf ls : Nat) : Int) := by
    rw [e0]
    show wrap64 ((ls.length : Int) * (longOf ls : Int)) = _
    rw [← Int.natCast_mul]
    generalize ls.length * longOf ls = m at hmul ⊢
    unfold wrap64; omega
  have hbig : (0 < longOf ls ∧ 1048576 / longOf ls < ls.length) ↔ 1048576 < ls.length * longOf ls := by
    constructor
    · rintro ⟨h1, h2⟩
      exact (Nat.div_lt_iff_lt_mul h1).1 h2
    · intro h1
      have h2 : 0 < longOf ls := by
        rcases Nat.eq_zero_or_pos (longOf ls) with e | e
        · rw [e] at h1; omega
        · exact e
      exact ⟨h2, (Nat.div_lt_iff_lt_mul h2).2 h1⟩
  have c1 : ¬ ((ls.length : Int) = 0) := by omega
  have c2 : (0 : Int) < (ls.length : Int) := by omega
  simp only [c1, c2, hw2, if_true, if_false]
  by_cases hb : 1048576 < ls.length * longOf ls
  · rw [if_pos (hbig.2 hb)]
    have c3 : ((ls.length * longOf ls : Nat) : Int) > 1048576 := by omega
    simp only [c3, if_true]; exact Ev.now _
  · rw [if_neg (fun hh => hb (hbig.1 hh))]
    have c3 : ¬ (((ls.length * longOf ls : Nat) : Int) > 1048576) := by omega
    simp only [c3, if_false]
    have hsame : ∀ j : Nat, j < ls.length → (rd_L1 ls (j : Int)).length = longOf ls := fun j hj => by
      have := hok.2.2
      unfold sameLen at this
      rw [List.all_eq_true] at this
      have := this (rd_L1 ls (j : Int)) (by rw [rdL_get hj]; exact List.getElem_mem _)
      simpa [longOf] using this
    have H := up (n := longOf ls) (P := fun i => Ev (fun k => r04_Weave.l0 k ls (weaveTo ls (i : Int)) (i : Int)) (weaveTo ls (longOf ls), 0))
      (Ev.step (f := fun _ => some (weaveTo ls (longOf ls), 0)) (fun k => by
        simp only [r04_Weave.l0]; rw [if_pos c2, e0, if_neg (by show ¬ ((longOf ls : Int) < (longOf ls : Int)); omega)]) (Ev.now _))
      (fun i hi ih => by
        have hle : i * ls.length + ls.length ≤ 1048576 := by
          have : (i + 1) * ls.length ≤ longOf ls * ls.length := Nat.mul_le_mul_right _ hi
          rw [Nat.mul_comm (longOf ls)] at this
          rw [Nat.add_mul, Nat.one_mul] at this
          omega
        have H2 := up (n := ls.length) (P := fun j => Ev (fun k => r04_Weave.l1 k ls (weaveMid ls (i : Int) (j : Int)) (i : Int) (j : Int)) (weaveTo ls (longOf ls), 0))
          (by
            refine Ev.step (f := fun k => r04_Weave.l0 k ls (weaveTo ls ((i + 1 : Nat) : Int)) ((i + 1 : Nat) : Int)) (fun k => ?_) ih
            have e : weaveMid ls (i : Int) (ls.length : Int) = weaveTo ls ((i + 1 : Nat) : Int) := by rw [weaveTo_nat]; unfold weaveMid; rw [Int.toNat_natCast, List.take_length]
            simp only [r04_Weave.l1]; rw [if_neg (by omega), e, wsucc hi (by omega)])
          (fun j hj ihj => by
            have hml := weaveMid_length ls (i : Int) (j : Int) (by omega) (by omega)
            rw [Int.toNat_natCast, Int.toNat_natCast] at hml
            have c0 : (weaveMid ls (i : Int) (j : Int)).length < 17592186044416 := by omega
            have es : weaveMid ls (i : Int) ((j + 1 : Nat) : Int) = weaveMid ls (i : Int) (j : Int) ++ [rd (rd_L1 ls (j : Int)) (i : Int)] := weaveMid_succ ls (i : Int) (j : Int) (by omega) (by omega)
            have hs := hsame j hj
            refine Ev.step (f := fun k => r04_Weave.l1 k ls (weaveMid ls (i : Int) ((j + 1 : Nat) : Int)) (i : Int) ((j + 1 : Nat) : Int)) (fun k => ?_) ihj
            simp only [r04_Weave.l1]; rw [if_pos (by omega), if_pos (by omega), if_pos (by omega), if_pos (by omega), if_pos c0, es, wsucc hj (by omega)]) 0 (Nat.zero_le _)
        have e2 : weaveMid ls (i : Int) ((0 : Nat) : Int) = weaveTo ls (i : Int) := by simp [weaveMid]
        rw [e2] at H2
        refine Ev.step (f := fun k => r04_Weave.l1 k ls (weaveTo ls (i : Int)) (i : Int) 0) (fun k => ?_) H2
        simp only [r04_Weave.l0]; rw [if_pos c2, e0, if_pos (by show (i : Int) < (longOf ls : Int); omega)]) 0 (Nat.zero_le _)
    have e3 : weaveTo ls ((0 : Nat) : Int) = [] := by simp [weaveTo]
    rw [e3] at H
    exact H
theorem PrimPacks : w04_PrimPacks.Pure := by
  intro f a b _ h1 _ _ h2 _ _ h3 _
  have s1 : Sh f := by unfold Sh; omega
  have s2 : Sh a := by unfold Sh; omega
  have s3 : Sh b := by unfold Sh; omega
  obtain ⟨K0, e0⟩ := ev_Pack f a s1 s2
  obtain ⟨K1, e1⟩ := ev_Merge f a b s1 s2 s3
  obtain ⟨K2, e2⟩ := ev_Weave [f, a, b] (by simp) (Sh.all3 s1 s2 s3)
  refine ⟨K0 + K1 + K2, ?_⟩
  have e0 := e0 (K0 + K1 + K2) (by omega)
  have e1 := e1 (K0 + K1 + K2) (by omega)
  have e2 := e2 (K0 + K1 + K2) (by omega)
  generalize K0 + K1 + K2 = k at e0 e1 e2
  simp only at e0 e1 e2
  unfold w04_PrimPacks.f
  simp [e0, e1, e2, pPack.f, pMerge.f, pWeave.f, Eq_.f, law_done.f]
end Go.Proofs.YtpimackoadfcmaaDoor.Pure
