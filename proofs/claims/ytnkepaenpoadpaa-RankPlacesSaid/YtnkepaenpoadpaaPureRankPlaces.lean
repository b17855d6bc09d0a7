/- RankPlaces: Check, Inverse and Compose of the reference are the program's, for any two lists; it is told of numbers and lists alone. -/
import Derived.Test.YtnkepaenpoadpaaPRankPlacesx
namespace Go.Proofs.Ytnkepaenpoadpaa.Pure
open Go.RowKit Go.Proofs.Ytnkepaenpoadpaa.PRankPlaces Go.Proofs.Ytnkepaenpoadpaa.Hand Go.Proofs.YtnkepaenpoadpaaW.PrintWords Go.Proofs.YtnkepaenpoadpaaW.PrintLast Go.Proofs.YtnkepaenpoadpaaW.PrintMore
set_option linter.unusedVariables false
set_option linter.unusedSimpArgs false
/-- Lists so short that a place's successor is no other number. -/
def Sh {α : Type} (l : List α) : Prop := l.length ≤ 4611686018427387904
theorem wsucc {i n : Nat} (h : i < n) (hn : n ≤ 4611686018427387904) : wrap64 ((i : Int) + 1) = ((i + 1 : Nat) : Int) := by unfold wrap64; omega
theorem up {n : Nat} {P : Nat → Prop} (h0 : P n) (hs : ∀ i, i < n → P (i + 1) → P i) (i : Nat) (hi : i ≤ n) : P i := by
  have key : ∀ d, ∀ i, i + d = n → P i := by
    intro d
    induction d with
    | zero => intro i h; have : i = n := by omega
              subst this; exact h0
    | succ d ih => intro i h; exact hs i (by omega) (ih (i + 1) (by omega))
  exact key (n - i) i (by omega)
theorem f_Lies (a b c : Int) : r00_Lies.f a b c = some (decide (b ≤ a) && decide (a ≤ c)) := by unfold r00_Lies.f; split <;> simp [*]
theorem upTo_nat (val : Int → Int) (i : Nat) : upTo val ((i + 1 : Nat) : Int) = upTo val (i : Int) ++ [val (i : Int)] := by
  have := upTo_succ val (i : Int) (by omega)
  rw [← this]; rfl
/-- The places so far are right: numbers below n, each one once. -/
def okTo (n : Nat) (p : List Int) (i : Nat) : Prop := ∀ j : Nat, j < i → (decide (0 ≤ rd p (j : Int)) && decide (rd p (j : Int) < (n : Int)) && !stands p j (rd p (j : Int))) = true
theorem okPlaces_iff (n : Nat) (p : List Int) : okPlaces n p = true ↔ okTo n p p.length := by
  constructor
  · intro h j hj
    cases hb : (decide (0 ≤ rd p (j : Int)) && decide (rd p (j : Int) < (n : Int)) && !stands p j (rd p (j : Int)))
    · rw [okPlaces_false n p j hj hb] at h; cases h
    · rfl
  · exact okPlaces_true n p
theorem rdB (l : List Bool) (i : Int) : rdOf false l i = l.getD i.toNat false := rfl
theorem seen_get (n : Nat) (A : Nat → Bool) (v : Nat) (hv : v < n) : ((List.range n).map A).getD v false = A v := by
  rw [List.getD_eq_getElem?_getD, List.getElem?_map, List.getElem?_range hv]; rfl
theorem map_set {α : Type} (n : Nat) (A B : Nat → α) (c : Nat) (hB : ∀ v, v < n → v ≠ c → B v = A v) : ((List.range n).map A).set c (B c) = (List.range n).map B := by
  apply List.ext_getElem?
  intro v
  by_cases hv : v < n
  · rw [List.getElem?_set, List.getElem?_map, List.getElem?_map, List.getElem?_range hv]
    by_cases e : c = v
    · subst e; simp [hv]
    · rw [if_neg e]
      simp [hB v hv (fun h => e h.symm)]
  · rw [List.getElem?_eq_none (by simp; omega), List.getElem?_eq_none (by simp; omega)]
theorem ev_Order (p : List Int) (n : Nat) (hp : p.length ≤ 1048576) (hn : n ≤ 1048576) : Ev (fun k => r00_Order.f k p (n : Int)) (decide (p.length = n) && okPlaces n p) := by
  by_cases hl : p.length = n
  · have hw : wrap64 ((n : Int) - 1) = (n : Int) - 1 := by unfold wrap64; omega
    have hL : ∀ x : Int, r00_Lies.f x 0 (wrap64 ((n : Int) - 1)) = some (decide (0 ≤ x) && decide (x < (n : Int))) := by
      intro x
      rw [f_Lies, hw]
      congr 1
      congr 1
      by_cases h : x < (n : Int) <;> simp [h] <;> omega
    have H := up (n := p.length) (P := fun i => okTo n p i → Ev (fun k => r00_Order.l0 k p (n : Int) ((List.range n).map (fun (v : Nat) => stands p i (v : Int))) (i : Int)) (okPlaces n p))
      (fun h => by
        rw [(okPlaces_iff n p).2 h]
        exact Ev.step (f := fun _ => some true) (fun k => by simp only [r00_Order.l0]; rw [if_neg (by omega)]) (Ev.now _))
      (fun i hi ih hok => by
        cases hb : (decide (0 ≤ rd p (i : Int)) && decide (rd p (i : Int) < (n : Int)))
        · rw [okPlaces_false n p i hi (by rw [hb]; rfl)]
          refine Ev.step (f := fun _ => some false) (fun k => ?_) (Ev.now _)
          simp only [r00_Order.l0]; rw [if_pos (by omega), if_pos (by omega), hL, hb]; rfl
        · have hb2 := hb
          simp only [Bool.and_eq_true, decide_eq_true_eq] at hb2
          have hg : rdOf false ((List.range n).map (fun (v : Nat) => stands p i (v : Int))) (rd p (i : Int)) = stands p i (rd p (i : Int)) := by
            rw [rdB, seen_get n (fun (v : Nat) => stands p i (v : Int)) _ (by omega), Int.toNat_of_nonneg hb2.1]
          have hlen : ((List.range n).map (fun (v : Nat) => stands p i (v : Int))).length = n := by simp
          cases hs : stands p i (rd p (i : Int))
          · rw [hs] at hg
            have e : ((List.range n).map (fun (v : Nat) => stands p i (v : Int))).set (rd p (i : Int)).toNat true = (List.range n).map (fun (v : Nat) => stands p (i + 1) (v : Int)) := by
              have e1 : true = (fun v : Nat => stands p (i + 1) (v : Int)) (rd p (i : Int)).toNat := by
                simp only
                rw [Int.toNat_of_nonneg hb2.1, stands_succ]; simp
              rw [e1]
              refine map_set n _ (fun v : Nat => stands p (i + 1) (v : Int)) _ (fun v hv hne => ?_)
              rw [stands_succ]
              have : (rd p (i : Int) == (v : Int)) = false := by simp; omega
              rw [this, Bool.or_false]
            refine Ev.step (f := fun k => r00_Order.l0 k p (n : Int) ((List.range n).map (fun (v : Nat) => stands p (i + 1) (v : Int))) ((i + 1 : Nat) : Int)) (fun k => ?_) (ih (fun j hj => ?_))
            · simp only [r00_Order.l0]; rw [if_pos (by omega), if_pos (by omega), hL, hb]
              simp only [Option.bind_some, if_true]
              rw [if_pos hb2.1, if_pos (by rw [hlen]; exact hb2.2), hg, if_neg (by simp), e, wsucc hi (by omega)]
            · by_cases ej : j = i
              · subst ej; rw [hb, hs]; rfl
              · exact hok j (by omega)
          · rw [hs] at hg
            rw [okPlaces_false n p i hi (by rw [hb, hs]; rfl)]
            refine Ev.step (f := fun _ => some false) (fun k => ?_) (Ev.now _)
            simp only [r00_Order.l0]; rw [if_pos (by omega), if_pos (by omega), hL, hb]
            simp only [Option.bind_some, if_true]
            rw [if_pos hb2.1, if_pos (by rw [hlen]; exact hb2.2), hg]; simp) 0 (Nat.zero_le _) (fun j hj => by omega)
    have e0 : (List.range n).map (fun (v : Nat) => stands p 0 (v : Int)) = List.replicate n false := by
      apply List.ext_getElem?
      intro v
      by_cases hv : v < n
      · rw [List.getElem?_map, List.getElem?_range hv, List.getElem?_replicate, if_pos hv]; simp [stands]
      · rw [List.getElem?_eq_none (by simp; omega), List.getElem?_eq_none (by simp; omega)]
    rw [e0] at H
    simp only [hl, decide_true, Bool.true_and]
    refine Ev.congr (fun k => ?_) H
    unfold r00_Order.f
    rw [if_pos (by omega), if_pos (by omega), if_pos (by omega)]
    simp
  · simp only [hl, decide_false, Bool.false_and]
    refine Ev.congr (f := fun _ => some false) (fun k => ?_) (Ev.now _)
    unfold r00_Order.f
    rw [if_neg (by omega)]
theorem ev_Check (p : List Int) (h : Sh p) : Ev (fun k => r07_Check.f k p) (rank_Check.g p) := by
  unfold rank_Check.g
  by_cases c : 1048576 < p.length
  · rw [if_pos c]
    refine Ev.congr (f := fun _ => some 3) (fun k => ?_) (Ev.now _)
    unfold r07_Check.f
    rw [if_pos (by omega)]
  · rw [if_neg c]
    have H := ev_Order p p.length (by omega) (by omega)
    rw [decide_eq_true rfl, Bool.true_and] at H
    refine Ev.congr (f := fun k => (r00_Order.f k p (p.length : Int)).bind fun t => if t = true then some 0 else some 1) (fun k => ?_) (Ev.bind H ?_)
    · unfold r07_Check.f
      rw [if_neg (by omega)]
    · cases okPlaces p.length p
      · exact Ev.now _
      · exact Ev.now _
theorem ev_back (p : List Int) (hn : p.length ≤ 1048576) (hok : okPlaces p.length p = true) : Ev (fun k => r07_back.f k p) (invG p) := by
  have H := up (n := p.length) (P := fun i => Ev (fun k => r07_back.l0 k p (upTo (whereIs p i) (p.length : Int)) (i : Int)) (invG p))
    (by
      refine Ev.step (f := fun _ => some (invG p)) (fun k => ?_) (Ev.now _)
      simp only [r07_back.l0]
      rw [if_neg (by omega)]
      rfl)
    (fun i hi ih => by
      obtain ⟨h0, h1, _⟩ := okPlaces_pos hok i hi
      obtain ⟨q, hq⟩ : ∃ q : Nat, rd p (i : Int) = q := ⟨(rd p (i : Int)).toNat, by omega⟩
      refine Ev.step (f := fun k => r07_back.l0 k p (upTo (whereIs p (i + 1)) (p.length : Int)) ((i + 1 : Nat) : Int)) (fun k => ?_) ih
      simp only [r07_back.l0]
      rw [if_pos (by omega), if_pos (by omega), if_pos h0, if_pos (by rw [upTo_length]; omega), wsucc hi (by omega), hq, Int.toNat_natCast]
      have e := inv_step hok i hi q hq p.length
      rw [e]) 0 (Nat.zero_le _)
  have e0 : upTo (whereIs p 0) (p.length : Int) = List.replicate p.length 0 := upTo_zero _ _ (fun k _ => whereIs_zero p k)
  rw [e0] at H
  refine Ev.congr (fun k => ?_) H
  unfold r07_back.f
  rw [if_pos (by omega), if_pos (by omega)]
  simp
theorem ev_then (f s : List Int) (hn : f.length ≤ 1048576) (hf : ∀ i : Nat, i < f.length → 0 ≤ rd f (i : Int) ∧ rd f (i : Int) < s.length) : Ev (fun k => r07_then.f k f s) (compG f s) := by
  have H := up (n := f.length) (P := fun i => Ev (fun k => r07_then.l0 k f s (upTo (fun k => rd s (rd f k)) (i : Int)) (i : Int)) (compG f s))
    (by
      refine Ev.step (f := fun _ => some (compG f s)) (fun k => ?_) (Ev.now _)
      simp only [r07_then.l0]
      rw [if_neg (by omega)]
      rfl)
    (fun i hi ih => by
      obtain ⟨h0, h1⟩ := hf i hi
      refine Ev.step (f := fun k => r07_then.l0 k f s (upTo (fun k => rd s (rd f k)) ((i + 1 : Nat) : Int)) ((i + 1 : Nat) : Int)) (fun k => ?_) ih
      simp only [r07_then.l0]
      rw [if_pos (by omega), if_pos (by omega), if_pos h0, if_pos (by omega), if_pos (by rw [upTo_length]; omega), wsucc hi (by omega), upTo_nat]) 0 (Nat.zero_le _)
  have e0 : upTo (fun k => rd s (rd f k)) ((0 : Nat) : Int) = [] := rfl
  rw [e0] at H
  exact Ev.congr (fun k => by unfold r07_then.f; rfl) H
theorem ev_Inverse (p : List Int) (h : Sh p) : Ev (fun k => r07_Inverse.f k p) (rank_Inverse.g p) := by
  unfold rank_Inverse.g
  refine Ev.bind (f := fun k t => if t = 0 then ((r07_back.f k p).bind fun t117 => (some (t117, 0))) else (some (([] : List Int), t))) (ev_Check p h) ?_
  by_cases c : rank_Check.g p = 0
  · obtain ⟨hn, hok⟩ := checkG_ok c
    simp only [if_pos c]
    exact Ev.bind (ev_back p hn hok) (Ev.now _)
  · simp only [if_neg c]
    exact Ev.now _
theorem ev_Compose (p s : List Int) (h : Sh p) (hs : Sh s) : Ev (fun k => r07_Compose.f k p s) (rank_Compose.g p s) := by
  unfold rank_Compose.g
  refine Ev.bind (f := fun k t => if t = 0 then ((r07_Check.f k s).bind fun t129 => (if t129 = 0 then (if (p.length : Int) = (s.length : Int) then ((r07_then.f k p s).bind fun t130 => (some (t130, 0))) else (some (([] : List Int), 6))) else (some (([] : List Int), t129)))) else (some (([] : List Int), t))) (ev_Check p h) ?_
  by_cases c : rank_Check.g p = 0
  · obtain ⟨hn, hok⟩ := checkG_ok c
    simp only [if_pos c]
    refine Ev.bind (f := fun k t => if t = 0 then (if (p.length : Int) = (s.length : Int) then ((r07_then.f k p s).bind fun t130 => (some (t130, 0))) else (some (([] : List Int), 6))) else (some (([] : List Int), t))) (ev_Check s hs) ?_
    by_cases c2 : rank_Check.g s = 0
    · simp only [if_pos c2]
      by_cases c3 : p.length = s.length
      · rw [if_pos c3]
        simp only [c3, if_true]
        refine Ev.bind (ev_then p s hn (fun i hi => ?_)) (Ev.now _)
        obtain ⟨h0, h1, _⟩ := okPlaces_pos hok i hi
        omega
      · rw [if_neg c3]
        have c4 : ¬ (p.length : Int) = (s.length : Int) := by omega
        simp only [if_neg c4]
        exact Ev.now _
    · simp only [if_neg c2]
      exact Ev.now _
  · simp only [if_neg c]
    exact Ev.now _
theorem RankPlaces : w07_RankPlaces.Pure := by
  intro l0 l1 _ h1 _ _ h2 _
  have s0 : Sh l0 := by unfold Sh; omega
  have s1 : Sh l1 := by unfold Sh; omega
  have H : Ev (fun k => w07_RankPlaces.f k l0 l1) true := by
    unfold w07_RankPlaces.f rInverse.f rCompose.f rCheck.f law_ranked.f
    simp only [Option.bind_some]
    refine Ev.bind (ev_Inverse l0 s0) ?_
    refine Ev.bind (ev_Compose l0 l1 s0 s1) ?_
    refine Ev.bind (ev_Check l0 s0) ?_
    simp only [if_true, Eq_.f, BEq.rfl, Option.bind_some]
    exact Ev.now _
  exact H.rounds
end Go.Proofs.Ytnkepaenpoadpaa.Pure
