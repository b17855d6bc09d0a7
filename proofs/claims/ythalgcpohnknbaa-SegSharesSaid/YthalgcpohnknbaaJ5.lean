/- seg.Touched, Compact. -/
import Derived.Test.YthalgcpohnknbaaJ4
namespace Go.Proofs.Ythalgcpohnknbaa.Hand
open Go.RowKit Go.Proofs.YthalgcpohnknbaaW.PrintWords Go.Proofs.YthalgcpohnknbaaW.PrintLast Go.Proofs.YthalgcpohnknbaaW.PrintMore
set_option linter.unusedVariables false
set_option linter.unusedSimpArgs false
attribute [local go_sem] store_func store_nilFunc Oper.semAt_some
def seg_Touched.g (s l : List Int) (size : Int) : List (Int × Int) × Int := if sharedE s l size = 0 then (touchedG s l, 0) else ([], sharedE s l size)
def RetS (w : World) (R : List (Int × Int) × Int) (e : Ending) (w' : World) : Prop := ∃ v, e = .returned (.tuple #[v, .int .i64 R.2]) ∧ Kd.V kE 52 w' w.heap.size (fun k => w.heap.size ≤ k) v R.1 ∧ Below w.heap.size w w'
set_option maxHeartbeats 4000000 in
set_option maxRecDepth 100000 in
theorem seg_Touched.run (A : Option Addr) (c : Nat) (s : List Int) (A2 : Option Addr) (c2 : Nat) (l : List Int) (size : Int) (w : World) (hr : Kd.C (Kd.int .i64) w A s.length s) (hc : s.length ≤ c) (hr2 : Kd.C (Kd.int .i64) w A2 l.length l) (hc2 : l.length ≤ c2) :
    Calls Try.prog 40 #[.slice A s.length c, .slice A2 l.length c2, .int .i64 size] w (RetS w (seg_Touched.g s l size)) := by
  have HC := Aside0.mk (seg_Shared.run A c s A2 c2 l size w hr hc hr2 hc2)
  unfold seg_Touched.g
  unfold seg_Shared.g at HC
  by_cases h0 : sharedE s l size = 0
  · rw [if_pos h0] at HC ⊢
    obtain ⟨q1, q2, q3, q4, q5, q6⟩ := sharedE_ok h0
    have HT : Aside0 (∀ W, Below w.heap.size w W → Calls Try.prog 66 #[.slice A s.length c, .slice A2 l.length c2] W fun e w' => ∃ v, e = .returned v ∧ Kd.V kE 52 w' W.heap.size (fun k => W.heap.size ≤ k) v (touchedG s l) ∧ Below W.heap.size W w') := ⟨fun W hW => seg_touched.run A c s A2 c2 l W (Kd.C_below hr hW) (Kd.C_below hr2 hW) q1 (by omega) (by omega) (fun i hi => by have := q6 i hi; omega)⟩
    generalize touchedG s l = TG at *
    generalize ttl l = T at *
    clear hr hc hr2 hc2 h0 q2 q5 q6
    go_enter Try.func40, Try.ntmps40
    go_wp2_with fail
    refine (HC.out).mono ?_
    rintro e w1 ⟨rfl, hb1⟩
    replace hb1 := Aside0.mk hb1
    go_wp2_with fail
    refine (HT.out _ hb1.out).mono ?_
    rintro e w2 ⟨v, rfl, hv, hb2⟩
    obtain ⟨A4, c4, rfl⟩ := Kd.V_slice hv
    replace hv := Aside0.mk hv
    replace hb2 := Aside0.mk (hb1.out.trans (hb2.mono hb1.out.size))
    go_wp2
    go_ret2
    exact ⟨_, rfl, Kd.V_mono hv.out (fun k hk => Nat.le_trans hb1.out.size hk), hb2.out⟩
  · rw [if_neg h0] at HC ⊢
    clear hr hc hr2 hc2
    generalize sharedE s l size = E at *
    have z1 : (E != 0) = true := bne_iff_ne.mpr h0
    clear h0
    go_enter Try.func40, Try.ntmps40
    go_wp2_with ((with_reducible refine (HC.out).mono ?_); rintro e w1 ⟨rfl, hb1⟩; replace hb1 := Aside0.mk hb1)
    go_ret2
    exact ⟨_, rfl, Kd.V_nil _ _ _ _ _, hb1.out⟩
/-- The places of the first k spans. -/
def spotsTo (sp : List (Int × Int)) (k : Nat) : List Int := (List.range k).flatMap fun i => upTo (fun j => (sp.getD i (0, 0)).1 + j) (sp.getD i (0, 0)).2
theorem spotsTo_succ (sp : List (Int × Int)) (k : Nat) : spotsTo sp (k + 1) = spotsTo sp k ++ upTo (fun j => (sp.getD k (0, 0)).1 + j) (sp.getD k (0, 0)).2 := by
  unfold spotsTo
  rw [List.range_succ, List.flatMap_append, List.flatMap_singleton]
/-- Places are marked, one behind each. -/
def marks (n : Int) (p : List Int) : List Int := upTo (fun x => if p.any (fun q => q + 1 == x) then 1 else 0) n
/-- How many of the marks stand at or ahead of each place, for the first k. -/
def sumsTo (m : List Int) : Nat → List Int
  | 0 => m
  | k + 1 => (sumsTo m k).set (k + 1) (rd (sumsTo m k) ((k + 1 : Nat) : Int) + rd (sumsTo m k) (k : Int))
def aheadG (s l : List Int) (size : Nat) : List Int := sumsTo (marks ((size : Int) + 1) (spotsTo (touchedG s l) (touchedG s l).length)) size
def seg_Compact.g (s l : List Int) (size : Int) : List Int × List Int × Int := if sharedE s l size = 0 then (upTo (fun i => rd (aheadG s l size.toNat) (rd s i)) s.length, spotsTo (touchedG s l) (touchedG s l).length, 0) else ([], [], sharedE s l size)
theorem mergeTo_in (B : Int) (all : List (Int × Int)) (h : ∀ p ∈ all, 0 ≤ p.1 ∧ 0 ≤ p.2 ∧ p.1 + p.2 ≤ B) : ∀ k : Nat, k ≤ all.length → ∀ p ∈ (mergeTo all k).1, 0 ≤ p.1 ∧ 0 ≤ p.2 ∧ p.1 + p.2 ≤ B
  | 0, _ => by simp [mergeTo]
  | k + 1, hk => by
    have h1 := mergeTo_in B all h k (by omega)
    have hx : 0 ≤ (all.getD k (0, 0)).1 ∧ 0 ≤ (all.getD k (0, 0)).2 ∧ (all.getD k (0, 0)).1 + (all.getD k (0, 0)).2 ≤ B := by
      rw [List.getD_eq_getElem?_getD, List.getElem?_eq_getElem (show k < all.length by omega)]
      exact h _ (List.getElem_mem _)
    unfold mergeTo
    generalize mergeTo all k = st at *
    generalize all.getD k (0, 0) = x at *
    unfold mergeStep
    split
    · exact h1
    · split
      · intro p hp
        rcases List.mem_append.1 hp with hp | hp
        · exact h1 p hp
        · rw [List.mem_singleton.1 hp]; exact hx
      · rename_i hq
        simp only [Bool.or_eq_true, decide_eq_true_eq, not_or] at hq
        have hl := h1 _ (spanLast_mem (show 0 < st.1.length by omega))
        intro p hp
        rcases List.mem_or_eq_of_mem_set hp with hp | hp
        · exact h1 p hp
        · subst hp
          simp only
          omega
theorem touchedG_in (s l : List Int) (B : Int) (h : ∀ i : Nat, i < s.length → 0 ≤ rd s (i : Int) ∧ 0 ≤ rd l (i : Int) ∧ rd s (i : Int) + rd l (i : Int) ≤ B) : (∀ p ∈ touchedG s l, 0 ≤ p.1 ∧ 0 ≤ p.2 ∧ p.1 + p.2 ≤ B) ∧ (touchedG s l).length ≤ s.length := by
  have hS : ∀ p ∈ sortedSpans s l, 0 ≤ p.1 ∧ 0 ≤ p.2 ∧ p.1 + p.2 ≤ B := fun p hp => by
    have hp2 := (List.mergeSort_perm (spansTo s l s.length) leE).mem_iff.1 hp
    unfold spansTo at hp2
    obtain ⟨i, hi, rfl⟩ := List.mem_map.1 hp2
    exact h i (List.mem_range.1 hi)
  have hl := sortedSpans_length s l
  refine ⟨mergeTo_in B _ hS _ (by omega), ?_⟩
  have hlen : ∀ k : Nat, (mergeTo (sortedSpans s l) k).1.length ≤ k := by
    intro k
    induction k with
    | zero => simp [mergeTo]
    | succ k ih =>
      unfold mergeTo mergeStep
      split
      · omega
      · split
        · simp; omega
        · simp; omega
  exact hlen _
theorem spotsTo_length (sp : List (Int × Int)) (h : ∀ p ∈ sp, 0 ≤ p.1 ∧ 0 ≤ p.2 ∧ p.1 + p.2 ≤ 1048576) : ∀ k : Nat, k ≤ sp.length → (spotsTo sp k).length ≤ k * 1048576
  | 0, _ => by simp [spotsTo]
  | k + 1, hk => by
    have h1 := spotsTo_length sp h k (by omega)
    have h2 : (sp.getD k (0, 0)) ∈ sp := by
      rw [List.getD_eq_getElem?_getD, List.getElem?_eq_getElem (show k < sp.length by omega)]
      exact List.getElem_mem _
    have h3 := h _ h2
    rw [spotsTo_succ, List.length_append, upTo_length]
    omega
theorem marks_set (n : Nat) (p : List Int) (y : Nat) (hy : y + 1 < n) : (marks (n : Int) p).set (y + 1) 1 = marks (n : Int) (p ++ [(y : Int)]) := by
  unfold marks
  refine upTo_set _ _ n (y + 1) 1 (by simp) fun k hk hne => ?_
  rw [List.any_append]
  have : ((y : Int) + 1 == (k : Int)) = false := by simp; omega
  simp [this]
theorem marks_nil (n : Nat) : marks (n : Int) [] = List.replicate n 0 := by
  unfold marks
  exact upTo_zero n _ (fun k _ => by simp)
theorem rd_set (l : List Int) (i j : Nat) (v : Int) : rd (l.set i v) (j : Int) = if i = j ∧ i < l.length then v else rd l (j : Int) := by
  unfold rd
  rw [Int.toNat_natCast, List.getD_eq_getElem?_getD, List.getD_eq_getElem?_getD, List.getElem?_set]
  by_cases h : i = j
  · subst h
    by_cases h2 : i < l.length
    · simp [h2]
    · simp [h2]
  · simp [h]
theorem marks_le (n : Int) (p : List Int) (j : Nat) : 0 ≤ rd (marks n p) (j : Int) ∧ rd (marks n p) (j : Int) ≤ 1 := by
  by_cases h : (j : Int) < n
  · unfold marks
    rw [show n = ((n.toNat : Nat) : Int) by omega, upTo_rd _ n.toNat j (by omega)]
    split <;> omega
  · have : rd (marks n p) (j : Int) = 0 := by
      unfold rd marks
      rw [List.getD_eq_getElem?_getD, List.getElem?_eq_none (by rw [upTo_length]; omega)]
      rfl
    omega
theorem sums_le (n : Int) (p : List Int) : ∀ k j : Nat, 0 ≤ rd (sumsTo (marks n p) k) (j : Int) ∧ rd (sumsTo (marks n p) k) (j : Int) ≤ (k : Int) + 1 ∧ (k < j → rd (sumsTo (marks n p) k) (j : Int) ≤ 1)
  | 0, j => by have := marks_le n p j; exact ⟨this.1, by show rd (marks n p) (j : Int) ≤ _; omega, fun _ => this.2⟩
  | k + 1, j => by
    have h1 := sums_le n p k j
    have h2 := sums_le n p k (k + 1)
    have h3 := sums_le n p k k
    unfold sumsTo
    rw [rd_set]
    split <;> omega
theorem sumsTo_length (m : List Int) : ∀ k, (sumsTo m k).length = m.length
  | 0 => rfl
  | k + 1 => by unfold sumsTo; rw [List.length_set, sumsTo_length m k]
end Go.Proofs.Ythalgcpohnknbaa.Hand
/- seg.Compact: segments of a pool that has only what they touch. -/
namespace Go.Proofs.Ythalgcpohnknbaa.Hand
open Go.RowKit Go.Proofs.YthalgcpohnknbaaW.PrintWords Go.Proofs.YthalgcpohnknbaaW.PrintLast Go.Proofs.YthalgcpohnknbaaW.PrintMore
open Go.Sort
set_option linter.unusedVariables false
set_option linter.unusedSimpArgs false
attribute [local go_sem] store_func store_nilFunc Oper.semAt_some
set_option maxHeartbeats 4000000 in
set_option maxRecDepth 100000 in
theorem seg_Compact_yes (A : Option Addr) (c : Nat) (s : List Int) (A2 : Option Addr) (c2 : Nat) (l : List Int) (size : Nat) (w : World) (hr : Kd.C (Kd.int .i64) w A s.length s) (hc : s.length ≤ c) (hr2 : Kd.C (Kd.int .i64) w A2 l.length l) (hc2 : l.length ≤ c2) (h0 : sharedE s l (size : Int) = 0) :
    Calls Try.prog 45 #[.slice A s.length c, .slice A2 l.length c2, .int .i64 (size : Int)] w (Ret3 w (upTo (fun i => rd (aheadG s l size) (rd s i)) s.length, spotsTo (touchedG s l) (touchedG s l).length, 0)) := by
  have HC := Aside0.mk (seg_Shared.run A c s A2 c2 l (size : Int) w hr hc hr2 hc2)
  unfold seg_Shared.g at HC
  rw [if_pos h0] at HC
  obtain ⟨q1, q2, q3, q4, q5, q6⟩ := sharedE_ok h0
  have HT : Aside0 (∀ W, Below w.heap.size w W → Calls Try.prog 66 #[.slice A s.length c, .slice A2 l.length c2] W fun e w' => ∃ v, e = .returned v ∧ Kd.V kE 52 w' W.heap.size (fun k => W.heap.size ≤ k) v (touchedG s l) ∧ Below W.heap.size W w') := ⟨fun W hW => seg_touched.run A c s A2 c2 l W (Kd.C_below hr hW) (Kd.C_below hr2 hW) q1 (by omega) (by omega) (fun i hi => by have := q6 i hi; omega)⟩
  obtain ⟨hTin, hTl⟩ := touchedG_in s l size q6
  have hah : aheadG s l size = sumsTo (marks ((size : Int) + 1) (spotsTo (touchedG s l) (touchedG s l).length)) size := rfl
  have HQ : Aside0 (∀ i : Nat, i < s.length → 0 ≤ rd s (i : Int) ∧ rd s (i : Int) ≤ size) := ⟨fun i hi => by have := q6 i hi; omega⟩
  obtain ⟨ah, hae⟩ : ∃ ah, aheadG s l size = ah := ⟨_, rfl⟩
  rw [hae] at hah ⊢
  generalize touchedG s l = TG at *
  generalize ttl l = T at *
  have hSl := Aside0.mk (spotsTo_length TG (fun p hp => by have := hTin p hp; omega))
  replace hTin := Aside0.mk hTin
  have HR := Aside0.mk hr
  clear hr hc hr2 hc2 h0 q2 q5 q6 hae
  obtain ⟨tn, htn⟩ : ∃ tn, TG.length = tn := ⟨_, rfl⟩
  rw [htn] at hah hTl hSl ⊢
  obtain ⟨sp, hsp⟩ : ∃ sp, sp = spotsTo TG := ⟨_, rfl⟩
  have hsp0 : sp 0 = [] := by rw [hsp]; rfl
  have hspS : Aside0 (∀ k, sp (k + 1) = sp k ++ upTo (fun j => (TG.getD k (0, 0)).1 + j) (TG.getD k (0, 0)).2) := ⟨fun k => by rw [hsp]; exact spotsTo_succ TG k⟩
  rw [← hsp] at hah hSl ⊢
  replace hah := Aside0.mk hah
  replace htn := Aside0.mk htn
  clear hsp
  refine calls_of_marks Try.func45 rfl ?_
  simp only [Try.ntmps45, List.size_toArray, List.length_cons, List.length_nil, Nat.reduceAdd, Nat.reduceSub, Array.replicate_succ, Array.replicate_zero, List.push_toArray, List.append_toArray, List.nil_append, List.cons_append]
  go_wp2_with fail
  refine (HC.out).mono ?_
  rintro e w1 ⟨rfl, hb1⟩
  replace hb1 := Aside0.mk hb1
  go_wp2_with (first | (go_at_call 66; fail) | ((with_reducible refine gate_ (.makeSlice 22 (.tmp 29) (.tmp 29)) rfl ?_); refine Kd.R_make (Kd.int .i64) (w0 := w) w.heap.size 3 rfl rfl 22 (.tmp 29) (.tmp 29) rfl ((size : Int) + 1) rfl rfl Try.underlying22 (.int .i64 0) 8 infoInt rfl (by decide) (by decide) 0 (ok := fun b => w.heap.size ≤ b) (okp := fun _ => False) rfl (fun _ h => h.elim) hb1.out.size (by omega) (by omega) hb1.out hb1.out.size ?_; intro v6 w6 hR6 hb6 hg6 hat6; replace hR6 := Aside0.mk hR6; replace hb6 := Aside0.mk hb6; clear hg6 hat6; obtain ⟨A6, c6, hv6⟩ : ∃ A6 c6, v6 = .slice A6 (size + 1) c6 := (by obtain ⟨A, c, h⟩ := Kd.R_slice hR6.out; exact ⟨A, c, by rw [List.length_replicate, show ((size : Int) + 1).toNat = size + 1 by omega] at h; exact h⟩); subst hv6))
  refine (HT.out _ hb6.out).mono ?_
  rintro e w3 ⟨v, rfl, hv, hb3⟩
  obtain ⟨A9, c9, rfl⟩ := Kd.V_slice hv
  obtain ⟨gA, hgA, hgA2⟩ := R_addr hR6.out (by omega)
  subst hgA
  have hgl := Kd.R_lt hR6.out gA rfl
  have hRA : Aside0 ((Kd.int .i64).R 3 w3 w.heap.size (fun b => b = gA) (.slice (some ⟨gA, 0, none⟩) (size + 1) c6) (marks ((size : Int) + 1) (sp 0))) := ⟨by
    have h := Kd.R_below hR6.out hb3
    have e : List.replicate ((size : Int) + 1).toNat (0 : Int) = marks ((size : Int) + 1) [] := by rw [show ((size : Int) + 1) = ((size + 1 : Nat) : Int) by omega, marks_nil, Int.toNat_natCast]
    rw [hsp0, ← e]
    exact ⟨fun k hk => by simp [Value.ownBlock] at hk; exact hk.symm, h.2.imp_ (fun _ _ hp => hp)⟩⟩
  have hN : w6.heap.size ≤ w3.heap.size := hb3.size
  obtain ⟨N3, hN3⟩ : ∃ N3, w3.heap.size = N3 := ⟨_, rfl⟩
  have hbw := Aside0.mk (hb6.out.trans (hb3.mono hb6.out.size))
  rw [htn.out] at hv ⊢
  have HCs : Aside0 (∀ W, Kp (fun k => k = gA ∨ N3 ≤ k) w3 W → kE.C W A9 tn TG) := ⟨fun W hW => by
    obtain ⟨A', c', he, hle, hF⟩ := hv
    injection he with e1 e2 e3
    subst e1
    have h := hF W (fun k ho hlt => hW.block k hlt (by rw [hN3] at hlt; omega))
    rw [htn.out] at h
    exact h⟩
  replace hN3 := Aside0.mk hN3
  have hg3 : gA < N3 := by rw [← hN3.out]; omega
  have hN4 : w.heap.size ≤ N3 := by omega
  clear hv hb3 hR6 hb6 HT HC hN hgl hb1
  go_wp2
  go_loopw [7, 35] (fun v i W => ∃ k : Nat, i = .int .i64 (k : Int) ∧ k ≤ tn ∧ Aside0 (Kp (fun k => k = gA ∨ N3 ≤ k) w3 W) ∧ Aside0 ((Kd.int .i64).R 3 W N3 (fun b => N3 ≤ b) v (sp k)) ∧ Aside0 ((Kd.int .i64).R 3 W w.heap.size (fun b => b = gA) (.slice (some ⟨gA, 0, none⟩) (size + 1) c6) (marks ((size : Int) + 1) (sp k)))) (fun _ i _ => tn - (intOf i).toNat)
  case atStart => exact ⟨0, rfl, by omega, ⟨Kp.refl _ _⟩, ⟨by rw [hsp0]; exact Kd.R_nil _ _ _ _ _⟩, hRA⟩
  case round =>
    clear hRA
    revert wr
    intro wo hrel
    obtain ⟨k, rfl, p0, hK, hR, hRA⟩ := hrel
    have hNo : N3 ≤ wo.heap.size := by have := hK.out.size; rw [hN3.out] at this; exact this
    by_cases hlt : k < tn
    · obtain ⟨ad, e1, hx0, hx1⟩ := elem_at (HCs.out _ hK.out) k hlt
      cases e1
      have hxk := hTin.out (TG.getD k (0, 0)) (by
        rw [List.getD_eq_getElem?_getD, List.getElem?_eq_getElem (show k < TG.length by rw [htn.out]; exact hlt)]
        exact List.getElem_mem _)
      have hss := hspS.out k
      have hsl1 := hSl.out (k + 1) (by omega)
      rw [hss, List.length_append, upTo_length] at hsl1
      have hx1b : wo.cell? ⟨(ad.add (k * 2)).block, (ad.add (k * 2)).off + 1, none⟩ = some (.int .i64 (TG.getD k (0, 0)).2) := by
        rw [show ad.add (k * 2 + 1) = ⟨(ad.add (k * 2)).block, (ad.add (k * 2)).off + 1, none⟩ from add_field ad (k * 2) 1 (by decide)] at hx1
        exact hx1
      generalize TG.getD k (0, 0) = x at *
      obtain ⟨a, b⟩ := x
      simp only at hx0 hx1 hx1b hxk hss hsl1
      obtain ⟨x1, x2, x3⟩ := hxk
      obtain ⟨m, hm⟩ : ∃ m : Nat, b = m := ⟨b.toNat, by omega⟩
      obtain ⟨y, hy⟩ : ∃ y : Nat, a = y := ⟨a.toNat, by omega⟩
      subst hm
      subst hy
      rw [Int.toNat_natCast] at hsl1
      have hkt : k * 1048576 ≤ 1099511627776 := by omega
      have hlb : Aside0 ((sp k).length + m ≤ 1099512676352) := ⟨by omega⟩
      generalize sp k = xs at *
      replace hss := Aside0.mk hss
      generalize hnb : wo.heap.size = nb at *
      have hTb : Aside0 ((wo.alloc (Obj.cells #[.int .i64 (y : Int), .int .i64 (m : Int)] 52)).heap[nb]? = some (.cells #[.int .i64 (y : Int), .int .i64 (m : Int)] 52 (0, 0))) := ⟨blk_new_at hnb _⟩
      have cT1 : (wo.alloc (Obj.cells #[.int .i64 (y : Int), .int .i64 (m : Int)] 52)).cell? ⟨nb, 1, none⟩ = some (.int .i64 (m : Int)) := blk_cell hTb.out 1
      have hne0 : Aside0 (some nb ≠ u7.ownBlock) := ⟨fun e => by have := Kd.R_lt hR.out nb e.symm; omega⟩
      have hK0 := Aside0.mk (hK.out.alloc (Obj.cells #[.int .i64 (y : Int), .int .i64 (m : Int)] 52))
      have hR0 : Aside0 ((Kd.int .i64).R 3 (wo.alloc (Obj.cells #[.int .i64 (y : Int), .int .i64 (m : Int)] 52)) N3 (fun b => N3 ≤ b) u7 (xs ++ upTo (fun j => (y : Int) + j) ((0 : Nat) : Int))) := ⟨by have h := Kd.R_alloc hR.out (Obj.cells #[.int .i64 (y : Int), .int .i64 (m : Int)] 52); simpa [upTo] using h⟩
      have hRA0 : Aside0 ((Kd.int .i64).R 3 (wo.alloc (Obj.cells #[.int .i64 (y : Int), .int .i64 (m : Int)] 52)) w.heap.size (fun b => b = gA) (.slice (some ⟨gA, 0, none⟩) (size + 1) c6) (marks ((size : Int) + 1) (xs ++ upTo (fun j => (y : Int) + j) ((0 : Nat) : Int)))) := ⟨by have h := Kd.R_alloc hRA.out (Obj.cells #[.int .i64 (y : Int), .int .i64 (m : Int)] 52); simpa [upTo] using h⟩
      clear hsl1 hR hRA hK hx1
      go_wp2
      go_loopw [7, 41] (fun v i W => ∃ j : Nat, i = .int .i64 (j : Int) ∧ j ≤ m ∧ Aside0 (W.heap[nb]? = some (.cells #[.int .i64 (y : Int), .int .i64 (m : Int)] 52 (0, 0))) ∧ Aside0 (some nb ≠ v.ownBlock) ∧ Aside0 (Kp (fun k => k = gA ∨ N3 ≤ k) w3 W) ∧ Aside0 ((Kd.int .i64).R 3 W N3 (fun b => N3 ≤ b) v (xs ++ upTo (fun j => (y : Int) + j) (j : Int))) ∧ Aside0 ((Kd.int .i64).R 3 W w.heap.size (fun b => b = gA) (.slice (some ⟨gA, 0, none⟩) (size + 1) c6) (marks ((size : Int) + 1) (xs ++ upTo (fun j => (y : Int) + j) (j : Int))))) (fun _ i _ => m - (intOf i).toNat)
      case atStart => exact ⟨0, rfl, by omega, hTb, hne0, hK0, hR0, hRA0⟩
      case round =>
        clear hTb hne0 hK0 hR0 hRA0 cT1 hx0 hx1b
        obtain ⟨j, rfl, j0, hT, hne, hK, hR, hRA⟩ := hrel
        by_cases hj : j < m
        · have hsk : Aside0 (upTo (fun j => (y : Int) + j) ((j + 1 : Nat) : Int) = upTo (fun j => (y : Int) + j) (j : Int) ++ [(y : Int) + (j : Int)]) := ⟨by rw [show ((j + 1 : Nat) : Int) = (j : Int) + 1 by omega]; exact upTo_succ _ _ (by omega)⟩
          have HLs : Aside0 (((xs ++ upTo (fun j => (y : Int) + j) (j : Int)).length + 1) * 8 ≤ 140737488355328) := ⟨by have := hlb.out; rw [List.length_append, upTo_length]; omega⟩
          obtain ⟨ys, hys⟩ : ∃ ys, ys = xs ++ upTo (fun j => (y : Int) + j) (j : Int) := ⟨_, rfl⟩
          rw [← hys] at hR hRA HLs
          replace hys := Aside0.mk hys
          have hms := marks_set (size + 1) ys (y + j) (by omega)
          rw [show ((size + 1 : Nat) : Int) = (size : Int) + 1 by omega, show ((y + j : Nat) : Int) = (y : Int) + (j : Int) by omega] at hms
          obtain ⟨hc4, hf4, hR5, g6, hg6, hg7, hg8⟩ := R_store hRA.out (y + j + 1) (by omega) 1
          rw [addr0_add] at hc4 hf4 hR5
          rw [hms] at hR5
          obtain ⟨wz, hwz⟩ : ∃ wz, wr.setCell ⟨gA, y + j + 1, none⟩ (.int .i64 1) = wz := ⟨_, rfl⟩
          have KZ : Kp (fun k => k = gA) wr wz := by rw [← hwz]; exact Kp.setCell (S := fun k => k = gA) (Kp.refl _ _) ⟨gA, y + j + 1, none⟩ (.inl rfl) _
          rw [hwz] at hR5
          have RZ := Aside0.mk (KZ.R hR.out (fun k hk e => by omega))
          have TZ := Aside0.mk (KZ.blk hT.out (by omega))
          have KK := Aside0.mk (hK.out.trans KZ (fun k hk => .inl (.inl hk)))
          have cT0 : wr.cell? ⟨nb, 0, none⟩ = some (.int .i64 (y : Int)) := blk_cell hT.out 0
          have cZ0 : wz.cell? ⟨nb, 0, none⟩ = some (.int .i64 (y : Int)) := blk_cell TZ.out 0
          have hzs : N3 ≤ wz.heap.size := by have := KK.out.size; rw [hN3.out] at this; exact this
          have hbz : Aside0 (Below N3 wz wz) := ⟨Below.refl _ _⟩
          replace hR5 := Aside0.mk hR5
          subst hwz
          have HZs : Aside0 ((wr.setCell ⟨gA, y + j + 1, none⟩ (.int .i64 1)).heap.size = wr.heap.size) := ⟨by simp [World.setCell]⟩
          clear hR hRA hT hK KZ hg6 hg7 hg8 hms
          go_wp2_with ((with_reducible refine gate_builtin (b := .append) (xs := #[.tmp 51, .tmp 56]) rfl ?_); at_builtin; refine Kd.R_append (Kd.int .i64) (w0 := (wr.setCell ⟨gA, y + j + 1, none⟩ (.int .i64 1))) N3 rfl (.tmp 51) (.tmp 56) 22 3 (.int .i64 0) 8 rfl Try.underlying22 infoInt rfl (by decide) (by omega) u7 ys ((y : Int) + (j : Int)) [.int .i64 ((y : Int) + (j : Int))] (fun k_ => (N3 ≤ k_)) (fun _ => False) rfl (by rw [HZs.out]; rfl) rfl (fun _ hk => hk.elim) (fun k_ hk => Nat.le_trans hzs hk) RZ.out hbz.out hzs HLs.out ?_; intro v6 w6 ho hb6 hg hat; have T6 := Aside0.mk (blk_grown TZ.out hg hne.out); have K6 := Aside0.mk (KK.out.grown hg (fun k e => .inl (.inr (RZ.out.1 k e)))); have A6r := Aside0.mk (((Kp.refl (fun k => N3 ≤ k) _).grown hg (fun k e => .inl (RZ.out.1 k e))).R hR5.out (fun k hk h => by omega)); have ne6 : Aside0 (some nb ≠ v6.ownBlock) := ⟨fun e => hat.elim (fun h => hne.out (e.trans h)) (fun ⟨b0, h, hb0⟩ => by have h2 := e.trans h; injection h2 with h2; have := blk_lt TZ.out; omega)⟩; replace ho := Aside0.mk ho; clear hg hat hb6)
          go_roundw
          case rel => exact ⟨j + 1, by simp, by omega, T6, ne6, K6, ⟨by rw [hsk.out, ← List.append_assoc, ← hys.out]; exact ho.out⟩, ⟨by rw [hsk.out, ← List.append_assoc, ← hys.out]; exact A6r.out⟩⟩
          case measure => simp [intOf]; omega
        · obtain rfl : j = m := by omega
          clear hj
          go_wp2
          go_roundw
          case rel => exact ⟨k + 1, by simp, by omega, hK, ⟨by rw [hss.out]; exact hR.out⟩, ⟨by rw [hss.out]; exact hRA.out⟩⟩
          case measure => simp [intOf]; omega
    · obtain rfl : k = tn := by omega
      have hAl := Aside0.mk (sumsTo_length (marks ((size : Int) + 1) (sp k)))
      have hml : (marks ((size : Int) + 1) (sp k)).length = size + 1 := by unfold marks; rw [upTo_length]; omega
      have hM0 : Aside0 (sumsTo (marks ((size : Int) + 1) (sp k)) 0 = marks ((size : Int) + 1) (sp k)) := ⟨rfl⟩
      have hMS : Aside0 (∀ n, sumsTo (marks ((size : Int) + 1) (sp k)) (n + 1) = (sumsTo (marks ((size : Int) + 1) (sp k)) n).set (n + 1) (rd (sumsTo (marks ((size : Int) + 1) (sp k)) n) ((n + 1 : Nat) : Int) + rd (sumsTo (marks ((size : Int) + 1) (sp k)) n) (n : Int))) := ⟨fun _ => rfl⟩
      have hbd := Aside0.mk (sums_le ((size : Int) + 1) (sp k))
      generalize hmm0 : marks ((size : Int) + 1) (sp k) = M at *
      generalize hsm : sumsTo M = SM at *
      replace hsm := Aside0.mk hsm
      obtain ⟨A7, c7, rfl⟩ := Kd.R_slice hR.out
      replace hmm0 := Aside0.mk hmm0
      rw [hml] at hAl
      have hRA1 : Aside0 ((Kd.int .i64).R 3 wo w.heap.size (fun b => b = gA) (.slice (some ⟨gA, 0, none⟩) (size + 1) c6) (SM 0)) := ⟨by rw [hM0.out]; exact hRA.out⟩
      have hV7 := Aside0.mk (V_cut (base2 := w.heap.size) hR.out)
      have hc7 := (Kd.R_reads' hR.out).2.1
      have hc7b := R_cap hR.out
      have hbo := Aside0.mk (hbw.out.trans (hK.out.below (fun k hk => ⟨by have := hbw.out.size; omega, by omega⟩)))
      clear hR hRA hml HCs hSl
      generalize hxs : sp k = xs at *
      replace hxs := Aside0.mk hxs
      obtain ⟨n7, hn7⟩ : ∃ n7, xs.length = n7 := ⟨_, rfl⟩
      rw [hn7] at hV7 hc7 ⊢
      replace hn7 := Aside0.mk hn7
      go_wp2
      go_loopw [61] (fun i W => ∃ n : Nat, i = .int .i64 (n : Int) ∧ n ≤ size ∧ Aside0 (Kp (fun b => b = gA) wo W) ∧ Aside0 ((Kd.int .i64).R 3 W w.heap.size (fun b => b = gA) (.slice (some ⟨gA, 0, none⟩) (size + 1) c6) (SM n))) (fun i _ => size - (intOf i).toNat)
      case atStart => exact ⟨0, rfl, by omega, ⟨Kp.refl _ _⟩, hRA1⟩
      case round =>
        clear hRA1
        revert wr
        intro wp hrel
        obtain ⟨n, rfl, n0, hKp, hRA⟩ := hrel
        by_cases hn : n < size
        · obtain ⟨hc4, hf4, hR5, _, _, _, _⟩ := R_store hRA.out (n + 1) (by omega) (rd (SM n) ((n + 1 : Nat) : Int) + rd (SM n) (n : Int))
          obtain ⟨hc3, _, _, _, _, _, _⟩ := R_store hRA.out n (by omega) 0
          rw [addr0_add] at hc3 hc4 hf4 hR5
          rw [← hMS.out n] at hR5
          have hb1 := hbd.out n (n + 1)
          have hb2 := hbd.out n n
          generalize rd (SM n) ((n + 1 : Nat) : Int) = x1 at *
          generalize rd (SM n) (n : Int) = x2 at *
          have hn20 : size ≤ 1048576 := by omega
          have hx12 : 0 ≤ x1 ∧ x1 ≤ 1099513724928 ∧ 0 ≤ x2 ∧ x2 ≤ 1099513724928 := by omega
          have hwn : IntKind.i64.wrap (n : Int) = (n : Int) := by rw [i64_w]; unfold wrap64; omega
          have hwn3 : IntKind.i64.wrap ((n : Int) + 1) = (n : Int) + 1 := by rw [i64_w]; unfold wrap64; omega
          have hw12 : IntKind.i64.wrap (x1 + x2) = x1 + x2 := by rw [i64_w]; unfold wrap64; omega
          clear hb1 hb2
          replace hR5 := Aside0.mk hR5
          have KZ := Aside0.mk ((Kp.setCell (S := fun k => k = gA) hKp.out.drew ⟨gA, n + 1, none⟩ (.inl rfl) (.int .i64 (x1 + x2))))
          have RZ : Aside0 ((Kd.int .i64).R 3 (wp.drew.setCell ⟨gA, n + 1, none⟩ (.int .i64 (x1 + x2))) w.heap.size (fun b => b = gA) (.slice (some ⟨gA, 0, none⟩) (size + 1) c6) (SM (n + 1))) := ⟨Kd.R_drew hR5.out⟩
          have cS4 : wp.drew.cell? ⟨gA, n + 1, none⟩ = some (.int .i64 x1) := hc4
          have fS4 : wp.drew.frozen? ⟨gA, n + 1, none⟩ = false := hf4
          clear hR5 hRA hKp
          go_wp2
          refine wp_region_any (by kernel_rfl) ?_
          change wpAny _ _ _ _ _ _ _ wp.drew
          refine region_anyI (fun W => W.cell? ⟨gA, n + 1, none⟩ = some (.int .i64 x1) ∧ W.cell? ⟨gA, n, none⟩ = some (.int .i64 x2)) [0, 1, 2, 3, 4, 5, 6, 7, 8, 9, 10] [11] [11] (by kernel_rfl) (by kernel_rfl) (by kernel_rfl) (by kernel_rfl) rfl (fun _ _ _ h => h) ⟨hc4, hc3⟩ ?_
          iterate 11 refine ReadsI.step _ rfl rfl (fun W hW => by obtain ⟨k1, k2⟩ := hW; go_simp; first | rfl | done | (rw [if_pos (by omega)])) ?_
          change TailL _ _ _ _ _ _ _
          refine TailL.skip (w2 := wp.drew.setCell ⟨gA, n + 1, none⟩ (.int .i64 (x1 + x2))) rfl rfl rfl (by go_simp; first | rfl | done) (fun h => absurd rfl h) ?_
          unfold TailL
          simp only [List.getElem_toArray, List.getElem_cons_succ, List.getElem_cons_zero, Act.put, List.setIfInBounds_toArray, List.set_cons_zero, List.set_cons_succ]
          clear hc3 hc4 hf4 cS4 fS4 hw12 hwn hwn3
          go_wp2
          go_roundw
          case rel => exact ⟨n + 1, by simp, by omega, KZ, RZ⟩
          case measure => simp [intOf]; omega
        · obtain rfl : n = size := by omega
          have hgp : gA < wp.heap.size := Kd.R_lt hRA.out gA rfl
          have hSa : Aside0 (∀ q : Nat, q ≤ n → wp.cell? ⟨gA, q, none⟩ = some (.int .i64 (rd ah (q : Int)))) := ⟨fun q hq => by
            have h := (R_store hRA.out q (by omega) 0).1
            rw [addr0_add] at h
            rw [hah.out]
            exact h⟩
          have hV8 := Aside0.mk (V_kp hV7.out hKp.out (fun k hk e => by omega))
          have hbp := Aside0.mk (hbo.out.trans (hKp.out.below (fun k hk => ⟨by have := hbo.out.size; omega, by omega⟩)))
          obtain ⟨N4, hN4b⟩ : ∃ N4, wp.heap.size = N4 := ⟨_, rfl⟩
          rw [hN4b] at hgp
          have hbs := hbp.out.size
          rw [hN4b] at hbs
          replace hN4b := Aside0.mk hN4b
          clear hRA hKp hn hV7 hbo hM0 hMS hbd hAl
          go_wp2
          go_loopw [6, 78] (fun v i W => ∃ m : Nat, i = .int .i64 (m : Int) ∧ m ≤ s.length ∧ Aside0 (Below N4 wp W) ∧ Aside0 ((Kd.int .i64).R 3 W N4 (fun b => N4 ≤ b) v (upTo (fun i => rd ah (rd s i)) (m : Int)))) (fun _ i _ => s.length - (intOf i).toNat)
          case atStart => exact ⟨0, rfl, by omega, ⟨Below.refl _ _⟩, ⟨Kd.R_nil _ _ _ _ _⟩⟩
          case round =>
            revert wr
            intro wq hrel
            obtain ⟨m, rfl, m0, hb, hR⟩ := hrel
            have hbw2 : Aside0 (Below w.heap.size w wq) := ⟨hbp.out.trans (hb.out.mono hbs)⟩
            by_cases hm : m < s.length
            · obtain ⟨ad, e1, hx⟩ := Kd.at_int (Kd.C_below HR.out hbw2.out) (m : Int) (by omega) (by omega)
              cases e1
              rw [Int.toNat_natCast] at hx
              obtain ⟨u1, u2⟩ := HQ.out m hm
              have hsk : Aside0 (upTo (fun i => rd ah (rd s i)) ((m + 1 : Nat) : Int) = upTo (fun i => rd ah (rd s i)) (m : Int) ++ [rd ah (rd s (m : Int))]) := ⟨by rw [show ((m + 1 : Nat) : Int) = (m : Int) + 1 by omega]; exact upTo_succ _ _ (by omega)⟩
              have HLs : Aside0 (((upTo (fun i => rd ah (rd s i)) (m : Int)).length + 1) * 8 ≤ 140737488355328) := ⟨by rw [upTo_length]; omega⟩
              obtain ⟨q, hq⟩ : ∃ q : Nat, rd s (m : Int) = q := ⟨(rd s (m : Int)).toNat, by omega⟩
              rw [hq] at hx hsk u2
              have cQ : wq.cell? ⟨gA, q, none⟩ = some (.int .i64 (rd ah (q : Int))) := by
                have h := hSa.out q (by omega)
                have hbl := hb.out.block gA (by omega)
                simpa [World.cell?, hbl] using h
              generalize upTo (fun i => rd ah (rd s i)) (m : Int) = zs at *
              generalize rd ah (q : Int) = r at *
              have hwq : Aside0 (Below N4 wq wq) := ⟨Below.refl _ _⟩
              have hqs : N4 ≤ wq.heap.size := by have := hb.out.size; rw [hN4b.out] at this; exact this
              clear hq
              go_wp2_with ((with_reducible refine gate_builtin (b := .append) (xs := #[.tmp 82, .tmp 87]) rfl ?_); at_builtin; refine Kd.R_append (Kd.int .i64) (w0 := wq) N4 rfl (.tmp 82) (.tmp 87) 22 3 (.int .i64 0) 8 rfl Try.underlying22 infoInt rfl (by decide) (by omega) u6 zs r [.int .i64 r] (fun k_ => (N4 ≤ k_)) (fun _ => False) rfl rfl rfl (fun _ hk => hk.elim) (fun k_ hk => Nat.le_trans hqs hk) hR.out hwq.out hqs HLs.out ?_; intro v6 w6 ho hb6 hg hat; replace ho := Aside0.mk ho; replace hb6 := Aside0.mk hb6; clear hg hat)
              go_roundw
              case rel => exact ⟨m + 1, by simp, by omega, ⟨hb.out.trans hb6.out⟩, ⟨by rw [hsk.out]; exact ho.out⟩⟩
              case measure => simp [intOf]; omega
            · obtain rfl : m = s.length := by omega
              obtain ⟨A4, c4, rfl⟩ := Kd.R_slice hR.out
              have hq1 := (Kd.R_reads' hR.out).2.1
              have hq1b := R_cap hR.out
              have hV4 := Aside0.mk (V_cut (base2 := w.heap.size) hR.out)
              have hV9 := Aside0.mk (V_kp hV8.out (S := fun _ => False) (Kp.ofBelow (show Below wp.heap.size wp wq by rw [hN4b.out]; exact hb.out)) (fun _ _ h => h))
              have HQ1 : Aside0 (∀ X n, n = (upTo (fun i => rd ah (rd s i)) (s.length : Int)).length → Calls Try.prog 57 #[.slice A4 n c4] X fun e w' => e = .returned (.slice A4 n n) ∧ Drawn0 X w') := ⟨fun X n hn => by subst hn; exact seg_cut A4 _ c4 X hq1 hq1b⟩
              have HQ2 : Aside0 (∀ X, Calls Try.prog 57 #[.slice A7 n7 c7] X fun e w' => e = .returned (.slice A7 n7 n7) ∧ Drawn0 X w') := ⟨fun X => seg_cut A7 _ c7 X hc7 hc7b⟩
              clear hR hq1 hq1b hV8 hc7 hc7b
              obtain ⟨zs, hzs⟩ : ∃ zs, zs = upTo (fun i => rd ah (rd s i)) (s.length : Int) := ⟨_, rfl⟩
              rw [← hzs] at hV4 HQ1 ⊢
              replace hzs := Aside0.mk hzs
              obtain ⟨n1, hn1⟩ : ∃ n1, n1 = zs.length := ⟨_, rfl⟩
              rw [← hn1] at hV4 ⊢
              have HQ1' := Aside0.mk (fun X => HQ1.out X n1 hn1)
              replace hn1 := Aside0.mk hn1
              clear HQ1
              go_wp2_with (go_at_call 57; (first | (with_reducible refine (HQ1'.out _).mono ?_) | (with_reducible refine (HQ2.out _).mono ?_)); rintro e w8 ⟨rfl, m8, rfl⟩)
              unfold MarksPost
              refine Marks.zero _ (results_tmp3 rfl _ _ _) ?_
              refine ⟨_, _, rfl, ?_, ?_, pw_below_drewN hbw2.out _⟩
              · have h := fun m => Kd.V_mono (ok' := fun k => w.heap.size ≤ k) (Kd.V_drewN hV4.out m) (fun k hk => Nat.le_trans hbs hk)
                rw [hzs.out] at h
                exact h _
              · have h := fun m => Kd.V_mono (ok' := fun k => w.heap.size ≤ k) (Kd.V_drewN hV9.out m) (fun k hk => Nat.le_trans hN4 hk)
                rw [← hxs.out] at h
                exact h _
set_option maxHeartbeats 4000000 in
set_option maxRecDepth 100000 in
theorem seg_Compact.run (A : Option Addr) (c : Nat) (s : List Int) (A2 : Option Addr) (c2 : Nat) (l : List Int) (size : Int) (w : World) (hr : Kd.C (Kd.int .i64) w A s.length s) (hc : s.length ≤ c) (hr2 : Kd.C (Kd.int .i64) w A2 l.length l) (hc2 : l.length ≤ c2) :
    Calls Try.prog 45 #[.slice A s.length c, .slice A2 l.length c2, .int .i64 size] w (Ret3 w (seg_Compact.g s l size)) := by
  unfold seg_Compact.g
  by_cases h0 : sharedE s l size = 0
  · rw [if_pos h0]
    obtain ⟨q, rfl⟩ : ∃ q : Nat, size = q := ⟨size.toNat, by have := (sharedE_ok h0).2.2.1; omega⟩
    rw [Int.toNat_natCast]
    exact seg_Compact_yes A c s A2 c2 l q w hr hc hr2 hc2 h0
  · rw [if_neg h0]
    have HC := Aside0.mk (seg_Shared.run A c s A2 c2 l size w hr hc hr2 hc2)
    unfold seg_Shared.g at HC
    rw [if_neg h0] at HC
    have zz : (sharedE s l size != 0) = true := bne_iff_ne.mpr h0
    generalize sharedE s l size = E at *
    clear h0 hr hc hr2 hc2
    refine calls_of_marks Try.func45 rfl ?_
    simp only [Try.ntmps45, List.size_toArray, List.length_cons, List.length_nil, Nat.reduceAdd, Nat.reduceSub, Array.replicate_succ, Array.replicate_zero, List.push_toArray, List.append_toArray, List.nil_append, List.cons_append]
    go_wp2_with ((with_reducible refine (HC.out).mono ?_); rintro e w1 ⟨rfl, hb1⟩; replace hb1 := Aside0.mk hb1)
    unfold MarksPost
    refine Marks.zero _ (results_tmp3 rfl _ _ _) ?_
    exact Ret3.nil _ hb1.out
end Go.Proofs.Ythalgcpohnknbaa.Hand
/- sheafworkslaw02.same: are two lists of spans the same? -/
namespace Go.Proofs.Ythalgcpohnknbaa.Hand
open Go.RowKit Go.Proofs.YthalgcpohnknbaaW.PrintWords Go.Proofs.YthalgcpohnknbaaW.PrintLast Go.Proofs.YthalgcpohnknbaaW.PrintMore
set_option linter.unusedVariables false
set_option linter.unusedSimpArgs false
attribute [local go_sem] store_func store_nilFunc Oper.semAt_some
attribute [local go_sem] Oper.semAt_some
def seqTo (l m : List (Int × Int)) (k : Nat) : Bool := ((l.length : Int) == (m.length : Int)) && (List.range k).all (fun j => ((l.getD j (0, 0)).1 == (m.getD j (0, 0)).1) && ((l.getD j (0, 0)).2 == (m.getD j (0, 0)).2))
theorem seqTo_succ (l m : List (Int × Int)) (k : Nat) : seqTo l m (k + 1) = (seqTo l m k && (((l.getD k (0, 0)).1 == (m.getD k (0, 0)).1) && ((l.getD k (0, 0)).2 == (m.getD k (0, 0)).2))) := by
  unfold seqTo
  rw [List.range_succ, List.all_append, Bool.and_assoc]
  simp
theorem seqTo_all (l m : List (Int × Int)) : seqTo l m l.length = (l == m) := by
  rw [Bool.eq_iff_iff, beq_iff_eq]
  unfold seqTo
  rw [Bool.and_eq_true, beq_iff_eq, List.all_eq_true]
  constructor
  · rintro ⟨h1, h2⟩
    refine List.ext_getElem (by omega) (fun i hi hi2 => ?_)
    have := h2 i (by rw [List.mem_range]; exact hi)
    rw [Bool.and_eq_true, beq_iff_eq, beq_iff_eq] at this
    simp only [List.getD_eq_getElem?_getD, List.getElem?_eq_getElem hi, List.getElem?_eq_getElem hi2, Option.getD_some] at this
    exact Prod.ext this.1 this.2
  · rintro rfl
    exact ⟨rfl, fun j _ => by simp⟩
theorem seqTo_no (l m : List (Int × Int)) (k : Nat) (hk : k ≤ l.length) (h : seqTo l m k = false) : (l == m) = false := by
  rw [← seqTo_all]
  unfold seqTo at *
  cases h1 : ((l.length : Int) == (m.length : Int)) <;> rw [h1] at h
  · rfl
  · rw [Bool.true_and] at h ⊢
    rw [List.all_eq_false] at h ⊢
    obtain ⟨j, hj, hh⟩ := h
    rw [List.mem_range] at hj
    exact ⟨j, by rw [List.mem_range]; omega, hh⟩
set_option maxHeartbeats 4000000 in
set_option maxRecDepth 100000 in
theorem law_same (A : Option Addr) (c : Nat) (l : List (Int × Int)) (A2 : Option Addr) (c2 : Nat) (l2 : List (Int × Int)) (w : World) (hr : kE.C w A l.length l) (hr2 : kE.C w A2 l2.length l2) :
    Calls Try.prog 42 #[.slice A l.length c, .slice A2 l2.length c2] w fun e w' => e = .returned (.bool (l == l2)) ∧ Drawn0 w w' := by
  have HR := Aside0.mk hr
  have HR2 := Aside0.mk hr2
  have hm : l.length ≤ 9223372036854775807 := hr.2.1
  have hm2 : l2.length ≤ 9223372036854775807 := hr2.2.1
  clear hr hr2
  obtain ⟨R, hR⟩ : ∃ R, R = (l == l2) := ⟨_, rfl⟩
  rw [← hR]
  replace hR := Aside0.mk hR
  refine calls_of_marks Try.func42 rfl ?_
  simp only [Try.ntmps42, List.size_toArray, List.length_cons, List.length_nil, Nat.reduceAdd, Nat.reduceSub, Array.replicate_succ, Array.replicate_zero, List.push_toArray, List.append_toArray, List.nil_append, List.cons_append]
  go_wp2
  go_loopw [5, 6] (fun s i W => ∃ (k : Nat) (b : Bool), s = .bool b ∧ i = .int .i64 (k : Int) ∧ k ≤ l.length ∧ Aside0 (b = seqTo l l2 k) ∧ Aside0 (Drawn0 w W)) (fun _ i _ => l.length - (intOf i).toNat)
  case atStart => exact ⟨0, _, rfl, rfl, by omega, ⟨by simp [seqTo]⟩, ⟨⟨0, rfl⟩⟩⟩
  case round =>
    obtain ⟨k, b, rfl, rfl, p1, HB, HD⟩ := hrel
    cases b
    · have hE : Aside0 (R = false) := ⟨by rw [hR.out]; exact seqTo_no l l2 k p1 HB.out.symm⟩
      go_wp2
      unfold MarksPost
      refine Marks.zero _ (results_tmp rfl _ _ _) ?_
      exact ⟨by rw [hE.out]; rfl, HD.out⟩
    · by_cases hlt : k < l.length
      · have hl : l.length = l2.length := by
          have h := HB.out
          unfold seqTo at h
          have := (Bool.and_eq_true _ _).mp h.symm
          rw [beq_iff_eq] at this
          omega
        have hlt2 : k < l2.length := by omega
        obtain ⟨ad, e1, hx0, hx1⟩ := elem_at (kdC_drawn HR.out HD.out) k hlt
        obtain ⟨ad2, e2, hy0, hy1⟩ := elem_at (kdC_drawn HR2.out HD.out) k hlt2
        subst e1 e2
        rw [show ad.add (k * 2 + 1) = ⟨(ad.add (k * 2)).block, (ad.add (k * 2)).off + 1, none⟩ from add_field ad (k * 2) 1 (by decide)] at hx1
        rw [show ad2.add (k * 2 + 1) = ⟨(ad2.add (k * 2)).block, (ad2.add (k * 2)).off + 1, none⟩ from add_field ad2 (k * 2) 1 (by decide)] at hy1
        have hsu := seqTo_succ l l2 k
        rw [← HB.out, Bool.true_and] at hsu
        generalize l.getD k (0, 0) = x at *
        generalize l2.getD k (0, 0) = y at *
        obtain ⟨a, b⟩ := x
        obtain ⟨c0, d⟩ := y
        simp only at hx0 hx1 hy0 hy1 hsu
        replace hl := Aside0.mk hl
        have hD2 : Aside0 (Drawn0 w wr.drew) := ⟨drawn_trans HD.out ⟨1, rfl⟩⟩
        cases z1 : (a == c0) <;> cases z2 : (b == d) <;> rw [z1, z2] at hsu
        all_goals
          replace hsu := Aside0.mk hsu
          go_wp2
          refine wp_region_any (by kernel_rfl) ?_
          change wpAny _ _ _ _ _ _ _ wr.drew
          refine region_anyI (fun W => W.cell? (ad.add (k * 2)) = some (.int .i64 a) ∧ W.cell? ⟨(ad.add (k * 2)).block, (ad.add (k * 2)).off + 1, none⟩ = some (.int .i64 b) ∧ W.cell? (ad2.add (k * 2)) = some (.int .i64 c0) ∧ W.cell? ⟨(ad2.add (k * 2)).block, (ad2.add (k * 2)).off + 1, none⟩ = some (.int .i64 d)) [0, 1, 2, 3, 4, 5, 6, 7, 8, 9] [] [] (by kernel_rfl) (by kernel_rfl) (by kernel_rfl) rfl rfl (fun _ _ _ h => h) ⟨hx0, hx1, hy0, hy1⟩ ?_
          iterate 10 refine ReadsI.step _ rfl rfl (fun W hW => by obtain ⟨k1, k2, k3, k4⟩ := hW; go_simp; first | rfl | done | (rw [if_pos (by omega)])) ?_
          change TailL _ _ _ _ _ _ _
          unfold TailL
          simp only [List.getElem_toArray, List.getElem_cons_succ, List.getElem_cons_zero, Act.put, List.setIfInBounds_toArray, List.set_cons_zero, List.set_cons_succ]
          generalize wr.drew = wd at *
          go_wp2
          go_roundw
          case rel => exact ⟨k + 1, _, rfl, by simp, by omega, ⟨by rw [hsu.out]; rfl⟩, hD2⟩
          case measure => simp [intOf]; omega
      · obtain rfl : k = l.length := by omega
        have hE : Aside0 (R = true) := ⟨by rw [hR.out, ← seqTo_all]; exact HB.out.symm⟩
        have hl : l.length = l2.length := by
          have h := HB.out
          unfold seqTo at h
          have := (Bool.and_eq_true _ _).mp h.symm
          rw [beq_iff_eq] at this
          omega
        replace hl := Aside0.mk hl
        go_wp2
        unfold MarksPost
        refine Marks.zero _ (results_tmp rfl _ _ _) ?_
        exact ⟨by rw [hE.out]; rfl, HD.out⟩
end Go.Proofs.Ythalgcpohnknbaa.Hand
/- The contracts of the chapter's functions, in the form that the session's printer takes. -/
namespace Go.Proofs.Ythalgcpohnknbaa.Hand
open Go.RowKit Go.Proofs.YthalgcpohnknbaaW.PrintWords Go.Proofs.YthalgcpohnknbaaW.PrintLast Go.Proofs.YthalgcpohnknbaaW.PrintMore
set_option linter.unusedVariables false

def rCheck.f (l0 : List Int) : Option (Int × Int) := some (seg_Check.g l0)
theorem rCheck.calls (A0 : Option Addr) (c0 : Nat) (l0 : List Int) (r1 : Int) (r2 : Int) (w : World) (hr0 : Kd.C (Kd.int .i64) w A0 l0.length l0) (hc0 : l0.length ≤ c0) (h : rCheck.f l0 = some (r1, r2)) :
    Calls Try.prog 14 #[.slice A0 l0.length c0] w fun e w' => e = .returned (.tuple #[.int .i64 r1, .int .i64 r2]) ∧ Below w.heap.size w w' := by
  have h2 : seg_Check.g l0 = (r1, r2) := by injection h
  have H := seg_Check.run A0 c0 l0 w hr0 hc0
  rw [h2] at H
  exact H
def rStarts.f (l0 : List Int) : Option (List Int × Int) := some (seg_Starts.g l0)
theorem rStarts.calls (A0 : Option Addr) (c0 : Nat) (l0 : List Int) (r1 : List Int) (r2 : Int) (w : World) (hr0 : Kd.C (Kd.int .i64) w A0 l0.length l0) (hc0 : l0.length ≤ c0) (h : rStarts.f l0 = some (r1, r2)) :
    Calls Try.prog 16 #[.slice A0 l0.length c0] w fun e w' => ∃ v0_ : Value, e = .returned (.tuple #[v0_, .int .i64 r2]) ∧ Kd.V (Kd.int .i64) 3 w' w.heap.size (fun k_ => w.heap.size ≤ k_) v0_ r1 ∧ Below w.heap.size w w' := by
  have h2 : seg_Starts.g l0 = (r1, r2) := by injection h
  have H := seg_Starts.run A0 c0 l0 w hr0 hc0
  rw [h2] at H
  exact H
def rHeads.f (l0 : List Int) : Option (List Int × Int) := some (seg_Heads.g l0)
theorem rHeads.calls (A0 : Option Addr) (c0 : Nat) (l0 : List Int) (r1 : List Int) (r2 : Int) (w : World) (hr0 : Kd.C (Kd.int .i64) w A0 l0.length l0) (hc0 : l0.length ≤ c0) (h : rHeads.f l0 = some (r1, r2)) :
    Calls Try.prog 18 #[.slice A0 l0.length c0] w fun e w' => ∃ v0_ : Value, e = .returned (.tuple #[v0_, .int .i64 r2]) ∧ Kd.V (Kd.int .i64) 3 w' w.heap.size (fun k_ => w.heap.size ≤ k_) v0_ r1 ∧ Below w.heap.size w w' := by
  have h2 : seg_Heads.g l0 = (r1, r2) := by injection h
  have H := seg_Heads.run A0 c0 l0 w hr0 hc0
  rw [h2] at H
  exact H
def rOwners.f (l0 : List Int) : Option (List Int × Int) := some (seg_Owners.g l0)
theorem rOwners.calls (A0 : Option Addr) (c0 : Nat) (l0 : List Int) (r1 : List Int) (r2 : Int) (w : World) (hr0 : Kd.C (Kd.int .i64) w A0 l0.length l0) (hc0 : l0.length ≤ c0) (h : rOwners.f l0 = some (r1, r2)) :
    Calls Try.prog 20 #[.slice A0 l0.length c0] w fun e w' => ∃ v0_ : Value, e = .returned (.tuple #[v0_, .int .i64 r2]) ∧ Kd.V (Kd.int .i64) 3 w' w.heap.size (fun k_ => w.heap.size ≤ k_) v0_ r1 ∧ Below w.heap.size w w' := by
  have h2 : seg_Owners.g l0 = (r1, r2) := by injection h
  have H := seg_Owners.run A0 c0 l0 w hr0 hc0
  rw [h2] at H
  exact H
def rLengths.f (l0 : List Int) (a1 : Int) : Option (List Int × Int) := some (seg_Lengths.g l0 a1)
theorem rLengths.calls (A0 : Option Addr) (c0 : Nat) (l0 : List Int) (a1 : Int) (r1 : List Int) (r2 : Int) (w : World) (hr0 : Kd.C (Kd.int .i64) w A0 l0.length l0) (hc0 : l0.length ≤ c0) (h : rLengths.f l0 a1 = some (r1, r2)) :
    Calls Try.prog 26 #[.slice A0 l0.length c0, .int .i64 a1] w fun e w' => ∃ v0_ : Value, e = .returned (.tuple #[v0_, .int .i64 r2]) ∧ Kd.V (Kd.int .i64) 3 w' w.heap.size (fun k_ => w.heap.size ≤ k_) v0_ r1 ∧ Below w.heap.size w w' := by
  have h2 : seg_Lengths.g l0 a1 = (r1, r2) := by injection h
  have H := seg_Lengths.run A0 c0 l0 a1 w hr0 hc0
  rw [h2] at H
  exact H
def rOfHeads.f (l0 : List Int) : Option (List Int × Int) := some (seg_OfHeads.g l0)
theorem rOfHeads.calls (A0 : Option Addr) (c0 : Nat) (l0 : List Int) (r1 : List Int) (r2 : Int) (w : World) (hr0 : Kd.C (Kd.int .i64) w A0 l0.length l0) (hc0 : l0.length ≤ c0) (h : rOfHeads.f l0 = some (r1, r2)) :
    Calls Try.prog 28 #[.slice A0 l0.length c0] w fun e w' => ∃ v0_ : Value, e = .returned (.tuple #[v0_, .int .i64 r2]) ∧ Kd.V (Kd.int .i64) 3 w' w.heap.size (fun k_ => w.heap.size ≤ k_) v0_ r1 ∧ Below w.heap.size w w' := by
  have h2 : seg_OfHeads.g l0 = (r1, r2) := by injection h
  have H := seg_OfHeads.run A0 c0 l0 w hr0 hc0
  rw [h2] at H
  exact H
def rOfOwners.f (l0 : List Int) (a1 : Int) : Option (List Int × Int) := some (seg_OfOwners.g l0 a1)
theorem rOfOwners.calls (A0 : Option Addr) (c0 : Nat) (l0 : List Int) (a1 : Int) (r1 : List Int) (r2 : Int) (w : World) (hr0 : Kd.C (Kd.int .i64) w A0 l0.length l0) (hc0 : l0.length ≤ c0) (h : rOfOwners.f l0 a1 = some (r1, r2)) :
    Calls Try.prog 30 #[.slice A0 l0.length c0, .int .i64 a1] w fun e w' => ∃ v0_ : Value, e = .returned (.tuple #[v0_, .int .i64 r2]) ∧ Kd.V (Kd.int .i64) 3 w' w.heap.size (fun k_ => w.heap.size ≤ k_) v0_ r1 ∧ Below w.heap.size w w' := by
  have h2 : seg_OfOwners.g l0 a1 = (r1, r2) := by injection h
  have H := seg_OfOwners.run A0 c0 l0 a1 w hr0 hc0
  rw [h2] at H
  exact H
def rNest.f (l0 : List Int) (l1 : List Int) : Option (List Int × Int) := some (seg_Nest.g l0 l1)
theorem rNest.calls (A0 : Option Addr) (c0 : Nat) (l0 : List Int) (A1 : Option Addr) (c1 : Nat) (l1 : List Int) (r1 : List Int) (r2 : Int) (w : World) (hr0 : Kd.C (Kd.int .i64) w A0 l0.length l0) (hc0 : l0.length ≤ c0) (hr1 : Kd.C (Kd.int .i64) w A1 l1.length l1) (hc1 : l1.length ≤ c1) (h : rNest.f l0 l1 = some (r1, r2)) :
    Calls Try.prog 32 #[.slice A0 l0.length c0, .slice A1 l1.length c1] w fun e w' => ∃ v0_ : Value, e = .returned (.tuple #[v0_, .int .i64 r2]) ∧ Kd.V (Kd.int .i64) 3 w' w.heap.size (fun k_ => w.heap.size ≤ k_) v0_ r1 ∧ Below w.heap.size w w' := by
  have h2 : seg_Nest.g l0 l1 = (r1, r2) := by injection h
  have H := seg_Nest.run A0 c0 l0 A1 c1 l1 w hr0 hc0 hr1 hc1
  rw [h2] at H
  exact H
def rSplit.f (l0 : List Int) (a1 : Int) : Option (List Int × List Int × Int) := some (seg_Split.g l0 a1)
theorem rSplit.calls (A0 : Option Addr) (c0 : Nat) (l0 : List Int) (a1 : Int) (r1 : List Int) (r2 : List Int) (r3 : Int) (w : World) (hr0 : Kd.C (Kd.int .i64) w A0 l0.length l0) (hc0 : l0.length ≤ c0) (h : rSplit.f l0 a1 = some (r1, r2, r3)) :
    Calls Try.prog 34 #[.slice A0 l0.length c0, .int .i64 a1] w fun e w' => ∃ v0_ : Value, ∃ v1_ : Value, e = .returned (.tuple #[v0_, v1_, .int .i64 r3]) ∧ Kd.V (Kd.int .i64) 3 w' w.heap.size (fun k_ => w.heap.size ≤ k_) v0_ r1 ∧ Kd.V (Kd.int .i64) 3 w' w.heap.size (fun k_ => w.heap.size ≤ k_) v1_ r2 ∧ Below w.heap.size w w' := by
  have h2 : seg_Split.g l0 a1 = (r1, r2, r3) := by injection h
  have H := seg_Split.run A0 c0 l0 a1 w hr0 hc0
  rw [h2] at H
  exact H
def rShared.f (l0 : List Int) (l1 : List Int) (a2 : Int) : Option (Int × Int) := some (seg_Shared.g l0 l1 a2)
theorem rShared.calls (A0 : Option Addr) (c0 : Nat) (l0 : List Int) (A1 : Option Addr) (c1 : Nat) (l1 : List Int) (a2 : Int) (r1 : Int) (r2 : Int) (w : World) (hr0 : Kd.C (Kd.int .i64) w A0 l0.length l0) (hc0 : l0.length ≤ c0) (hr1 : Kd.C (Kd.int .i64) w A1 l1.length l1) (hc1 : l1.length ≤ c1) (h : rShared.f l0 l1 a2 = some (r1, r2)) :
    Calls Try.prog 37 #[.slice A0 l0.length c0, .slice A1 l1.length c1, .int .i64 a2] w fun e w' => e = .returned (.tuple #[.int .i64 r1, .int .i64 r2]) ∧ Below w.heap.size w w' := by
  have h2 : seg_Shared.g l0 l1 a2 = (r1, r2) := by injection h
  have H := seg_Shared.run A0 c0 l0 A1 c1 l1 a2 w hr0 hc0 hr1 hc1
  rw [h2] at H
  exact H
def rDepth.f (l0 : List Int) (l1 : List Int) (a2 : Int) : Option (Int × Int) := some (seg_Depth.g l0 l1 a2)
theorem rDepth.calls (A0 : Option Addr) (c0 : Nat) (l0 : List Int) (A1 : Option Addr) (c1 : Nat) (l1 : List Int) (a2 : Int) (r1 : Int) (r2 : Int) (w : World) (hr0 : Kd.C (Kd.int .i64) w A0 l0.length l0) (hc0 : l0.length ≤ c0) (hr1 : Kd.C (Kd.int .i64) w A1 l1.length l1) (hc1 : l1.length ≤ c1) (h : rDepth.f l0 l1 a2 = some (r1, r2)) :
    Calls Try.prog 38 #[.slice A0 l0.length c0, .slice A1 l1.length c1, .int .i64 a2] w fun e w' => e = .returned (.tuple #[.int .i64 r1, .int .i64 r2]) ∧ Below w.heap.size w w' := by
  have h2 : seg_Depth.g l0 l1 a2 = (r1, r2) := by injection h
  have H := seg_Depth.run A0 c0 l0 A1 c1 l1 a2 w hr0 hc0 hr1 hc1
  rw [h2] at H
  exact H
def rTouched.f (l0 : List Int) (l1 : List Int) (a2 : Int) : Option (List (Int × Int) × Int) := some (seg_Touched.g l0 l1 a2)
theorem rTouched.calls (A0 : Option Addr) (c0 : Nat) (l0 : List Int) (A1 : Option Addr) (c1 : Nat) (l1 : List Int) (a2 : Int) (r1 : List (Int × Int)) (r2 : Int) (w : World) (hr0 : Kd.C (Kd.int .i64) w A0 l0.length l0) (hc0 : l0.length ≤ c0) (hr1 : Kd.C (Kd.int .i64) w A1 l1.length l1) (hc1 : l1.length ≤ c1) (h : rTouched.f l0 l1 a2 = some (r1, r2)) :
    Calls Try.prog 40 #[.slice A0 l0.length c0, .slice A1 l1.length c1, .int .i64 a2] w fun e w' => ∃ v0_ : Value, e = .returned (.tuple #[v0_, .int .i64 r2]) ∧ Kd.V (Kd.pair (Kd.int .i64) (Kd.int .i64)) 52 w' w.heap.size (fun k_ => w.heap.size ≤ k_) v0_ r1 ∧ Below w.heap.size w w' := by
  have h2 : seg_Touched.g l0 l1 a2 = (r1, r2) := by injection h
  have H := seg_Touched.run A0 c0 l0 A1 c1 l1 a2 w hr0 hc0 hr1 hc1
  rw [h2] at H
  exact H
def rPlaces.f (l0 : List Int) (l1 : List Int) (a2 : Int) : Option (List Int × Int) := some (seg_Places.g l0 l1 a2)
theorem rPlaces.calls (A0 : Option Addr) (c0 : Nat) (l0 : List Int) (A1 : Option Addr) (c1 : Nat) (l1 : List Int) (a2 : Int) (r1 : List Int) (r2 : Int) (w : World) (hr0 : Kd.C (Kd.int .i64) w A0 l0.length l0) (hc0 : l0.length ≤ c0) (hr1 : Kd.C (Kd.int .i64) w A1 l1.length l1) (hc1 : l1.length ≤ c1) (h : rPlaces.f l0 l1 a2 = some (r1, r2)) :
    Calls Try.prog 43 #[.slice A0 l0.length c0, .slice A1 l1.length c1, .int .i64 a2] w fun e w' => ∃ v0_ : Value, e = .returned (.tuple #[v0_, .int .i64 r2]) ∧ Kd.V (Kd.int .i64) 3 w' w.heap.size (fun k_ => w.heap.size ≤ k_) v0_ r1 ∧ Below w.heap.size w w' := by
  have h2 : seg_Places.g l0 l1 a2 = (r1, r2) := by injection h
  have H := seg_Places.run A0 c0 l0 A1 c1 l1 a2 w hr0 hc0 hr1 hc1
  rw [h2] at H
  exact H
def rCompact.f (l0 : List Int) (l1 : List Int) (a2 : Int) : Option (List Int × List Int × Int) := some (seg_Compact.g l0 l1 a2)
theorem rCompact.calls (A0 : Option Addr) (c0 : Nat) (l0 : List Int) (A1 : Option Addr) (c1 : Nat) (l1 : List Int) (a2 : Int) (r1 : List Int) (r2 : List Int) (r3 : Int) (w : World) (hr0 : Kd.C (Kd.int .i64) w A0 l0.length l0) (hc0 : l0.length ≤ c0) (hr1 : Kd.C (Kd.int .i64) w A1 l1.length l1) (hc1 : l1.length ≤ c1) (h : rCompact.f l0 l1 a2 = some (r1, r2, r3)) :
    Calls Try.prog 45 #[.slice A0 l0.length c0, .slice A1 l1.length c1, .int .i64 a2] w fun e w' => ∃ v0_ : Value, ∃ v1_ : Value, e = .returned (.tuple #[v0_, v1_, .int .i64 r3]) ∧ Kd.V (Kd.int .i64) 3 w' w.heap.size (fun k_ => w.heap.size ≤ k_) v0_ r1 ∧ Kd.V (Kd.int .i64) 3 w' w.heap.size (fun k_ => w.heap.size ≤ k_) v1_ r2 ∧ Below w.heap.size w w' := by
  have h2 : seg_Compact.g l0 l1 a2 = (r1, r2, r3) := by injection h
  have H := seg_Compact.run A0 c0 l0 A1 c1 l1 a2 w hr0 hc0 hr1 hc1
  rw [h2] at H
  exact H
def Eq_.f (l0 l1 : List Int) : Option Bool := some (l0 == l1)
theorem Eq_.calls (A0 : Option Addr) (c0 : Nat) (l0 : List Int) (A1 : Option Addr) (c1 : Nat) (l1 : List Int) (r : Bool) (w : World) (hr0 : Kd.C (Kd.int .i64) w A0 l0.length l0) (hc0 : l0.length ≤ c0) (hr1 : Kd.C (Kd.int .i64) w A1 l1.length l1) (hc1 : l1.length ≤ c1) (h : Eq_.f l0 l1 = some r) :
    Calls Try.prog 22 #[.slice A0 l0.length c0, .slice A1 l1.length c1] w fun e w' => e = .returned (.bool r) ∧ Drawn0 w w' := by
  have h2 : (l0 == l1) = r := by injection h
  have H := ref_Equal A0 c0 l0 A1 c1 l1 w hr0 hr1
  rw [h2] at H
  exact H
end Go.Proofs.Ythalgcpohnknbaa.Hand
/- sheafworkslaw02.cut: the examples of the chapter come out as they must. -/
namespace Go.Proofs.Ythalgcpohnknbaa.Hand
open Go.RowKit Go.Proofs.YthalgcpohnknbaaW.PrintWords Go.Proofs.YthalgcpohnknbaaW.PrintLast Go.Proofs.YthalgcpohnknbaaW.PrintMore
open Go.Sort
set_option linter.unusedVariables false
set_option linter.unusedSimpArgs false
/-- A slice of spans, as long as what is there stays. -/
def SkE (w : World) (v : Value) (l : List (Int × Int)) : Prop := ∀ W, Below w.heap.size w W → ∃ A c, v = .slice A l.length c ∧ kE.C W A l.length l
theorem SkE.mono {w w2 : World} {v : Value} {l : List (Int × Int)} (h : SkE w v l) (hb : Below w.heap.size w w2) : SkE w2 v l := fun W hW => h W (hb.trans (hW.mono hb.size))
theorem V_SkE {w : World} {v : Value} {e base : Nat} {ok : Nat → Prop} {l : List (Int × Int)} (h : Kd.V kE e w base ok v l) : SkE w v l := fun W hW => by
  obtain ⟨A, c, hv, hl, hF⟩ := h
  exact ⟨A, c, hv, hF W (fun k ho hlt => hW.block k hlt)⟩
def RetE (w : World) (R : List (Int × Int) × Int) (e : Ending) (w' : World) : Prop := ∃ v, e = .returned (.tuple #[v, .int .i64 R.2]) ∧ SkE w' v R.1 ∧ Below w.heap.size w w'
theorem skStarts (v0 : Value) (l0 : List Int) (R : List Int × Int) (hR : seg_Starts.g l0 = R) (w : World) (h0 : Sl w v0 l0) : Calls Try.prog 16 #[v0] w (RetA w R) := by
  obtain ⟨A0, c0, rfl, p0, q0⟩ := h0
  subst hR
  exact (seg_Starts.run A0 c0 l0 w q0 p0).mono fun _ _ h => h.A
theorem skHeads (v0 : Value) (l0 : List Int) (R : List Int × Int) (hR : seg_Heads.g l0 = R) (w : World) (h0 : Sl w v0 l0) : Calls Try.prog 18 #[v0] w (RetA w R) := by
  obtain ⟨A0, c0, rfl, p0, q0⟩ := h0
  subst hR
  exact (seg_Heads.run A0 c0 l0 w q0 p0).mono fun _ _ h => h.A
theorem skOwners (v0 : Value) (l0 : List Int) (R : List Int × Int) (hR : seg_Owners.g l0 = R) (w : World) (h0 : Sl w v0 l0) : Calls Try.prog 20 #[v0] w (RetA w R) := by
  obtain ⟨A0, c0, rfl, p0, q0⟩ := h0
  subst hR
  exact (seg_Owners.run A0 c0 l0 w q0 p0).mono fun _ _ h => h.A
theorem skOfHeads (v0 : Value) (l0 : List Int) (R : List Int × Int) (hR : seg_OfHeads.g l0 = R) (w : World) (h0 : Sl w v0 l0) : Calls Try.prog 28 #[v0] w (RetA w R) := by
  obtain ⟨A0, c0, rfl, p0, q0⟩ := h0
  subst hR
  exact (seg_OfHeads.run A0 c0 l0 w q0 p0).mono fun _ _ h => h.A
theorem skLengths (v0 : Value) (l0 : List Int) (a1 : Int) (R : List Int × Int) (hR : seg_Lengths.g l0 a1 = R) (w : World) (h0 : Sl w v0 l0) : Calls Try.prog 26 #[v0, .int .i64 a1] w (RetA w R) := by
  obtain ⟨A0, c0, rfl, p0, q0⟩ := h0
  subst hR
  exact (seg_Lengths.run A0 c0 l0 a1 w q0 p0).mono fun _ _ h => h.A
theorem skOfOwners (v0 : Value) (l0 : List Int) (a1 : Int) (R : List Int × Int) (hR : seg_OfOwners.g l0 a1 = R) (w : World) (h0 : Sl w v0 l0) : Calls Try.prog 30 #[v0, .int .i64 a1] w (RetA w R) := by
  obtain ⟨A0, c0, rfl, p0, q0⟩ := h0
  subst hR
  exact (seg_OfOwners.run A0 c0 l0 a1 w q0 p0).mono fun _ _ h => h.A
theorem skNest (v0 : Value) (l0 : List Int) (v1 : Value) (l1 : List Int) (R : List Int × Int) (hR : seg_Nest.g l0 l1 = R) (w : World) (h0 : Sl w v0 l0) (h1 : Sl w v1 l1) : Calls Try.prog 32 #[v0, v1] w (RetA w R) := by
  obtain ⟨A0, c0, rfl, p0, q0⟩ := h0
  obtain ⟨A1, c1, rfl, p1, q1⟩ := h1
  subst hR
  exact (seg_Nest.run A0 c0 l0 A1 c1 l1 w q0 p0 q1 p1).mono fun _ _ h => h.A
theorem skPlaces (v0 : Value) (l0 : List Int) (v1 : Value) (l1 : List Int) (a2 : Int) (R : List Int × Int) (hR : seg_Places.g l0 l1 a2 = R) (w : World) (h0 : Sl w v0 l0) (h1 : Sl w v1 l1) : Calls Try.prog 43 #[v0, v1, .int .i64 a2] w (RetA w R) := by
  obtain ⟨A0, c0, rfl, p0, q0⟩ := h0
  obtain ⟨A1, c1, rfl, p1, q1⟩ := h1
  subst hR
  exact (seg_Places.run A0 c0 l0 A1 c1 l1 a2 w q0 p0 q1 p1).mono fun _ _ h => h.A
theorem skSplit (v0 : Value) (l0 : List Int) (a1 : Int) (R : List Int × List Int × Int) (hR : seg_Split.g l0 a1 = R) (w : World) (h0 : Sl w v0 l0) : Calls Try.prog 34 #[v0, .int .i64 a1] w (RetB w R) := by
  obtain ⟨A0, c0, rfl, p0, q0⟩ := h0
  subst hR
  exact (seg_Split.run A0 c0 l0 a1 w q0 p0).mono fun _ _ h => h.B
theorem skCompact (v0 : Value) (l0 : List Int) (v1 : Value) (l1 : List Int) (a2 : Int) (R : List Int × List Int × Int) (hR : seg_Compact.g l0 l1 a2 = R) (w : World) (h0 : Sl w v0 l0) (h1 : Sl w v1 l1) : Calls Try.prog 45 #[v0, v1, .int .i64 a2] w (RetB w R) := by
  obtain ⟨A0, c0, rfl, p0, q0⟩ := h0
  obtain ⟨A1, c1, rfl, p1, q1⟩ := h1
  subst hR
  exact (seg_Compact.run A0 c0 l0 A1 c1 l1 a2 w q0 p0 q1 p1).mono fun _ _ h => h.B
theorem skCheck (v0 : Value) (l0 : List Int) (R : Int × Int) (hR : seg_Check.g l0 = R) (w : World) (h0 : Sl w v0 l0) : Calls Try.prog 14 #[v0] w (RetI R w) := by
  obtain ⟨A0, c0, rfl, p0, q0⟩ := h0
  subst hR
  exact (seg_Check.run A0 c0 l0 w q0 p0)
theorem skShared (v0 : Value) (l0 : List Int) (v1 : Value) (l1 : List Int) (a2 : Int) (R : Int × Int) (hR : seg_Shared.g l0 l1 a2 = R) (w : World) (h0 : Sl w v0 l0) (h1 : Sl w v1 l1) : Calls Try.prog 37 #[v0, v1, .int .i64 a2] w (RetI R w) := by
  obtain ⟨A0, c0, rfl, p0, q0⟩ := h0
  obtain ⟨A1, c1, rfl, p1, q1⟩ := h1
  subst hR
  exact (seg_Shared.run A0 c0 l0 A1 c1 l1 a2 w q0 p0 q1 p1)
theorem skDepth (v0 : Value) (l0 : List Int) (v1 : Value) (l1 : List Int) (a2 : Int) (R : Int × Int) (hR : seg_Depth.g l0 l1 a2 = R) (w : World) (h0 : Sl w v0 l0) (h1 : Sl w v1 l1) : Calls Try.prog 38 #[v0, v1, .int .i64 a2] w (RetI R w) := by
  obtain ⟨A0, c0, rfl, p0, q0⟩ := h0
  obtain ⟨A1, c1, rfl, p1, q1⟩ := h1
  subst hR
  exact (seg_Depth.run A0 c0 l0 A1 c1 l1 a2 w q0 p0 q1 p1)
theorem skTouched (v0 : Value) (l0 : List Int) (v1 : Value) (l1 : List Int) (a2 : Int) (R : List (Int × Int) × Int) (hR : seg_Touched.g l0 l1 a2 = R) (w : World) (h0 : Sl w v0 l0) (h1 : Sl w v1 l1) : Calls Try.prog 40 #[v0, v1, .int .i64 a2] w (RetE w R) := by
  obtain ⟨A0, c0, rfl, p0, q0⟩ := h0
  obtain ⟨A1, c1, rfl, p1, q1⟩ := h1
  subst hR
  exact (seg_Touched.run A0 c0 l0 A1 c1 l1 a2 w q0 p0 q1 p1).mono fun _ _ ⟨v, he, hv, hb⟩ => ⟨v, he, V_SkE hv, hb⟩
theorem skSame (v : Value) (l : List (Int × Int)) (W : World) (N : Nat) (hN : W.heap.size = N) (h : ∃ A c, v = .slice A l.length c ∧ kE.C (W.alloc (.cells #[.int .i64 1, .int .i64 4] 52)) A l.length l) (R : Bool) (hR : (l == [(1, 4)]) = R) :
    Calls Try.prog 42 #[v, .slice (some ⟨N, 0, none⟩) 1 1] (W.alloc (.cells #[.int .i64 1, .int .i64 4] 52)) fun e w' => e = .returned (.bool R) ∧ Below (W.alloc (.cells #[.int .i64 1, .int .i64 4] 52)).heap.size (W.alloc (.cells #[.int .i64 1, .int .i64 4] 52)) w' := by
  obtain ⟨A, c, rfl, hC⟩ := h
  subst hR
  exact (law_same A c l (some ⟨N, 0, none⟩) 1 [(1, 4)] _ hC (elems_C (ys := [(1, 4)]) (blk_new_at hN _) (by rfl) (by simp))).mono fun e w' ⟨he, hd⟩ => ⟨he, hd.below⟩
theorem exStarts : seg_Starts.g [2, 0, 3] = ([0, 2, 2], 0) := by decide +kernel
theorem exHeads : seg_Heads.g [2, 0, 3] = ([1, 0, 2, 0, 0, 0], 0) := by decide +kernel
theorem exOwners : seg_Owners.g [2, 0, 3] = ([0, 0, 2, 2, 2], 0) := by decide +kernel
theorem exNest : seg_Nest.g [2, 0, 1] [2, 0, 3] = ([2, 0, 3], 0) := by decide +kernel
theorem exSplit : seg_Split.g [5, 0, 2] 2 = ([2, 2, 1, 2], [3, 0, 1], 0) := by decide +kernel
theorem exDepth : seg_Depth.g [1, 3, 0] [3, 2, 0] 6 = (2, 0) := by decide +kernel
theorem exSpans : sortedSpans [1, 3, 0] [3, 2, 0] = [(0, 0), (1, 3), (3, 2)] := sort_is _ _ (by decide +kernel) (by decide +kernel)
theorem exTouchedG : touchedG [1, 3, 0] [3, 2, 0] = [(1, 4)] := by
  unfold touchedG
  rw [exSpans]
  decide +kernel
theorem exShE : sharedE [1, 3, 0] [3, 2, 0] 6 = 0 := by decide +kernel
theorem exTouched : seg_Touched.g [1, 3, 0] [3, 2, 0] 6 = ([(1, 4)], 0) := by
  unfold seg_Touched.g
  rw [if_pos exShE, exTouchedG]
theorem exPlaces : seg_Places.g [1, 3, 0] [3, 2, 0] 6 = ([1, 2, 3, 3, 4], 0) := by decide +kernel
theorem exCompact : seg_Compact.g [1, 3, 0] [3, 2, 0] 6 = ([0, 2, 0], [1, 2, 3, 4], 0) := by
  unfold seg_Compact.g aheadG
  rw [if_pos exShE, exTouchedG]
  decide +kernel
theorem exShared : seg_Shared.g [1, 3, 0] [3, 2, 0] 6 = (5, 0) := by decide +kernel
theorem exCheck : seg_Check.g [2, 0, 3] = (5, 0) := by decide +kernel
theorem exLengths : seg_Lengths.g [0, 2, 2] 5 = ([2, 0, 3], 0) := by decide +kernel
theorem exOfHeads : seg_OfHeads.g [2, 1] = ([0, 1, 0], 0) := by decide +kernel
theorem exOfOwners : seg_OfOwners.g [0, 0, 2] 4 = ([2, 0, 1, 0], 0) := by decide +kernel

set_option maxHeartbeats 4000000 in
set_option maxRecDepth 100000 in
theorem law_cut (w : World) : Calls Try.prog 13 #[] w fun e w' => e = .returned (.bool true) ∧ Below w.heap.size w w' := by
  have HB := Aside0.mk (Below.refl w.heap.size w)
  refine calls_of_marks Try.func13 rfl ?_
  simp only [Try.ntmps13, List.size_toArray, List.length_cons, List.length_nil, Nat.reduceAdd, Nat.reduceSub, Array.replicate_succ, Array.replicate_zero, List.push_toArray, List.append_toArray, List.nil_append, List.cons_append]
  go_wp2_with fail
  refine (skStarts _ [2, 0, 3] _ exStarts _ (Sl.lit_at _ _ (by simp) _ [2, 0, 3] _ rfl (by simp))).mono ?_
  rintro en w1 ⟨va, rfl, Sa, hb⟩
  have SL := Aside0.mk (show Sk w1 _ _ from fun W hW => (Sl.lit_at w w.heap.size rfl 3 [2, 0, 3] #[.int .i64 2, .int .i64 0, .int .i64 3] rfl (by simp) : Sl _ _ _).below (hb.trans (hW.mono hb.size)))
  replace hb := below_allocs1 hb
  replace HB := Aside0.mk (HB.out.trans (hb.mono HB.out.size))
  clear hb
  replace Sa := Aside0.mk Sa
  go_wp2_with fail
  refine (skHeads _ _ _ exHeads _ (SL.out _ (by repeat (first | exact Below.refl _ _ | apply below_alloc | apply pw_below_drewN)))).mono ?_
  rintro en w2 ⟨vb, rfl, Sb, hb⟩
  replace Sa := Aside0.mk (Sa.out.mono hb)
  replace SL := Aside0.mk (SL.out.mono hb)
  replace HB := Aside0.mk (HB.out.trans (hb.mono HB.out.size))
  clear hb
  replace Sb := Aside0.mk Sb
  go_wp2_with fail
  refine (skOwners _ _ _ exOwners _ (SL.out _ (by repeat (first | exact Below.refl _ _ | apply below_alloc | apply pw_below_drewN)))).mono ?_
  rintro en w3 ⟨vc, rfl, Sc, hb⟩
  replace Sa := Aside0.mk (Sa.out.mono hb)
  replace SL := Aside0.mk (SL.out.mono hb)
  replace Sb := Aside0.mk (Sb.out.mono hb)
  replace HB := Aside0.mk (HB.out.trans (hb.mono HB.out.size))
  clear hb
  replace Sc := Aside0.mk Sc
  go_wp2_with fail
  refine (skNest _ _ _ _ _ exNest _ (Sl.lit_at _ _ (by simp) _ [2, 0, 1] _ rfl (by simp)) (SL.out _ (by repeat (first | exact Below.refl _ _ | apply below_alloc | apply pw_below_drewN)))).mono ?_
  rintro en w4 ⟨vd, rfl, Sd, hb⟩
  replace hb := below_allocs1 hb
  replace Sa := Aside0.mk (Sa.out.mono hb)
  replace SL := Aside0.mk (SL.out.mono hb)
  replace Sb := Aside0.mk (Sb.out.mono hb)
  replace Sc := Aside0.mk (Sc.out.mono hb)
  replace HB := Aside0.mk (HB.out.trans (hb.mono HB.out.size))
  clear hb
  replace Sd := Aside0.mk Sd
  go_wp2_with fail
  refine (skSplit _ _ 2 _ exSplit _ (Sl.lit_at _ _ (by simp) _ [5, 0, 2] _ rfl (by simp))).mono ?_
  rintro en w5 ⟨vx, vy, rfl, Sx, Sy, hb⟩
  replace hb := below_allocs1 hb
  replace Sa := Aside0.mk (Sa.out.mono hb)
  replace SL := Aside0.mk (SL.out.mono hb)
  replace Sb := Aside0.mk (Sb.out.mono hb)
  replace Sc := Aside0.mk (Sc.out.mono hb)
  replace Sd := Aside0.mk (Sd.out.mono hb)
  replace HB := Aside0.mk (HB.out.trans (hb.mono HB.out.size))
  clear hb
  replace Sx := Aside0.mk Sx
  replace Sy := Aside0.mk Sy
  go_wp2_with fail
  refine (skEqual _ [0, 2, 2] _ [0, 2, 2] true (by decide) _ (Sa.out _ (by repeat (first | exact Below.refl _ _ | apply below_alloc | apply pw_below_drewN))) (Sl.lit_at _ _ (by simp) _ [0, 2, 2] _ rfl (by simp))).mono ?_
  rintro en w6 ⟨rfl, hb⟩
  replace hb := below_allocs1 hb
  replace Sa := Aside0.mk (Sa.out.mono hb)
  replace SL := Aside0.mk (SL.out.mono hb)
  replace Sb := Aside0.mk (Sb.out.mono hb)
  replace Sc := Aside0.mk (Sc.out.mono hb)
  replace Sd := Aside0.mk (Sd.out.mono hb)
  replace Sx := Aside0.mk (Sx.out.mono hb)
  replace Sy := Aside0.mk (Sy.out.mono hb)
  replace HB := Aside0.mk (HB.out.trans (hb.mono HB.out.size))
  clear hb
  clear Sa
  go_wp2_with fail
  refine (skEqual _ [1, 0, 2, 0, 0, 0] _ [1, 0, 2, 0, 0, 0] true (by decide) _ (Sb.out _ (by repeat (first | exact Below.refl _ _ | apply below_alloc | apply pw_below_drewN))) (Sl.lit_at _ _ (by simp) _ [1, 0, 2, 0, 0, 0] _ rfl (by simp))).mono ?_
  rintro en w7 ⟨rfl, hb⟩
  replace hb := below_allocs1 hb
  replace SL := Aside0.mk (SL.out.mono hb)
  replace Sb := Aside0.mk (Sb.out.mono hb)
  replace Sc := Aside0.mk (Sc.out.mono hb)
  replace Sd := Aside0.mk (Sd.out.mono hb)
  replace Sx := Aside0.mk (Sx.out.mono hb)
  replace Sy := Aside0.mk (Sy.out.mono hb)
  replace HB := Aside0.mk (HB.out.trans (hb.mono HB.out.size))
  clear hb
  clear Sb
  go_wp2_with fail
  refine (skEqual _ [0, 0, 2, 2, 2] _ [0, 0, 2, 2, 2] true (by decide) _ (Sc.out _ (by repeat (first | exact Below.refl _ _ | apply below_alloc | apply pw_below_drewN))) (Sl.lit_at _ _ (by simp) _ [0, 0, 2, 2, 2] _ rfl (by simp))).mono ?_
  rintro en w8 ⟨rfl, hb⟩
  replace hb := below_allocs1 hb
  replace SL := Aside0.mk (SL.out.mono hb)
  replace Sc := Aside0.mk (Sc.out.mono hb)
  replace Sd := Aside0.mk (Sd.out.mono hb)
  replace Sx := Aside0.mk (Sx.out.mono hb)
  replace Sy := Aside0.mk (Sy.out.mono hb)
  replace HB := Aside0.mk (HB.out.trans (hb.mono HB.out.size))
  clear hb
  clear Sc
  go_wp2_with fail
  refine (skEqual _ [2, 0, 3] _ [2, 0, 3] true (by decide) _ (Sd.out _ (by repeat (first | exact Below.refl _ _ | apply below_alloc | apply pw_below_drewN))) (Sl.lit_at _ _ (by simp) _ [2, 0, 3] _ rfl (by simp))).mono ?_
  rintro en w9 ⟨rfl, hb⟩
  replace hb := below_allocs1 hb
  replace SL := Aside0.mk (SL.out.mono hb)
  replace Sd := Aside0.mk (Sd.out.mono hb)
  replace Sx := Aside0.mk (Sx.out.mono hb)
  replace Sy := Aside0.mk (Sy.out.mono hb)
  replace HB := Aside0.mk (HB.out.trans (hb.mono HB.out.size))
  clear hb
  clear Sd
  go_wp2_with fail
  refine (skEqual _ [2, 2, 1, 2] _ [2, 2, 1, 2] true (by decide) _ (Sx.out _ (by repeat (first | exact Below.refl _ _ | apply below_alloc | apply pw_below_drewN))) (Sl.lit_at _ _ (by simp) _ [2, 2, 1, 2] _ rfl (by simp))).mono ?_
  rintro en w10 ⟨rfl, hb⟩
  replace hb := below_allocs1 hb
  replace SL := Aside0.mk (SL.out.mono hb)
  replace Sx := Aside0.mk (Sx.out.mono hb)
  replace Sy := Aside0.mk (Sy.out.mono hb)
  replace HB := Aside0.mk (HB.out.trans (hb.mono HB.out.size))
  clear hb
  clear Sx
  go_wp2_with fail
  refine (skEqual _ [3, 0, 1] _ [3, 0, 1] true (by decide) _ (Sy.out _ (by repeat (first | exact Below.refl _ _ | apply below_alloc | apply pw_below_drewN))) (Sl.lit_at _ _ (by simp) _ [3, 0, 1] _ rfl (by simp))).mono ?_
  rintro en w11 ⟨rfl, hb⟩
  replace hb := below_allocs1 hb
  replace SL := Aside0.mk (SL.out.mono hb)
  replace Sy := Aside0.mk (Sy.out.mono hb)
  replace HB := Aside0.mk (HB.out.trans (hb.mono HB.out.size))
  clear hb
  clear Sy
  go_wp2_with fail
  refine (skDepth _ _ _ _ 6 _ exDepth _ ((Sl.lit_at _ _ (by simp) _ [1, 3, 0] _ rfl (by simp)).alloc _) (Sl.lit_at _ _ (by simp) _ [3, 2, 0] _ rfl (by simp))).mono ?_
  rintro en w12 ⟨rfl, hb⟩
  have S1 := Aside0.mk (show Sk w12 _ _ from fun W hW => ((Sl.lit_at w11 w11.heap.size rfl 3 [1, 3, 0] #[.int .i64 1, .int .i64 3, .int .i64 0] rfl (by simp)).alloc _ : Sl _ _ _).below (hb.trans (hW.mono hb.size)))
  have S2 := Aside0.mk (show Sk w12 _ _ from fun W hW => (Sl.lit_at _ (w11.heap.size + 1) (by simp) 3 [3, 2, 0] #[.int .i64 3, .int .i64 2, .int .i64 0] rfl (by simp) : Sl _ _ _).below (hb.trans (hW.mono hb.size)))
  replace hb := below_allocs2 hb
  replace SL := Aside0.mk (SL.out.mono hb)
  replace HB := Aside0.mk (HB.out.trans (hb.mono HB.out.size))
  clear hb
  go_wp2_with fail
  refine (skTouched _ _ _ _ 6 _ exTouched _ (S1.out _ (by repeat (first | exact Below.refl _ _ | apply below_alloc | apply pw_below_drewN))) (S2.out _ (by repeat (first | exact Below.refl _ _ | apply below_alloc | apply pw_below_drewN)))).mono ?_
  rintro en w13 ⟨vs, rfl, Ss, hb⟩
  replace SL := Aside0.mk (SL.out.mono hb)
  replace S1 := Aside0.mk (S1.out.mono hb)
  replace S2 := Aside0.mk (S2.out.mono hb)
  replace HB := Aside0.mk (HB.out.trans (hb.mono HB.out.size))
  clear hb
  replace Ss := Aside0.mk Ss
  go_wp2_with fail
  refine (skPlaces _ _ _ _ 6 _ exPlaces _ (S1.out _ (by repeat (first | exact Below.refl _ _ | apply below_alloc | apply pw_below_drewN))) (S2.out _ (by repeat (first | exact Below.refl _ _ | apply below_alloc | apply pw_below_drewN)))).mono ?_
  rintro en w14 ⟨vp, rfl, Sp, hb⟩
  replace SL := Aside0.mk (SL.out.mono hb)
  replace S1 := Aside0.mk (S1.out.mono hb)
  replace S2 := Aside0.mk (S2.out.mono hb)
  replace Ss := Aside0.mk (Ss.out.mono hb)
  replace HB := Aside0.mk (HB.out.trans (hb.mono HB.out.size))
  clear hb
  replace Sp := Aside0.mk Sp
  go_wp2_with fail
  refine (skCompact _ _ _ _ 6 _ exCompact _ (S1.out _ (by repeat (first | exact Below.refl _ _ | apply below_alloc | apply pw_below_drewN))) (S2.out _ (by repeat (first | exact Below.refl _ _ | apply below_alloc | apply pw_below_drewN)))).mono ?_
  rintro en w15 ⟨vq, vr, rfl, Sq, Sr, hb⟩
  replace SL := Aside0.mk (SL.out.mono hb)
  replace S1 := Aside0.mk (S1.out.mono hb)
  replace S2 := Aside0.mk (S2.out.mono hb)
  replace Ss := Aside0.mk (Ss.out.mono hb)
  replace Sp := Aside0.mk (Sp.out.mono hb)
  replace HB := Aside0.mk (HB.out.trans (hb.mono HB.out.size))
  clear hb
  replace Sq := Aside0.mk Sq
  replace Sr := Aside0.mk Sr
  go_wp2_with fail
  refine (skShared _ _ _ _ 6 _ exShared _ (S1.out _ (by repeat (first | exact Below.refl _ _ | apply below_alloc | apply pw_below_drewN))) (S2.out _ (by repeat (first | exact Below.refl _ _ | apply below_alloc | apply pw_below_drewN)))).mono ?_
  rintro en w16 ⟨rfl, hb⟩
  replace SL := Aside0.mk (SL.out.mono hb)
  replace S1 := Aside0.mk (S1.out.mono hb)
  replace S2 := Aside0.mk (S2.out.mono hb)
  replace Ss := Aside0.mk (Ss.out.mono hb)
  replace Sp := Aside0.mk (Sp.out.mono hb)
  replace Sq := Aside0.mk (Sq.out.mono hb)
  replace Sr := Aside0.mk (Sr.out.mono hb)
  replace HB := Aside0.mk (HB.out.trans (hb.mono HB.out.size))
  clear hb
  clear S1 S2
  go_wp2_with fail
  refine (skCheck _ _ _ exCheck _ (SL.out _ (by repeat (first | exact Below.refl _ _ | apply below_alloc | apply pw_below_drewN)))).mono ?_
  rintro en w17 ⟨rfl, hb⟩
  replace SL := Aside0.mk (SL.out.mono hb)
  replace Ss := Aside0.mk (Ss.out.mono hb)
  replace Sp := Aside0.mk (Sp.out.mono hb)
  replace Sq := Aside0.mk (Sq.out.mono hb)
  replace Sr := Aside0.mk (Sr.out.mono hb)
  replace HB := Aside0.mk (HB.out.trans (hb.mono HB.out.size))
  clear hb
  go_wp2_with fail
  refine (skLengths _ _ 5 _ exLengths _ (Sl.lit_at _ _ (by simp) _ [0, 2, 2] _ rfl (by simp))).mono ?_
  rintro en w18 ⟨vu, rfl, Su, hb⟩
  replace hb := below_allocs1 hb
  replace SL := Aside0.mk (SL.out.mono hb)
  replace Ss := Aside0.mk (Ss.out.mono hb)
  replace Sp := Aside0.mk (Sp.out.mono hb)
  replace Sq := Aside0.mk (Sq.out.mono hb)
  replace Sr := Aside0.mk (Sr.out.mono hb)
  replace HB := Aside0.mk (HB.out.trans (hb.mono HB.out.size))
  clear hb
  replace Su := Aside0.mk Su
  go_wp2_with fail
  refine (skOfHeads _ _ _ exOfHeads _ (Sl.lit_at _ _ (by simp) _ [2, 1] _ rfl (by simp))).mono ?_
  rintro en w19 ⟨vv, rfl, Sv, hb⟩
  replace hb := below_allocs1 hb
  replace SL := Aside0.mk (SL.out.mono hb)
  replace Ss := Aside0.mk (Ss.out.mono hb)
  replace Sp := Aside0.mk (Sp.out.mono hb)
  replace Sq := Aside0.mk (Sq.out.mono hb)
  replace Sr := Aside0.mk (Sr.out.mono hb)
  replace Su := Aside0.mk (Su.out.mono hb)
  replace HB := Aside0.mk (HB.out.trans (hb.mono HB.out.size))
  clear hb
  replace Sv := Aside0.mk Sv
  go_wp2_with fail
  refine (skOfOwners _ _ 4 _ exOfOwners _ (Sl.lit_at _ _ (by simp) _ [0, 0, 2] _ rfl (by simp))).mono ?_
  rintro en w20 ⟨vw, rfl, Sw, hb⟩
  replace hb := below_allocs1 hb
  replace SL := Aside0.mk (SL.out.mono hb)
  replace Ss := Aside0.mk (Ss.out.mono hb)
  replace Sp := Aside0.mk (Sp.out.mono hb)
  replace Sq := Aside0.mk (Sq.out.mono hb)
  replace Sr := Aside0.mk (Sr.out.mono hb)
  replace Su := Aside0.mk (Su.out.mono hb)
  replace Sv := Aside0.mk (Sv.out.mono hb)
  replace HB := Aside0.mk (HB.out.trans (hb.mono HB.out.size))
  clear hb
  replace Sw := Aside0.mk Sw
  go_wp2_with fail
  refine (skSame _ [(1, 4)] _ _ (by simp) (Ss.out _ (by repeat (first | exact Below.refl _ _ | apply below_alloc | apply pw_below_drewN))) true (by decide)).mono ?_
  rintro en w21 ⟨rfl, hb⟩
  replace hb := below_allocs1 hb
  replace SL := Aside0.mk (SL.out.mono hb)
  replace Ss := Aside0.mk (Ss.out.mono hb)
  replace Sp := Aside0.mk (Sp.out.mono hb)
  replace Sq := Aside0.mk (Sq.out.mono hb)
  replace Sr := Aside0.mk (Sr.out.mono hb)
  replace Su := Aside0.mk (Su.out.mono hb)
  replace Sv := Aside0.mk (Sv.out.mono hb)
  replace Sw := Aside0.mk (Sw.out.mono hb)
  replace HB := Aside0.mk (HB.out.trans (hb.mono HB.out.size))
  clear hb
  clear Ss
  go_wp2_with fail
  refine (skEqual _ [1, 2, 3, 3, 4] _ [1, 2, 3, 3, 4] true (by decide) _ (Sp.out _ (by repeat (first | exact Below.refl _ _ | apply below_alloc | apply pw_below_drewN))) (Sl.lit_at _ _ (by simp) _ [1, 2, 3, 3, 4] _ rfl (by simp))).mono ?_
  rintro en w22 ⟨rfl, hb⟩
  replace hb := below_allocs1 hb
  replace SL := Aside0.mk (SL.out.mono hb)
  replace Sp := Aside0.mk (Sp.out.mono hb)
  replace Sq := Aside0.mk (Sq.out.mono hb)
  replace Sr := Aside0.mk (Sr.out.mono hb)
  replace Su := Aside0.mk (Su.out.mono hb)
  replace Sv := Aside0.mk (Sv.out.mono hb)
  replace Sw := Aside0.mk (Sw.out.mono hb)
  replace HB := Aside0.mk (HB.out.trans (hb.mono HB.out.size))
  clear hb
  clear Sp
  go_wp2_with fail
  refine (skEqual _ [0, 2, 0] _ [0, 2, 0] true (by decide) _ (Sq.out _ (by repeat (first | exact Below.refl _ _ | apply below_alloc | apply pw_below_drewN))) (Sl.lit_at _ _ (by simp) _ [0, 2, 0] _ rfl (by simp))).mono ?_
  rintro en w23 ⟨rfl, hb⟩
  replace hb := below_allocs1 hb
  replace SL := Aside0.mk (SL.out.mono hb)
  replace Sq := Aside0.mk (Sq.out.mono hb)
  replace Sr := Aside0.mk (Sr.out.mono hb)
  replace Su := Aside0.mk (Su.out.mono hb)
  replace Sv := Aside0.mk (Sv.out.mono hb)
  replace Sw := Aside0.mk (Sw.out.mono hb)
  replace HB := Aside0.mk (HB.out.trans (hb.mono HB.out.size))
  clear hb
  clear Sq
  go_wp2_with fail
  refine (skEqual _ [1, 2, 3, 4] _ [1, 2, 3, 4] true (by decide) _ (Sr.out _ (by repeat (first | exact Below.refl _ _ | apply below_alloc | apply pw_below_drewN))) (Sl.lit_at _ _ (by simp) _ [1, 2, 3, 4] _ rfl (by simp))).mono ?_
  rintro en w24 ⟨rfl, hb⟩
  replace hb := below_allocs1 hb
  replace SL := Aside0.mk (SL.out.mono hb)
  replace Sr := Aside0.mk (Sr.out.mono hb)
  replace Su := Aside0.mk (Su.out.mono hb)
  replace Sv := Aside0.mk (Sv.out.mono hb)
  replace Sw := Aside0.mk (Sw.out.mono hb)
  replace HB := Aside0.mk (HB.out.trans (hb.mono HB.out.size))
  clear hb
  clear Sr
  go_wp2_with fail
  refine (skEqual _ [2, 0, 3] _ [2, 0, 3] true (by decide) _ (Su.out _ (by repeat (first | exact Below.refl _ _ | apply below_alloc | apply pw_below_drewN))) (SL.out _ (by repeat (first | exact Below.refl _ _ | apply below_alloc | apply pw_below_drewN)))).mono ?_
  rintro en w25 ⟨rfl, hb⟩
  replace SL := Aside0.mk (SL.out.mono hb)
  replace Su := Aside0.mk (Su.out.mono hb)
  replace Sv := Aside0.mk (Sv.out.mono hb)
  replace Sw := Aside0.mk (Sw.out.mono hb)
  replace HB := Aside0.mk (HB.out.trans (hb.mono HB.out.size))
  clear hb
  clear Su SL
  go_wp2_with fail
  refine (skEqual _ [0, 1, 0] _ [0, 1, 0] true (by decide) _ (Sv.out _ (by repeat (first | exact Below.refl _ _ | apply below_alloc | apply pw_below_drewN))) (Sl.lit_at _ _ (by simp) _ [0, 1, 0] _ rfl (by simp))).mono ?_
  rintro en w26 ⟨rfl, hb⟩
  replace hb := below_allocs1 hb
  replace Sv := Aside0.mk (Sv.out.mono hb)
  replace Sw := Aside0.mk (Sw.out.mono hb)
  replace HB := Aside0.mk (HB.out.trans (hb.mono HB.out.size))
  clear hb
  clear Sv
  go_wp2_with fail
  refine (skEqual _ [2, 0, 1, 0] _ [2, 0, 1, 0] true (by decide) _ (Sw.out _ (by repeat (first | exact Below.refl _ _ | apply below_alloc | apply pw_below_drewN))) (Sl.lit_at _ _ (by simp) _ [2, 0, 1, 0] _ rfl (by simp))).mono ?_
  rintro en w27 ⟨rfl, hb⟩
  replace hb := below_allocs1 hb
  replace Sw := Aside0.mk (Sw.out.mono hb)
  replace HB := Aside0.mk (HB.out.trans (hb.mono HB.out.size))
  clear hb
  clear Sw
  go_wp2
  unfold MarksPost
  refine Marks.zero _ (results_tmp rfl _ _ _) ?_
  exact ⟨rfl, HB.out⟩
def law_cut.f : Option Bool := some true
theorem law_cut.calls (r : Bool) (w : World) (h : law_cut.f = some r) :
    Calls Try.prog 13 #[] w fun e w' => e = .returned (.bool r) ∧ Below w.heap.size w w' := by
  have h2 : true = r := by injection h
  subst h2
  exact law_cut w
end Go.Proofs.Ythalgcpohnknbaa.Hand
