/- sheafworkslaw07.RankKnown: what is said of single lists comes out as it must. No condition. -/
import Derived.Test.YtnkepaenpoadpaaK5
namespace Go.Proofs.Ytnkepaenpoadpaa.Hand
open Go.RowKit Go.Proofs.YtnkepaenpoadpaaW.PrintWords Go.Proofs.YtnkepaenpoadpaaW.PrintLast Go.Proofs.YtnkepaenpoadpaaW.PrintMore
open Go.Sort
set_option linter.unusedVariables false
set_option linter.unusedSimpArgs false
theorem Sl.none (w : World) : Sl w (.slice none 0 0) [] := ⟨Option.none, 0, rfl, Nat.le_refl _, Kd.C_nil _ _⟩
theorem Sl.take {w : World} {A : Option Addr} {c m : Nat} {l : List Int} (h : Sl w (.slice A l.length c) l) (hm : m ≤ l.length) : Sl w (.slice A m c) (l.take m) := by
  obtain ⟨A2, c2, he, h2, h3⟩ := h
  injection he with e1 e2 e3
  subst e1
  subst e3
  have h4 := Kd.C_take h3 hm
  have e : (l.take m).length = m := by rw [List.length_take]; omega
  rw [e] at h4
  exact ⟨A, c, by rw [e], by omega, by rw [e]; exact h4⟩
theorem knL1 (zs : List Int) : rank_Compose.g [0, 0] zs = ([], 1) := by
  unfold rank_Compose.g
  rw [exCheck2]
  rfl
theorem knL2 (zs : List Int) (h : zs.length = 1048577) : rank_Order.g zs [] = ([], 3) := by
  have e : wordsE [zs, []] = 3 := by
    unfold wordsE
    rw [if_pos]
    simp [h]
  have e2 : openE zs [] = 3 := by
    unfold openE
    rw [e]
    rfl
  unfold rank_Order.g
  rw [e2]
  rfl
theorem knL3 (zs : List Int) (h : zs.length = 1048577) : rank_Merge.g (zs.take 1048576) [1] = ([], [], 3) := by
  unfold rank_Merge.g
  rw [if_pos]
  rw [List.length_take, h]
  decide
theorem knL4 (zs : List Int) (h : zs.length = 1048577) : rank_Check.g zs = 3 := by
  unfold rank_Check.g
  rw [if_pos (by omega)]
theorem below_allocs6 {w W : World} {a b c d e f : Obj} (h : Below ((((((w.alloc a).alloc b).alloc c).alloc d).alloc e).alloc f).heap.size ((((((w.alloc a).alloc b).alloc c).alloc d).alloc e).alloc f) W) : Below w.heap.size w W := below_allocs2 (below_allocs2 (below_allocs2 h))
theorem kni : rank_Inverse.g [0, 2] = ([], 1) := by decide +kernel
theorem kn1 : rank_Compose.g [1, 0] [0, 0] = ([], 1) := by decide +kernel
theorem kn2 : rank_Compose.g [1, 0] [0] = ([], 6) := by decide +kernel
theorem kn3 : rank_Split.g [2147483648] [7] = ([], 2) := by decide +kernel
theorem kn4 : rank_Split.g [1, 0] [1] = ([], 6) := by decide +kernel
theorem kn5 : rank_Passes.g [1] [1] 33 = ([], 2) := by decide +kernel
theorem kn6 : rank_Passes.g [1] [1] (-1) = ([], 2) := by decide +kernel
theorem kn7 : rank_Passes.g [1] [2, (-1)] (-1) = ([], 6) := by decide +kernel
theorem kn8 : rank_Order.g [1] [2147483648] = ([], 2) := by decide +kernel
theorem kn9 : rank_Merge.g [2, 1] [] = ([], [], 7) := by decide +kernel
theorem kn10 : rank_Merge.g [] [2, 1] = ([], [], 7) := by decide +kernel
theorem kn11 : rank_Merge.g [2, 1] [2147483648] = ([], [], 2) := by decide +kernel
theorem kn12 : rank_Ranks.g [2147483648] [1] = ([], 2) := by decide +kernel
theorem kn13 : rank_Firsts.g [1] [] = ([], [], 6) := by decide +kernel
theorem kn14 : rank_Split.g [1, 0, 0, 5] [4] = ([2, 0, 1, 3], 0) := by decide +kernel
theorem kn15 : rank_Passes.g [3, 2] [2] 0 = ([0, 1], 0) := by decide +kernel
theorem knS1 : sortedG (startOf [4] ((0 : Nat) : Int)) (segOf [2147483647, 0, (-2147483648), (-1)] [4] 0) = [((-2147483648), 2), ((-1), 3), (0, 1), (2147483647, 0)] := sort_is _ _ (by decide +kernel) (by decide +kernel)
theorem knOrder : rank_Order.g [2147483647, 0, (-2147483648), (-1)] [4] = ([3, 2, 0, 1], 0) := by
  have h0 : openE [2147483647, 0, (-2147483648), (-1)] [4] = 0 := by decide +kernel
  unfold rank_Order.g
  rw [if_pos h0]
  show (setsTo _ (sortedG (startOf [4] ((0 : Nat) : Int)) (segOf [2147483647, 0, (-2147483648), (-1)] [4] 0)) _ _, (0 : Int)) = _
  rw [knS1]
  decide +kernel
theorem kn16 : rank_Inverse.g [] = ([], 0) := by decide +kernel
theorem kn17 : rank_Firsts.g [] [0, 0] = ([], [0, 0], 0) := by decide +kernel
theorem kn18 : rank_Merge.g [] [] = ([], [], 0) := by decide +kernel
theorem kn19 : rank_Split.g [0, (-1)] [0, 2, 0] = ([0, 1], 0) := by decide +kernel
theorem kn20 : rank_Check.g [] = 0 := by decide +kernel
theorem kc0 : rank_Check.g [1] = 1 := by decide +kernel
theorem kc1 : rank_Check.g [0, 0] = 1 := by decide +kernel
theorem kc2 : rank_Check.g [(-1), 0] = 1 := by decide +kernel
theorem kc3 : rank_Check.g [0, 1, 3] = 1 := by decide +kernel
theorem kc4 : rank_Check.g [4611686018427387904] = 1 := by decide +kernel
set_option maxHeartbeats 40000000 in
set_option maxRecDepth 100000 in
theorem law_known (w : World) : Calls Try.prog 12 #[] w fun e w' => e = .returned (.bool true) ∧ Below w.heap.size w w' := by
  have HB := Aside0.mk (Below.refl w.heap.size w)
  refine calls_of_marks Try.func12 rfl ?_
  simp only [Try.ntmps12, List.size_toArray, List.length_cons, List.length_nil, Nat.reduceAdd, Nat.reduceSub, Array.replicate_succ, Array.replicate_zero, List.push_toArray, List.append_toArray, List.nil_append, List.cons_append]
  go_wp2_with ((with_reducible refine gate_ (.makeSlice 22 (.const (.int .i64 1048577)) (.const (.int .i64 1048577))) rfl ?_); refine Kd.R_make (Kd.int .i64) (w0 := w) w.heap.size 3 rfl rfl 22 (.const (.int .i64 1048577)) (.const (.int .i64 1048577)) rfl (1048577 : Int) rfl rfl Try.underlying22 (.int .i64 0) 8 infoInt rfl (by decide) (by decide) 0 (ok := fun b => w.heap.size ≤ b) (okp := fun _ => False) rfl (fun _ h => h.elim) (Nat.le_refl _) (by omega) (by decide) (Below.refl _ _) (Nat.le_refl _) ?_; intro v6 w6 hR6 hb6 hg6 hat6; replace hb6 := Aside0.mk hb6; clear hg6 hat6; obtain ⟨zs, hzs⟩ : ∃ zs : List Int, zs = List.replicate (1048577 : Int).toNat 0 := ⟨_, rfl⟩; rw [← hzs] at hR6; have hzn : Aside0 (zs.length = 1048577) := ⟨by rw [hzs, List.length_replicate]; rfl⟩; clear hzs; replace hR6 := Aside0.mk hR6; obtain ⟨A6, c6, hv6⟩ : ∃ A6 c6, v6 = .slice A6 zs.length c6 := Kd.R_slice hR6.out; subst hv6)
  refine (skInverse _ _ _ kni _ (Sl.lit_at _ _ (by simp) _ [0, 2] _ rfl (by simp))).mono ?_
  rintro en w1 ⟨va, rfl, Sa, hb⟩
  have SW := Aside0.mk (show Sk w1 (.slice (some ⟨w6.heap.size, 0, none⟩) 1 1) [2147483648] from fun W hW => (((Sl.lit_at w6 w6.heap.size rfl 3 [2147483648] #[.int .i64 2147483648] rfl (by simp)).alloc _) : Sl _ _ _).below (hb.trans (hW.mono hb.size)))
  replace hb := below_allocs2 hb
  have SL := Aside0.mk ((V_Sk (Kd.R_V (base' := w.heap.size) hR6.out) : Sk w6 _ zs).mono hb)
  have hc7 : (1048576 : Int) ≤ (c6 : Int) := by have h := (Kd.R_reads' hR6.out).2.1; have := hzn.out; omega
  replace HB := Aside0.mk (hb6.out.trans (hb.mono hb6.out.size))
  clear hb hR6 hb6 Sa
  go_wp2_with fail
  refine (skCompose _ _ _ zs _ (knL1 zs) _ (Sl.lit_at _ _ (by simp) _ [0, 0] _ rfl (by simp)) (SL.out _ (by repeat (first | exact Below.refl _ _ | apply below_alloc | apply pw_below_drewN)))).mono ?_
  rintro en w2 ⟨va, rfl, Sa, hb⟩
  replace hb := below_allocs1 hb
  replace SL := Aside0.mk (SL.out.mono hb)
  replace SW := Aside0.mk (SW.out.mono hb)
  replace HB := Aside0.mk (HB.out.trans (hb.mono HB.out.size))
  clear hb
  clear Sa
  go_wp2_with fail
  refine (skCompose _ _ _ _ _ kn1 _ ((Sl.lit_at _ _ (by simp) _ [1, 0] _ rfl (by simp)).alloc _) (Sl.lit_at _ _ (by simp) _ [0, 0] _ rfl (by simp))).mono ?_
  rintro en w3 ⟨va, rfl, Sa, hb⟩
  replace hb := below_allocs2 hb
  replace SL := Aside0.mk (SL.out.mono hb)
  replace SW := Aside0.mk (SW.out.mono hb)
  replace HB := Aside0.mk (HB.out.trans (hb.mono HB.out.size))
  clear hb
  clear Sa
  go_wp2_with fail
  refine (skCompose _ _ _ _ _ kn2 _ ((Sl.lit_at _ _ (by simp) _ [1, 0] _ rfl (by simp)).alloc _) (Sl.lit_at _ _ (by simp) _ [0] _ rfl (by simp))).mono ?_
  rintro en w4 ⟨va, rfl, Sa, hb⟩
  replace hb := below_allocs2 hb
  replace SL := Aside0.mk (SL.out.mono hb)
  replace SW := Aside0.mk (SW.out.mono hb)
  replace HB := Aside0.mk (HB.out.trans (hb.mono HB.out.size))
  clear hb
  clear Sa
  go_wp2_with fail
  refine (skSplit _ _ _ _ _ kn3 _ (SW.out _ (by repeat (first | exact Below.refl _ _ | apply below_alloc | apply pw_below_drewN))) (Sl.lit_at _ _ (by simp) _ [7] _ rfl (by simp))).mono ?_
  rintro en w5 ⟨va, rfl, Sa, hb⟩
  replace hb := below_allocs1 hb
  replace SL := Aside0.mk (SL.out.mono hb)
  replace SW := Aside0.mk (SW.out.mono hb)
  replace HB := Aside0.mk (HB.out.trans (hb.mono HB.out.size))
  clear hb
  clear Sa
  go_wp2_with fail
  refine (skSplit _ _ _ _ _ kn4 _ ((Sl.lit_at _ _ (by simp) _ [1, 0] _ rfl (by simp)).alloc _) (Sl.lit_at _ _ (by simp) _ [1] _ rfl (by simp))).mono ?_
  rintro en w6 ⟨va, rfl, Sa, hb⟩
  replace hb := below_allocs2 hb
  replace SL := Aside0.mk (SL.out.mono hb)
  replace SW := Aside0.mk (SW.out.mono hb)
  replace HB := Aside0.mk (HB.out.trans (hb.mono HB.out.size))
  clear hb
  clear Sa
  go_wp2_with fail
  refine (skPasses _ _ _ _ 33 _ kn5 _ ((Sl.lit_at _ _ (by simp) _ [1] _ rfl (by simp)).alloc _) (Sl.lit_at _ _ (by simp) _ [1] _ rfl (by simp))).mono ?_
  rintro en w7 ⟨va, rfl, Sa, hb⟩
  replace hb := below_allocs2 hb
  replace SL := Aside0.mk (SL.out.mono hb)
  replace SW := Aside0.mk (SW.out.mono hb)
  replace HB := Aside0.mk (HB.out.trans (hb.mono HB.out.size))
  clear hb
  clear Sa
  go_wp2_with fail
  refine (skPasses _ _ _ _ (-1) _ kn6 _ ((Sl.lit_at _ _ (by simp) _ [1] _ rfl (by simp)).alloc _) (Sl.lit_at _ _ (by simp) _ [1] _ rfl (by simp))).mono ?_
  rintro en w8 ⟨va, rfl, Sa, hb⟩
  replace hb := below_allocs2 hb
  replace SL := Aside0.mk (SL.out.mono hb)
  replace SW := Aside0.mk (SW.out.mono hb)
  replace HB := Aside0.mk (HB.out.trans (hb.mono HB.out.size))
  clear hb
  clear Sa
  go_wp2_with fail
  refine (skPasses _ _ _ _ (-1) _ kn7 _ ((Sl.lit_at _ _ (by simp) _ [1] _ rfl (by simp)).alloc _) (Sl.lit_at _ _ (by simp) _ [2, (-1)] _ rfl (by simp))).mono ?_
  rintro en w9 ⟨va, rfl, Sa, hb⟩
  replace hb := below_allocs2 hb
  replace SL := Aside0.mk (SL.out.mono hb)
  replace SW := Aside0.mk (SW.out.mono hb)
  replace HB := Aside0.mk (HB.out.trans (hb.mono HB.out.size))
  clear hb
  clear Sa
  go_wp2_with fail
  refine (skOrder _ zs _ [] _ (knL2 zs hzn.out) _ (SL.out _ (by repeat (first | exact Below.refl _ _ | apply below_alloc | apply pw_below_drewN))) (Sl.none _)).mono ?_
  rintro en w10 ⟨va, rfl, Sa, hb⟩
  replace SL := Aside0.mk (SL.out.mono hb)
  replace SW := Aside0.mk (SW.out.mono hb)
  replace HB := Aside0.mk (HB.out.trans (hb.mono HB.out.size))
  clear hb
  clear Sa
  go_wp2_with fail
  refine (skOrder _ _ _ _ _ kn8 _ (Sl.lit_at _ _ (by simp) _ [1] _ rfl (by simp)) (SW.out _ (by repeat (first | exact Below.refl _ _ | apply below_alloc | apply pw_below_drewN)))).mono ?_
  rintro en w11 ⟨va, rfl, Sa, hb⟩
  replace hb := below_allocs1 hb
  replace SL := Aside0.mk (SL.out.mono hb)
  replace SW := Aside0.mk (SW.out.mono hb)
  replace HB := Aside0.mk (HB.out.trans (hb.mono HB.out.size))
  clear hb
  clear Sa
  go_wp2_with fail
  refine (skMerge _ _ _ [] _ kn9 _ (Sl.lit_at _ _ (by simp) _ [2, 1] _ rfl (by simp)) (Sl.none _)).mono ?_
  rintro en w12 ⟨va, vb, rfl, Sa, Sb, hb⟩
  replace hb := below_allocs1 hb
  replace SL := Aside0.mk (SL.out.mono hb)
  replace SW := Aside0.mk (SW.out.mono hb)
  replace HB := Aside0.mk (HB.out.trans (hb.mono HB.out.size))
  clear hb
  clear Sa Sb
  go_wp2_with fail
  refine (skMerge _ [] _ _ _ kn10 _ (Sl.none _) (Sl.lit_at _ _ (by simp) _ [2, 1] _ rfl (by simp))).mono ?_
  rintro en w13 ⟨va, vb, rfl, Sa, Sb, hb⟩
  replace hb := below_allocs1 hb
  replace SL := Aside0.mk (SL.out.mono hb)
  replace SW := Aside0.mk (SW.out.mono hb)
  replace HB := Aside0.mk (HB.out.trans (hb.mono HB.out.size))
  clear hb
  clear Sa Sb
  go_wp2_with fail
  refine (skMerge _ _ _ _ _ kn11 _ (Sl.lit_at _ _ (by simp) _ [2, 1] _ rfl (by simp)) (SW.out _ (by repeat (first | exact Below.refl _ _ | apply below_alloc | apply pw_below_drewN)))).mono ?_
  rintro en w14 ⟨va, vb, rfl, Sa, Sb, hb⟩
  replace hb := below_allocs1 hb
  replace SL := Aside0.mk (SL.out.mono hb)
  replace SW := Aside0.mk (SW.out.mono hb)
  replace HB := Aside0.mk (HB.out.trans (hb.mono HB.out.size))
  clear hb
  clear Sa Sb
  go_wp2_with fail
  refine (skMerge _ (zs.take 1048576) _ _ _ (knL3 zs hzn.out) _ (Sl.take (SL.out _ (by repeat (first | exact Below.refl _ _ | apply below_alloc | apply pw_below_drewN))) (by have := hzn.out; omega)) (Sl.lit_at _ _ (by simp) _ [1] _ rfl (by simp))).mono ?_
  rintro en w15 ⟨va, vb, rfl, Sa, Sb, hb⟩
  replace hb := below_allocs1 hb
  replace SL := Aside0.mk (SL.out.mono hb)
  replace SW := Aside0.mk (SW.out.mono hb)
  replace HB := Aside0.mk (HB.out.trans (hb.mono HB.out.size))
  clear hb
  clear Sa Sb
  go_wp2_with fail
  refine (skRanks _ _ _ _ _ kn12 _ (SW.out _ (by repeat (first | exact Below.refl _ _ | apply below_alloc | apply pw_below_drewN))) (Sl.lit_at _ _ (by simp) _ [1] _ rfl (by simp))).mono ?_
  rintro en w16 ⟨va, rfl, Sa, hb⟩
  replace hb := below_allocs1 hb
  replace SL := Aside0.mk (SL.out.mono hb)
  replace SW := Aside0.mk (SW.out.mono hb)
  replace HB := Aside0.mk (HB.out.trans (hb.mono HB.out.size))
  clear hb
  clear Sa
  go_wp2_with fail
  refine (skFirsts _ _ _ [] _ kn13 _ (Sl.lit_at _ _ (by simp) _ [1] _ rfl (by simp)) (Sl.none _)).mono ?_
  rintro en w17 ⟨va, vb, rfl, Sa, Sb, hb⟩
  replace hb := below_allocs1 hb
  replace SL := Aside0.mk (SL.out.mono hb)
  replace SW := Aside0.mk (SW.out.mono hb)
  replace HB := Aside0.mk (HB.out.trans (hb.mono HB.out.size))
  clear hb
  clear Sa Sb
  go_wp2
  go_loopw [42] (fun i W => ∃ m : Nat, i = .int .i64 (m : Int) ∧ m ≤ 5 ∧ Aside0 (Below w17.heap.size w17 W)) (fun i _ => 5 - (intOf i).toNat)
  case atStart => exact ⟨0, rfl, by omega, ⟨Below.refl _ _⟩⟩
  case round =>
    revert wr
    intro wo hrel
    obtain ⟨m, rfl, hm, hbl⟩ := hrel
    by_cases hlt : m < 5
    · obtain h | h | h | h | h : m = 0 ∨ m = 1 ∨ m = 2 ∨ m = 3 ∨ m = 4 := by omega
      · subst h
        clear hm hlt
        go_wp2_with fail
        refine (skCheck _ _ 1 kc0 _ ((((((Sl.lit_at _ _ (by simp) _ [1] _ rfl (by simp)).alloc _).alloc _).alloc _).alloc _).alloc _)).mono ?_
        rintro en wz ⟨rfl, hb⟩
        replace hb := Aside0.mk (hbl.out.trans ((below_allocs6 hb).mono hbl.out.size))
        go_wp2
        go_roundw
        case rel => exact ⟨1, by simp, by omega, hb⟩
        case measure => simp [intOf]
      · subst h
        clear hm hlt
        go_wp2_with fail
        refine (skCheck _ _ 1 kc1 _ (((((Sl.lit_at _ _ (by simp) _ [0, 0] _ rfl (by simp)).alloc _).alloc _).alloc _).alloc _)).mono ?_
        rintro en wz ⟨rfl, hb⟩
        replace hb := Aside0.mk (hbl.out.trans ((below_allocs6 hb).mono hbl.out.size))
        go_wp2
        go_roundw
        case rel => exact ⟨2, by simp, by omega, hb⟩
        case measure => simp [intOf]
      · subst h
        clear hm hlt
        go_wp2_with fail
        refine (skCheck _ _ 1 kc2 _ ((((Sl.lit_at _ _ (by simp) _ [(-1), 0] _ rfl (by simp)).alloc _).alloc _).alloc _)).mono ?_
        rintro en wz ⟨rfl, hb⟩
        replace hb := Aside0.mk (hbl.out.trans ((below_allocs6 hb).mono hbl.out.size))
        go_wp2
        go_roundw
        case rel => exact ⟨3, by simp, by omega, hb⟩
        case measure => simp [intOf]
      · subst h
        clear hm hlt
        go_wp2_with fail
        refine (skCheck _ _ 1 kc3 _ (((Sl.lit_at _ _ (by simp) _ [0, 1, 3] _ rfl (by simp)).alloc _).alloc _)).mono ?_
        rintro en wz ⟨rfl, hb⟩
        replace hb := Aside0.mk (hbl.out.trans ((below_allocs6 hb).mono hbl.out.size))
        go_wp2
        go_roundw
        case rel => exact ⟨4, by simp, by omega, hb⟩
        case measure => simp [intOf]
      · subst h
        clear hm hlt
        go_wp2_with fail
        refine (skCheck _ _ 1 kc4 _ ((Sl.lit_at _ _ (by simp) _ [4611686018427387904] _ rfl (by simp)).alloc _)).mono ?_
        rintro en wz ⟨rfl, hb⟩
        replace hb := Aside0.mk (hbl.out.trans ((below_allocs6 hb).mono hbl.out.size))
        go_wp2
        go_roundw
        case rel => exact ⟨5, by simp, by omega, hb⟩
        case measure => simp [intOf]
    · obtain rfl : m = 5 := by omega
      clear hlt hm
      have hb := hbl.out
      replace SL := Aside0.mk (SL.out.mono hb)
      replace SW := Aside0.mk (SW.out.mono hb)
      replace HB := Aside0.mk (HB.out.trans (hb.mono HB.out.size))
      clear hb hbl
      go_wp2_with fail
      refine (skSplit _ _ _ _ _ kn14 _ ((Sl.lit_at _ _ (by simp) _ [1, 0, 0, 5] _ rfl (by simp)).alloc _) (Sl.lit_at _ _ (by simp) _ [4] _ rfl (by simp))).mono ?_
      rintro en w18 ⟨vSx, rfl, Sx, hb⟩
      replace hb := below_allocs2 hb
      replace SL := Aside0.mk (SL.out.mono hb)
      replace SW := Aside0.mk (SW.out.mono hb)
      replace HB := Aside0.mk (HB.out.trans (hb.mono HB.out.size))
      clear hb
      replace Sx := Aside0.mk Sx
      go_wp2_with fail
      refine (skPasses _ _ _ _ 0 _ kn15 _ ((Sl.lit_at _ _ (by simp) _ [3, 2] _ rfl (by simp)).alloc _) (Sl.lit_at _ _ (by simp) _ [2] _ rfl (by simp))).mono ?_
      rintro en w19 ⟨vSy, rfl, Sy, hb⟩
      replace hb := below_allocs2 hb
      replace SL := Aside0.mk (SL.out.mono hb)
      replace SW := Aside0.mk (SW.out.mono hb)
      replace Sx := Aside0.mk (Sx.out.mono hb)
      replace HB := Aside0.mk (HB.out.trans (hb.mono HB.out.size))
      clear hb
      replace Sy := Aside0.mk Sy
      go_wp2_with fail
      refine (skOrder _ _ _ _ _ knOrder _ ((Sl.lit_at _ _ (by simp) _ [2147483647, 0, (-2147483648), (-1)] _ rfl (by simp)).alloc _) (Sl.lit_at _ _ (by simp) _ [4] _ rfl (by simp))).mono ?_
      rintro en w20 ⟨vSz, rfl, Sz, hb⟩
      replace hb := below_allocs2 hb
      replace SL := Aside0.mk (SL.out.mono hb)
      replace SW := Aside0.mk (SW.out.mono hb)
      replace Sx := Aside0.mk (Sx.out.mono hb)
      replace Sy := Aside0.mk (Sy.out.mono hb)
      replace HB := Aside0.mk (HB.out.trans (hb.mono HB.out.size))
      clear hb
      replace Sz := Aside0.mk Sz
      go_wp2_with fail
      refine (skInverse _ [] _ kn16 _ (Sl.none _)).mono ?_
      rintro en w21 ⟨vSn, rfl, Sn, hb⟩
      replace SL := Aside0.mk (SL.out.mono hb)
      replace SW := Aside0.mk (SW.out.mono hb)
      replace Sx := Aside0.mk (Sx.out.mono hb)
      replace Sy := Aside0.mk (Sy.out.mono hb)
      replace Sz := Aside0.mk (Sz.out.mono hb)
      replace HB := Aside0.mk (HB.out.trans (hb.mono HB.out.size))
      clear hb
      replace Sn := Aside0.mk Sn
      obtain ⟨An, cn, hvn, -, -⟩ := Sn.out _ (Below.refl _ _)
      simp only [List.length_nil] at hvn
      subst hvn
      clear Sn
      go_wp2_with fail
      refine (skFirsts _ [] _ _ _ kn17 _ (Sl.none _) (Sl.lit_at _ _ (by simp) _ [0, 0] _ rfl (by simp))).mono ?_
      rintro en w22 ⟨vSu, vSv, rfl, Su, Sv, hb⟩
      replace hb := below_allocs1 hb
      replace SL := Aside0.mk (SL.out.mono hb)
      replace SW := Aside0.mk (SW.out.mono hb)
      replace Sx := Aside0.mk (Sx.out.mono hb)
      replace Sy := Aside0.mk (Sy.out.mono hb)
      replace Sz := Aside0.mk (Sz.out.mono hb)
      replace HB := Aside0.mk (HB.out.trans (hb.mono HB.out.size))
      clear hb
      replace Su := Aside0.mk Su
      replace Sv := Aside0.mk Sv
      obtain ⟨Au, cu, hvu, -, -⟩ := Su.out _ (Below.refl _ _)
      simp only [List.length_nil] at hvu
      subst hvu
      clear Su
      go_wp2_with fail
      refine (skMerge _ [] _ [] _ kn18 _ (Sl.none _) (Sl.none _)).mono ?_
      rintro en w23 ⟨vSs, vSt, rfl, Ss, St, hb⟩
      replace SL := Aside0.mk (SL.out.mono hb)
      replace SW := Aside0.mk (SW.out.mono hb)
      replace Sx := Aside0.mk (Sx.out.mono hb)
      replace Sy := Aside0.mk (Sy.out.mono hb)
      replace Sz := Aside0.mk (Sz.out.mono hb)
      replace Sv := Aside0.mk (Sv.out.mono hb)
      replace HB := Aside0.mk (HB.out.trans (hb.mono HB.out.size))
      clear hb
      replace Ss := Aside0.mk Ss
      replace St := Aside0.mk St
      obtain ⟨As, cs, hvs, -, -⟩ := Ss.out _ (Below.refl _ _)
      simp only [List.length_nil] at hvs
      subst hvs
      clear Ss
      obtain ⟨At, ct, hvt, -, -⟩ := St.out _ (Below.refl _ _)
      simp only [List.length_nil] at hvt
      subst hvt
      clear St
      go_wp2_with fail
      refine (skSplit _ _ _ _ _ kn19 _ ((Sl.lit_at _ _ (by simp) _ [0, (-1)] _ rfl (by simp)).alloc _) (Sl.lit_at _ _ (by simp) _ [0, 2, 0] _ rfl (by simp))).mono ?_
      rintro en w24 ⟨vSw_, rfl, Sw_, hb⟩
      replace hb := below_allocs2 hb
      replace SL := Aside0.mk (SL.out.mono hb)
      replace SW := Aside0.mk (SW.out.mono hb)
      replace Sx := Aside0.mk (Sx.out.mono hb)
      replace Sy := Aside0.mk (Sy.out.mono hb)
      replace Sz := Aside0.mk (Sz.out.mono hb)
      replace Sv := Aside0.mk (Sv.out.mono hb)
      replace HB := Aside0.mk (HB.out.trans (hb.mono HB.out.size))
      clear hb
      replace Sw_ := Aside0.mk Sw_
      go_wp2_with fail
      refine (skEqual _ [2, 0, 1, 3] _ [2, 0, 1, 3] true (by decide) _ (Sx.out _ (by repeat (first | exact Below.refl _ _ | apply below_alloc | apply pw_below_drewN))) (Sl.lit_at _ _ (by simp) _ [2, 0, 1, 3] _ rfl (by simp))).mono ?_
      rintro en w25 ⟨rfl, hb⟩
      replace hb := below_allocs1 hb
      replace SL := Aside0.mk (SL.out.mono hb)
      replace SW := Aside0.mk (SW.out.mono hb)
      replace Sx := Aside0.mk (Sx.out.mono hb)
      replace Sy := Aside0.mk (Sy.out.mono hb)
      replace Sz := Aside0.mk (Sz.out.mono hb)
      replace Sv := Aside0.mk (Sv.out.mono hb)
      replace Sw_ := Aside0.mk (Sw_.out.mono hb)
      replace HB := Aside0.mk (HB.out.trans (hb.mono HB.out.size))
      clear hb
      clear Sx
      go_wp2_with fail
      refine (skEqual _ [0, 1] _ [0, 1] true (by decide) _ (Sy.out _ (by repeat (first | exact Below.refl _ _ | apply below_alloc | apply pw_below_drewN))) (Sl.lit_at _ _ (by simp) _ [0, 1] _ rfl (by simp))).mono ?_
      rintro en w26 ⟨rfl, hb⟩
      replace hb := below_allocs1 hb
      replace SL := Aside0.mk (SL.out.mono hb)
      replace SW := Aside0.mk (SW.out.mono hb)
      replace Sy := Aside0.mk (Sy.out.mono hb)
      replace Sz := Aside0.mk (Sz.out.mono hb)
      replace Sv := Aside0.mk (Sv.out.mono hb)
      replace Sw_ := Aside0.mk (Sw_.out.mono hb)
      replace HB := Aside0.mk (HB.out.trans (hb.mono HB.out.size))
      clear hb
      clear Sy
      go_wp2_with fail
      refine (skEqual _ [3, 2, 0, 1] _ [3, 2, 0, 1] true (by decide) _ (Sz.out _ (by repeat (first | exact Below.refl _ _ | apply below_alloc | apply pw_below_drewN))) (Sl.lit_at _ _ (by simp) _ [3, 2, 0, 1] _ rfl (by simp))).mono ?_
      rintro en w27 ⟨rfl, hb⟩
      replace hb := below_allocs1 hb
      replace SL := Aside0.mk (SL.out.mono hb)
      replace SW := Aside0.mk (SW.out.mono hb)
      replace Sz := Aside0.mk (Sz.out.mono hb)
      replace Sv := Aside0.mk (Sv.out.mono hb)
      replace Sw_ := Aside0.mk (Sw_.out.mono hb)
      replace HB := Aside0.mk (HB.out.trans (hb.mono HB.out.size))
      clear hb
      clear Sz
      go_wp2_with fail
      refine (skEqual _ [0, 0] _ [0, 0] true (by decide) _ (Sv.out _ (by repeat (first | exact Below.refl _ _ | apply below_alloc | apply pw_below_drewN))) (Sl.lit_at _ _ (by simp) _ [0, 0] _ rfl (by simp))).mono ?_
      rintro en w28 ⟨rfl, hb⟩
      replace hb := below_allocs1 hb
      replace SL := Aside0.mk (SL.out.mono hb)
      replace SW := Aside0.mk (SW.out.mono hb)
      replace Sv := Aside0.mk (Sv.out.mono hb)
      replace Sw_ := Aside0.mk (Sw_.out.mono hb)
      replace HB := Aside0.mk (HB.out.trans (hb.mono HB.out.size))
      clear hb
      clear Sv
      go_wp2_with fail
      refine (skEqual _ [0, 1] _ [0, 1] true (by decide) _ (Sw_.out _ (by repeat (first | exact Below.refl _ _ | apply below_alloc | apply pw_below_drewN))) (Sl.lit_at _ _ (by simp) _ [0, 1] _ rfl (by simp))).mono ?_
      rintro en w29 ⟨rfl, hb⟩
      replace hb := below_allocs1 hb
      replace SL := Aside0.mk (SL.out.mono hb)
      replace SW := Aside0.mk (SW.out.mono hb)
      replace Sw_ := Aside0.mk (Sw_.out.mono hb)
      replace HB := Aside0.mk (HB.out.trans (hb.mono HB.out.size))
      clear hb
      clear Sw_
      go_wp2_with fail
      refine (skCheck _ [] 0 kn20 _ (Sl.none _)).mono ?_
      rintro en w30 ⟨rfl, hb⟩
      replace SL := Aside0.mk (SL.out.mono hb)
      replace SW := Aside0.mk (SW.out.mono hb)
      replace HB := Aside0.mk (HB.out.trans (hb.mono HB.out.size))
      clear hb
      go_wp2_with fail
      refine (skCheck _ zs 3 (knL4 zs hzn.out) _ (SL.out _ (by repeat (first | exact Below.refl _ _ | apply below_alloc | apply pw_below_drewN)))).mono ?_
      rintro en w31 ⟨rfl, hb⟩
      replace SL := Aside0.mk (SL.out.mono hb)
      replace SW := Aside0.mk (SW.out.mono hb)
      replace HB := Aside0.mk (HB.out.trans (hb.mono HB.out.size))
      clear hb
      go_wp2_with fail
      refine (law_ranked _).mono ?_
      rintro en w32 ⟨rfl, hb⟩
      replace SL := Aside0.mk (SL.out.mono hb)
      replace SW := Aside0.mk (SW.out.mono hb)
      replace HB := Aside0.mk (HB.out.trans (hb.mono HB.out.size))
      clear hb
      go_wp2
      unfold MarksPost
      refine Marks.zero _ (results_tmp rfl _ _ _) ?_
      exact ⟨rfl, HB.out⟩
end Go.Proofs.Ytnkepaenpoadpaa.Hand
