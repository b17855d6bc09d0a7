/- sheafworkslaw02.SegKnown: what is said of single lists comes out as it must. No condition. -/
import Derived.Test.YthalgcpohnknbaaJ5
namespace Go.Proofs.Ythalgcpohnknbaa.Hand
open Go.RowKit Go.Proofs.YthalgcpohnknbaaW.PrintWords Go.Proofs.YthalgcpohnknbaaW.PrintLast Go.Proofs.YthalgcpohnknbaaW.PrintMore
open Go.Sort
set_option linter.unusedVariables false
set_option linter.unusedSimpArgs false
theorem Sl.none (w : World) : Sl w (.slice none 0 0) [] := ⟨Option.none, 0, rfl, Nat.le_refl _, Kd.C_nil _ _⟩
theorem skSame2 (v : Value) (l : List (Int × Int)) (W : World) (N : Nat) (hN : W.heap.size = N) (h : ∃ A c, v = .slice A l.length c ∧ kE.C (W.alloc (.cells #[.int .i64 0, .int .i64 2, .int .i64 4, .int .i64 1] 52)) A l.length l) (R : Bool) (hR : (l == [(0, 2), (4, 1)]) = R) :
    Calls Try.prog 42 #[v, .slice (some ⟨N, 0, Option.none⟩) 2 2] (W.alloc (.cells #[.int .i64 0, .int .i64 2, .int .i64 4, .int .i64 1] 52)) fun e w' => e = .returned (.bool R) ∧ Below (W.alloc (.cells #[.int .i64 0, .int .i64 2, .int .i64 4, .int .i64 1] 52)).heap.size (W.alloc (.cells #[.int .i64 0, .int .i64 2, .int .i64 4, .int .i64 1] 52)) w' := by
  obtain ⟨A, c, rfl, hC⟩ := h
  subst hR
  exact (law_same A c l (some ⟨N, 0, Option.none⟩) 2 [(0, 2), (4, 1)] _ hC (elems_C (ys := [(0, 2), (4, 1)]) (blk_new_at hN _) (by rfl) (by simp))).mono fun e w' ⟨he, hd⟩ => ⟨he, hd.below⟩
theorem kn1 : seg_Check.g [3, (-1), 4611686018427387904, 4611686018427387904, 4611686018427387904] = (0, 2) := by decide +kernel
theorem kn2 : seg_Starts.g [1048576, 1] = ([], 9) := by decide +kernel
theorem kn3 : seg_Heads.g [4611686018427387904, 4611686018427387904, 4611686018427387904, 4611686018427387904] = ([], 9) := by decide +kernel
theorem kn4 : seg_Owners.g [(-1)] = ([], 2) := by decide +kernel
theorem kn5 : seg_Lengths.g [0, 3, 2] 5 = ([], 7) := by decide +kernel
theorem kn6 : seg_Lengths.g [1] 5 = ([], 7) := by decide +kernel
theorem kn7 : seg_Lengths.g [] 1 = ([], 7) := by decide +kernel
theorem kn8 : seg_Lengths.g [0, 6] 5 = ([], 7) := by decide +kernel
theorem kn9 : seg_Lengths.g [5] (-1) = ([], 2) := by decide +kernel
theorem kn10 : seg_Lengths.g [] 1048577 = ([], 2) := by decide +kernel
theorem kn11 : seg_OfHeads.g [] = ([], 1) := by decide +kernel
theorem kn12 : seg_OfHeads.g [0, 1] = ([], 7) := by decide +kernel
theorem kn13 : seg_OfHeads.g [0, (-1)] = ([], 2) := by decide +kernel
theorem kn14 : seg_OfHeads.g [4611686018427387904, 4611686018427387904, 4611686018427387904] = ([], 9) := by decide +kernel
theorem kn15 : seg_OfOwners.g [1, 0] 2 = ([], 7) := by decide +kernel
theorem kn16 : seg_OfOwners.g [1, 0, 2] 2 = ([], 2) := by decide +kernel
theorem kn17 : seg_OfOwners.g [] (-1) = ([], 2) := by decide +kernel
theorem kn18 : seg_Nest.g [(-1)] [2097152] = ([], 2) := by decide +kernel
theorem kn19 : seg_Nest.g [1] [(-1)] = ([], 2) := by decide +kernel
theorem kn20 : seg_Nest.g [1, 1] [2, 0, 3] = ([], 1) := by decide +kernel
theorem kn21 : seg_Split.g [(-1)] 0 = ([], [], 2) := by decide +kernel
theorem kn22 : seg_Split.g [1] 0 = ([], [], 2) := by decide +kernel
theorem kn23 : seg_Split.g [1] 1048577 = ([], [], 2) := by decide +kernel
theorem kn24 : seg_Shared.g [5] [2] 6 = (0, 2) := by decide +kernel
theorem kn25 : seg_Depth.g [0, 1] [1] 6 = (0, 1) := by decide +kernel
theorem kn26 : seg_Touched.g [7] [0] 6 = ([], 2) := by decide +kernel
theorem kn27 : seg_Places.g [0] [1] (-1) = ([], 2) := by decide +kernel
theorem kn28 : seg_Compact.g [1] [9223372036854775807] 6 = ([], [], 2) := by decide +kernel
theorem kn29 : seg_Places.g [0, 0] [1048576, 1] 1048576 = ([], 9) := by decide +kernel
theorem kn30 : seg_Shared.g [(-1)] [1] 6 = (0, 2) := by decide +kernel
theorem kn31 : seg_Heads.g [] = ([0], 0) := by decide +kernel
theorem kn32 : seg_OfHeads.g [0] = ([], 0) := by decide +kernel
theorem kn33 : seg_OfHeads.g [3] = ([0, 0, 0], 0) := by decide +kernel
theorem kn34 : seg_OfOwners.g [] 2 = ([0, 0], 0) := by decide +kernel
theorem kn35 : seg_Check.g [1048576] = (1048576, 0) := by decide +kernel
theorem knSpans1 : sortedSpans [6, 4] [0, 2] = [(4, 2), (6, 0)] := sort_is _ _ (by decide +kernel) (by decide +kernel)
theorem knTouchedG1 : touchedG [6, 4] [0, 2] = [(4, 2)] := by
  unfold touchedG
  rw [knSpans1]
  decide +kernel
theorem knShE1 : sharedE [6, 4] [0, 2] 6 = 0 := by decide +kernel
theorem knCompact : seg_Compact.g [6, 4] [0, 2] 6 = ([2, 0], [4, 5], 0) := by
  unfold seg_Compact.g aheadG
  rw [if_pos knShE1, knTouchedG1]
  decide +kernel
theorem knSpans2 : sortedSpans [4, 0, 1] [1, 1, 1] = [(0, 1), (1, 1), (4, 1)] := sort_is _ _ (by decide +kernel) (by decide +kernel)
theorem knTouchedG2 : touchedG [4, 0, 1] [1, 1, 1] = [(0, 2), (4, 1)] := by
  unfold touchedG
  rw [knSpans2]
  decide +kernel
theorem knShE2 : sharedE [4, 0, 1] [1, 1, 1] 6 = 0 := by decide +kernel
theorem knTouched : seg_Touched.g [4, 0, 1] [1, 1, 1] 6 = ([(0, 2), (4, 1)], 0) := by
  unfold seg_Touched.g
  rw [if_pos knShE2, knTouchedG2]
theorem knLong : seg_Check.g (List.replicate 1048577 0) = (0, 3) := by
  have e : chkE (List.replicate 1048577 0) = 3 := by
    unfold chkE
    rw [List.length_replicate, if_pos (by decide)]
  unfold seg_Check.g
  rw [e]
  rfl
set_option maxHeartbeats 40000000 in
set_option maxRecDepth 100000 in
theorem law_known (w : World) : Calls Try.prog 11 #[] w fun e w' => e = .returned (.bool true) ∧ Below w.heap.size w w' := by
  have HB := Aside0.mk (Below.refl w.heap.size w)
  refine calls_of_marks Try.func11 rfl ?_
  simp only [Try.ntmps11, List.size_toArray, List.length_cons, List.length_nil, Nat.reduceAdd, Nat.reduceSub, Array.replicate_succ, Array.replicate_zero, List.push_toArray, List.append_toArray, List.nil_append, List.cons_append]
  go_wp2_with fail
  refine (skCheck _ _ _ kn1 _ (Sl.lit_at _ _ (by simp) _ [3, (-1), 4611686018427387904, 4611686018427387904, 4611686018427387904] _ rfl (by simp))).mono ?_
  rintro en w1 ⟨rfl, hb⟩
  replace hb := below_allocs1 hb
  replace HB := Aside0.mk (HB.out.trans (hb.mono HB.out.size))
  clear hb
  go_wp2_with fail
  refine (skStarts _ _ _ kn2 _ (Sl.lit_at _ _ (by simp) _ [1048576, 1] _ rfl (by simp))).mono ?_
  rintro en w2 ⟨va, rfl, Sa, hb⟩
  replace hb := below_allocs1 hb
  replace HB := Aside0.mk (HB.out.trans (hb.mono HB.out.size))
  clear hb
  clear Sa
  go_wp2_with fail
  refine (skHeads _ _ _ kn3 _ (Sl.lit_at _ _ (by simp) _ [4611686018427387904, 4611686018427387904, 4611686018427387904, 4611686018427387904] _ rfl (by simp))).mono ?_
  rintro en w3 ⟨va, rfl, Sa, hb⟩
  replace hb := below_allocs1 hb
  replace HB := Aside0.mk (HB.out.trans (hb.mono HB.out.size))
  clear hb
  clear Sa
  go_wp2_with fail
  refine (skOwners _ _ _ kn4 _ (Sl.lit_at _ _ (by simp) _ [(-1)] _ rfl (by simp))).mono ?_
  rintro en w4 ⟨va, rfl, Sa, hb⟩
  replace hb := below_allocs1 hb
  replace HB := Aside0.mk (HB.out.trans (hb.mono HB.out.size))
  clear hb
  clear Sa
  go_wp2_with fail
  refine (skLengths _ _ 5 _ kn5 _ (Sl.lit_at _ _ (by simp) _ [0, 3, 2] _ rfl (by simp))).mono ?_
  rintro en w5 ⟨va, rfl, Sa, hb⟩
  replace hb := below_allocs1 hb
  replace HB := Aside0.mk (HB.out.trans (hb.mono HB.out.size))
  clear hb
  clear Sa
  go_wp2_with fail
  refine (skLengths _ _ 5 _ kn6 _ (Sl.lit_at _ _ (by simp) _ [1] _ rfl (by simp))).mono ?_
  rintro en w6 ⟨va, rfl, Sa, hb⟩
  replace hb := below_allocs1 hb
  replace HB := Aside0.mk (HB.out.trans (hb.mono HB.out.size))
  clear hb
  clear Sa
  go_wp2_with fail
  refine (skLengths _ [] 1 _ kn7 _ (Sl.none _)).mono ?_
  rintro en w7 ⟨va, rfl, Sa, hb⟩
  replace HB := Aside0.mk (HB.out.trans (hb.mono HB.out.size))
  clear hb
  clear Sa
  go_wp2_with fail
  refine (skLengths _ _ 5 _ kn8 _ (Sl.lit_at _ _ (by simp) _ [0, 6] _ rfl (by simp))).mono ?_
  rintro en w8 ⟨va, rfl, Sa, hb⟩
  replace hb := below_allocs1 hb
  replace HB := Aside0.mk (HB.out.trans (hb.mono HB.out.size))
  clear hb
  clear Sa
  go_wp2_with fail
  refine (skLengths _ _ (-1) _ kn9 _ (Sl.lit_at _ _ (by simp) _ [5] _ rfl (by simp))).mono ?_
  rintro en w9 ⟨va, rfl, Sa, hb⟩
  replace hb := below_allocs1 hb
  replace HB := Aside0.mk (HB.out.trans (hb.mono HB.out.size))
  clear hb
  clear Sa
  go_wp2_with fail
  refine (skLengths _ [] 1048577 _ kn10 _ (Sl.none _)).mono ?_
  rintro en w10 ⟨va, rfl, Sa, hb⟩
  replace HB := Aside0.mk (HB.out.trans (hb.mono HB.out.size))
  clear hb
  clear Sa
  go_wp2_with fail
  refine (skOfHeads _ [] _ kn11 _ (Sl.none _)).mono ?_
  rintro en w11 ⟨va, rfl, Sa, hb⟩
  replace HB := Aside0.mk (HB.out.trans (hb.mono HB.out.size))
  clear hb
  clear Sa
  go_wp2_with fail
  refine (skOfHeads _ _ _ kn12 _ (Sl.lit_at _ _ (by simp) _ [0, 1] _ rfl (by simp))).mono ?_
  rintro en w12 ⟨va, rfl, Sa, hb⟩
  replace hb := below_allocs1 hb
  replace HB := Aside0.mk (HB.out.trans (hb.mono HB.out.size))
  clear hb
  clear Sa
  go_wp2_with fail
  refine (skOfHeads _ _ _ kn13 _ (Sl.lit_at _ _ (by simp) _ [0, (-1)] _ rfl (by simp))).mono ?_
  rintro en w13 ⟨va, rfl, Sa, hb⟩
  replace hb := below_allocs1 hb
  replace HB := Aside0.mk (HB.out.trans (hb.mono HB.out.size))
  clear hb
  clear Sa
  go_wp2_with fail
  refine (skOfHeads _ _ _ kn14 _ (Sl.lit_at _ _ (by simp) _ [4611686018427387904, 4611686018427387904, 4611686018427387904] _ rfl (by simp))).mono ?_
  rintro en w14 ⟨va, rfl, Sa, hb⟩
  replace hb := below_allocs1 hb
  replace HB := Aside0.mk (HB.out.trans (hb.mono HB.out.size))
  clear hb
  clear Sa
  go_wp2_with fail
  refine (skOfOwners _ _ 2 _ kn15 _ (Sl.lit_at _ _ (by simp) _ [1, 0] _ rfl (by simp))).mono ?_
  rintro en w15 ⟨va, rfl, Sa, hb⟩
  replace hb := below_allocs1 hb
  replace HB := Aside0.mk (HB.out.trans (hb.mono HB.out.size))
  clear hb
  clear Sa
  go_wp2_with fail
  refine (skOfOwners _ _ 2 _ kn16 _ (Sl.lit_at _ _ (by simp) _ [1, 0, 2] _ rfl (by simp))).mono ?_
  rintro en w16 ⟨va, rfl, Sa, hb⟩
  replace hb := below_allocs1 hb
  replace HB := Aside0.mk (HB.out.trans (hb.mono HB.out.size))
  clear hb
  clear Sa
  go_wp2_with fail
  refine (skOfOwners _ [] (-1) _ kn17 _ (Sl.none _)).mono ?_
  rintro en w17 ⟨va, rfl, Sa, hb⟩
  replace HB := Aside0.mk (HB.out.trans (hb.mono HB.out.size))
  clear hb
  clear Sa
  go_wp2_with fail
  refine (skNest _ _ _ _ _ kn18 _ ((Sl.lit_at _ _ (by simp) _ [(-1)] _ rfl (by simp)).alloc _) (Sl.lit_at _ _ (by simp) _ [2097152] _ rfl (by simp))).mono ?_
  rintro en w18 ⟨va, rfl, Sa, hb⟩
  replace hb := below_allocs2 hb
  replace HB := Aside0.mk (HB.out.trans (hb.mono HB.out.size))
  clear hb
  clear Sa
  go_wp2_with fail
  refine (skNest _ _ _ _ _ kn19 _ ((Sl.lit_at _ _ (by simp) _ [1] _ rfl (by simp)).alloc _) (Sl.lit_at _ _ (by simp) _ [(-1)] _ rfl (by simp))).mono ?_
  rintro en w19 ⟨va, rfl, Sa, hb⟩
  replace hb := below_allocs2 hb
  replace HB := Aside0.mk (HB.out.trans (hb.mono HB.out.size))
  clear hb
  clear Sa
  go_wp2_with fail
  refine (skNest _ _ _ _ _ kn20 _ ((Sl.lit_at _ _ (by simp) _ [1, 1] _ rfl (by simp)).alloc _) (Sl.lit_at _ _ (by simp) _ [2, 0, 3] _ rfl (by simp))).mono ?_
  rintro en w20 ⟨va, rfl, Sa, hb⟩
  replace hb := below_allocs2 hb
  replace HB := Aside0.mk (HB.out.trans (hb.mono HB.out.size))
  clear hb
  clear Sa
  go_wp2_with fail
  refine (skSplit _ _ 0 _ kn21 _ (Sl.lit_at _ _ (by simp) _ [(-1)] _ rfl (by simp))).mono ?_
  rintro en w21 ⟨va, vb, rfl, Sa, Sb, hb⟩
  replace hb := below_allocs1 hb
  replace HB := Aside0.mk (HB.out.trans (hb.mono HB.out.size))
  clear hb
  clear Sa Sb
  go_wp2_with fail
  refine (skSplit _ _ 0 _ kn22 _ (Sl.lit_at _ _ (by simp) _ [1] _ rfl (by simp))).mono ?_
  rintro en w22 ⟨va, vb, rfl, Sa, Sb, hb⟩
  replace hb := below_allocs1 hb
  replace HB := Aside0.mk (HB.out.trans (hb.mono HB.out.size))
  clear hb
  clear Sa Sb
  go_wp2_with fail
  refine (skSplit _ _ 1048577 _ kn23 _ (Sl.lit_at _ _ (by simp) _ [1] _ rfl (by simp))).mono ?_
  rintro en w23 ⟨va, vb, rfl, Sa, Sb, hb⟩
  replace hb := below_allocs1 hb
  replace HB := Aside0.mk (HB.out.trans (hb.mono HB.out.size))
  clear hb
  clear Sa Sb
  go_wp2_with fail
  refine (skShared _ _ _ _ 6 _ kn24 _ ((Sl.lit_at _ _ (by simp) _ [5] _ rfl (by simp)).alloc _) (Sl.lit_at _ _ (by simp) _ [2] _ rfl (by simp))).mono ?_
  rintro en w24 ⟨rfl, hb⟩
  replace hb := below_allocs2 hb
  replace HB := Aside0.mk (HB.out.trans (hb.mono HB.out.size))
  clear hb
  go_wp2_with fail
  refine (skDepth _ _ _ _ 6 _ kn25 _ ((Sl.lit_at _ _ (by simp) _ [0, 1] _ rfl (by simp)).alloc _) (Sl.lit_at _ _ (by simp) _ [1] _ rfl (by simp))).mono ?_
  rintro en w25 ⟨rfl, hb⟩
  replace hb := below_allocs2 hb
  replace HB := Aside0.mk (HB.out.trans (hb.mono HB.out.size))
  clear hb
  go_wp2_with fail
  refine (skTouched _ _ _ _ 6 _ kn26 _ ((Sl.lit_at _ _ (by simp) _ [7] _ rfl (by simp)).alloc _) (Sl.lit_at _ _ (by simp) _ [0] _ rfl (by simp))).mono ?_
  rintro en w26 ⟨va, rfl, Sa, hb⟩
  replace hb := below_allocs2 hb
  replace HB := Aside0.mk (HB.out.trans (hb.mono HB.out.size))
  clear hb
  clear Sa
  go_wp2_with fail
  refine (skPlaces _ _ _ _ (-1) _ kn27 _ ((Sl.lit_at _ _ (by simp) _ [0] _ rfl (by simp)).alloc _) (Sl.lit_at _ _ (by simp) _ [1] _ rfl (by simp))).mono ?_
  rintro en w27 ⟨va, rfl, Sa, hb⟩
  replace hb := below_allocs2 hb
  replace HB := Aside0.mk (HB.out.trans (hb.mono HB.out.size))
  clear hb
  clear Sa
  go_wp2_with fail
  refine (skCompact _ _ _ _ 6 _ kn28 _ ((Sl.lit_at _ _ (by simp) _ [1] _ rfl (by simp)).alloc _) (Sl.lit_at _ _ (by simp) _ [9223372036854775807] _ rfl (by simp))).mono ?_
  rintro en w28 ⟨va, vb, rfl, Sa, Sb, hb⟩
  replace hb := below_allocs2 hb
  replace HB := Aside0.mk (HB.out.trans (hb.mono HB.out.size))
  clear hb
  clear Sa Sb
  go_wp2_with fail
  refine (skPlaces _ _ _ _ 1048576 _ kn29 _ ((Sl.lit_at _ _ (by simp) _ [0, 0] _ rfl (by simp)).alloc _) (Sl.lit_at _ _ (by simp) _ [1048576, 1] _ rfl (by simp))).mono ?_
  rintro en w29 ⟨va, rfl, Sa, hb⟩
  replace hb := below_allocs2 hb
  replace HB := Aside0.mk (HB.out.trans (hb.mono HB.out.size))
  clear hb
  clear Sa
  go_wp2_with fail
  refine (skShared _ _ _ _ 6 _ kn30 _ ((Sl.lit_at _ _ (by simp) _ [(-1)] _ rfl (by simp)).alloc _) (Sl.lit_at _ _ (by simp) _ [1] _ rfl (by simp))).mono ?_
  rintro en w30 ⟨rfl, hb⟩
  replace hb := below_allocs2 hb
  replace HB := Aside0.mk (HB.out.trans (hb.mono HB.out.size))
  clear hb
  go_wp2_with fail
  refine (skHeads _ [] _ kn31 _ (Sl.none _)).mono ?_
  rintro en w31 ⟨vSh_, rfl, Sh_, hb⟩
  replace HB := Aside0.mk (HB.out.trans (hb.mono HB.out.size))
  clear hb
  replace Sh_ := Aside0.mk Sh_
  go_wp2_with fail
  refine (skOfHeads _ _ _ kn32 _ (Sl.lit_at _ _ (by simp) _ [0] _ rfl (by simp))).mono ?_
  rintro en w32 ⟨vSn_, rfl, Sn_, hb⟩
  replace hb := below_allocs1 hb
  replace Sh_ := Aside0.mk (Sh_.out.mono hb)
  replace HB := Aside0.mk (HB.out.trans (hb.mono HB.out.size))
  clear hb
  replace Sn_ := Aside0.mk Sn_
  obtain ⟨An, cn, hvn, -, -⟩ := Sn_.out _ (Below.refl _ _)
  simp only [List.length_nil] at hvn
  subst hvn
  clear Sn_
  go_wp2_with fail
  refine (skOfHeads _ _ _ kn33 _ (Sl.lit_at _ _ (by simp) _ [3] _ rfl (by simp))).mono ?_
  rintro en w33 ⟨vSt_, rfl, St_, hb⟩
  replace hb := below_allocs1 hb
  replace Sh_ := Aside0.mk (Sh_.out.mono hb)
  replace HB := Aside0.mk (HB.out.trans (hb.mono HB.out.size))
  clear hb
  replace St_ := Aside0.mk St_
  go_wp2_with fail
  refine (skOfOwners _ [] 2 _ kn34 _ (Sl.none _)).mono ?_
  rintro en w34 ⟨vSl_, rfl, Sl_, hb⟩
  replace Sh_ := Aside0.mk (Sh_.out.mono hb)
  replace St_ := Aside0.mk (St_.out.mono hb)
  replace HB := Aside0.mk (HB.out.trans (hb.mono HB.out.size))
  clear hb
  replace Sl_ := Aside0.mk Sl_
  go_wp2_with fail
  refine (skCheck _ _ _ kn35 _ (Sl.lit_at _ _ (by simp) _ [1048576] _ rfl (by simp))).mono ?_
  rintro en w35 ⟨rfl, hb⟩
  replace hb := below_allocs1 hb
  replace Sh_ := Aside0.mk (Sh_.out.mono hb)
  replace St_ := Aside0.mk (St_.out.mono hb)
  replace Sl_ := Aside0.mk (Sl_.out.mono hb)
  replace HB := Aside0.mk (HB.out.trans (hb.mono HB.out.size))
  clear hb
  go_wp2_with ((with_reducible refine gate_ (.makeSlice 22 (.const (.int .i64 1048577)) (.const (.int .i64 1048577))) rfl ?_); refine Kd.R_make (Kd.int .i64) (w0 := w35) w35.heap.size 3 rfl rfl 22 (.const (.int .i64 1048577)) (.const (.int .i64 1048577)) rfl (1048577 : Int) rfl rfl Try.underlying22 (.int .i64 0) 8 infoInt rfl (by decide) (by decide) 0 (ok := fun b => w35.heap.size ≤ b) (okp := fun _ => False) rfl (fun _ h => h.elim) (Nat.le_refl _) (by omega) (by decide) (Below.refl _ _) (Nat.le_refl _) ?_; intro v6 w6 hR6 hb6 hg6 hat6; replace hb6 := Aside0.mk hb6; clear hg6 hat6; obtain ⟨zs, hzs⟩ : ∃ zs : List Int, zs = List.replicate (1048577 : Int).toNat 0 := ⟨_, rfl⟩; rw [← hzs] at hR6; replace hR6 := Aside0.mk hR6; replace hzs := Aside0.mk hzs; obtain ⟨A6, c6, hv6⟩ : ∃ A6 c6, v6 = .slice A6 zs.length c6 := Kd.R_slice hR6.out; subst hv6)
  refine (skCheck _ zs (0, 3) (by rw [hzs.out, show (1048577 : Int).toNat = 1048577 from rfl]; exact knLong) _ ⟨A6, c6, rfl, (Kd.R_reads' hR6.out).2.1, (Kd.R_reads' hR6.out).2.2⟩).mono ?_
  rintro en w36 ⟨rfl, hb⟩
  replace hb := hb6.out.trans (hb.mono hb6.out.size)
  clear hR6 hzs hb6
  replace Sh_ := Aside0.mk (Sh_.out.mono hb)
  replace St_ := Aside0.mk (St_.out.mono hb)
  replace Sl_ := Aside0.mk (Sl_.out.mono hb)
  replace HB := Aside0.mk (HB.out.trans (hb.mono HB.out.size))
  clear hb
  go_wp2_with fail
  refine (skCompact _ _ _ _ 6 _ knCompact _ ((Sl.lit_at _ _ (by simp) _ [6, 4] _ rfl (by simp)).alloc _) (Sl.lit_at _ _ (by simp) _ [0, 2] _ rfl (by simp))).mono ?_
  rintro en w37 ⟨vx, vy, rfl, Sx, Sy, hb⟩
  replace hb := below_allocs2 hb
  replace Sh_ := Aside0.mk (Sh_.out.mono hb)
  replace St_ := Aside0.mk (St_.out.mono hb)
  replace Sl_ := Aside0.mk (Sl_.out.mono hb)
  replace HB := Aside0.mk (HB.out.trans (hb.mono HB.out.size))
  clear hb
  replace Sx := Aside0.mk Sx
  replace Sy := Aside0.mk Sy
  go_wp2_with fail
  refine (skTouched _ _ _ _ 6 _ knTouched _ ((Sl.lit_at _ _ (by simp) _ [4, 0, 1] _ rfl (by simp)).alloc _) (Sl.lit_at _ _ (by simp) _ [1, 1, 1] _ rfl (by simp))).mono ?_
  rintro en w38 ⟨vs, rfl, Ss, hb⟩
  replace hb := below_allocs2 hb
  replace Sh_ := Aside0.mk (Sh_.out.mono hb)
  replace St_ := Aside0.mk (St_.out.mono hb)
  replace Sl_ := Aside0.mk (Sl_.out.mono hb)
  replace Sx := Aside0.mk (Sx.out.mono hb)
  replace Sy := Aside0.mk (Sy.out.mono hb)
  replace HB := Aside0.mk (HB.out.trans (hb.mono HB.out.size))
  clear hb
  replace Ss := Aside0.mk Ss
  go_wp2_with fail
  refine (skEqual _ [0] _ [0] true (by decide) _ (Sh_.out _ (by repeat (first | exact Below.refl _ _ | apply below_alloc | apply pw_below_drewN))) (Sl.lit_at _ _ (by simp) _ [0] _ rfl (by simp))).mono ?_
  rintro en w39 ⟨rfl, hb⟩
  replace hb := below_allocs1 hb
  replace Sh_ := Aside0.mk (Sh_.out.mono hb)
  replace St_ := Aside0.mk (St_.out.mono hb)
  replace Sl_ := Aside0.mk (Sl_.out.mono hb)
  replace Sx := Aside0.mk (Sx.out.mono hb)
  replace Sy := Aside0.mk (Sy.out.mono hb)
  replace Ss := Aside0.mk (Ss.out.mono hb)
  replace HB := Aside0.mk (HB.out.trans (hb.mono HB.out.size))
  clear hb
  clear Sh_
  go_wp2_with fail
  refine (skEqual _ [0, 0, 0] _ [0, 0, 0] true (by decide) _ (St_.out _ (by repeat (first | exact Below.refl _ _ | apply below_alloc | apply pw_below_drewN))) (Sl.lit_at _ _ (by simp) _ [0, 0, 0] _ rfl (by simp))).mono ?_
  rintro en w40 ⟨rfl, hb⟩
  replace hb := below_allocs1 hb
  replace St_ := Aside0.mk (St_.out.mono hb)
  replace Sl_ := Aside0.mk (Sl_.out.mono hb)
  replace Sx := Aside0.mk (Sx.out.mono hb)
  replace Sy := Aside0.mk (Sy.out.mono hb)
  replace Ss := Aside0.mk (Ss.out.mono hb)
  replace HB := Aside0.mk (HB.out.trans (hb.mono HB.out.size))
  clear hb
  clear St_
  go_wp2_with fail
  refine (skEqual _ [0, 0] _ [0, 0] true (by decide) _ (Sl_.out _ (by repeat (first | exact Below.refl _ _ | apply below_alloc | apply pw_below_drewN))) (Sl.lit_at _ _ (by simp) _ [0, 0] _ rfl (by simp))).mono ?_
  rintro en w41 ⟨rfl, hb⟩
  replace hb := below_allocs1 hb
  replace Sl_ := Aside0.mk (Sl_.out.mono hb)
  replace Sx := Aside0.mk (Sx.out.mono hb)
  replace Sy := Aside0.mk (Sy.out.mono hb)
  replace Ss := Aside0.mk (Ss.out.mono hb)
  replace HB := Aside0.mk (HB.out.trans (hb.mono HB.out.size))
  clear hb
  clear Sl_
  go_wp2_with fail
  refine (skEqual _ [2, 0] _ [2, 0] true (by decide) _ (Sx.out _ (by repeat (first | exact Below.refl _ _ | apply below_alloc | apply pw_below_drewN))) (Sl.lit_at _ _ (by simp) _ [2, 0] _ rfl (by simp))).mono ?_
  rintro en w42 ⟨rfl, hb⟩
  replace hb := below_allocs1 hb
  replace Sx := Aside0.mk (Sx.out.mono hb)
  replace Sy := Aside0.mk (Sy.out.mono hb)
  replace Ss := Aside0.mk (Ss.out.mono hb)
  replace HB := Aside0.mk (HB.out.trans (hb.mono HB.out.size))
  clear hb
  clear Sx
  go_wp2_with fail
  refine (skEqual _ [4, 5] _ [4, 5] true (by decide) _ (Sy.out _ (by repeat (first | exact Below.refl _ _ | apply below_alloc | apply pw_below_drewN))) (Sl.lit_at _ _ (by simp) _ [4, 5] _ rfl (by simp))).mono ?_
  rintro en w43 ⟨rfl, hb⟩
  replace hb := below_allocs1 hb
  replace Sy := Aside0.mk (Sy.out.mono hb)
  replace Ss := Aside0.mk (Ss.out.mono hb)
  replace HB := Aside0.mk (HB.out.trans (hb.mono HB.out.size))
  clear hb
  clear Sy
  go_wp2_with fail
  refine (skSame2 _ [(0, 2), (4, 1)] _ _ (by simp) (Ss.out _ (by repeat (first | exact Below.refl _ _ | apply below_alloc | apply pw_below_drewN))) true (by decide)).mono ?_
  rintro en w44 ⟨rfl, hb⟩
  replace hb := below_allocs1 hb
  replace Ss := Aside0.mk (Ss.out.mono hb)
  replace HB := Aside0.mk (HB.out.trans (hb.mono HB.out.size))
  clear hb
  clear Ss
  go_wp2_with fail
  refine (law_cut _).mono ?_
  rintro en w45 ⟨rfl, hb⟩
  replace HB := Aside0.mk (HB.out.trans (hb.mono HB.out.size))
  clear hb
  go_wp2
  unfold MarksPost
  refine Marks.zero _ (results_tmp rfl _ _ _) ?_
  exact ⟨rfl, HB.out⟩
end Go.Proofs.Ythalgcpohnknbaa.Hand
