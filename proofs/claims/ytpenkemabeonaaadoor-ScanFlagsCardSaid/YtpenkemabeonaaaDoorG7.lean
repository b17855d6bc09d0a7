/- The chapter's functions over values that stay readable; the examples' values. -/
import Derived.Test.YtpenkemabeonaaaDoorG1
import Derived.Test.YtpenkemabeonaaaDoorG6
namespace Go.Proofs.YtpenkemabeonaaaDoor.Hand
open Go.RowKit Go.Proofs.YtpenkemabeonaaaDoorW.PrintWords Go.Proofs.YtpenkemabeonaaaDoorW.PrintLast Go.Proofs.YtpenkemabeonaaaDoorW.PrintMore
set_option linter.unusedVariables false
set_option linter.unusedSimpArgs false
/-- A slice, as long as what is there stays. -/
def Sk (w : World) (v : Value) (l : List Int) : Prop := ∀ W, Below w.heap.size w W → Sl W v l
theorem Sk.mono {w w2 : World} {v : Value} {l : List Int} (h : Sk w v l) (hb : Below w.heap.size w w2) : Sk w2 v l := fun W hW => h W (hb.trans (hW.mono hb.size))
theorem V_Sk {w : World} {v : Value} {e base : Nat} {ok : Nat → Prop} {l : List Int} (h : Kd.V (Kd.int .i64) e w base ok v l) : Sk w v l := fun W hW => by
  have h2 := Kd.V_below h hW
  obtain ⟨A, c, rfl⟩ := Kd.V_slice h2
  obtain ⟨_, h3, h4⟩ := Kd.V_reads' h2
  exact ⟨A, c, rfl, h3, h4⟩
theorem Sl.sk {w : World} {v : Value} {l : List Int} (h : Sl w v l) : Sk w v l := fun W hW => h.below hW
theorem Sk.now {w : World} {v : Value} {l : List Int} (h : Sk w v l) : Sl w v l := h w (Below.refl _ _)
/-- A slice of any kind. -/
def SlK {α : Type} (d : Kd α) (w : World) (v : Value) (l : List α) : Prop := ∃ A c, v = .slice A l.length c ∧ l.length ≤ c ∧ d.C w A l.length l
def SkK {α : Type} (d : Kd α) (w : World) (v : Value) (l : List α) : Prop := ∀ W, Below w.heap.size w W → SlK d W v l
section
variable {α : Type} {d : Kd α} {w w2 : World} {v : Value} {l : List α}
theorem SkK.mono (h : SkK d w v l) (hb : Below w.heap.size w w2) : SkK d w2 v l := fun W hW => h W (hb.trans (hW.mono hb.size))
theorem SlK.sk (h : SlK d w v l) : SkK d w v l := fun W hW => by
  obtain ⟨A, c, rfl, h1, h2⟩ := h
  exact ⟨A, c, rfl, h1, Kd.C_below h2 hW⟩
theorem SkK.now (h : SkK d w v l) : SlK d w v l := h w (Below.refl _ _)
theorem V_SkK {e base : Nat} {ok : Nat → Prop} (h : Kd.V d e w base ok v l) : SkK d w v l := by
  obtain ⟨A, c, rfl, h1, h2⟩ := h
  exact SlK.sk ⟨A, c, rfl, h1, Kd.F_now h2⟩
end
theorem lit_flags (W : World) (e : TypeId) (xs : List (Bool × Int)) (vs : Array Value) (hv : vs.toList = xs.flatMap (fun x => [.bool x.1, .int .i64 x.2])) (hm : xs.length ≤ 9223372036854775807) :
    SlK kF (W.alloc (.cells vs e)) (.slice (some ⟨W.heap.size, 0, none⟩) xs.length xs.length) xs := by
  refine ⟨_, _, rfl, Nat.le_refl _, rfl, hm, fun _ => ⟨_, rfl, fun j p hj => ⟨[.bool p.1, .int .i64 p.2], rfl, ⟨_, _, rfl, rfl, rfl⟩, fun i u hu => ?_⟩⟩⟩
  have hadd : (⟨W.heap.size, 0, none⟩ : Addr).add (j * kF.sz + i) = ⟨W.heap.size, j * 2 + i, none⟩ := by rw [add_plain]; simp [kF, Kd.pair, Kd.bool, Kd.int, Kd.scalar]
  rw [hadd, blk_cell (heap_alloc_new W _) (j * 2 + i), ← Array.getElem?_toList, hv]
  have key : ∀ (ys : List (Bool × Int)) (j : Nat) (p : Bool × Int), ys[j]? = some p → (ys.flatMap (fun x => [Value.bool x.1, .int .i64 x.2]))[j * 2]? = some (.bool p.1) ∧ (ys.flatMap (fun x => [Value.bool x.1, .int .i64 x.2]))[j * 2 + 1]? = some (.int .i64 p.2) := by
    intro ys
    induction ys with
    | nil => intro j p h; simp at h
    | cons y ys ih =>
      intro j p h
      cases j with
      | zero =>
        obtain rfl : y = p := by simpa using h
        exact ⟨rfl, rfl⟩
      | succ j =>
        have h2 := ih j p (by simpa using h)
        rw [show (j + 1) * 2 = j * 2 + 1 + 1 by omega]
        simpa [List.flatMap_cons] using h2
  have hk := key xs j p hj
  match i, hu with
  | 0, hu => injection hu with hu; subst hu; exact hk.1
  | 1, hu => injection hu with hu; subst hu; exact hk.2
/-! The chapter's functions. -/
def RetS (w : World) (R : List Int × Int) (e : Ending) (w' : World) : Prop := ∃ v, e = .returned (.tuple #[v, .int .i64 R.2]) ∧ Sk w' v R.1 ∧ Below w.heap.size w w'
theorem Ret2.s {w w' : World} {R : List Int × Int} {e : Ending} (h : Ret2 w R e w') : RetS w R e w' := by
  obtain ⟨v, he, hv, hb⟩ := h
  exact ⟨v, he, V_Sk hv, hb⟩
theorem sFold (op : Int) (l lens : List Int) (R : List Int × Int) (hR : scan_Fold.g op l lens = R) (v v2 : Value) (w : World) (hT : Tabs w) (h1 : Sl w v l) (h2 : Sl w v2 lens) : Calls Tryd.prog 12 #[.int .i64 op, v, v2] w (RetS w R) := by
  obtain ⟨A, c, rfl, p1, p2⟩ := h1
  obtain ⟨A2, c2, rfl, q1, q2⟩ := h2
  subst hR
  exact (scan_Fold.run op A c l A2 c2 lens w hT p2 p1 q2 q1).mono fun _ _ h => h.s
theorem sScan (op : Int) (l lens : List Int) (R : List Int × Int) (hR : scan_Scan.g op l lens = R) (v v2 : Value) (w : World) (hT : Tabs w) (h1 : Sl w v l) (h2 : Sl w v2 lens) : Calls Tryd.prog 14 #[.int .i64 op, v, v2] w (RetS w R) := by
  obtain ⟨A, c, rfl, p1, p2⟩ := h1
  obtain ⟨A2, c2, rfl, q1, q2⟩ := h2
  subst hR
  exact (scan_Scan.run op A c l A2 c2 lens w hT p2 p1 q2 q1).mono fun _ _ h => h.s
theorem sThrough (op : Int) (l lens : List Int) (R : List Int × Int) (hR : scan_Through.g op l lens = R) (v v2 : Value) (w : World) (hT : Tabs w) (h1 : Sl w v l) (h2 : Sl w v2 lens) : Calls Tryd.prog 16 #[.int .i64 op, v, v2] w (RetS w R) := by
  obtain ⟨A, c, rfl, p1, p2⟩ := h1
  obtain ⟨A2, c2, rfl, q1, q2⟩ := h2
  subst hR
  exact (scan_Through.run op A c l A2 c2 lens w hT p2 p1 q2 q1).mono fun _ _ h => h.s
theorem sTree (op : Int) (l sh : List Int) (R : Int × Int) (hR : scan_Tree.g op l sh = R) (v v2 : Value) (w : World) (hT : Tabs w) (h1 : Sl w v l) (h2 : Sl w v2 sh) : Calls Tryd.prog 20 #[.int .i64 op, v, v2] w fun e w' => e = .returned (.tuple #[.int .i64 R.1, .int .i64 R.2]) ∧ Below w.heap.size w w' := by
  obtain ⟨A, c, rfl, p1, p2⟩ := h1
  obtain ⟨A2, c2, rfl, q1, q2⟩ := h2
  subst hR
  exact scan_Tree.run op A c l A2 c2 sh w hT p2 q2
theorem sBlocks (op : Int) (l : List Int) (m : Int) (R : List Int × List Int × Int) (hR : scan_Blocks.g op l m = R) (v : Value) (w : World) (hT : Tabs w) (h1 : Sl w v l) : Calls Tryd.prog 22 #[.int .i64 op, v, .int .i64 m] w fun e w' => ∃ v u, e = .returned (.tuple #[v, u, .int .i64 R.2.2]) ∧ Sk w' v R.1 ∧ Sk w' u R.2.1 ∧ Below w.heap.size w w' := by
  obtain ⟨A, c, rfl, p1, p2⟩ := h1
  subst hR
  refine (scan_Blocks.run op A c l m w hT p2 p1).mono ?_
  rintro e w' ⟨v, u, he, hv, hu, hb⟩
  exact ⟨v, u, he, V_Sk hv, V_Sk hu, hb⟩
theorem sLevels (op : Int) (l : List Int) (R : List (List Int) × Int) (hR : scan_Levels.g op l = R) (v : Value) (w : World) (hT : Tabs w) (h1 : Sl w v l) : Calls Tryd.prog 24 #[.int .i64 op, v] w fun e w' => ∃ v, e = .returned (.tuple #[v, .int .i64 R.2]) ∧ SkK kL w' v R.1 ∧ Below w.heap.size w w' := by
  obtain ⟨A, c, rfl, p1, p2⟩ := h1
  subst hR
  refine (scan_Levels.run op A c l w hT p2).mono ?_
  rintro e w' ⟨v, he, hv, hb⟩
  exact ⟨v, he, V_SkK hv, hb⟩
theorem sDown (op : Int) (ls : List (List Int)) (m : Int) (R : List Int × Int) (hR : scan_Down.g op ls m = R) (v : Value) (w : World) (hT : Tabs w) (h1 : SlK kL w v ls) : Calls Tryd.prog 27 #[.int .i64 op, v, .int .i64 m] w (RetS w R) := by
  obtain ⟨A, c, rfl, p1, p2⟩ := h1
  subst hR
  exact (scan_Down.run op A c ls m w hT p2).mono fun _ _ h => h.s
theorem sJoin (op : Int) (x y : Bool × Int) (R : (Bool × Int) × Int) (hR : scan_Join.g op x y = R) (w : World) (hT : Tabs w) : Calls Tryd.prog 29 #[.int .i64 op, FlV x, FlV y] w fun e w' => e = .returned (.tuple #[FlV R.1, .int .i64 R.2]) ∧ Below w.heap.size w w' := by
  subst hR
  exact scan_Join.run op x y w hT
theorem sFlagged (op : Int) (l : List (Bool × Int)) (R : List (Bool × Int) × Int) (hR : scan_Flagged.g op l = R) (v : Value) (w : World) (hT : Tabs w) (h1 : SlK kF w v l) : Calls Tryd.prog 31 #[.int .i64 op, v] w fun e w' => ∃ v, e = .returned (.tuple #[v, .int .i64 R.2]) ∧ SkK kF w' v R.1 ∧ Below w.heap.size w w' := by
  obtain ⟨A, c, rfl, p1, p2⟩ := h1
  subst hR
  refine (scan_Flagged.run op A c l w hT p2).mono ?_
  rintro e w' ⟨v, he, hv, hb⟩
  exact ⟨v, he, V_SkK hv, hb⟩
theorem sEqual (l l2 : List Int) (R : Bool) (hR : (l == l2) = R) (v v2 : Value) (w : World) (h1 : Sl w v l) (h2 : Sl w v2 l2) : Calls Tryd.prog 18 #[v, v2] w fun e w' => e = .returned (.bool R) ∧ Below w.heap.size w w' := by
  obtain ⟨A, c, rfl, p1, p2⟩ := h1
  obtain ⟨A2, c2, rfl, q1, q2⟩ := h2
  subst hR
  exact (ref_Equal A c l A2 c2 l2 w p2 q2).mono fun _ _ h => ⟨h.1, h.2.below⟩
theorem sEqualLists (l l2 : List (List Int)) (R : Bool) (hR : (l == l2) = R) (v v2 : Value) (w : World) (h1 : SlK kL w v l) (h2 : SlK kL w v2 l2) : Calls Tryd.prog 26 #[v, v2] w fun e w' => e = .returned (.bool R) ∧ Below w.heap.size w w' := by
  obtain ⟨A, c, rfl, p1, p2⟩ := h1
  obtain ⟨A2, c2, rfl, q1, q2⟩ := h2
  subst hR
  exact (ref_EqualLists A c l A2 c2 l2 w p2 q2).mono fun _ _ h => ⟨h.1, h.2.below⟩
theorem sSame (l l2 : List (Bool × Int)) (R : Bool) (hR : (l == l2) = R) (v v2 : Value) (w : World) (h1 : SlK kF w v l) (h2 : SlK kF w v2 l2) : Calls Tryd.prog 33 #[v, v2] w fun e w' => e = .returned (.bool R) ∧ Below w.heap.size w w' := by
  obtain ⟨A, c, rfl, p1, p2⟩ := h1
  obtain ⟨A2, c2, rfl, q1, q2⟩ := h2
  subst hR
  exact (law_same A c l A2 c2 l2 w p2 q2).mono fun _ _ h => ⟨h.1, h.2.below⟩
theorem ex_Fold : scan_Fold.g 0 [1, 2, 3, 4] [2, 0, 2] = ([3, 0, 7], 0) := by decide +kernel
theorem ex_Scan : scan_Scan.g 0 [1, 2, 3, 4] [2, 0, 2] = ([0, 1, 0, 3], 0) := by decide +kernel
theorem ex_Through : scan_Through.g 0 [1, 2, 3, 4] [2, 0, 2] = ([1, 3, 3, 7], 0) := by decide +kernel
theorem ex_Tree : scan_Tree.g 2 [2, 3, 4] [1, 0] = (24, 0) := by decide +kernel
theorem ex_Blocks : scan_Blocks.g 0 [1, 2, 3, 4, 5] 2 = ([3, 7, 5], [0, 1, 3, 6, 10], 0) := by decide +kernel
theorem ex_Levels : scan_Levels.g 0 [1, 2, 3] = ([[1, 2, 3, 0], [3, 3], [6]], 0) := by decide +kernel
theorem ex_Down : scan_Down.g 0 [[1, 2, 3, 0], [3, 3], [6]] 3 = ([0, 1, 3], 0) := by decide +kernel
theorem ex_Join : scan_Join.g 0 (true, 2) (false, 3) = ((true, 5), 0) := by decide +kernel
theorem ex_Flagged : scan_Flagged.g 0 [(false, 1), (true, 2), (false, 3)] = ([(false, 1), (true, 2), (true, 5)], 0) := by decide +kernel
end Go.Proofs.YtpenkemabeonaaaDoor.Hand
/- sheafworkslaw05.joined: the examples of the chapter come out as they must. -/
namespace Go.Proofs.YtpenkemabeonaaaDoor.Hand
open Go.RowKit Go.Proofs.YtpenkemabeonaaaDoorW.PrintWords Go.Proofs.YtpenkemabeonaaaDoorW.PrintLast Go.Proofs.YtpenkemabeonaaaDoorW.PrintMore
set_option linter.unusedVariables false
set_option linter.unusedSimpArgs false
attribute [local go_sem] store_func store_nilFunc eval_same eval_ne size_put defers_put
theorem below_allocs1 {w W : World} {o : Obj} (h : Below (w.alloc o).heap.size (w.alloc o) W) : Below w.heap.size w W := (below_alloc (Below.refl _ _) _).trans (h.mono (by simp))
theorem below_allocs2 {w W : World} {o o2 : Obj} (h : Below ((w.alloc o).alloc o2).heap.size ((w.alloc o).alloc o2) W) : Below w.heap.size w W := below_allocs1 (below_allocs1 h)
theorem below_allocs3 {w W : World} {o o2 o3 : Obj} (h : Below (((w.alloc o).alloc o2).alloc o3).heap.size (((w.alloc o).alloc o2).alloc o3) W) : Below w.heap.size w W := below_allocs1 (below_allocs2 h)
theorem below_allocs4 {w W : World} {o o2 o3 o4 : Obj} (h : Below ((((w.alloc o).alloc o2).alloc o3).alloc o4).heap.size ((((w.alloc o).alloc o2).alloc o3).alloc o4) W) : Below w.heap.size w W := below_allocs1 (below_allocs3 h)

set_option maxHeartbeats 4000000 in
set_option maxRecDepth 100000 in
theorem law_joined (w : World) (hT : Tabs w) : Calls Tryd.prog 19 #[] w fun e w' => e = .returned (.bool true) ∧ Below w.heap.size w w' := by
  have HT := Aside0.mk hT
  have HB := Aside0.mk (Below.refl w.heap.size w)
  clear hT
  refine calls_of_marks Tryd.func19 rfl ?_
  simp only [Tryd.ntmps19, List.size_toArray, List.length_cons, List.length_nil, Nat.reduceAdd, Nat.reduceSub, Array.replicate_succ, Array.replicate_zero, List.push_toArray, List.append_toArray, List.nil_append, List.cons_append]
  go_wp2_with fail
  refine (sFold 0 [1, 2, 3, 4] [2, 0, 2] _ ex_Fold _ _ _ (HT.out.below (below_alloc (below_alloc HB.out _) _)) ((Sl.lit_at _ _ (by simp) _ [1, 2, 3, 4] _ rfl (by simp)).alloc _) (Sl.lit_at _ _ (by simp) _ [2, 0, 2] _ rfl (by simp))).mono ?_
  rintro en w1 ⟨va, rfl, Sa, hb⟩
  have L1 : Sk w1 (.slice (some ⟨w.heap.size, 0, none⟩) 4 4) [1, 2, 3, 4] := ((Sl.lit_at _ _ (by simp) _ [1, 2, 3, 4] _ rfl (by simp)).alloc _).sk.mono hb
  have L2 : Sk w1 (.slice (some ⟨w.heap.size + 1, 0, none⟩) 3 3) [2, 0, 2] := (Sl.lit_at _ _ (by simp) _ [2, 0, 2] _ rfl (by simp)).sk.mono hb
  replace hb := below_allocs2 hb
  replace HB := Aside0.mk (HB.out.trans (hb.mono HB.out.size))
  clear hb
  replace Sa := Aside0.mk Sa
  replace L1 := Aside0.mk L1
  replace L2 := Aside0.mk L2
  go_wp2_with fail
  refine (sScan 0 [1, 2, 3, 4] [2, 0, 2] _ ex_Scan _ _ _ (HT.out.below HB.out) L1.out.now L2.out.now).mono ?_
  rintro en w2 ⟨vb, rfl, Sb, hb⟩
  replace Sa := Aside0.mk (Sa.out.mono hb)
  replace L1 := Aside0.mk (L1.out.mono hb)
  replace L2 := Aside0.mk (L2.out.mono hb)
  replace HB := Aside0.mk (HB.out.trans (hb.mono HB.out.size))
  clear hb
  replace Sb := Aside0.mk Sb
  go_wp2_with fail
  refine (sThrough 0 [1, 2, 3, 4] [2, 0, 2] _ ex_Through _ _ _ (HT.out.below HB.out) L1.out.now L2.out.now).mono ?_
  rintro en w3 ⟨vc, rfl, Sc, hb⟩
  replace Sa := Aside0.mk (Sa.out.mono hb)
  replace L1 := Aside0.mk (L1.out.mono hb)
  replace L2 := Aside0.mk (L2.out.mono hb)
  replace Sb := Aside0.mk (Sb.out.mono hb)
  replace HB := Aside0.mk (HB.out.trans (hb.mono HB.out.size))
  clear hb
  replace Sc := Aside0.mk Sc
  clear L1 L2
  go_wp2_with fail
  refine (sTree 2 [2, 3, 4] [1, 0] _ ex_Tree _ _ _ (HT.out.below (below_alloc (below_alloc HB.out _) _)) ((Sl.lit_at _ _ (by simp) _ [2, 3, 4] _ rfl (by simp)).alloc _) (Sl.lit_at _ _ (by simp) _ [1, 0] _ rfl (by simp))).mono ?_
  rintro en w4 ⟨rfl, hb⟩
  replace hb := below_allocs2 hb
  replace Sa := Aside0.mk (Sa.out.mono hb)
  replace Sb := Aside0.mk (Sb.out.mono hb)
  replace Sc := Aside0.mk (Sc.out.mono hb)
  replace HB := Aside0.mk (HB.out.trans (hb.mono HB.out.size))
  clear hb
  go_wp2_with fail
  refine (sBlocks 0 [1, 2, 3, 4, 5] 2 _ ex_Blocks _ _ (HT.out.below (below_alloc HB.out _)) (Sl.lit_at _ _ (by simp) _ [1, 2, 3, 4, 5] _ rfl (by simp))).mono ?_
  rintro en w5 ⟨vx, vy, rfl, Sx, Sy, hb⟩
  replace hb := below_allocs1 hb
  replace Sa := Aside0.mk (Sa.out.mono hb)
  replace Sb := Aside0.mk (Sb.out.mono hb)
  replace Sc := Aside0.mk (Sc.out.mono hb)
  replace HB := Aside0.mk (HB.out.trans (hb.mono HB.out.size))
  clear hb
  replace Sx := Aside0.mk Sx
  replace Sy := Aside0.mk Sy
  go_wp2_with fail
  refine (sEqual [3, 0, 7] [3, 0, 7] true (by decide) _ _ _ (Sa.out _ (by repeat (first | exact Below.refl _ _ | apply below_alloc | apply pw_below_drewN))) (Sl.lit_at _ _ (by simp) _ [3, 0, 7] _ rfl (by simp))).mono ?_
  rintro en w6 ⟨rfl, hb⟩
  replace hb := below_allocs1 hb
  replace Sa := Aside0.mk (Sa.out.mono hb)
  replace Sb := Aside0.mk (Sb.out.mono hb)
  replace Sc := Aside0.mk (Sc.out.mono hb)
  replace Sx := Aside0.mk (Sx.out.mono hb)
  replace Sy := Aside0.mk (Sy.out.mono hb)
  replace HB := Aside0.mk (HB.out.trans (hb.mono HB.out.size))
  clear hb
  clear Sa
  go_wp2_with fail
  refine (sEqual [0, 1, 0, 3] [0, 1, 0, 3] true (by decide) _ _ _ (Sb.out _ (by repeat (first | exact Below.refl _ _ | apply below_alloc | apply pw_below_drewN))) (Sl.lit_at _ _ (by simp) _ [0, 1, 0, 3] _ rfl (by simp))).mono ?_
  rintro en w7 ⟨rfl, hb⟩
  replace hb := below_allocs1 hb
  replace Sb := Aside0.mk (Sb.out.mono hb)
  replace Sc := Aside0.mk (Sc.out.mono hb)
  replace Sx := Aside0.mk (Sx.out.mono hb)
  replace Sy := Aside0.mk (Sy.out.mono hb)
  replace HB := Aside0.mk (HB.out.trans (hb.mono HB.out.size))
  clear hb
  clear Sb
  go_wp2_with fail
  refine (sEqual [1, 3, 3, 7] [1, 3, 3, 7] true (by decide) _ _ _ (Sc.out _ (by repeat (first | exact Below.refl _ _ | apply below_alloc | apply pw_below_drewN))) (Sl.lit_at _ _ (by simp) _ [1, 3, 3, 7] _ rfl (by simp))).mono ?_
  rintro en w8 ⟨rfl, hb⟩
  replace hb := below_allocs1 hb
  replace Sc := Aside0.mk (Sc.out.mono hb)
  replace Sx := Aside0.mk (Sx.out.mono hb)
  replace Sy := Aside0.mk (Sy.out.mono hb)
  replace HB := Aside0.mk (HB.out.trans (hb.mono HB.out.size))
  clear hb
  clear Sc
  go_wp2_with fail
  refine (sEqual [3, 7, 5] [3, 7, 5] true (by decide) _ _ _ (Sx.out _ (by repeat (first | exact Below.refl _ _ | apply below_alloc | apply pw_below_drewN))) (Sl.lit_at _ _ (by simp) _ [3, 7, 5] _ rfl (by simp))).mono ?_
  rintro en w9 ⟨rfl, hb⟩
  replace hb := below_allocs1 hb
  replace Sx := Aside0.mk (Sx.out.mono hb)
  replace Sy := Aside0.mk (Sy.out.mono hb)
  replace HB := Aside0.mk (HB.out.trans (hb.mono HB.out.size))
  clear hb
  clear Sx
  go_wp2_with fail
  refine (sEqual [0, 1, 3, 6, 10] [0, 1, 3, 6, 10] true (by decide) _ _ _ (Sy.out _ (by repeat (first | exact Below.refl _ _ | apply below_alloc | apply pw_below_drewN))) (Sl.lit_at _ _ (by simp) _ [0, 1, 3, 6, 10] _ rfl (by simp))).mono ?_
  rintro en w10 ⟨rfl, hb⟩
  replace hb := below_allocs1 hb
  replace Sy := Aside0.mk (Sy.out.mono hb)
  replace HB := Aside0.mk (HB.out.trans (hb.mono HB.out.size))
  clear hb
  clear Sy
  go_wp2_with fail
  refine (sLevels 0 [1, 2, 3] _ ex_Levels _ _ (HT.out.below (below_alloc HB.out _)) (Sl.lit_at _ _ (by simp) _ [1, 2, 3] _ rfl (by simp))).mono ?_
  rintro en w11 ⟨vm, rfl, Sm, hb⟩
  replace hb := below_allocs1 hb
  replace HB := Aside0.mk (HB.out.trans (hb.mono HB.out.size))
  clear hb
  replace Sm := Aside0.mk Sm
  go_wp2_with fail
  refine (sDown 0 [[1, 2, 3, 0], [3, 3], [6]] 3 _ ex_Down _ _ (HT.out.below (below_alloc (below_alloc (below_alloc (below_alloc HB.out _) _) _) _)) ⟨_, _, rfl, by simp, lit_rows_at _ _ (by simp) _ _ _ _ rfl (rows_of3 (((Sl.lit_at _ _ (by simp) _ [1, 2, 3, 0] _ rfl (by simp)).alloc _).alloc _) ((Sl.lit_at _ _ (by simp) _ [3, 3] _ rfl (by simp)).alloc _) (Sl.lit_at _ _ (by simp) _ [6] _ rfl (by simp))) (by simp)⟩).mono ?_
  rintro en w12 ⟨vd, rfl, Sd, hb⟩
  replace hb := below_allocs4 hb
  replace Sm := Aside0.mk (Sm.out.mono hb)
  replace HB := Aside0.mk (HB.out.trans (hb.mono HB.out.size))
  clear hb
  replace Sd := Aside0.mk Sd
  go_wp2_with fail
  refine (law_flagged 2 _).mono ?_
  rintro en w13 ⟨rfl, hb⟩
  replace Sm := Aside0.mk (Sm.out.mono hb)
  replace Sd := Aside0.mk (Sd.out.mono hb)
  replace HB := Aside0.mk (HB.out.trans (hb.mono HB.out.size))
  clear hb
  go_wp2_with fail
  refine (law_plain 3 _).mono ?_
  rintro en w14 ⟨rfl, hb⟩
  replace Sm := Aside0.mk (Sm.out.mono hb)
  replace Sd := Aside0.mk (Sd.out.mono hb)
  replace HB := Aside0.mk (HB.out.trans (hb.mono HB.out.size))
  clear hb
  go_wp2_with fail
  refine (sJoin 0 (true, 2) (false, 3) _ ex_Join _ (HT.out.below HB.out)).mono ?_
  rintro en w15 ⟨rfl, hb⟩
  replace Sm := Aside0.mk (Sm.out.mono hb)
  replace Sd := Aside0.mk (Sd.out.mono hb)
  replace HB := Aside0.mk (HB.out.trans (hb.mono HB.out.size))
  clear hb
  go_wp2_with fail
  refine (law_plain 1 _).mono ?_
  rintro en w16 ⟨rfl, hb⟩
  have hK := Aside0.mk (blk_below (blk_new _ _) hb)
  replace hb := below_allocs1 hb
  replace Sm := Aside0.mk (Sm.out.mono hb)
  replace Sd := Aside0.mk (Sd.out.mono hb)
  replace HB := Aside0.mk (HB.out.trans (hb.mono HB.out.size))
  clear hb
  go_wp2_with fail
  refine (law_flagged 2 _).mono ?_
  rintro en w17 ⟨rfl, hb⟩
  replace hK := Aside0.mk (blk_below hK.out hb)
  replace Sm := Aside0.mk (Sm.out.mono hb)
  replace Sd := Aside0.mk (Sd.out.mono hb)
  replace HB := Aside0.mk (HB.out.trans (hb.mono HB.out.size))
  clear hb
  go_wp2_with fail
  refine (law_plain 3 _).mono ?_
  rintro en w18 ⟨rfl, hb⟩
  replace hK := Aside0.mk (blk_below hK.out hb)
  replace Sm := Aside0.mk (Sm.out.mono hb)
  replace Sd := Aside0.mk (Sd.out.mono hb)
  replace HB := Aside0.mk (HB.out.trans (hb.mono HB.out.size))
  clear hb
  go_wp2_with fail
  refine (sFlagged 0 [(false, 1), (true, 2), (false, 3)] _ ex_Flagged _ _ (HT.out.below (below_alloc HB.out _)) (lit_flags _ _ _ _ rfl (by simp))).mono ?_
  rintro en w19 ⟨vk, rfl, Sk_, hb⟩
  replace hK := Aside0.mk (blk_below hK.out (below_allocs1 hb))
  replace hb := below_allocs1 hb
  replace Sm := Aside0.mk (Sm.out.mono hb)
  replace Sd := Aside0.mk (Sd.out.mono hb)
  replace HB := Aside0.mk (HB.out.trans (hb.mono HB.out.size))
  clear hb
  replace Sk_ := Aside0.mk Sk_
  go_wp2
  rename_i Kx hKx
  have hbd : Below w19.heap.size w19 w19.drew := below_drew (Below.refl _ _)
  have HS : Aside0 (∀ W, Below w19.heap.size w19 W → W.cell? ⟨w15.heap.size, 0, none⟩ = some (.bool true) ∧ W.cell? ⟨w15.heap.size, 1, none⟩ = some (.int .i64 5)) := ⟨fun W hW => ⟨blk_cell (blk_below hK.out hW) 0, blk_cell (blk_below hK.out hW) 1⟩⟩
  clear hK
  refine wp_region_any (by kernel_rfl) ?_
  change wpAny _ _ _ _ _ _ _ w19.drew
  refine region_scr (fun W => W.cell? ⟨w15.heap.size, 0, none⟩ = some (.bool true) ∧ W.cell? ⟨w15.heap.size, 1, none⟩ = some (.int .i64 5)) [(true, [0]), (true, [1]), (true, [2]), (true, [3]), (true, [4]), (true, [5]), (true, [6]), (true, [7]), (true, [8]), (true, [9]), (true, [10]), (true, [11]), (true, [12]), (true, [13]), (true, [14]), (true, [15]), (false, [16, 17, 18]), (false, [19]), (false, [20]), (true, [21]), (true, [22]), (true, [23]), (false, [24]), (false, [25]), (true, [26]), (true, [27]), (true, [28]), (false, [29]), (true, [30]), (true, [31]), (true, [32]), (true, [33]), (false, [34]), (false, [35]), (false, [36]), (false, [37]), (false, [38]), (true, [39]), (true, [40])] (by kernel_rfl) (by kernel_rfl) (by kernel_rfl) (fun _ _ _ h => h) (HS.out _ hbd) ?_
  refine scr_letter ?_
  intro a0 ha0
  have hsz : a0.tmps.size = 169 := by rw [ha0]; rfl
  have hdf : a0.defers = [] := by rw [ha0]
  have e4 : a0.eval (.tmp 4) = .int .i64 0 := by rw [ha0]; rfl
  have t4 : a0.tmps[4]'(by rw [hsz]; decide) = .int .i64 0 := by subst ha0; rfl
  have e6 : a0.eval (.tmp 6) = .int .i64 0 := by rw [ha0]; rfl
  have t6 : a0.tmps[6]'(by rw [hsz]; decide) = .int .i64 0 := by subst ha0; rfl
  have e8 : a0.eval (.tmp 8) = .int .i64 0 := by rw [ha0]; rfl
  have t8 : a0.tmps[8]'(by rw [hsz]; decide) = .int .i64 0 := by subst ha0; rfl
  have e10 : a0.eval (.tmp 10) = .int .i64 0 := by rw [ha0]; rfl
  have t10 : a0.tmps[10]'(by rw [hsz]; decide) = .int .i64 0 := by subst ha0; rfl
  have e14 : a0.eval (.tmp 14) = vm := by rw [ha0]; rfl
  have t14 : a0.tmps[14]'(by rw [hsz]; decide) = vm := by subst ha0; rfl
  have e15 : a0.eval (.tmp 15) = vd := by rw [ha0]; rfl
  have t15 : a0.tmps[15]'(by rw [hsz]; decide) = vd := by subst ha0; rfl
  have e16 : a0.eval (.tmp 16) = .pointer (some ⟨w15.heap.size, 0, none⟩) := by rw [ha0]; rfl
  have t16 : a0.tmps[16]'(by rw [hsz]; decide) = .pointer (some ⟨w15.heap.size, 0, none⟩) := by subst ha0; rfl
  have e17 : a0.eval (.tmp 17) = vk := by rw [ha0]; rfl
  have t17 : a0.tmps[17]'(by rw [hsz]; decide) = vk := by subst ha0; rfl
  clear ha0
  refine scr_get 129 (.int .i64 0) rfl rfl rfl (fun W hW => by obtain ⟨k1, k2⟩ := hW; go_simp; first | rfl | done) ?_
  refine scr_get 130 (.bool true) rfl rfl rfl (fun W hW => by obtain ⟨k1, k2⟩ := hW; go_simp; first | rfl | done) ?_
  refine scr_get 131 (.bool true) rfl rfl rfl (fun W hW => by obtain ⟨k1, k2⟩ := hW; go_simp; first | rfl | done) ?_
  refine scr_get 132 (.int .i64 0) rfl rfl (wanted_of (j := 2) (d := 131) (b := true) rfl rfl (by go_simp; try omega) (by go_simp)) (fun W hW => by obtain ⟨k1, k2⟩ := hW; go_simp; first | rfl | done) ?_
  refine scr_get 133 (.bool true) rfl rfl (wanted_of (j := 2) (d := 131) (b := true) rfl rfl (by go_simp; try omega) (by go_simp)) (fun W hW => by obtain ⟨k1, k2⟩ := hW; go_simp; first | rfl | done) ?_
  refine scr_get 134 (.bool true) rfl rfl rfl (fun W hW => by obtain ⟨k1, k2⟩ := hW; go_simp; first | rfl | done) ?_
  refine scr_get 135 (.bool true) rfl rfl rfl (fun W hW => by obtain ⟨k1, k2⟩ := hW; go_simp; first | rfl | done) ?_
  refine scr_get 136 (.int .i64 0) rfl rfl (wanted_of (j := 6) (d := 135) (b := true) rfl rfl (by go_simp; try omega) (by go_simp)) (fun W hW => by obtain ⟨k1, k2⟩ := hW; go_simp; first | rfl | done) ?_
  refine scr_get 137 (.bool true) rfl rfl (wanted_of (j := 6) (d := 135) (b := true) rfl rfl (by go_simp; try omega) (by go_simp)) (fun W hW => by obtain ⟨k1, k2⟩ := hW; go_simp; first | rfl | done) ?_
  refine scr_get 138 (.bool true) rfl rfl rfl (fun W hW => by obtain ⟨k1, k2⟩ := hW; go_simp; first | rfl | done) ?_
  refine scr_get 139 (.bool true) rfl rfl rfl (fun W hW => by obtain ⟨k1, k2⟩ := hW; go_simp; first | rfl | done) ?_
  refine scr_get 140 (.int .i64 0) rfl rfl (wanted_of (j := 10) (d := 139) (b := true) rfl rfl (by go_simp; try omega) (by go_simp)) (fun W hW => by obtain ⟨k1, k2⟩ := hW; go_simp; first | rfl | done) ?_
  refine scr_get 141 (.bool true) rfl rfl (wanted_of (j := 10) (d := 139) (b := true) rfl rfl (by go_simp; try omega) (by go_simp)) (fun W hW => by obtain ⟨k1, k2⟩ := hW; go_simp; first | rfl | done) ?_
  refine scr_get 142 (.bool true) rfl rfl rfl (fun W hW => by obtain ⟨k1, k2⟩ := hW; go_simp; first | rfl | done) ?_
  refine scr_get 143 (.bool true) rfl rfl rfl (fun W hW => by obtain ⟨k1, k2⟩ := hW; go_simp; first | rfl | done) ?_
  refine scr_get 144 (vm) rfl rfl (wanted_of (j := 14) (d := 143) (b := true) rfl rfl (by go_simp; try omega) (by go_simp)) (fun W hW => by obtain ⟨k1, k2⟩ := hW; go_simp; first | rfl | done) ?_
  refine scr_letter ?_
  intro a1 ha1
  have hsz1 : a1.tmps.size = 169 := by rw [ha1]; simp only [size_put]; exact hsz
  have hdf1 : a1.defers = [] := by rw [ha1]; simp only [defers_put]; exact hdf
  have f143 : a1.eval (.tmp 143) = .bool true := by rw [ha1]; simp only [eval_same, eval_ne, size_put, hsz, ne_eq, Nat.reduceEqDiff, not_false_eq_true, Nat.reduceLT, e4, e6, e8, e10, e14, e15, e16, e17]
  have f144 : a1.eval (.tmp 144) = vm := by rw [ha1]; simp only [eval_same, eval_ne, size_put, hsz, ne_eq, Nat.reduceEqDiff, not_false_eq_true, Nat.reduceLT, e4, e6, e8, e10, e14, e15, e16, e17]
  have f15 : a1.eval (.tmp 15) = vd := by rw [ha1]; simp only [eval_same, eval_ne, size_put, hsz, ne_eq, Nat.reduceEqDiff, not_false_eq_true, Nat.reduceLT, e4, e6, e8, e10, e14, e15, e16, e17]
  have f16 : a1.eval (.tmp 16) = .pointer (some ⟨w15.heap.size, 0, none⟩) := by rw [ha1]; simp only [eval_same, eval_ne, size_put, hsz, ne_eq, Nat.reduceEqDiff, not_false_eq_true, Nat.reduceLT, e4, e6, e8, e10, e14, e15, e16, e17]
  have f17 : a1.eval (.tmp 17) = vk := by rw [ha1]; simp only [eval_same, eval_ne, size_put, hsz, ne_eq, Nat.reduceEqDiff, not_false_eq_true, Nat.reduceLT, e4, e6, e8, e10, e14, e15, e16, e17]
  clear ha1 e4 t4 e6 t6 e8 t8 e10 t10 e14 t14 e15 t15 e16 t16 e17 t17
  have e143 := f143
  have t143 := tmp_of_eval (by rw [hsz1]; decide) f143
  clear f143
  have e144 := f144
  have t144 := tmp_of_eval (by rw [hsz1]; decide) f144
  clear f144
  have e15 := f15
  have t15 := tmp_of_eval (by rw [hsz1]; decide) f15
  clear f15
  have e16 := f16
  have t16 := tmp_of_eval (by rw [hsz1]; decide) f16
  clear f16
  have e17 := f17
  have t17 := tmp_of_eval (by rw [hsz1]; decide) f17
  clear f17
  refine scr_fork (fun is a W => (∀ e, e ≠ 145 → e ≠ 146 → e ≠ 147 → a.eval (.tmp e) = a1.eval (.tmp e)) ∧ a.tmps.size = 169 ∧ a.defers = [] ∧ Below w19.heap.size w19 W ∧ (∀ i, i ∈ is → i = 16 ∨ i = 17 ∨ i = 18) ∧ (16 ∈ is ∨ Sk W (a.eval (.tmp 145)) [1, 2, 3, 0]) ∧ (17 ∈ is ∨ Sk W (a.eval (.tmp 146)) [3, 3]) ∧ (18 ∈ is ∨ Sk W (a.eval (.tmp 147)) [6])) ⟨fun e _ _ _ => rfl, hsz1, hdf1, hbd, by simp, .inl (by simp), .inl (by simp), .inl (by simp)⟩ ?_ ?_
  · rintro is i a W hi ⟨q1, q2, q3, q4, q5, q6, q7, q8⟩
    have e143' : a.eval (.tmp 143) = .bool true := by rw [q1 143 (by decide) (by decide) (by decide)]; exact e143
    rcases q5 i hi with rfl | rfl | rfl
    · refine op_val rfl (wanted_of (j := 14) (d := 143) (b := true) rfl rfl (by rw [q2]; decide) e143') (by go_simp; first | rfl | exact ⟨rfl, rfl⟩) 145 rfl ?_
      exact ⟨HS.out _ (below_alloc q4 _), fun e g1 g2 g3 => (eval_ne g1).trans (q1 e g1 g2 g3), by rw [size_put]; exact q2, by rw [defers_put]; exact q3, below_alloc q4 _, fun j hj => q5 j (List.mem_of_mem_erase hj), .inr (by rw [eval_same (by rw [q2]; decide)]; exact (Sl.lit_at _ _ rfl _ [1, 2, 3, 0] _ rfl (by simp)).sk), q7.imp (fun h => (List.mem_erase_of_ne (by decide)).2 h) (fun h => by rw [eval_ne (by decide)]; exact h.mono (below_alloc (Below.refl _ _) _)), q8.imp (fun h => (List.mem_erase_of_ne (by decide)).2 h) (fun h => by rw [eval_ne (by decide)]; exact h.mono (below_alloc (Below.refl _ _) _))⟩
    · refine op_val rfl (wanted_of (j := 14) (d := 143) (b := true) rfl rfl (by rw [q2]; decide) e143') (by go_simp; first | rfl | exact ⟨rfl, rfl⟩) 146 rfl ?_
      exact ⟨HS.out _ (below_alloc q4 _), fun e g1 g2 g3 => (eval_ne g2).trans (q1 e g1 g2 g3), by rw [size_put]; exact q2, by rw [defers_put]; exact q3, below_alloc q4 _, fun j hj => q5 j (List.mem_of_mem_erase hj), q6.imp (fun h => (List.mem_erase_of_ne (by decide)).2 h) (fun h => by rw [eval_ne (by decide)]; exact h.mono (below_alloc (Below.refl _ _) _)), .inr (by rw [eval_same (by rw [q2]; decide)]; exact (Sl.lit_at _ _ rfl _ [3, 3] _ rfl (by simp)).sk), q8.imp (fun h => (List.mem_erase_of_ne (by decide)).2 h) (fun h => by rw [eval_ne (by decide)]; exact h.mono (below_alloc (Below.refl _ _) _))⟩
    · refine op_val rfl (wanted_of (j := 14) (d := 143) (b := true) rfl rfl (by rw [q2]; decide) e143') (by go_simp; first | rfl | exact ⟨rfl, rfl⟩) 147 rfl ?_
      exact ⟨HS.out _ (below_alloc q4 _), fun e g1 g2 g3 => (eval_ne g3).trans (q1 e g1 g2 g3), by rw [size_put]; exact q2, by rw [defers_put]; exact q3, below_alloc q4 _, fun j hj => q5 j (List.mem_of_mem_erase hj), q6.imp (fun h => (List.mem_erase_of_ne (by decide)).2 h) (fun h => by rw [eval_ne (by decide)]; exact h.mono (below_alloc (Below.refl _ _) _)), q7.imp (fun h => (List.mem_erase_of_ne (by decide)).2 h) (fun h => by rw [eval_ne (by decide)]; exact h.mono (below_alloc (Below.refl _ _) _)), .inr (by rw [eval_same (by rw [q2]; decide)]; exact (Sl.lit_at _ _ rfl _ [6] _ rfl (by simp)).sk)⟩
  rintro a2 w20 ⟨q1, hsz2, hdf2, q4, _, q6, q7, q8⟩
  replace q6 := (q6.resolve_left (by simp)).now
  replace q7 := (q7.resolve_left (by simp)).now
  replace q8 := (q8.resolve_left (by simp)).now
  have f143 := (q1 143 (by decide) (by decide) (by decide)).trans e143
  have f144 := (q1 144 (by decide) (by decide) (by decide)).trans e144
  have f15 := (q1 15 (by decide) (by decide) (by decide)).trans e15
  have f16 := (q1 16 (by decide) (by decide) (by decide)).trans e16
  have f17 := (q1 17 (by decide) (by decide) (by decide)).trans e17
  clear q1 e143 t143 e144 t144 e15 t15 e16 t16 e17 t17
  obtain ⟨B1, d1, f145, hd1, hr1⟩ := q6.out
  obtain ⟨B2, d2, f146, hd2, hr2⟩ := q7.out
  obtain ⟨B3, d3, f147, hd3, hr3⟩ := q8.out
  simp only [List.length_cons, List.length_nil, Nat.reduceAdd] at f145 f146 f147 hd1 hd2 hd3 hr1 hr2 hr3
  have e143 := f143
  have t143 := tmp_of_eval (by rw [hsz2]; decide) f143
  clear f143
  have e144 := f144
  have t144 := tmp_of_eval (by rw [hsz2]; decide) f144
  clear f144
  have e15 := f15
  have t15 := tmp_of_eval (by rw [hsz2]; decide) f15
  clear f15
  have e16 := f16
  have t16 := tmp_of_eval (by rw [hsz2]; decide) f16
  clear f16
  have e17 := f17
  have t17 := tmp_of_eval (by rw [hsz2]; decide) f17
  clear f17
  have e145 := f145
  have t145 := tmp_of_eval (by rw [hsz2]; decide) f145
  clear f145
  have e146 := f146
  have t146 := tmp_of_eval (by rw [hsz2]; decide) f146
  clear f146
  have e147 := f147
  have t147 := tmp_of_eval (by rw [hsz2]; decide) f147
  clear f147
  refine scr_one (op_val rfl (wanted_of (j := 14) (d := 143) (b := true) rfl rfl (by rw [hsz2]; decide) e143) (by go_simp; first | rfl | exact ⟨rfl, rfl⟩) 148 rfl ⟨HS.out _ (below_alloc q4 _), ?_⟩)
  rw [e145] at q6
  rw [e146] at q7
  rw [e147] at q8
  have q20 := below_alloc q4 (Obj.cells #[Value.slice B1 4 d1, Value.slice B2 2 d2, Value.slice B3 1 d3] 22)
  refine scr_one (op_call rfl (wanted_of (j := 14) (d := 143) (b := true) rfl rfl (by go_simp; try omega) (by go_simp)) (by go_simp) (sEqualLists [[1, 2, 3, 0], [3, 3], [6]] [[1, 2, 3, 0], [3, 3], [6]] true (by decide) _ _ _ (Sm.out _ q20) (show SlK kL (w20.alloc (Obj.cells #[Value.slice B1 4 d1, Value.slice B2 2 d2, Value.slice B3 1 d3] 22)) (.slice (some ⟨w20.heap.size, 0, none⟩) 3 3) [[1, 2, 3, 0], [3, 3], [6]] from ⟨_, 3, rfl, Nat.le_refl _, lit_rows_at w20 _ rfl _ _ [[1, 2, 3, 0], [3, 3], [6]] _ rfl (rows_of3 q6 q7 q8) (by simp)⟩)) 149 rfl ?_)
  rintro en w21 ⟨rfl, hb⟩
  have q21 := q20.trans (hb.mono q20.size)
  refine ⟨_, rfl, HS.out _ q21, ?_⟩
  clear hb
  refine scr_get 150 (.bool true) rfl rfl rfl (fun W hW => by obtain ⟨k1, k2⟩ := hW; go_simp; first | rfl | done) ?_
  refine scr_get 151 (.bool true) rfl rfl rfl (fun W hW => by obtain ⟨k1, k2⟩ := hW; go_simp; first | rfl | done) ?_
  refine scr_get 152 (vd) rfl rfl (wanted_of (j := 22) (d := 151) (b := true) rfl rfl (by go_simp; try omega) (by go_simp)) (fun W hW => by obtain ⟨k1, k2⟩ := hW; go_simp; first | rfl | done) ?_
  refine scr_letter ?_
  intro a3 ha3
  have hsz3 : a3.tmps.size = 169 := by rw [ha3]; simp only [size_put]; exact hsz2
  have hdf3 : a3.defers = [] := by rw [ha3]; simp only [defers_put]; exact hdf2
  have f151 : a3.eval (.tmp 151) = .bool true := by rw [ha3]; simp only [eval_same, eval_ne, size_put, hsz2, ne_eq, Nat.reduceEqDiff, not_false_eq_true, Nat.reduceLT, e143, e144, e15, e16, e17, e145, e146, e147]
  have f152 : a3.eval (.tmp 152) = vd := by rw [ha3]; simp only [eval_same, eval_ne, size_put, hsz2, ne_eq, Nat.reduceEqDiff, not_false_eq_true, Nat.reduceLT, e143, e144, e15, e16, e17, e145, e146, e147]
  have f16 : a3.eval (.tmp 16) = .pointer (some ⟨w15.heap.size, 0, none⟩) := by rw [ha3]; simp only [eval_same, eval_ne, size_put, hsz2, ne_eq, Nat.reduceEqDiff, not_false_eq_true, Nat.reduceLT, e143, e144, e15, e16, e17, e145, e146, e147]
  have f17 : a3.eval (.tmp 17) = vk := by rw [ha3]; simp only [eval_same, eval_ne, size_put, hsz2, ne_eq, Nat.reduceEqDiff, not_false_eq_true, Nat.reduceLT, e143, e144, e15, e16, e17, e145, e146, e147]
  clear ha3 e143 t143 e144 t144 e15 t15 e16 t16 e17 t17 e145 t145 e146 t146 e147 t147
  have e151 := f151
  have t151 := tmp_of_eval (by rw [hsz3]; decide) f151
  clear f151
  have e152 := f152
  have t152 := tmp_of_eval (by rw [hsz3]; decide) f152
  clear f152
  have e16 := f16
  have t16 := tmp_of_eval (by rw [hsz3]; decide) f16
  clear f16
  have e17 := f17
  have t17 := tmp_of_eval (by rw [hsz3]; decide) f17
  clear f17
  refine scr_one (op_val rfl (wanted_of (j := 22) (d := 151) (b := true) rfl rfl (by go_simp; try omega) (by go_simp)) (by go_simp; first | rfl | exact ⟨rfl, rfl⟩) 153 rfl ⟨HS.out _ (below_alloc q21 _), ?_⟩)
  have q22 := below_alloc q21 (Obj.cells #[.int .i64 0, .int .i64 1, .int .i64 3] 3)
  refine scr_one (op_call rfl (wanted_of (j := 22) (d := 151) (b := true) rfl rfl (by go_simp; try omega) (by go_simp)) (by go_simp) (sEqual [0, 1, 3] [0, 1, 3] true (by decide) _ _ _ (Sd.out _ q22) (Sl.lit_at _ _ rfl _ [0, 1, 3] _ rfl (by simp))) 154 rfl ?_)
  rintro en w23 ⟨rfl, hb⟩
  have q23 := q22.trans (hb.mono q22.size)
  refine ⟨_, rfl, HS.out _ q23, ?_⟩
  clear hb
  refine scr_get 155 (.bool true) rfl rfl rfl (fun W hW => by obtain ⟨k1, k2⟩ := hW; go_simp; first | rfl | done) ?_
  refine scr_get 156 (.bool true) rfl rfl rfl (fun W hW => by obtain ⟨k1, k2⟩ := hW; go_simp; first | rfl | done) ?_
  refine scr_letter ?_
  intro a4 ha4
  have hsz4 : a4.tmps.size = 169 := by rw [ha4]; simp only [size_put]; exact hsz3
  have hdf4 : a4.defers = [] := by rw [ha4]; simp only [defers_put]; exact hdf3
  have f156 : a4.eval (.tmp 156) = .bool true := by rw [ha4]; simp only [eval_same, eval_ne, size_put, hsz3, ne_eq, Nat.reduceEqDiff, not_false_eq_true, Nat.reduceLT, e151, e152, e16, e17]
  have f16 : a4.eval (.tmp 16) = .pointer (some ⟨w15.heap.size, 0, none⟩) := by rw [ha4]; simp only [eval_same, eval_ne, size_put, hsz3, ne_eq, Nat.reduceEqDiff, not_false_eq_true, Nat.reduceLT, e151, e152, e16, e17]
  have f17 : a4.eval (.tmp 17) = vk := by rw [ha4]; simp only [eval_same, eval_ne, size_put, hsz3, ne_eq, Nat.reduceEqDiff, not_false_eq_true, Nat.reduceLT, e151, e152, e16, e17]
  clear ha4 e151 t151 e152 t152 e16 t16 e17 t17
  have e156 := f156
  have t156 := tmp_of_eval (by rw [hsz4]; decide) f156
  clear f156
  have e16 := f16
  have t16 := tmp_of_eval (by rw [hsz4]; decide) f16
  clear f16
  have e17 := f17
  have t17 := tmp_of_eval (by rw [hsz4]; decide) f17
  clear f17
  refine scr_get 157 (FlV (true, 5)) rfl rfl (wanted_of (j := 27) (d := 156) (b := true) rfl rfl (by go_simp; try omega) (by go_simp)) (fun W hW => by obtain ⟨k1, k2⟩ := hW; go_simp; first | rfl | done) ?_
  refine scr_one (op_call rfl (wanted_of (j := 27) (d := 156) (b := true) rfl rfl (by go_simp; try omega) (by go_simp)) (by go_simp) (law_flagged 5 _) 158 rfl ?_)
  rintro en w24 ⟨rfl, hb⟩
  have q24 := q23.trans (hb.mono q23.size)
  refine ⟨_, rfl, HS.out _ q24, ?_⟩
  clear hb
  refine scr_get 159 (.bool true) rfl rfl (wanted_of (j := 27) (d := 156) (b := true) rfl rfl (by go_simp; try omega) (by go_simp)) (fun W hW => by obtain ⟨k1, k2⟩ := hW; go_simp; first | rfl | done) ?_
  refine scr_get 160 (.bool true) rfl rfl rfl (fun W hW => by obtain ⟨k1, k2⟩ := hW; go_simp; first | rfl | done) ?_
  refine scr_get 161 (.bool true) rfl rfl rfl (fun W hW => by obtain ⟨k1, k2⟩ := hW; go_simp; first | rfl | done) ?_
  refine scr_get 162 (vk) rfl rfl (wanted_of (j := 32) (d := 161) (b := true) rfl rfl (by go_simp; try omega) (by go_simp)) (fun W hW => by obtain ⟨k1, k2⟩ := hW; go_simp; first | rfl | done) ?_
  refine scr_letter ?_
  intro a5 ha5
  have hsz5 : a5.tmps.size = 169 := by rw [ha5]; simp only [size_put]; exact hsz4
  have hdf5 : a5.defers = [] := by rw [ha5]; simp only [defers_put]; exact hdf4
  have f161 : a5.eval (.tmp 161) = .bool true := by rw [ha5]; simp only [eval_same, eval_ne, size_put, hsz4, ne_eq, Nat.reduceEqDiff, not_false_eq_true, Nat.reduceLT, e156, e16, e17]
  have f162 : a5.eval (.tmp 162) = vk := by rw [ha5]; simp only [eval_same, eval_ne, size_put, hsz4, ne_eq, Nat.reduceEqDiff, not_false_eq_true, Nat.reduceLT, e156, e16, e17]
  clear ha5 e156 t156 e16 t16 e17 t17
  have e161 := f161
  have t161 := tmp_of_eval (by rw [hsz5]; decide) f161
  clear f161
  have e162 := f162
  have t162 := tmp_of_eval (by rw [hsz5]; decide) f162
  clear f162
  refine scr_one (op_call rfl (wanted_of (j := 32) (d := 161) (b := true) rfl rfl (by go_simp; try omega) (by go_simp)) (by go_simp) (law_plain 1 _) 163 rfl ?_)
  rintro en w25 ⟨rfl, hb⟩
  have q25 := q24.trans (hb.mono q24.size)
  refine ⟨_, rfl, HS.out _ q25, ?_⟩
  clear hb
  refine scr_one (op_call rfl (wanted_of (j := 32) (d := 161) (b := true) rfl rfl (by go_simp; try omega) (by go_simp)) (by go_simp) (law_flagged 2 _) 164 rfl ?_)
  rintro en w26 ⟨rfl, hb⟩
  have q26 := q25.trans (hb.mono q25.size)
  refine ⟨_, rfl, HS.out _ q26, ?_⟩
  clear hb
  refine scr_one (op_call rfl (wanted_of (j := 32) (d := 161) (b := true) rfl rfl (by go_simp; try omega) (by go_simp)) (by go_simp) (law_flagged 5 _) 165 rfl ?_)
  rintro en w27 ⟨rfl, hb⟩
  have q27 := q26.trans (hb.mono q26.size)
  refine ⟨_, rfl, HS.out _ q27, ?_⟩
  clear hb
  refine scr_one (op_val rfl (wanted_of (j := 32) (d := 161) (b := true) rfl rfl (by go_simp; try omega) (by go_simp)) (by go_simp; first | rfl | exact ⟨rfl, rfl⟩) 166 rfl ⟨HS.out _ (below_alloc q27 _), ?_⟩)
  have q28 := below_alloc q27 (Obj.cells #[.bool false, .int .i64 1, .bool true, .int .i64 2, .bool true, .int .i64 5] 41)
  refine scr_one (op_call rfl (wanted_of (j := 32) (d := 161) (b := true) rfl rfl (by go_simp; try omega) (by go_simp)) (by go_simp) (sSame [(false, 1), (true, 2), (true, 5)] [(false, 1), (true, 2), (true, 5)] true (by decide) _ _ _ (Sk_.out _ q28) (lit_flags _ _ [(false, 1), (true, 2), (true, 5)] _ rfl (by simp))) 167 rfl ?_)
  rintro en w29 ⟨rfl, hb⟩
  have q29 := q28.trans (hb.mono q28.size)
  refine ⟨_, rfl, HS.out _ q29, ?_⟩
  clear hb
  refine scr_get 168 (.bool true) rfl rfl rfl (fun W hW => by obtain ⟨k1, k2⟩ := hW; go_simp; first | rfl | done) ?_
  refine scr_get 0 (.bool true) rfl rfl rfl (fun W hW => by obtain ⟨k1, k2⟩ := hW; go_simp; first | rfl | done) ?_
  refine scr_letter ?_
  intro a6 ha6
  have hsz6 : a6.tmps.size = 169 := by rw [ha6]; simp only [size_put]; exact hsz5
  have hdf6 : a6.defers = [] := by rw [ha6]; simp only [defers_put]; exact hdf5
  have f0 : a6.eval (.tmp 0) = .bool true := by rw [ha6]; simp only [eval_same, eval_ne, size_put, hsz5, ne_eq, Nat.reduceEqDiff, not_false_eq_true, Nat.reduceLT, e161, e162]
  clear ha6 e161 t161 e162 t162
  have e0 := f0
  have t0 := tmp_of_eval (by rw [hsz6]; decide) f0
  clear f0
  unfold scrP
  refine hKx a6 w29 ?_
  refine wp_ret ?_
  refine marksRet ?_
  rw [hdf6]
  refine Marks.zero _ (results_tmp rfl _ _ _) ?_
  exact ⟨by rw [show a6.tmps.getD 0 undef = .bool true from e0], HB.out.trans (q29.mono HB.out.size)⟩
end Go.Proofs.YtpenkemabeonaaaDoor.Hand
/- The contracts of the chapter's functions, in the form that the session's printer takes. -/
namespace Go.Proofs.YtpenkemabeonaaaDoor.Hand
open Go.RowKit Go.Proofs.YtpenkemabeonaaaDoorW.PrintWords Go.Proofs.YtpenkemabeonaaaDoorW.PrintLast Go.Proofs.YtpenkemabeonaaaDoorW.PrintMore
set_option linter.unusedVariables false

def sFold.f (a0 : Int) (l1 : List Int) (l2 : List Int) : Option (List Int × Int) := some (scan_Fold.g a0 l1 l2)
theorem sFold.calls (a0 : Int) (A1 : Option Addr) (c1 : Nat) (l1 : List Int) (A2 : Option Addr) (c2 : Nat) (l2 : List Int) (r1 : List Int) (r2 : Int) (w : World) (hG : Tabs w) (hr1 : Kd.C (Kd.int .i64) w A1 l1.length l1) (hc1 : l1.length ≤ c1) (hr2 : Kd.C (Kd.int .i64) w A2 l2.length l2) (hc2 : l2.length ≤ c2) (h : sFold.f a0 l1 l2 = some (r1, r2)) :
    Calls Tryd.prog 12 #[.int .i64 a0, .slice A1 l1.length c1, .slice A2 l2.length c2] w fun e w' => ∃ v0_ : Value, e = .returned (.tuple #[v0_, .int .i64 r2]) ∧ Kd.V (Kd.int .i64) 3 w' w.heap.size (fun k_ => w.heap.size ≤ k_) v0_ r1 ∧ Below w.heap.size w w' := by
  have h2 : scan_Fold.g a0 l1 l2 = (r1, r2) := by injection h
  have H := scan_Fold.run a0 A1 c1 l1 A2 c2 l2 w hG hr1 hc1 hr2 hc2
  rw [h2] at H
  exact H
def sScan.f (a0 : Int) (l1 : List Int) (l2 : List Int) : Option (List Int × Int) := some (scan_Scan.g a0 l1 l2)
theorem sScan.calls (a0 : Int) (A1 : Option Addr) (c1 : Nat) (l1 : List Int) (A2 : Option Addr) (c2 : Nat) (l2 : List Int) (r1 : List Int) (r2 : Int) (w : World) (hG : Tabs w) (hr1 : Kd.C (Kd.int .i64) w A1 l1.length l1) (hc1 : l1.length ≤ c1) (hr2 : Kd.C (Kd.int .i64) w A2 l2.length l2) (hc2 : l2.length ≤ c2) (h : sScan.f a0 l1 l2 = some (r1, r2)) :
    Calls Tryd.prog 14 #[.int .i64 a0, .slice A1 l1.length c1, .slice A2 l2.length c2] w fun e w' => ∃ v0_ : Value, e = .returned (.tuple #[v0_, .int .i64 r2]) ∧ Kd.V (Kd.int .i64) 3 w' w.heap.size (fun k_ => w.heap.size ≤ k_) v0_ r1 ∧ Below w.heap.size w w' := by
  have h2 : scan_Scan.g a0 l1 l2 = (r1, r2) := by injection h
  have H := scan_Scan.run a0 A1 c1 l1 A2 c2 l2 w hG hr1 hc1 hr2 hc2
  rw [h2] at H
  exact H
def sThrough.f (a0 : Int) (l1 : List Int) (l2 : List Int) : Option (List Int × Int) := some (scan_Through.g a0 l1 l2)
theorem sThrough.calls (a0 : Int) (A1 : Option Addr) (c1 : Nat) (l1 : List Int) (A2 : Option Addr) (c2 : Nat) (l2 : List Int) (r1 : List Int) (r2 : Int) (w : World) (hG : Tabs w) (hr1 : Kd.C (Kd.int .i64) w A1 l1.length l1) (hc1 : l1.length ≤ c1) (hr2 : Kd.C (Kd.int .i64) w A2 l2.length l2) (hc2 : l2.length ≤ c2) (h : sThrough.f a0 l1 l2 = some (r1, r2)) :
    Calls Tryd.prog 16 #[.int .i64 a0, .slice A1 l1.length c1, .slice A2 l2.length c2] w fun e w' => ∃ v0_ : Value, e = .returned (.tuple #[v0_, .int .i64 r2]) ∧ Kd.V (Kd.int .i64) 3 w' w.heap.size (fun k_ => w.heap.size ≤ k_) v0_ r1 ∧ Below w.heap.size w w' := by
  have h2 : scan_Through.g a0 l1 l2 = (r1, r2) := by injection h
  have H := scan_Through.run a0 A1 c1 l1 A2 c2 l2 w hG hr1 hc1 hr2 hc2
  rw [h2] at H
  exact H
def sTree.f (a0 : Int) (l1 : List Int) (l2 : List Int) : Option (Int × Int) := some (scan_Tree.g a0 l1 l2)
theorem sTree.calls (a0 : Int) (A1 : Option Addr) (c1 : Nat) (l1 : List Int) (A2 : Option Addr) (c2 : Nat) (l2 : List Int) (r1 : Int) (r2 : Int) (w : World) (hG : Tabs w) (hr1 : Kd.C (Kd.int .i64) w A1 l1.length l1) (hc1 : l1.length ≤ c1) (hr2 : Kd.C (Kd.int .i64) w A2 l2.length l2) (hc2 : l2.length ≤ c2) (h : sTree.f a0 l1 l2 = some (r1, r2)) :
    Calls Tryd.prog 20 #[.int .i64 a0, .slice A1 l1.length c1, .slice A2 l2.length c2] w fun e w' => e = .returned (.tuple #[.int .i64 r1, .int .i64 r2]) ∧ Below w.heap.size w w' := by
  have h2 : scan_Tree.g a0 l1 l2 = (r1, r2) := by injection h
  have H := scan_Tree.run a0 A1 c1 l1 A2 c2 l2 w hG hr1 hr2
  rw [h2] at H
  exact H
def sBlocks.f (a0 : Int) (l1 : List Int) (a2 : Int) : Option (List Int × List Int × Int) := some (scan_Blocks.g a0 l1 a2)
theorem sBlocks.calls (a0 : Int) (A1 : Option Addr) (c1 : Nat) (l1 : List Int) (a2 : Int) (r1 : List Int) (r2 : List Int) (r3 : Int) (w : World) (hG : Tabs w) (hr1 : Kd.C (Kd.int .i64) w A1 l1.length l1) (hc1 : l1.length ≤ c1) (h : sBlocks.f a0 l1 a2 = some (r1, r2, r3)) :
    Calls Tryd.prog 22 #[.int .i64 a0, .slice A1 l1.length c1, .int .i64 a2] w fun e w' => ∃ v0_ : Value, ∃ v1_ : Value, e = .returned (.tuple #[v0_, v1_, .int .i64 r3]) ∧ Kd.V (Kd.int .i64) 3 w' w.heap.size (fun k_ => w.heap.size ≤ k_) v0_ r1 ∧ Kd.V (Kd.int .i64) 3 w' w.heap.size (fun k_ => w.heap.size ≤ k_) v1_ r2 ∧ Below w.heap.size w w' := by
  have h2 : scan_Blocks.g a0 l1 a2 = (r1, r2, r3) := by injection h
  have H := scan_Blocks.run a0 A1 c1 l1 a2 w hG hr1 hc1
  rw [h2] at H
  exact H
def sLevels.f (a0 : Int) (l1 : List Int) : Option (List (List Int) × Int) := some (scan_Levels.g a0 l1)
theorem sLevels.calls (a0 : Int) (A1 : Option Addr) (c1 : Nat) (l1 : List Int) (r1 : List (List Int)) (r2 : Int) (w : World) (hG : Tabs w) (hr1 : Kd.C (Kd.int .i64) w A1 l1.length l1) (hc1 : l1.length ≤ c1) (h : sLevels.f a0 l1 = some (r1, r2)) :
    Calls Tryd.prog 24 #[.int .i64 a0, .slice A1 l1.length c1] w fun e w' => ∃ v0_ : Value, e = .returned (.tuple #[v0_, .int .i64 r2]) ∧ Kd.V (Kd.slice 3 (Kd.int .i64)) 22 w' w.heap.size (fun k_ => w.heap.size ≤ k_) v0_ r1 ∧ Below w.heap.size w w' := by
  have h2 : scan_Levels.g a0 l1 = (r1, r2) := by injection h
  have H := scan_Levels.run a0 A1 c1 l1 w hG hr1
  rw [h2] at H
  exact H
def sDown.f (a0 : Int) (l1 : List (List Int)) (a2 : Int) : Option (List Int × Int) := some (scan_Down.g a0 l1 a2)
theorem sDown.calls (a0 : Int) (A1 : Option Addr) (c1 : Nat) (l1 : List (List Int)) (a2 : Int) (r1 : List Int) (r2 : Int) (w : World) (hG : Tabs w) (hr1 : Kd.C (Kd.slice 3 (Kd.int .i64)) w A1 l1.length l1) (hc1 : l1.length ≤ c1) (h : sDown.f a0 l1 a2 = some (r1, r2)) :
    Calls Tryd.prog 27 #[.int .i64 a0, .slice A1 l1.length c1, .int .i64 a2] w fun e w' => ∃ v0_ : Value, e = .returned (.tuple #[v0_, .int .i64 r2]) ∧ Kd.V (Kd.int .i64) 3 w' w.heap.size (fun k_ => w.heap.size ≤ k_) v0_ r1 ∧ Below w.heap.size w w' := by
  have h2 : scan_Down.g a0 l1 a2 = (r1, r2) := by injection h
  have H := scan_Down.run a0 A1 c1 l1 a2 w hG hr1
  rw [h2] at H
  exact H
def Eq_.f (l0 l1 : List Int) : Option Bool := some (l0 == l1)
theorem Eq_.calls (A0 : Option Addr) (c0 : Nat) (l0 : List Int) (A1 : Option Addr) (c1 : Nat) (l1 : List Int) (r : Bool) (w : World) (hr0 : Kd.C (Kd.int .i64) w A0 l0.length l0) (hc0 : l0.length ≤ c0) (hr1 : Kd.C (Kd.int .i64) w A1 l1.length l1) (hc1 : l1.length ≤ c1) (h : Eq_.f l0 l1 = some r) :
    Calls Tryd.prog 18 #[.slice A0 l0.length c0, .slice A1 l1.length c1] w fun e w' => e = .returned (.bool r) ∧ Drawn0 w w' := by
  have h2 : (l0 == l1) = r := by injection h
  have H := ref_Equal A0 c0 l0 A1 c1 l1 w hr0 hr1
  rw [h2] at H
  exact H
def EqL.f (l0 l1 : List (List Int)) : Option Bool := some (l0 == l1)
theorem EqL.calls (A0 : Option Addr) (c0 : Nat) (l0 : List (List Int)) (A1 : Option Addr) (c1 : Nat) (l1 : List (List Int)) (r : Bool) (w : World) (hr0 : Kd.C (Kd.slice 3 (Kd.int .i64)) w A0 l0.length l0) (hc0 : l0.length ≤ c0) (hr1 : Kd.C (Kd.slice 3 (Kd.int .i64)) w A1 l1.length l1) (hc1 : l1.length ≤ c1) (h : EqL.f l0 l1 = some r) :
    Calls Tryd.prog 26 #[.slice A0 l0.length c0, .slice A1 l1.length c1] w fun e w' => e = .returned (.bool r) ∧ Drawn0 w w' := by
  have h2 : (l0 == l1) = r := by injection h
  have H := ref_EqualLists A0 c0 l0 A1 c1 l1 w hr0 hr1
  rw [h2] at H
  exact H
def law_joined.f : Option Bool := some true
theorem law_joined.calls (r : Bool) (w : World) (hG : Tabs w) (h : law_joined.f = some r) :
    Calls Tryd.prog 19 #[] w fun e w' => e = .returned (.bool r) ∧ Below w.heap.size w w' := by
  have h2 : true = r := by injection h
  subst h2
  exact law_joined w hG
def wDo.f (a0 a1 a2 : Int) : Option (Int × Int) := some (word_Do.g a0 a1 a2)
theorem wDo.calls (a0 a1 a2 : Int) (r1 r2 : Int) (w : World) (hG : Tabs w) (h : wDo.f a0 a1 a2 = some (r1, r2)) :
    Calls Tryd.prog 69 #[.int .i64 a0, .int .i64 a1, .int .i64 a2] w fun e w' => e = .returned (.tuple #[.int .i64 r1, .int .i64 r2]) ∧ Below w.heap.size w w' := by
  have h2 : word_Do.g a0 a1 a2 = (r1, r2) := by injection h
  have H := word_Do a0 a1 a2 w hG.deeds
  rw [h2] at H
  exact H
def rNeut.f (a0 : Int) : Option (Int × Int) := some (neutG a0)
theorem rNeut.calls (a0 : Int) (r1 r2 : Int) (w : World) (h : rNeut.f a0 = some (r1, r2)) :
    Calls Tryd.prog 47 #[.int .i64 a0] w fun e w' => e = .returned (.tuple #[.int .i64 r1, .int .i64 r2]) ∧ Below w.heap.size w w' := by
  have h2 : neutG a0 = (r1, r2) := by injection h
  have H := ref_Neutral a0 w
  rw [h2] at H
  exact H
end Go.Proofs.YtpenkemabeonaaaDoor.Hand
