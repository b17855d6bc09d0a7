/- scan: flagged words, joined. -/
import Derived.Test.YtpenkemabeonaaaDoorG2
namespace Go.Proofs.YtpenkemabeonaaaDoor.Hand
open Go.RowKit Go.Proofs.YtpenkemabeonaaaDoorW.PrintWords Go.Proofs.YtpenkemabeonaaaDoorW.PrintLast Go.Proofs.YtpenkemabeonaaaDoorW.PrintMore
set_option linter.unusedVariables false
set_option linter.unusedSimpArgs false
attribute [local go_sem] store_func store_nilFunc
abbrev FlV (x : Bool × Int) : Value := .agg #[.bool x.1, .int .i64 x.2]
def flagJ (op nn : Int) (x y : Bool × Int) : Bool × Int := if x = (false, nn) then y else if y.1 then y else (x.1, joinI op x.2 y.2)
theorem flagJ_a (op nn : Int) (y : Bool × Int) : flagJ op nn (false, nn) y = y := if_pos rfl
theorem flagJ_b (op nn : Int) (x y : Bool × Int) (h : y.1 = true) : flagJ op nn x y = y := by
  unfold flagJ
  rw [h]
  split <;> rfl
theorem flagJ_c (op nn : Int) (x y : Bool × Int) (hx : x ≠ (false, nn)) (h : y.1 = false) : flagJ op nn x y = (x.1, joinI op x.2 y.2) := by
  unfold flagJ
  rw [if_neg hx, if_neg (by rw [h]; decide)]
set_option maxHeartbeats 4000000 in
set_option maxRecDepth 100000 in
theorem joiner_flaggedA (op nn : Int) (b : Bool) (y : Int) (O : Nat) (w : World) :
    Calls Tryd.prog 66 #[JV op nn O, FlV (false, nn), FlV (b, y)] w fun e w' => e = .returned (FlV (b, y)) ∧ Below w.heap.size w w' := by
  refine calls_of_marks Tryd.func66 rfl ?_
  simp only [Tryd.ntmps66, List.size_toArray, List.length_cons, List.length_nil, Nat.reduceAdd, Nat.reduceSub, Array.replicate_succ, Array.replicate_zero, List.push_toArray, List.append_toArray, List.nil_append, List.cons_append]
  go_wp2
  unfold MarksPost
  refine Marks.zero _ (results_cell_row rfl _ _ (w.heap.size + 1 + 1 + 1) 41 #[.bool b, .int .i64 y] (0, 0) _ rfl (by exact (blk_alloc (blk_new_at (by simp) _) _)) Tryd.underlying41 rfl (by kernel_rfl)) ?_
  exact ⟨rfl, by repeat (first | exact Below.refl _ _ | apply below_alloc)⟩
set_option maxHeartbeats 4000000 in
set_option maxRecDepth 100000 in
theorem joiner_flaggedB (op nn : Int) (a : Bool) (x y : Int) (O : Nat) (w : World) (hx : (a == false && x == nn) = false) :
    Calls Tryd.prog 66 #[JV op nn O, FlV (a, x), FlV (true, y)] w fun e w' => e = .returned (FlV (true, y)) ∧ Below w.heap.size w w' := by
  refine calls_of_marks Tryd.func66 rfl ?_
  simp only [Tryd.ntmps66, List.size_toArray, List.length_cons, List.length_nil, Nat.reduceAdd, Nat.reduceSub, Array.replicate_succ, Array.replicate_zero, List.push_toArray, List.append_toArray, List.nil_append, List.cons_append]
  go_wp2
  all_goals unfold MarksPost
  all_goals refine Marks.zero _ (results_cell_row rfl _ _ (w.heap.size + 1 + 1 + 1) 41 #[.bool true, .int .i64 y] (0, 0) _ rfl (by exact (blk_alloc (blk_new_at (by simp) _) _)) Tryd.underlying41 rfl (by kernel_rfl)) ?_
  all_goals exact ⟨rfl, by repeat (first | exact Below.refl _ _ | apply below_alloc)⟩
set_option maxHeartbeats 4000000 in
set_option maxRecDepth 100000 in
theorem joiner_flaggedC (op nn : Int) (a : Bool) (x y : Int) (O : Nat) (w : World) (hx : (a, x) ≠ (false, nn)) (hG : Deeds w) :
    Calls Tryd.prog 66 #[JV op nn O, FlV (a, x), FlV (false, y)] w fun e w' => e = .returned (FlV (a, joinI op x y)) ∧ Below w.heap.size w w' := by
  have HG := Aside0.mk hG
  have HX := Aside0.mk hx
  clear hG hx
  generalize hJ : joinI op x y = jn
  replace hJ := Aside0.mk hJ
  cases a
  all_goals refine calls_of_marks Tryd.func66 rfl ?_
  all_goals simp only [Tryd.ntmps66, List.size_toArray, List.length_cons, List.length_nil, Nat.reduceAdd, Nat.reduceSub, Array.replicate_succ, Array.replicate_zero, List.push_toArray, List.append_toArray, List.nil_append, List.cons_append]
  all_goals go_wp2
  all_goals first
    | (exfalso; have h2 := ‹x = nn›; subst h2; exact HX.out rfl)
    | (refine wp_region_any (by kernel_rfl) ?_
       generalize hW0 : World.alloc (World.alloc (World.alloc (World.alloc (World.alloc w _) _) _) _) _ = W0
       have hB0 : Below w.heap.size w W0 := by rw [← hW0]; repeat (first | exact Below.refl _ _ | apply below_alloc)
       have b1 : W0.heap[w.heap.size]? = some (.cells #[.int .i64 op, .int .i64 nn, .func (.func 77) #[] #[.pointer (some ⟨O, 0, none⟩)]] 70 (0, 0)) := by rw [← hW0]; exact blk_alloc (blk_alloc (blk_alloc (blk_alloc (blk_new w _) _) _) _) _
       have b2 : W0.heap[w.heap.size + 1]? = some (.cells #[.bool false, .int .i64 x] 41 (0, 0)) := by rw [← hW0]; exact blk_alloc (blk_alloc (blk_alloc (blk_new_at (by simp) _) _) _) _
       have b3 : W0.heap[w.heap.size + 1 + 1]? = some (.cells #[.bool false, .int .i64 y] 41 (0, 0)) := by rw [← hW0]; exact blk_alloc (blk_alloc (blk_new_at (by simp) _) _) _
       have b4 : W0.heap[w.heap.size + 1 + 1 + 1]? = some (.cells #[.bool false, .int .i64 0] 41 (0, 0)) := by rw [← hW0]; exact blk_alloc (blk_new_at (by simp) _) _
       clear hW0
       have b4d := Aside0.mk (blk_drew b4)
       have hBd := Aside0.mk (below_drew hB0)
       change wpAny _ _ _ _ _ _ _ W0.drew
       refine region_anyL (fun W => W.cell? ⟨w.heap.size + 1, 0, none⟩ = some (.bool false) ∧ W.cell? ⟨w.heap.size, 0, none⟩ = some (.int .i64 op) ∧ W.cell? ⟨w.heap.size, 1, none⟩ = some (.int .i64 nn) ∧ W.cell? ⟨w.heap.size + 1, 1, none⟩ = some (.int .i64 x) ∧ W.cell? ⟨w.heap.size + 1 + 1, 1, none⟩ = some (.int .i64 y)) 8 [8, 9, 10] [10] (by kernel_rfl) (by kernel_rfl) (by kernel_rfl) (by kernel_rfl) rfl (fun _ _ _ h => h) ⟨blk_cell (blk_drew b2) 0, blk_cell (blk_drew b1) 0, blk_cell (blk_drew b1) 1, blk_cell (blk_drew b2) 1, blk_cell (blk_drew b3) 1⟩ ?_
       have k1 := blk_cell (blk_drew b2) 0
       have k2 := blk_cell (blk_drew b1) 0
       have k3 := blk_cell (blk_drew b1) 1
       have k4 := blk_cell (blk_drew b2) 1
       have k5 := blk_cell (blk_drew b3) 1
       have HK := Aside0.mk (And.intro k1 (And.intro k2 (And.intro k3 (And.intro k4 k5))))
       clear k1 k2 k3 k4 k5 b1 b2 b3 b4 hB0
       simp only [List.take_succ_cons, List.take_zero]
       iterate 8 refine Reads.step _ rfl (fun W hW => by obtain ⟨k1, k2, k3, k4, k5⟩ := hW; go_simp; rfl) ?_
       change TailL _ _ _ _ _ _ _
       refine TailL.call rfl rfl (by go_simp) (operation_join op nn x y _ (HG.out.below hBd.out)) ?_
       rintro e w2 ⟨rfl, hb2⟩
       obtain ⟨k1, k2, k3, k4, k5⟩ := HK.out
       refine ⟨_, rfl, fun _ => ⟨pw_cell_below hb2 k1, pw_cell_below hb2 k2, pw_cell_below hb2 k3, pw_cell_below hb2 k4, pw_cell_below hb2 k5⟩, ?_⟩
       have m4 := blk_below b4d.out hb2
       have q1 := pw_cell_below hb2 k1
       have q2 := pw_cell_below hb2 k2
       have q3 := pw_cell_below hb2 k3
       have q4 := pw_cell_below hb2 k4
       have q5 := pw_cell_below hb2 k5
       have c0 := blk_cell m4 0
       have c1 := blk_cell m4 1
       have f0 := blk_frozen m4 0
       have f1 := blk_frozen m4 1
       have hB2 := Aside0.mk (hBd.out.trans (hb2.mono (by have := hBd.out.size; omega)))
       replace m4 := Aside0.mk m4
       replace hJ := hJ.out
       clear hb2
       rw [hJ]
       refine TailL.val rfl rfl (by go_simp; rfl) (fun _ => ⟨q1, q2, q3, q4, q5⟩) ?_
       refine TailL.skip rfl rfl rfl (by go_simp; rfl) (fun h => absurd rfl h) ?_
       unfold TailL
       simp only [List.getElem_toArray, List.getElem_cons_succ, List.getElem_cons_zero, Act.put, List.setIfInBounds_toArray, List.set_cons_zero, List.set_cons_succ]
       go_wp2
       unfold MarksPost
       refine Marks.zero _ (results_cell_row rfl _ _ (w.heap.size + 1 + 1 + 1) 41 _ (0, 0) _ rfl (blk_set (blk_set m4.out 0 _) 1 _) Tryd.underlying41 rfl (by kernel_rfl)) ?_
       exact ⟨rfl, below_set (below_set hB2.out (by show w.heap.size ≤ w.heap.size + 1 + 1 + 1; omega) _) (by show w.heap.size ≤ w.heap.size + 1 + 1 + 1; omega) _⟩)
    | (refine wp_region_any (by kernel_rfl) ?_
       generalize hW0 : World.alloc (World.alloc (World.alloc (World.alloc (World.alloc w _) _) _) _) _ = W0
       have hB0 : Below w.heap.size w W0 := by rw [← hW0]; repeat (first | exact Below.refl _ _ | apply below_alloc)
       have b1 : W0.heap[w.heap.size]? = some (.cells #[.int .i64 op, .int .i64 nn, .func (.func 77) #[] #[.pointer (some ⟨O, 0, none⟩)]] 70 (0, 0)) := by rw [← hW0]; exact blk_alloc (blk_alloc (blk_alloc (blk_alloc (blk_new w _) _) _) _) _
       have b2 : W0.heap[w.heap.size + 1]? = some (.cells #[.bool true, .int .i64 x] 41 (0, 0)) := by rw [← hW0]; exact blk_alloc (blk_alloc (blk_alloc (blk_new_at (by simp) _) _) _) _
       have b3 : W0.heap[w.heap.size + 1 + 1]? = some (.cells #[.bool false, .int .i64 y] 41 (0, 0)) := by rw [← hW0]; exact blk_alloc (blk_alloc (blk_new_at (by simp) _) _) _
       have b4 : W0.heap[w.heap.size + 1 + 1 + 1]? = some (.cells #[.bool false, .int .i64 0] 41 (0, 0)) := by rw [← hW0]; exact blk_alloc (blk_new_at (by simp) _) _
       clear hW0
       have b4d := Aside0.mk (blk_drew b4)
       have hBd := Aside0.mk (below_drew hB0)
       change wpAny _ _ _ _ _ _ _ W0.drew
       refine region_anyL (fun W => W.cell? ⟨w.heap.size + 1, 0, none⟩ = some (.bool true) ∧ W.cell? ⟨w.heap.size, 0, none⟩ = some (.int .i64 op) ∧ W.cell? ⟨w.heap.size, 1, none⟩ = some (.int .i64 nn) ∧ W.cell? ⟨w.heap.size + 1, 1, none⟩ = some (.int .i64 x) ∧ W.cell? ⟨w.heap.size + 1 + 1, 1, none⟩ = some (.int .i64 y)) 8 [8, 9, 10] [10] (by kernel_rfl) (by kernel_rfl) (by kernel_rfl) (by kernel_rfl) rfl (fun _ _ _ h => h) ⟨blk_cell (blk_drew b2) 0, blk_cell (blk_drew b1) 0, blk_cell (blk_drew b1) 1, blk_cell (blk_drew b2) 1, blk_cell (blk_drew b3) 1⟩ ?_
       have k1 := blk_cell (blk_drew b2) 0
       have k2 := blk_cell (blk_drew b1) 0
       have k3 := blk_cell (blk_drew b1) 1
       have k4 := blk_cell (blk_drew b2) 1
       have k5 := blk_cell (blk_drew b3) 1
       have HK := Aside0.mk (And.intro k1 (And.intro k2 (And.intro k3 (And.intro k4 k5))))
       clear k1 k2 k3 k4 k5 b1 b2 b3 b4 hB0
       simp only [List.take_succ_cons, List.take_zero]
       iterate 8 refine Reads.step _ rfl (fun W hW => by obtain ⟨k1, k2, k3, k4, k5⟩ := hW; go_simp; rfl) ?_
       change TailL _ _ _ _ _ _ _
       refine TailL.call rfl rfl (by go_simp) (operation_join op nn x y _ (HG.out.below hBd.out)) ?_
       rintro e w2 ⟨rfl, hb2⟩
       obtain ⟨k1, k2, k3, k4, k5⟩ := HK.out
       refine ⟨_, rfl, fun _ => ⟨pw_cell_below hb2 k1, pw_cell_below hb2 k2, pw_cell_below hb2 k3, pw_cell_below hb2 k4, pw_cell_below hb2 k5⟩, ?_⟩
       have m4 := blk_below b4d.out hb2
       have q1 := pw_cell_below hb2 k1
       have q2 := pw_cell_below hb2 k2
       have q3 := pw_cell_below hb2 k3
       have q4 := pw_cell_below hb2 k4
       have q5 := pw_cell_below hb2 k5
       have c0 := blk_cell m4 0
       have c1 := blk_cell m4 1
       have f0 := blk_frozen m4 0
       have f1 := blk_frozen m4 1
       have hB2 := Aside0.mk (hBd.out.trans (hb2.mono (by have := hBd.out.size; omega)))
       replace m4 := Aside0.mk m4
       replace hJ := hJ.out
       clear hb2
       rw [hJ]
       refine TailL.val rfl rfl (by go_simp; rfl) (fun _ => ⟨q1, q2, q3, q4, q5⟩) ?_
       refine TailL.skip rfl rfl rfl (by go_simp; rfl) (fun h => absurd rfl h) ?_
       unfold TailL
       simp only [List.getElem_toArray, List.getElem_cons_succ, List.getElem_cons_zero, Act.put, List.setIfInBounds_toArray, List.set_cons_zero, List.set_cons_succ]
       go_wp2
       unfold MarksPost
       refine Marks.zero _ (results_cell_row rfl _ _ (w.heap.size + 1 + 1 + 1) 41 _ (0, 0) _ rfl (blk_set (blk_set m4.out 0 _) 1 _) Tryd.underlying41 rfl (by kernel_rfl)) ?_
       exact ⟨rfl, below_set (below_set hB2.out (by show w.heap.size ≤ w.heap.size + 1 + 1 + 1; omega) _) (by show w.heap.size ≤ w.heap.size + 1 + 1 + 1; omega) _⟩)
theorem joiner_flagged (op nn : Int) (x y : Bool × Int) (O : Nat) (w : World) (hG : Deeds w) :
    Calls Tryd.prog 66 #[JV op nn O, FlV x, FlV y] w fun e w' => e = .returned (FlV (flagJ op nn x y)) ∧ Below w.heap.size w w' := by
  obtain ⟨a, x⟩ := x
  obtain ⟨b, y⟩ := y
  by_cases h : (a, x) = (false, nn)
  · obtain ⟨rfl, rfl⟩ := Prod.mk.inj h
    rw [flagJ_a]
    exact joiner_flaggedA op _ b y O w
  · cases b
    · rw [flagJ_c op nn _ _ h rfl]
      exact joiner_flaggedC op nn a x y O w h hG
    · rw [flagJ_b op nn _ _ rfl]
      refine joiner_flaggedB op nn a x y O w ?_
      cases a
      · have : x ≠ nn := fun e => h (by rw [e])
        simpa using this
      · rfl
end Go.Proofs.YtpenkemabeonaaaDoor.Hand
/- scan.Join. -/
namespace Go.Proofs.YtpenkemabeonaaaDoor.Hand
open Go.RowKit Go.Proofs.YtpenkemabeonaaaDoorW.PrintWords Go.Proofs.YtpenkemabeonaaaDoorW.PrintLast Go.Proofs.YtpenkemabeonaaaDoorW.PrintMore
set_option linter.unusedVariables false
set_option linter.unusedSimpArgs false
attribute [local go_sem] store_func store_nilFunc
def scan_Join.g (op : Int) (x y : Bool × Int) : (Bool × Int) × Int := if (neutG op).2 = 0 then (if isWordB x.2 && isWordB y.2 then (flagJ op (neutG op).1 x y, 0) else ((false, 0), 2)) else ((false, 0), (neutG op).2)
/-- What lies in memory when the joiner is there. -/
structure JoinSt (w : World) (a b : Bool) (x y op nn : Int) (O bJ : Nat) (W : World) : Prop where
  below : Below w.heap.size w W
  rx : W.heap[w.heap.size]? = some (.cells #[.bool a, .int .i64 x] 41 (0, 0))
  ry : W.heap[w.heap.size + 1]? = some (.cells #[.bool b, .int .i64 y] 41 (0, 0))
  rr : W.heap[w.heap.size + 1 + 1]? = some (.cells #[.bool false, .int .i64 0] 41 (0, 0))
  rj : W.heap[bJ]? = some (.cells #[.int .i64 op, .int .i64 nn, .func (.func 77) #[] #[.pointer (some ⟨O, 0, none⟩)]] 70 (0, 0))
theorem JoinSt.next {w : World} {a b : Bool} {x y op nn : Int} {O bJ : Nat} {W W2 : World} (h : JoinSt w a b x y op nn O bJ W) (hb : Below W.heap.size W W2) : JoinSt w a b x y op nn O bJ W2 :=
  ⟨h.below.trans (hb.mono h.below.size), blk_below h.rx hb, blk_below h.ry hb, blk_below h.rr hb, blk_below h.rj hb⟩
theorem JoinSt.cells {w : World} {a b : Bool} {x y op nn : Int} {O bJ : Nat} {W : World} (h : JoinSt w a b x y op nn O bJ W) :
    W.cell? ⟨w.heap.size, 0, none⟩ = some (.bool a) ∧ W.cell? ⟨w.heap.size, 1, none⟩ = some (.int .i64 x) ∧ W.cell? ⟨w.heap.size + 1, 0, none⟩ = some (.bool b) ∧ W.cell? ⟨w.heap.size + 1, 1, none⟩ = some (.int .i64 y) ∧
      W.cell? ⟨w.heap.size + 1 + 1, 0, none⟩ = some (.bool false) ∧ W.cell? ⟨w.heap.size + 1 + 1, 1, none⟩ = some (.int .i64 0) ∧ W.cell? ⟨bJ, 0, none⟩ = some (.int .i64 op) ∧ W.cell? ⟨bJ, 1, none⟩ = some (.int .i64 nn) ∧ W.cell? ⟨bJ, 2, none⟩ = some (.func (.func 77) #[] #[.pointer (some ⟨O, 0, none⟩)]) :=
  ⟨blk_cell h.rx 0, blk_cell h.rx 1, blk_cell h.ry 0, blk_cell h.ry 1, blk_cell h.rr 0, blk_cell h.rr 1, blk_cell h.rj 0, blk_cell h.rj 1, blk_cell h.rj 2⟩
theorem JoinSt.start (w : World) (a b : Bool) (x y op nn : Int) (O : Nat) {w1 : World} (hb : Below (w.heap.size + 1 + 1 + 1) (((w.alloc (.cells #[.bool a, .int .i64 x] 41)).alloc (.cells #[.bool b, .int .i64 y] 41)).alloc (.cells #[.bool false, .int .i64 0] 41)) w1) :
    JoinSt w a b x y op nn O w1.heap.size (w1.alloc (.cells #[.int .i64 op, .int .i64 nn, .func (.func 77) #[] #[.pointer (some ⟨O, 0, none⟩)]] 70)) := by
  have hb' := hb
  rw [show w.heap.size + 1 + 1 + 1 = (((w.alloc (.cells #[.bool a, .int .i64 x] 41)).alloc (.cells #[.bool b, .int .i64 y] 41)).alloc (.cells #[.bool false, .int .i64 0] 41)).heap.size by simp] at hb'
  refine ⟨below_alloc ((below_alloc (below_alloc (below_alloc (Below.refl _ _) _) _) _).trans (hb.mono (by omega))) _, blk_alloc (blk_below (blk_alloc (blk_alloc (blk_new w _) _) _) hb') _, blk_alloc (blk_below (blk_alloc (blk_new_at (by simp) _) _) hb') _, blk_alloc (blk_below (blk_new_at (by simp) _) hb') _, blk_new w1 _⟩
set_option maxHeartbeats 4000000 in
set_option maxRecDepth 100000 in
theorem scan_Join_go (op nn : Int) (a b : Bool) (x y : Int) (w : World) (hT : Tabs w) (h1 : neutG op = (nn, 0)) (Bx By : Bool) (hx : isWordB x = Bx) (hy : isWordB y = By) :
    Calls Tryd.prog 29 #[.int .i64 op, FlV (a, x), FlV (b, y)] w fun e w' => e = .returned (if Bx && By then .tuple #[FlV (flagJ op nn (a, x) (b, y)), .int .i64 0] else .tuple #[FlV (false, 0), .int .i64 2]) ∧ Below w.heap.size w w' := by
  have HOf : Aside0 (Calls Tryd.prog 50 #[.int .i64 op] (((w.alloc (.cells #[.bool a, .int .i64 x] 41)).alloc (.cells #[.bool b, .int .i64 y] 41)).alloc (.cells #[.bool false, .int .i64 0] 41)) fun e w1 => ∃ O, e = .returned (.tuple #[JV op nn O, .int .i64 0]) ∧
      JoinSt w a b x y op nn O w1.heap.size (w1.alloc (.cells #[.int .i64 op, .int .i64 nn, .func (.func 77) #[] #[.pointer (some ⟨O, 0, none⟩)]] 70))) := by
    have hB : Below w.heap.size w (((w.alloc (.cells #[.bool a, .int .i64 x] 41)).alloc (.cells #[.bool b, .int .i64 y] 41)).alloc (.cells #[.bool false, .int .i64 0] 41)) := below_alloc (below_alloc (below_alloc (Below.refl _ _) _) _) _
    refine ⟨(scan_of_ok op nn _ (hT.laws.below hB) (hT.neut.below hB) h1).mono ?_⟩
    rintro e w1 ⟨O, rfl, _, _, hb⟩
    exact ⟨O, rfl, JoinSt.start w a b x y op nn O (by simpa using hb)⟩
  have HIx : Aside0 (∀ O bJ W, JoinSt w a b x y op nn O bJ W → Calls Tryd.prog 65 #[.int .i64 x] W fun e w' => e = .returned (.bool Bx) ∧ JoinSt w a b x y op nn O bJ w') := ⟨fun O bJ W hW => by
    have := word_Is x W
    rw [hx] at this
    refine this.mono ?_
    rintro e w2 ⟨rfl, m, rfl⟩
    exact ⟨rfl, hW.next (pw_below_drewN (Below.refl _ _) m)⟩⟩
  have HIy : Aside0 (∀ O bJ W, JoinSt w a b x y op nn O bJ W → Calls Tryd.prog 65 #[.int .i64 y] W fun e w' => e = .returned (.bool By) ∧ JoinSt w a b x y op nn O bJ w') := ⟨fun O bJ W hW => by
    have := word_Is y W
    rw [hy] at this
    refine this.mono ?_
    rintro e w2 ⟨rfl, m, rfl⟩
    exact ⟨rfl, hW.next (pw_below_drewN (Below.refl _ _) m)⟩⟩
  obtain ⟨fa, hfa⟩ : ∃ R, flagJ op nn (a, x) (b, y) = R := ⟨_, rfl⟩
  have HF : Aside0 (∀ O bJ W, JoinSt w a b x y op nn O bJ W → Calls Tryd.prog 66 #[JV op nn O, FlV (a, x), FlV (b, y)] W fun e w' => e = .returned (FlV fa) ∧ JoinSt w a b x y op nn O bJ w') := ⟨fun O bJ W hW => by
    have := joiner_flagged op nn (a, x) (b, y) O W (hT.below hW.below).deeds
    rw [hfa] at this
    refine this.mono ?_
    rintro e w2 ⟨rfl, hb⟩
    exact ⟨rfl, hW.next hb⟩⟩
  rw [hfa]
  generalize hRR : (if Bx && By then Value.tuple #[FlV fa, .int .i64 0] else .tuple #[FlV (false, 0), .int .i64 2]) = RR
  replace hRR := Aside0.mk hRR
  clear hT h1 hx hy hfa
  cases Bx <;> cases By
  all_goals go_enter Tryd.func29, Tryd.ntmps29
  all_goals go_wp2_with (first
    | (go_at_call 50; (with_reducible refine (HOf.out).mono ?_); rintro e w1 ⟨O, rfl, hst⟩; obtain ⟨c0, c1, c2, c3, c4, c5, c6, c7, c8⟩ := hst.cells; replace hst := Aside0.mk hst)
    | (go_at_call 65; (first | (with_reducible refine (HIx.out _ _ _ (Aside0.out (by assumption))).mono ?_) | (with_reducible refine (HIy.out _ _ _ (Aside0.out (by assumption))).mono ?_)); rintro e w2 ⟨rfl, hst2⟩; obtain ⟨c0, c1, c2, c3, c4, c5, c6, c7, c8⟩ := hst2.cells; have f4 := blk_frozen hst2.rr 0; have f5 := blk_frozen hst2.rr 1; replace hst2 := Aside0.mk hst2)
    | (go_at_call 66; (with_reducible refine (HF.out _ _ _ (Aside0.out (by assumption))).mono ?_); rintro e w2 ⟨rfl, hst2⟩; obtain ⟨c0, c1, c2, c3, c4, c5, c6, c7, c8⟩ := hst2.cells; have f4 := blk_frozen hst2.rr 0; have f5 := blk_frozen hst2.rr 1; replace hst2 := Aside0.mk hst2))
  all_goals (try simp only [Exit.inBlock, Exit.then])
  all_goals refine bodyPost_ret (results_ct rfl _ _ (w.heap.size + 1 + 1) 41 _ (0, 0) _ rfl (blk_set (blk_set (JoinSt.rr (Aside0.out (by assumption))) 0 _) 1 _) Tryd.underlying41 rfl (by kernel_rfl)) rfl ?_
  all_goals exact ⟨by rw [← hRR.out]; rfl, below_set (below_set (JoinSt.below (Aside0.out (by assumption))) (by show w.heap.size ≤ w.heap.size + 1 + 1; omega) _) (by show w.heap.size ≤ w.heap.size + 1 + 1; omega) _⟩
set_option maxHeartbeats 4000000 in
set_option maxRecDepth 100000 in
theorem scan_Join_no (op err : Int) (a b : Bool) (x y : Int) (w : World) (hT : Tabs w) (h1 : (neutG op).2 = err) (he : err ≠ 0) :
    Calls Tryd.prog 29 #[.int .i64 op, FlV (a, x), FlV (b, y)] w fun e w' => e = .returned (.tuple #[FlV (false, 0), .int .i64 err]) ∧ Below w.heap.size w w' := by
  have hB : Below w.heap.size w (((w.alloc (.cells #[.bool a, .int .i64 x] 41)).alloc (.cells #[.bool b, .int .i64 y] 41)).alloc (.cells #[.bool false, .int .i64 0] 41)) := below_alloc (below_alloc (below_alloc (Below.refl _ _) _) _) _
  have HOf := Aside0.mk (scan_of_no op err _ (hT.laws.below hB) (hT.neut.below hB) h1 he)
  have z : (err != 0) = true := bne_iff_ne.mpr he
  replace hB := Aside0.mk hB
  have R0 : Aside0 ((((w.alloc (.cells #[.bool a, .int .i64 x] 41)).alloc (.cells #[.bool b, .int .i64 y] 41)).alloc (.cells #[.bool false, .int .i64 0] 41)).heap[w.heap.size + 1 + 1]? = some (.cells #[.bool false, .int .i64 0] 41 (0, 0))) := ⟨blk_new_at (by simp) _⟩
  clear hT h1 he
  go_enter Tryd.func29, Tryd.ntmps29
  go_wp2_with (go_at_call 50; (with_reducible refine (HOf.out).mono ?_); rintro e w1 ⟨rfl, hb⟩; have rr := blk_alloc (blk_below R0.out hb) (Obj.cells #[.int .i64 0, .int .i64 0, .nilFunc] 70); have c0 := blk_cell rr 0; have c1 := blk_cell rr 1; have f0 := blk_frozen rr 0; have f1 := blk_frozen rr 1; replace rr := Aside0.mk rr; replace hb := Aside0.mk hb)
  (try simp only [Exit.inBlock, Exit.then])
  refine bodyPost_ret (results_ct rfl _ _ (w.heap.size + 1 + 1) 41 _ (0, 0) _ rfl (blk_set (blk_set rr.out 0 _) 1 _) Tryd.underlying41 rfl (by kernel_rfl)) rfl ?_
  exact ⟨rfl, below_set (below_set (below_alloc (hB.out.trans (hb.out.mono (by simp; omega))) _) (by show w.heap.size ≤ w.heap.size + 1 + 1; omega) _) (by show w.heap.size ≤ w.heap.size + 1 + 1; omega) _⟩
theorem scan_Join.run (op : Int) (x y : Bool × Int) (w : World) (hT : Tabs w) :
    Calls Tryd.prog 29 #[.int .i64 op, FlV x, FlV y] w fun e w' => e = .returned (.tuple #[FlV (scan_Join.g op x y).1, .int .i64 (scan_Join.g op x y).2]) ∧ Below w.heap.size w w' := by
  unfold scan_Join.g
  by_cases h1 : (neutG op).2 = 0
  · rw [if_pos h1]
    refine (scan_Join_go op (neutG op).1 x.1 y.1 x.2 y.2 w hT (Prod.ext rfl h1) _ _ rfl rfl).mono ?_
    rintro e w1 ⟨rfl, hb⟩
    refine ⟨?_, hb⟩
    split <;> rfl
  · rw [if_neg h1]
    exact scan_Join_no op _ x.1 y.1 x.2 y.2 w hT rfl h1
end Go.Proofs.YtpenkemabeonaaaDoor.Hand
/- A region that draws its order: reads anywhere in the text first, then operations one by one. -/
namespace Go.Proofs.YtpenkemabeonaaaDoor.Hand
open Go.RowKit Go.Proofs.YtpenkemabeonaaaDoorW.PrintWords Go.Proofs.YtpenkemabeonaaaDoorW.PrintLast Go.Proofs.YtpenkemabeonaaaDoorW.PrintMore
set_option linter.unusedVariables false
set_option linter.unusedSimpArgs false
def ReadsI (P : Program) (ops : Array Oper) (S : World → Prop) : List Nat → Act → (Act → Prop) → Prop
  | [], a, K => K a
  | k :: l, a, K => ∃ o v, ops[k]? = some o ∧ YieldsIf P ops S o v a ∧ ReadsI P ops S l (a.put o.dst v) K
def headBI (ops : Array Oper) (ds : List Nat) : List Nat → Array Bool → Bool
  | [], _ => true
  | k :: l, listed => (Region.ready .any ops listed).contains k && Region.free .any ops listed k && Region.closedB .any ops listed && Region.lastB .any ops listed ds k && headBI ops ds l (listed.setIfInBounds k true)
def markedI : List Nat → Array Bool → Array Bool
  | [], listed => listed
  | k :: l, listed => markedI l (listed.setIfInBounds k true)
theorem wpAnyI_heads {P : Program} {ops : Array Oper} {Q : Exit → Act → World → Prop} {S : World → Prop} {ds : List Nat} {w : World} (hs : Region.noSelect ops = true) (hQ : ∀ c a w, ¬ Q (.panic c) a w) (hS : S w) (fuel : Nat) :
    ∀ (l : List Nat) (listed : Array Bool) (a : Act), headBI ops ds l listed = true →
      ReadsI P ops S l a (fun a' => wpAnyLast P .any ops Q S ds fuel (markedI l listed) a' w) → wpAnyLast P .any ops Q S ds (fuel + l.length) listed a w
  | [], _, _, _, h => h
  | k :: l, listed, a, hB, h => by
    obtain ⟨o, v, h0, hy, h⟩ := h
    simp only [headBI, Bool.and_eq_true] at hB
    have ih := wpAnyI_heads (ds := ds) hs hQ hS fuel l (listed.setIfInBounds k true) (a.put o.dst v) hB.2 h
    exact wpAnyLast_take h0 hs hB.1.1.1.2 hB.1.1.1.1 hB.1.1.2 hB.1.2 (fun c a w h => (hQ _ _ _ h).elim) hy hS ih
theorem ReadsI.imp {P : Program} {ops : Array Oper} {S : World → Prop} {K K2 : Act → Prop} : ∀ (l : List Nat) (a : Act), (∀ a, K a → K2 a) → ReadsI P ops S l a K → ReadsI P ops S l a K2
  | [], _, hk, h => hk _ h
  | _ :: l, _, hk, h => by
    obtain ⟨o, v, h0, hy, h⟩ := h
    exact ⟨o, v, h0, hy, ReadsI.imp l _ hk h⟩
theorem region_anyI {P : Program} {l : List Oper} {Q : Exit → Act → World → Prop} {a : Act} {w : World} (S : World → Prop) (ks tl ds : List Nat) (hs : Region.noSelect l.toArray = true) (hB : headBI l.toArray ds ks (Array.replicate l.toArray.size false) = true)
    (hT : tailB l.toArray tl (markedI ks (Array.replicate l.toArray.size false)) = true) (hO : lastOnly ds tl = true) (hn : tl.length + ks.length = l.toArray.size) (hQ : ∀ c a w, ¬ Q (.panic c) a w) (hS : S w)
    (h : ReadsI P l.toArray S ks a (fun a' => TailL P l.toArray Q S tl a' w)) : wpAny P .any l.toArray Q l.toArray.size (Array.replicate l.toArray.size false) a w := by
  have H := wpAnyI_heads (P := P) (Q := Q) (ds := ds) hs hQ hS tl.length ks (Array.replicate l.toArray.size false) a hB (ReadsI.imp _ _ (fun a' ha => wpAnyL_tail tl _ a' w hT hO ha) h)
  rw [hn] at H
  exact wpAny_of_last _ _ _ _ H
theorem ReadsI.step {P : Program} {ops : Array Oper} {S : World → Prop} {k : Nat} {l : List Nat} {a : Act} {K : Act → Prop} {o : Oper} (v : Value) (h0 : ops[k]? = some o) (hg : o.guard = none) (hv : ∀ W, S W → (execOp a.eval o).run P W = .ok (.value v) W)
    (h : ReadsI P ops S l (a.put o.dst v) K) : ReadsI P ops S (k :: l) a K :=
  ⟨o, v, h0, .inl ⟨by simp [Region.wanted, hg], hv⟩, h⟩
end Go.Proofs.YtpenkemabeonaaaDoor.Hand
/- scan.Blocks: what it computes; slices of a list. -/
namespace Go.Proofs.YtpenkemabeonaaaDoor.Hand
open Go.RowKit Go.Proofs.YtpenkemabeonaaaDoorW.PrintWords Go.Proofs.YtpenkemabeonaaaDoorW.PrintLast Go.Proofs.YtpenkemabeonaaaDoorW.PrintMore
set_option linter.unusedVariables false
set_option linter.unusedSimpArgs false
/-- Where the slice of a list begins, to which the whole capacity is left. -/
def segB (A : Option Addr) (c at_ : Nat) : Option Addr := if c = at_ then A else A.map (·.add at_)
theorem seg_slice2 (A : Option Addr) (c : Nat) (l : List Int) (at_ hi : Nat) (h0 : at_ ≤ hi) (hm : hi ≤ l.length) (hc : l.length ≤ c) :
    (∀ W : World, (Instr.slice 22 (.slice A l.length c) (some (.int .i64 (at_ : Int))) (some (.int .i64 (hi : Int))) none).run Tryd.prog W = .ok (.slice (segB A c at_) (hi - at_) (c - at_)) W) ∧
      (∀ W : World, (Kd.int .i64).C W A l.length l → (Kd.int .i64).C W (segB A c at_) (hi - at_) ((l.drop at_).take (hi - at_))) := by
  obtain ⟨i, hi', hs⟩ : ∃ i, Tryd.prog.info? 3 = some i ∧ i.size = 1 := by
    have h := infoInt
    cases hq : Tryd.prog.info? 3 with
    | none => rw [hq] at h; exact absurd h (by simp)
    | some i => rw [hq] at h; exact ⟨i, rfl, by simp at h; exact h.2.1⟩
  constructor
  · intro W
    have ht := Tryd.underlying22
    have hel : Tryd.prog.elem 22 = 3 := by simp [Program.elem, ht]
    have hu : Tryd.prog.underlying 22 = some (.slice (Tryd.prog.elem 22)) := by rw [hel]; exact ht
    rw [run_slice_lh W 22 A l.length c hu .i64 .i64 (at_ : Int) (hi : Int) (by omega) (by omega) (by omega), hel]
    simp [sizeOf, typeInfo, hi', hs, sliced, Result.andThen, segB]
  · intro W h
    by_cases hz : c = at_
    · have e : hi - at_ = 0 := by omega
      rw [e]
      have h1 := Kd.reads_of_C (enc := Value.int .i64) (d := (0 : Int)) (h1 := fun _ => rfl) h
      have h2 := h1.take_ 0 (by omega)
      have : segB A c at_ = A := if_pos hz
      rw [this]
      have h3 := Kd.C_of_reads (d := (0 : Int)) (h1 := fun _ => rfl) h2
      rw [List.take_zero] at h3 ⊢
      exact h3
    · have e1 : segB A c at_ = A.map (·.add at_) := if_neg hz
      rw [e1]
      have h1 := Kd.reads_of_C (enc := Value.int .i64) (d := (0 : Int)) (h1 := fun _ => rfl) h
      have h2 := (h1.take_ hi hm).drop_ (c := hi) at_ (by omega) (by omega)
      rw [List.drop_take] at h2
      by_cases hq : hi = at_
      · subst hq
        simp only [Nat.sub_self, if_true, List.take_zero] at h2 ⊢
        exact ⟨rfl, by decide, fun h => absurd h (Nat.lt_irrefl _)⟩
      · rw [if_neg hq] at h2
        exact Kd.C_of_reads (d := (0 : Int)) (h1 := fun _ => rfl) h2
/-- How many blocks there are. -/
def nbOf (len m : Nat) : Nat := (len + m - 1) / m
theorem nbOf_lt {len m i : Nat} (hm : 0 < m) : i < nbOf len m ↔ i * m < len := by
  unfold nbOf
  rw [Nat.lt_iff_add_one_le, Nat.le_div_iff_mul_le hm, Nat.add_mul]
  omega
def bLen (l : List Int) (m i : Nat) : Nat := min m (l.length - i * m)
def bSum (op nn : Int) (l : List Int) (m i : Nat) : Int := nowAt op nn l (i * m) (bLen l m i)
def sumsTo (op nn : Int) (l : List Int) (m i : Nat) : List Int := (List.range i).map (bSum op nn l m)
theorem sumsTo_succ (op nn : Int) (l : List Int) (m i : Nat) : sumsTo op nn l m (i + 1) = sumsTo op nn l m i ++ [bSum op nn l m i] := by simp [sumsTo, List.range_succ]
theorem sumsTo_length (op nn : Int) (l : List Int) (m i : Nat) : (sumsTo op nn l m i).length = i := by simp [sumsTo]
theorem sumsTo_rd (op nn : Int) (l : List Int) (m i k : Nat) (h : k < i) : rd (sumsTo op nn l m i) (k : Int) = bSum op nn l m k := by simp [rd, sumsTo, h]
def bAhead (op nn : Int) (l : List Int) (m : Nat) : Nat → Int
  | 0 => nn
  | i + 1 => joinI op (bAhead op nn l m i) (bSum op nn l m i)
def bMid (op nn : Int) (l : List Int) (m i k : Nat) : List Int := (List.range k).map (nowAt op (bAhead op nn l m i) l (i * m))
theorem bMid_succ (op nn : Int) (l : List Int) (m i k : Nat) : bMid op nn l m i (k + 1) = bMid op nn l m i k ++ [nowAt op (bAhead op nn l m i) l (i * m) k] := by simp [bMid, List.range_succ]
theorem bMid_length (op nn : Int) (l : List Int) (m i k : Nat) : (bMid op nn l m i k).length = k := by simp [bMid]
def bTo (op nn : Int) (l : List Int) (m : Nat) : Nat → List Int
  | 0 => []
  | i + 1 => bTo op nn l m i ++ bMid op nn l m i (bLen l m i)
theorem bTo_length (op nn : Int) (l : List Int) (m : Nat) : ∀ i, (bTo op nn l m i).length ≤ i * m
  | 0 => by simp [bTo]
  | i + 1 => by
    have := bTo_length op nn l m i
    unfold bTo
    rw [List.length_append, bMid_length, Nat.add_mul]
    unfold bLen
    omega
def scan_Blocks.g (op : Int) (l : List Int) (most : Int) : List Int × List Int × Int :=
  if (neutG op).2 = 0 then (if wsE l = 0 then (if decide (most < 1) || decide (1048576 < most) then ([], [], 2) else (sumsTo op (neutG op).1 l most.toNat (nbOf l.length most.toNat), bTo op (neutG op).1 l most.toNat (nbOf l.length most.toNat), 0)) else ([], [], wsE l)) else ([], [], (neutG op).2)
def Ret3 (w : World) (R : List Int × List Int × Int) (e : Ending) (w' : World) : Prop := ∃ v u, e = .returned (.tuple #[v, u, .int .i64 R.2.2]) ∧ Kd.V (Kd.int .i64) 3 w' w.heap.size (fun k => w.heap.size ≤ k) v R.1 ∧ Kd.V (Kd.int .i64) 3 w' w.heap.size (fun k => w.heap.size ≤ k) u R.2.1 ∧ Below w.heap.size w w'
/-- The joiner lies in memory. -/
structure BlkSt (w : World) (op nn : Int) (O bJ : Nat) (W : World) : Prop where
  below : Below w.heap.size w W
  jn : W.heap[bJ]? = some (.cells #[.int .i64 op, .int .i64 nn, .func (.func 77) #[] #[.pointer (some ⟨O, 0, none⟩)]] 70 (0, 0))
  opAt : OpAt W O op nn
theorem BlkSt.next {w : World} {op nn : Int} {O bJ : Nat} {W W2 : World} (h : BlkSt w op nn O bJ W) (hb : Below W.heap.size W W2) : BlkSt w op nn O bJ W2 :=
  ⟨h.below.trans (hb.mono h.below.size), blk_below h.jn hb, blk_below h.opAt hb⟩
theorem BlkSt.of (w : World) (op nn : Int) (hT : Tabs w) (h1 : neutG op = (nn, 0)) : Calls Tryd.prog 50 #[.int .i64 op] w fun e w1 => ∃ O, e = .returned (.tuple #[JV op nn O, .int .i64 0]) ∧
      BlkSt w op nn O w1.heap.size (w1.alloc (.cells #[.int .i64 op, .int .i64 nn, .func (.func 77) #[] #[.pointer (some ⟨O, 0, none⟩)]] 70)) := by
  refine (scan_of_ok op nn w hT.laws hT.neut h1).mono ?_
  rintro e w1 ⟨O, rfl, _, hO, hb⟩
  exact ⟨O, rfl, below_alloc hb _, blk_new w1 _, blk_alloc hO _⟩
end Go.Proofs.YtpenkemabeonaaaDoor.Hand
/- scan.Blocks: the walk. -/
namespace Go.Proofs.YtpenkemabeonaaaDoor.Hand
open Go.RowKit Go.Proofs.YtpenkemabeonaaaDoorW.PrintWords Go.Proofs.YtpenkemabeonaaaDoorW.PrintLast Go.Proofs.YtpenkemabeonaaaDoorW.PrintMore
set_option linter.unusedVariables false
set_option linter.unusedSimpArgs false
attribute [local go_sem] store_func store_nilFunc
theorem nowAt_succ (op nn : Int) (l : List Int) (st k : Nat) : nowAt op nn l st (k + 1) = joinI op (nowAt op nn l st k) (rd l ((st + k : Nat) : Int)) := rfl
set_option maxHeartbeats 2000000 in
set_option maxRecDepth 100000 in
theorem scan_Blocks_yes (op nn : Int) (A : Option Addr) (c : Nat) (l : List Int) (m : Nat) (w : World) (hT : Tabs w) (hr : Kd.C (Kd.int .i64) w A l.length l) (hc : l.length ≤ c) (h1 : neutG op = (nn, 0)) (h2 : wsE l = 0) (h3 : 0 < m) (h4 : m ≤ 1048576) :
    Calls Tryd.prog 22 #[.int .i64 op, .slice A l.length c, .int .i64 (m : Int)] w (Ret3 w (sumsTo op nn l m (nbOf l.length m), bTo op nn l m (nbOf l.length m), 0)) := by
  have HOf := Aside0.mk (BlkSt.of w op nn hT h1)
  have HW1 : Aside0 (∀ W, Below w.heap.size w W → Calls Tryd.prog 51 #[.slice A l.length c] W fun e w' => e = .returned (.int .i64 0) ∧ Drawn0 W w') := ⟨fun W hW => by have := scan_words A c l W (Kd.C_below hr hW); rwa [h2] at this⟩
  have hlen := (wsE_ok h2).1
  have HR := Aside0.mk hr
  have HC := Aside0.mk hc
  have HT := Aside0.mk hT
  have hsl := seg_slice2 A c l
  have HSl := Aside0.mk hsl
  clear hr hc hT h1 h2 hsl
  generalize hRR : (sumsTo op nn l m (nbOf l.length m), bTo op nn l m (nbOf l.length m), (0 : Int)) = RR
  replace hRR := Aside0.mk hRR
  refine calls_of_marks Tryd.func22 rfl ?_
  simp only [Tryd.ntmps22, List.size_toArray, List.length_cons, List.length_nil, Nat.reduceAdd, Nat.reduceSub, Array.replicate_succ, Array.replicate_zero, List.push_toArray, List.append_toArray, List.nil_append, List.cons_append]
  go_wp2_with (first | (go_at_call 50; (with_reducible refine (HOf.out).mono ?_); rintro e w1 ⟨O, rfl, hst⟩; replace hst := Aside0.mk hst) | (go_at_call 51; (with_reducible refine (HW1.out _ (by exact BlkSt.below (Aside0.out (by assumption)))).mono ?_); rintro e w2 ⟨rfl, m2, rfl⟩))
  replace hst := Aside0.mk (hst.out.next (pw_below_drewN (Below.refl _ _) m2))
  generalize ((w1.alloc _).drewN m2) = w2 at *
  generalize w1.heap.size = bJ at *
  have hj2 := blk_lt hst.out.jn
  have ho2 := blk_lt hst.out.opAt
  have hB0 := hst.out.below.size
  go_loopw [6, 11] (fun v a wr => ∃ i : Nat, a = .int .i64 ((i * m : Nat) : Int) ∧ i ≤ nbOf l.length m ∧ i * m < l.length + m ∧ Aside0 (Below w2.heap.size w2 wr) ∧ Aside0 ((Kd.int .i64).R 3 wr w2.heap.size (fun k => w2.heap.size ≤ k) v (sumsTo op nn l m i))) (fun _ a _ => l.length + m - (intOf a).toNat)
  case atStart => exact ⟨0, by simp, by omega, by omega, ⟨Below.refl _ _⟩, ⟨Kd.R_nil _ _ _ _ _⟩⟩
  case round =>
    revert wr
    intro wo hrel
    obtain ⟨i, rfl, p0, p1, hb, hR⟩ := hrel
    by_cases hlt : i * m < l.length
    · have hin : i + 1 ≤ nbOf l.length m := (nbOf_lt h3).2 hlt
      have hbl : bLen l m i = min m (l.length - i * m) := rfl
      have hsu := Aside0.mk (sumsTo_succ op nn l m i)
      have hsl := Aside0.mk (sumsTo_length op nn l m i)
      have hbs : bSum op nn l m i = nowAt op nn l (i * m) (bLen l m i) := rfl
      have him : Aside0 ((i + 1) * m = i * m + m) := ⟨by rw [Nat.add_mul]; omega⟩
      generalize bLen l m i = n at *
      generalize hst0 : i * m = st at *
      have hii : i ≤ st := by rw [← hst0]; exact Nat.le_mul_of_pos_right i h3
      clear hst0
      have hq := HSl.out st (st + n) (by omega) (by omega) HC.out
      rw [show st + n - st = n by omega] at hq
      obtain ⟨q1, q2⟩ := hq
      have hst3 := Aside0.mk (hst.out.next hb.out)
      have c1 : wo.cell? ⟨bJ, 1, none⟩ = some (.int .i64 nn) := blk_cell hst3.out.jn 1
      have Q2 := Aside0.mk q2
      have key : (st + m ≤ l.length ∧ (Instr.slice 22 (.slice A l.length c) (some (.int .i64 (st : Int))) (some (.int .i64 ((st : Int) + (m : Int)))) none).run Tryd.prog wo = .ok (.slice (segB A c st) n (c - st)) wo) ∨ (l.length < st + m ∧ (Instr.slice 22 (.slice A l.length c) (some (.int .i64 (st : Int))) (some (.int .i64 (l.length : Int))) none).run Tryd.prog wo = .ok (.slice (segB A c st) n (c - st)) wo) := by
        have h := q1 wo
        by_cases hle : st + m ≤ l.length
        · rw [show ((st + n : Nat) : Int) = (st : Int) + (m : Int) by omega] at h
          exact .inl ⟨hle, h⟩
        · rw [show ((st + n : Nat) : Int) = (l.length : Int) by omega] at h
          exact .inr ⟨by omega, h⟩
      have HBs := Aside0.mk hbs
      clear q1 q2 hbs
      generalize segB A c st = SA at *
      rcases key with ⟨hle, hsl2⟩ | ⟨hle, hsl2⟩
      all_goals
        (go_wp2
         go_loopw [12, 60] (fun v j W => ∃ k : Nat, j = .int .i64 (k : Int) ∧ v = .int .i64 (nowAt op nn l st k) ∧ k ≤ n ∧ Aside0 (Below wo.heap.size wo W)) (fun _ j _ => n - (intOf j).toNat)
         case atStart => exact ⟨0, rfl, rfl, by omega, ⟨Below.refl _ _⟩⟩
         case round =>
           obtain ⟨k, rfl, rfl, r1, hb2⟩ := hrel
           have hst4 := Aside0.mk (hst3.out.next hb2.out)
           by_cases hk : k < n
           · obtain ⟨ad, e1, hx⟩ := Kd.at_int (Q2.out _ (Kd.C_below HR.out hst4.out.below)) (k : Int) (by omega) (by omega)
             cases e1
             rw [rd_seg l st n k hk, Int.toNat_natCast] at hx
             have cJ : wr.cell? ⟨bJ, 2, none⟩ = some (.func (.func 77) #[] #[.pointer (some ⟨O, 0, none⟩)]) := blk_cell hst4.out.jn 2
             have HJ := Aside0.mk (joiner_by op nn (nowAt op nn l st k) (rd l ((st + k : Nat) : Int)) O wr hst4.out.opAt (HT.out.below hst4.out.below).deeds)
             have hN := Aside0.mk (nowAt_succ op nn l st k)
             generalize nowAt op nn l st k = now at *
             generalize rd l ((st + k : Nat) : Int) = el at *
             go_wp2_with (go_at_call 77; (with_reducible refine (HJ.out).mono ?_); rintro e w4 ⟨rfl, hb4⟩; replace hb4 := Aside0.mk hb4)
             go_roundw
             case rel => exact ⟨k + 1, by simp, by rw [hN.out], by omega, ⟨hb2.out.trans (hb4.out.mono hb2.out.size)⟩⟩
             case measure => simp [intOf]; omega
           · obtain rfl : k = n := by omega
             rw [← HBs.out]
             generalize bSum op nn l m i = bs at *
             have hR4 := Aside0.mk (Kd.R_below hR.out hb2.out)
             have hb5 := Aside0.mk (hb.out.trans (hb2.out.mono hb.out.size))
             have hls := hsl.out
             have HLs := Aside0.mk (show ((sumsTo op nn l m i).length + 1) * 8 ≤ 140737488355328 by omega)
             replace hR := Aside0.mk hR.out
             clear hb2 hb HBs
             generalize sumsTo op nn l m i = xs at *
             go_wp2_with ((with_reducible refine gate_builtin (b := .append) (xs := #[.tmp 70, .tmp 72]) rfl ?_); at_builtin; refine Kd.R_append (Kd.int .i64) (w0 := w2) w2.heap.size rfl (.tmp 70) (.tmp 72) 22 3 (.int .i64 0) 8 rfl Tryd.underlying22 infoInt rfl (by decide) (by omega) u6 xs bs [.int .i64 bs] (fun k_ => (w2.heap.size ≤ k_)) (fun _ => False) rfl rfl rfl (fun _ hk => hk.elim) (fun k_ hk => Nat.le_trans hb5.out.size hk) hR4.out hb5.out hb5.out.size HLs.out ?_; intro v6 w6 ho hb6 hg hat; replace ho := Aside0.mk ho; replace hb6 := Aside0.mk hb6; clear hg hat)
             go_roundw
             case rel => exact ⟨i + 1, by rw [him.out]; simp, by omega, by rw [him.out]; omega, hb6, ⟨by rw [hsu.out]; exact ho.out⟩⟩
             case measure => simp [intOf]; omega)
    · have hin : i = nbOf l.length m := by
        have h := (nbOf_lt (len := l.length) (i := i) h3)
        omega
      have h3s := hst.out.next hb.out
      have hsz3 := hb.out.size
      obtain ⟨A6, c6, rfl⟩ := Kd.R_slice hR.out
      have hC6 := Aside0.mk (Kd.R_reads' hR.out).2
      have hcap6 := Aside0.mk (R_cap hR.out)
      have cJ3 := blk_lt h3s.jn
      have hH3 := Aside0.mk h3s
      have hnbm : Aside0 (∀ x, x < nbOf l.length m → x * m < l.length) := ⟨fun x hx => (nbOf_lt h3).1 hx⟩
      have hsr : Aside0 (∀ x, x < nbOf l.length m → rd (sumsTo op nn l m (nbOf l.length m)) (x : Int) = bSum op nn l m x) := ⟨fun x hx => sumsTo_rd op nn l m _ x hx⟩
      have hsl := Aside0.mk (sumsTo_length op nn l m (nbOf l.length m))
      subst hin
      have hnb : nbOf l.length m ≤ l.length := by
        by_cases h0 : nbOf l.length m = 0
        · omega
        · have h1 := hnbm.out (nbOf l.length m - 1) (by omega)
          have h2 := Nat.le_mul_of_pos_right (nbOf l.length m - 1) h3
          omega
      have c1 : wo.cell? ⟨bJ, 1, none⟩ = some (.int .i64 nn) := blk_cell h3s.jn 1
      clear h3s p0 p1
      generalize nbOf l.length m = nb at *
      generalize sumsTo op nn l m nb = xs at *
      have hxl : xs.length = nb := hsl.out
      clear hsl
      subst hxl
      generalize xs.length * m = P at *
      go_wp2
      go_loopw [7, 15, 79] (fun v a j W => ∃ x : Nat, j = .int .i64 (x : Int) ∧ a = .int .i64 (bAhead op nn l m x) ∧ x ≤ xs.length ∧ Aside0 (Below wo.heap.size wo W) ∧ Aside0 ((Kd.int .i64).R 3 W wo.heap.size (fun k => wo.heap.size ≤ k) v (bTo op nn l m x))) (fun _ _ j _ => xs.length - (intOf j).toNat)
      case atStart => exact ⟨0, rfl, rfl, by omega, ⟨Below.refl _ _⟩, ⟨Kd.R_nil _ _ _ _ _⟩⟩
      case round =>
        revert wr
        intro wp hrel
        obtain ⟨x, rfl, rfl, s0, hbp, hRp⟩ := hrel
        by_cases hx : x < xs.length
        · have hlt := hnbm.out x hx
          have hbl : bLen l m x = min m (l.length - x * m) := rfl
          obtain ⟨ad7, e7, hx7⟩ := Kd.at_int (Kd.C_below hC6.out.2 hbp.out) (x : Int) (by omega) (by omega)
          cases e7
          rw [hsr.out x hx, Int.toNat_natCast] at hx7
          have hms := Aside0.mk (bMid_succ op nn l m x)
          have hml := bTo_length op nn l m x
          have hah : Aside0 (bAhead op nn l m (x + 1) = joinI op (bAhead op nn l m x) (bSum op nn l m x)) := ⟨rfl⟩
          have hbt : Aside0 (bTo op nn l m (x + 1) = bTo op nn l m x ++ bMid op nn l m x (bLen l m x)) := ⟨rfl⟩
          have hmu1 : (x : Int) * (m : Int) = ((x * m : Nat) : Int) := by simp
          have hmu2 : ((x : Int) + 1) * (m : Int) = ((x * m : Nat) : Int) + (m : Int) := by rw [Int.add_mul]; simp
          have hm0 : Aside0 (bMid op nn l m x 0 = []) := ⟨rfl⟩
          have hmid : Aside0 (∀ k, bMid op nn l m x (k + 1) = bMid op nn l m x k ++ [nowAt op (bAhead op nn l m x) l (x * m) k]) := hms
          have hmll : Aside0 (∀ k, (bMid op nn l m x k).length = k) := ⟨bMid_length op nn l m x⟩
          generalize bLen l m x = n at *
          generalize bMid op nn l m x = mid at *
          generalize bSum op nn l m x = bs at *
          generalize bTo op nn l m x = ys at *
          generalize bAhead op nn l m x = ah at *
          generalize hst0 : x * m = st at *
          clear hst0 hms
          have hq := HSl.out st (st + n) (by omega) (by omega) HC.out
          rw [show st + n - st = n by omega] at hq
          obtain ⟨q1, q2⟩ := hq
          have hst3 := Aside0.mk (hH3.out.next hbp.out)
          have Q2 := Aside0.mk q2
          have key : (st + m ≤ l.length ∧ (Instr.slice 22 (.slice A l.length c) (some (.int .i64 (st : Int))) (some (.int .i64 ((st : Int) + (m : Int)))) none).run Tryd.prog wp = .ok (.slice (segB A c st) n (c - st)) wp) ∨ (l.length < st + m ∧ (Instr.slice 22 (.slice A l.length c) (some (.int .i64 (st : Int))) (some (.int .i64 (l.length : Int))) none).run Tryd.prog wp = .ok (.slice (segB A c st) n (c - st)) wp) := by
            have h := q1 wp
            by_cases hle : st + m ≤ l.length
            · rw [show ((st + n : Nat) : Int) = (st : Int) + (m : Int) by omega] at h
              exact .inl ⟨hle, h⟩
            · rw [show ((st + n : Nat) : Int) = (l.length : Int) by omega] at h
              exact .inr ⟨by omega, h⟩
          clear q1 q2
          generalize segB A c st = SA at *
          rcases key with ⟨hle, hsl2⟩ | ⟨hle, hsl2⟩
          all_goals
            (go_wp2
             go_loopw [7, 18, 98] (fun v a j W => ∃ k : Nat, j = .int .i64 (k : Int) ∧ a = .int .i64 (nowAt op ah l st k) ∧ k ≤ n ∧ Aside0 (Below wo.heap.size wo W) ∧ Aside0 ((Kd.int .i64).R 3 W wo.heap.size (fun k => wo.heap.size ≤ k) v (ys ++ mid k))) (fun _ _ j _ => n - (intOf j).toNat)
             case atStart => exact ⟨0, rfl, rfl, by omega, hbp, ⟨by rw [hm0.out, List.append_nil]; exact hRp.out⟩⟩
             case round =>
               obtain ⟨k, rfl, rfl, r1, hb2, hR2⟩ := hrel
               have hst4 := Aside0.mk (hH3.out.next hb2.out)
               by_cases hk : k < n
               · obtain ⟨ad, e1, hxx⟩ := Kd.at_int (Q2.out _ (Kd.C_below HR.out hst4.out.below)) (k : Int) (by omega) (by omega)
                 cases e1
                 rw [rd_seg l st n k hk, Int.toNat_natCast] at hxx
                 have cJ : wr.cell? ⟨bJ, 2, none⟩ = some (.func (.func 77) #[] #[.pointer (some ⟨O, 0, none⟩)]) := blk_cell hst4.out.jn 2
                 have HJ : Aside0 (∀ W, BlkSt w op nn O bJ W → Calls Tryd.prog 77 #[.int .i64 (nowAt op ah l st k), .int .i64 (rd l ((st + k : Nat) : Int)), .pointer (some ⟨O, 0, none⟩)] W fun e W' => e = .returned (.int .i64 (joinI op (nowAt op ah l st k) (rd l ((st + k : Nat) : Int)))) ∧ Below W.heap.size W W') := ⟨fun W hW => joiner_by op nn _ _ O W hW.opAt (HT.out.below hW.below).deeds⟩
                 have hN := Aside0.mk (nowAt_succ op ah l st k)
                 have hmk := Aside0.mk (hmid.out k)
                 have hyl : (ys ++ mid k).length + 1 ≤ 2097152 := by rw [List.length_append, hmll.out]; omega
                 generalize nowAt op ah l st k = now at *
                 generalize rd l ((st + k : Nat) : Int) = el at *
                 generalize hzs : ys ++ mid k = zs at *
                 replace hzs := Aside0.mk hzs
                 replace hyl := Aside0.mk hyl
                 go_wp2
                 refine wp_region_any (by kernel_rfl) ?_
                 change wpAny _ _ _ _ _ _ _ wr.drew
                 have hb2d : Below wo.heap.size wo wr.drew := hb2.out.trans (below_drew (Below.refl _ _))
                 have cJd : wr.drew.cell? ⟨bJ, 2, none⟩ = some (.func (.func 77) #[] #[.pointer (some ⟨O, 0, none⟩)]) := cJ
                 have hszd : wo.heap.size ≤ wr.drew.heap.size := hb2d.size
                 refine region_anyI (fun W => W.cell? ⟨bJ, 2, none⟩ = some (.func (.func 77) #[] #[.pointer (some ⟨O, 0, none⟩)])) [0, 1, 4, 5, 6, 7] [2, 3, 8, 9, 10] [10] (by kernel_rfl) (by kernel_rfl) (by kernel_rfl) (by kernel_rfl) rfl (fun _ _ _ h => h) cJ ?_
                 iterate 6 refine ReadsI.step _ rfl rfl (fun W hW => by go_simp; rfl) ?_
                 change TailL _ _ _ _ _ _ _
                 refine TailL.val rfl rfl (by go_simp; exact ⟨rfl, rfl⟩) (fun _ => pw_cell_below (below_alloc (Below.refl _ _) _) cJd) ?_
                 refine TailL.append 22 3 wo.heap.size (.tmp 102) (.tmp 104) u7 zs now (fun k_ => wo.heap.size ≤ k_) rfl rfl rfl Tryd.underlying22 infoInt (by go_simp; first | rfl | done) (by go_simp; first | rfl | done) (fun k_ hk => Nat.le_trans hszd hk) (Kd.R_drew hR2.out) hszd (by have := hyl.out; omega) ?_
                 intro v6 w6 ho hb6 hg hat
                 have hb6o : Below wo.heap.size wo w6 := hb2d.trans hb6
                 have hst6 := hH3.out.next hb6o
                 have cJ6 : w6.cell? ⟨bJ, 2, none⟩ = some (.func (.func 77) #[] #[.pointer (some ⟨O, 0, none⟩)]) := blk_cell hst6.jn 2
                 refine ⟨fun _ => cJ6, ?_⟩
                 clear hg hat
                 refine TailL.call rfl rfl (by go_simp) (HJ.out w6 hst6) ?_
                 rintro e w8 ⟨rfl, hb8⟩
                 have cJ8 := pw_cell_below hb8 cJ6
                 refine ⟨_, rfl, fun _ => cJ8, ?_⟩
                 have hb9 := Aside0.mk (hb6o.trans (hb8.mono hb6o.size))
                 have hR9 := Aside0.mk (Kd.R_below ho hb8)
                 clear hb6 hb6o ho hb8 hst6 hb2d
                 refine TailL.val rfl rfl (by go_simp; rfl) (fun _ => cJ8) ?_
                 refine TailL.val rfl rfl (by go_simp; first | rfl | exact ⟨rfl, rfl⟩) (fun h => absurd rfl h) ?_
                 unfold TailL
                 simp only [List.getElem_toArray, List.getElem_cons_succ, List.getElem_cons_zero, Act.put, List.setIfInBounds_toArray, List.set_cons_zero, List.set_cons_succ]
                 go_wp2
                 go_roundw
                 case rel => exact ⟨k + 1, by simp, by rw [hN.out], by omega, hb9, ⟨by rw [hmk.out, ← List.append_assoc, hzs.out]; exact hR9.out⟩⟩
                 case measure => simp [intOf]; omega
               · obtain rfl : k = n := by omega
                 have cJ : wr.cell? ⟨bJ, 2, none⟩ = some (.func (.func 77) #[] #[.pointer (some ⟨O, 0, none⟩)]) := blk_cell hst4.out.jn 2
                 have HJ := Aside0.mk (joiner_by op nn ah bs O wr hst4.out.opAt (HT.out.below hst4.out.below).deeds)
                 go_wp2_with (go_at_call 77; (with_reducible refine (HJ.out).mono ?_); rintro e w4 ⟨rfl, hb4⟩; replace hb4 := Aside0.mk hb4)
                 go_roundw
                 case rel => exact ⟨x + 1, by simp, by rw [hah.out], by omega, ⟨hb2.out.trans (hb4.out.mono hb2.out.size)⟩, ⟨by rw [hbt.out]; exact Kd.R_below hR2.out hb4.out⟩⟩
                 case measure => simp [intOf]; omega)
        · obtain rfl : x = xs.length := by omega
          obtain ⟨A8, c8, rfl⟩ := Kd.R_slice hRp.out
          have hq8 := Kd.R_reads' hRp.out
          have HQ8 : Aside0 (∀ W, Calls Tryd.prog 57 #[.slice A8 (bTo op nn l m xs.length).length c8] W fun e w' => e = .returned (.slice A8 (bTo op nn l m xs.length).length (bTo op nn l m xs.length).length) ∧ Drawn0 W w') := ⟨fun W => scan_cut A8 _ c8 W hq8.2.1 (R_cap hRp.out)⟩
          have HQ6 : Aside0 (∀ W, Calls Tryd.prog 57 #[.slice A6 xs.length c6] W fun e w' => e = .returned (.slice A6 xs.length xs.length) ∧ Drawn0 W w') := ⟨fun W => scan_cut A6 _ c6 W hC6.out.1 hcap6.out⟩
          generalize bTo op nn l m xs.length = zs at *
          clear hq8
          go_wp2_with (go_at_call 57; (first | (with_reducible refine (HQ6.out _).mono ?_) | (with_reducible refine (HQ8.out _).mono ?_)); rintro e w5 ⟨rfl, m5, rfl⟩)
          unfold MarksPost
          refine Marks.zero _ (results_tmp3 rfl _ _ _) ?_
          rw [← hRR.out]
          have hB9 := hst.out.below.trans ((hb.out.trans (hbp.out.mono hsz3)).mono hB0)
          refine ⟨_, _, rfl, Kd.V_mono (V_cut (base2 := w.heap.size) (Kd.R_drewN (Kd.R_below hR.out hbp.out) _)) (ok' := fun k => w.heap.size ≤ k) (fun k hk => by omega), Kd.V_mono (V_cut (base2 := w.heap.size) (Kd.R_drewN hRp.out _)) (ok' := fun k => w.heap.size ≤ k) (fun k hk => by omega), pw_below_drewN hB9 _⟩
theorem Ret3.nil {w w' : World} (E : Int) (h : Below w.heap.size w w') : Ret3 w ([], [], E) (.returned (.tuple #[.slice none 0 0, .slice none 0 0, .int .i64 E])) w' := ⟨_, _, rfl, Kd.V_nil _ _ _ _ _, Kd.V_nil _ _ _ _ _, h⟩
set_option maxHeartbeats 2000000 in
set_option maxRecDepth 100000 in
theorem scan_Blocks_noA (op err : Int) (A : Option Addr) (c : Nat) (l : List Int) (m : Int) (w : World) (hT : Tabs w) (h1 : (neutG op).2 = err) (he : err ≠ 0) :
    Calls Tryd.prog 22 #[.int .i64 op, .slice A l.length c, .int .i64 m] w (Ret3 w ([], [], err)) := by
  have HOf := Aside0.mk (scan_of_no op err w hT.laws hT.neut h1 he)
  have z : (err != 0) = true := bne_iff_ne.mpr he
  clear hT h1 he
  go_enter Tryd.func22, Tryd.ntmps22
  go_wp2_with (go_at_call 50; (with_reducible refine (HOf.out).mono ?_); rintro e w1 ⟨rfl, hb⟩; replace hb := Aside0.mk hb)
  go_ret3
  exact Ret3.nil err (below_alloc hb.out _)
set_option maxHeartbeats 2000000 in
set_option maxRecDepth 100000 in
theorem scan_Blocks_noB (op nn E : Int) (A : Option Addr) (c : Nat) (l : List Int) (m : Int) (w : World) (hT : Tabs w) (hr : Kd.C (Kd.int .i64) w A l.length l) (h1 : neutG op = (nn, 0)) (h2 : wsE l = E) (h3 : E ≠ 0) :
    Calls Tryd.prog 22 #[.int .i64 op, .slice A l.length c, .int .i64 m] w (Ret3 w ([], [], E)) := by
  have HOf := Aside0.mk (BlkSt.of w op nn hT h1)
  have HW1 : Aside0 (∀ W, Below w.heap.size w W → Calls Tryd.prog 51 #[.slice A l.length c] W fun e w' => e = .returned (.int .i64 E) ∧ Drawn0 W w') := ⟨fun W hW => by have := scan_words A c l W (Kd.C_below hr hW); rwa [h2] at this⟩
  have z : (E != 0) = true := bne_iff_ne.mpr h3
  clear hT hr h1 h2 h3
  go_enter Tryd.func22, Tryd.ntmps22
  go_wp2_with (first | (go_at_call 50; (with_reducible refine (HOf.out).mono ?_); rintro e w1 ⟨O, rfl, hst⟩; replace hst := Aside0.mk hst) | (go_at_call 51; (with_reducible refine (HW1.out _ (by exact BlkSt.below (Aside0.out (by assumption)))).mono ?_); rintro e w2 ⟨rfl, m2, rfl⟩))
  go_ret3
  exact Ret3.nil E (pw_below_drewN hst.out.below _)
set_option maxHeartbeats 2000000 in
set_option maxRecDepth 100000 in
theorem scan_Blocks_noC (op nn : Int) (A : Option Addr) (c : Nat) (l : List Int) (m : Int) (w : World) (hT : Tabs w) (hr : Kd.C (Kd.int .i64) w A l.length l) (h1 : neutG op = (nn, 0)) (h2 : wsE l = 0) (h3 : m < 1 ∨ 1048576 < m) :
    Calls Tryd.prog 22 #[.int .i64 op, .slice A l.length c, .int .i64 m] w (Ret3 w ([], [], 2)) := by
  have HOf := Aside0.mk (BlkSt.of w op nn hT h1)
  have HW1 : Aside0 (∀ W, Below w.heap.size w W → Calls Tryd.prog 51 #[.slice A l.length c] W fun e w' => e = .returned (.int .i64 0) ∧ Drawn0 W w') := ⟨fun W hW => by have := scan_words A c l W (Kd.C_below hr hW); rwa [h2] at this⟩
  clear hT hr h1 h2
  rcases h3 with h3 | h3
  all_goals go_enter Tryd.func22, Tryd.ntmps22
  all_goals go_wp2_with (first | (go_at_call 50; (with_reducible refine (HOf.out).mono ?_); rintro e w1 ⟨O, rfl, hst⟩; replace hst := Aside0.mk hst) | (go_at_call 51; (with_reducible refine (HW1.out _ (by exact BlkSt.below (Aside0.out (by assumption)))).mono ?_); rintro e w2 ⟨rfl, m2, rfl⟩))
  all_goals first
    | (go_ret3; exact Ret3.nil 2 (pw_below_drewN (BlkSt.below (Aside0.out (by assumption))) _))
    | (exfalso; omega)
theorem scan_Blocks.run (op : Int) (A : Option Addr) (c : Nat) (l : List Int) (m : Int) (w : World) (hT : Tabs w) (hr : Kd.C (Kd.int .i64) w A l.length l) (hc : l.length ≤ c) :
    Calls Tryd.prog 22 #[.int .i64 op, .slice A l.length c, .int .i64 m] w (Ret3 w (scan_Blocks.g op l m)) := by
  unfold scan_Blocks.g
  by_cases h1 : (neutG op).2 = 0
  · have e1 : neutG op = ((neutG op).1, 0) := Prod.ext rfl h1
    rw [if_pos h1]
    by_cases h2 : wsE l = 0
    · rw [if_pos h2]
      by_cases h3 : (decide (m < 1) || decide (1048576 < m)) = true
      · rw [if_pos h3]
        exact scan_Blocks_noC op _ A c l m w hT hr e1 h2 (by simpa using h3)
      · rw [if_neg h3]
        have h3' : ¬ m < 1 ∧ ¬ 1048576 < m := by simpa using h3
        obtain ⟨k, rfl⟩ : ∃ k : Nat, m = k := ⟨m.toNat, by omega⟩
        exact scan_Blocks_yes op _ A c l k w hT hr hc e1 h2 (by omega) (by omega)
    · rw [if_neg h2]
      exact scan_Blocks_noB op _ _ A c l m w hT hr e1 rfl h2
  · rw [if_neg h1]
    exact scan_Blocks_noA op _ A c l m w hT rfl h1
end Go.Proofs.YtpenkemabeonaaaDoor.Hand
