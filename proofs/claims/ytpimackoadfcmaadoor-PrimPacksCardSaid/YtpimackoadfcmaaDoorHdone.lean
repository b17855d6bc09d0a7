/- sheafworkslaw04.done: the examples of the chapter come out as they must. -/
import Derived.Test.YtpimackoadfcmaaDoorHprim6
import Derived.Test.YtpimackoadfcmaaDoorHprim7
import Derived.Test.YtpimackoadfcmaaDoorHprim8
import Derived.Test.YtpimackoadfcmaaDoorHprim9
import Derived.Test.YtpimackoadfcmaaDoorHprim10
import Derived.Test.YtpimackoadfcmaaDoorHprim11
import Derived.Test.YtpimackoadfcmaaDoorHprim12
import Derived.Test.YtpimackoadfcmaaDoorHprim13
import Derived.Test.YtpimackoadfcmaaDoorHeq
namespace Go.Proofs.YtpimackoadfcmaaDoor.Hand
open Go.RowKit Go.Proofs.YtpimackoadfcmaaDoorW.PrintWords Go.Proofs.YtpimackoadfcmaaDoorW.PrintLast Go.Proofs.YtpimackoadfcmaaDoorW.PrintMore
set_option linter.unusedVariables false
set_option linter.unusedSimpArgs false
/-- A slice, as long as what is there stays. -/
def Sk (w : World) (v : Value) (l : List Int) : Prop := ∀ W, Below w.heap.size w W → Sl W v l
theorem Sk.mono {w w2 : World} {v : Value} {l : List Int} (h : Sk w v l) (hb : Below w.heap.size w w2) : Sk w2 v l := fun W hW => h W (hb.trans (hW.mono hb.size))
theorem V_Sk {w : World} {v : Value} {e base : Nat} {ok : Nat → Prop} {l : List Int} (h : Kd.V (Kd.int .i64) e w base ok v l) : Sk w v l := fun W hW => by
  have h2 := Kd.V_below h hW
  obtain ⟨A, c, rfl⟩ := Kd.V_slice h2
  obtain ⟨_, h3, h4⟩ := Kd.V_reads' h2
  exact ⟨A, c, rfl, h3, h4⟩
def Ret3 (w : World) (R : List Int × Int) (e : Ending) (w' : World) : Prop := ∃ v, e = .returned (.tuple #[v, .int .i64 R.2]) ∧ Sk w' v R.1 ∧ Below w.heap.size w w'
theorem Ret2.three {w w' : World} {R : List Int × Int} {e : Ending} (h : Ret2 w R e w') : Ret3 w R e w' := by
  obtain ⟨v, he, hv, hb⟩ := h
  exact ⟨v, he, V_Sk hv, hb⟩
theorem sl1 {k : Nat} {g : List Int → List Int × Int} (h : ∀ (A : Option Addr) (c : Nat) (l : List Int) (w : World), Kd.C (Kd.int .i64) w A l.length l → l.length ≤ c → Calls Tryd.prog k #[.slice A l.length c] w (Ret2 w (g l)))
    (v : Value) (l : List Int) (R : List Int × Int) (hR : g l = R) (w : World) (h1 : Sl w v l) : Calls Tryd.prog k #[v] w (Ret3 w R) := by
  obtain ⟨A, c, rfl, p1, p2⟩ := h1
  subst hR
  exact (h A c l w p2 p1).mono fun _ _ h => h.three
theorem sl2 {k : Nat} {g : List Int → List Int → List Int × Int} (h : ∀ (A : Option Addr) (c : Nat) (l : List Int) (A2 : Option Addr) (c2 : Nat) (l2 : List Int) (w : World), Kd.C (Kd.int .i64) w A l.length l → l.length ≤ c → Kd.C (Kd.int .i64) w A2 l2.length l2 → l2.length ≤ c2 → Calls Tryd.prog k #[.slice A l.length c, .slice A2 l2.length c2] w (Ret2 w (g l l2)))
    (v : Value) (l : List Int) (v2 : Value) (l2 : List Int) (R : List Int × Int) (hR : g l l2 = R) (w : World) (h1 : Sl w v l) (h2 : Sl w v2 l2) : Calls Tryd.prog k #[v, v2] w (Ret3 w R) := by
  obtain ⟨A, c, rfl, p1, p2⟩ := h1
  obtain ⟨A2, c2, rfl, q1, q2⟩ := h2
  subst hR
  exact (h A c l A2 c2 l2 w p2 p1 q2 q1).mono fun _ _ h => h.three
theorem sl3 {k : Nat} {g : List Int → List Int → List Int → List Int × Int} (h : ∀ (A : Option Addr) (c : Nat) (l : List Int) (A2 : Option Addr) (c2 : Nat) (l2 : List Int) (A3 : Option Addr) (c3 : Nat) (l3 : List Int) (w : World), Kd.C (Kd.int .i64) w A l.length l → l.length ≤ c → Kd.C (Kd.int .i64) w A2 l2.length l2 → l2.length ≤ c2 → Kd.C (Kd.int .i64) w A3 l3.length l3 → l3.length ≤ c3 → Calls Tryd.prog k #[.slice A l.length c, .slice A2 l2.length c2, .slice A3 l3.length c3] w (Ret2 w (g l l2 l3)))
    (v : Value) (l : List Int) (v2 : Value) (l2 : List Int) (v3 : Value) (l3 : List Int) (R : List Int × Int) (hR : g l l2 l3 = R) (w : World) (h1 : Sl w v l) (h2 : Sl w v2 l2) (h3 : Sl w v3 l3) : Calls Tryd.prog k #[v, v2, v3] w (Ret3 w R) := by
  obtain ⟨A, c, rfl, p1, p2⟩ := h1
  obtain ⟨A2, c2, rfl, q1, q2⟩ := h2
  obtain ⟨A3, c3, rfl, r1, r2⟩ := h3
  subst hR
  exact (h A c l A2 c2 l2 A3 c3 l3 w p2 p1 q2 q1 r2 r1).mono fun _ _ h => h.three
theorem eqS (v : Value) (l : List Int) (v2 : Value) (l2 : List Int) (R : Bool) (hR : (l == l2) = R) (w : World) (h1 : Sl w v l) (h2 : Sl w v2 l2) : Calls Tryd.prog 17 #[v, v2] w fun e w' => e = .returned (.bool R) ∧ Drawn0 w w' := by
  obtain ⟨A, c, rfl, p1, p2⟩ := h1
  obtain ⟨A2, c2, rfl, q1, q2⟩ := h2
  subst hR
  exact ref_Equal A c l A2 c2 l2 w p2 q2
theorem Sl.any {w : World} {v : Value} {l : List Int} (h : Sk w v l) {W : World} (hb : Below w.heap.size w W) : Sl W v l := h W hb

theorem done_Bin : prim_Bin.g 1 [5, 1] [2, 3] = ([3, -2], 0) := by decide +kernel
theorem done_Pick : prim_Pick.g [1, 0, -2] [1, 2, 3] [4, 5, 6] = ([1, 5, 3], 0) := by decide +kernel
theorem done_Merge : prim_Merge.g [0, 1, 1, 0] [1, 2] [8, 9] = ([8, 1, 2, 9], 0) := by decide +kernel
theorem done_Gather : prim_Gather.g [7, 8, 9] [2, 0, 2] = ([9, 7, 9], 0) := by decide +kernel
theorem done_Put : prim_Put.g [7, 8, 9] [2, 0, 1] = ([8, 9, 7], 0) := by decide +kernel
theorem done_Iota : prim_Iota.g [2, 0, 3] = ([0, 1, 0, 1, 2], 0) := by decide +kernel
theorem done_Pack : prim_Pack.g [1, 0, -2] [1, 2, 3] = ([1, 3], 0) := by decide +kernel
theorem done_Rep : prim_Rep.g [7, 8, 9] [2, 0, 1] = ([7, 7, 9], 0) := by decide +kernel
theorem done_Weave : prim_Weave.g [[1, 2], [3, 4], [5, 6]] = ([1, 3, 5, 2, 4, 6], 0) := by decide +kernel
theorem done_Off : prim_Off.g [1, 2147483647] [5, 6] = ([3, -2147483647], 0) := by decide +kernel
theorem done_Cat : prim_Cat.g [1] [2, 3] = ([1, 2, 3], 0) := by decide +kernel
theorem done_Len : prim_Len.g [5, 6] = ([2], 0) := by decide +kernel
theorem done_Fill : prim_Fill.g 7 [1, 2, 3] = ([7, 7, 7], 0) := by decide +kernel
theorem done_Trap : prim_Trap.g [0, 5] = 14 := by decide +kernel
theorem below_allocs1 {w W : World} {o : Obj} (h : Below (w.alloc o).heap.size (w.alloc o) W) : Below w.heap.size w W := (below_alloc (Below.refl _ _) _).trans (h.mono (by simp))
theorem below_allocs2 {w W : World} {o o2 : Obj} (h : Below ((w.alloc o).alloc o2).heap.size ((w.alloc o).alloc o2) W) : Below w.heap.size w W := below_allocs1 (below_allocs1 h)
theorem below_allocs3 {w W : World} {o o2 o3 : Obj} (h : Below (((w.alloc o).alloc o2).alloc o3).heap.size (((w.alloc o).alloc o2).alloc o3) W) : Below w.heap.size w W := below_allocs1 (below_allocs2 h)
theorem below_allocs4 {w W : World} {o o2 o3 o4 : Obj} (h : Below ((((w.alloc o).alloc o2).alloc o3).alloc o4).heap.size ((((w.alloc o).alloc o2).alloc o3).alloc o4) W) : Below w.heap.size w W := below_allocs1 (below_allocs3 h)
theorem sl2C {k : Nat} {w0 : World} {g : List Int → List Int → List Int × Int} (h : ∀ (A : Option Addr) (c : Nat) (l : List Int) (A2 : Option Addr) (c2 : Nat) (l2 : List Int) (w : World), Below w0.heap.size w0 w → Kd.C (Kd.int .i64) w A l.length l → l.length ≤ c → Kd.C (Kd.int .i64) w A2 l2.length l2 → l2.length ≤ c2 → Calls Tryd.prog k #[.int .i64 1, .slice A l.length c, .slice A2 l2.length c2] w (Ret2 w (g l l2)))
    (v : Value) (l : List Int) (v2 : Value) (l2 : List Int) (R : List Int × Int) (hR : g l l2 = R) (w : World) (hw : Below w0.heap.size w0 w) (h1 : Sl w v l) (h2 : Sl w v2 l2) : Calls Tryd.prog k #[.int .i64 1, v, v2] w (Ret3 w R) := by
  obtain ⟨A, c, rfl, p1, p2⟩ := h1
  obtain ⟨A2, c2, rfl, q1, q2⟩ := h2
  subst hR
  exact (h A c l A2 c2 l2 w hw p2 p1 q2 q1).mono fun _ _ h => h.three
theorem sl1F {k : Nat} {g : List Int → List Int × Int} (h : ∀ (A : Option Addr) (c : Nat) (l : List Int) (w : World), Kd.C (Kd.int .i64) w A l.length l → l.length ≤ c → Calls Tryd.prog k #[.int .i64 7, .slice A l.length c] w (Ret2 w (g l)))
    (v : Value) (l : List Int) (R : List Int × Int) (hR : g l = R) (w : World) (h1 : Sl w v l) : Calls Tryd.prog k #[.int .i64 7, v] w (Ret3 w R) := by
  obtain ⟨A, c, rfl, p1, p2⟩ := h1
  subst hR
  exact (h A c l w p2 p1).mono fun _ _ h => h.three
theorem eqB (v : Value) (l : List Int) (v2 : Value) (l2 : List Int) (R : Bool) (hR : (l == l2) = R) (w : World) (h1 : Sl w v l) (h2 : Sl w v2 l2) : Calls Tryd.prog 17 #[v, v2] w fun e w' => e = .returned (.bool R) ∧ Below w.heap.size w w' :=
  (eqS v l v2 l2 R hR w h1 h2).mono fun _ _ h => ⟨h.1, h.2.below⟩
theorem trapS (v : Value) (l : List Int) (R : Int) (hR : prim_Trap.g l = R) (w : World) (h1 : Sl w v l) : Calls Tryd.prog 42 #[v] w fun e w' => e = .returned (.int .i64 R) ∧ Below w.heap.size w w' := by
  obtain ⟨A, c, rfl, p1, p2⟩ := h1
  subst hR
  exact prim_Trap.run A c l w p2 p1
set_option maxHeartbeats 8000000 in
set_option maxRecDepth 100000 in
theorem law_done (w : World) (hG : Deeds w) : Calls Tryd.prog 22 #[] w fun e w' => e = .returned (.bool true) ∧ Below w.heap.size w w' := by
  have HG := Aside0.mk hG
  have HB := Aside0.mk (Below.refl w.heap.size w)
  clear hG
  go_enter Tryd.func22, Tryd.ntmps22
  go_wp2_with fail
  refine (sl2C (fun A c l A2 c2 l2 w hw hr hc hr2 hc2 => prim_Bin.run 1 A c l A2 c2 l2 w (HG.out.below hw) hr hc hr2 hc2) _ _ _ _ _ done_Bin _ (by repeat (first | exact Below.refl _ _ | apply below_alloc | apply pw_below_drewN)) ((Sl.lit_at _ _ (by simp) _ [5, 1] _ rfl (by simp)).alloc _) (Sl.lit_at _ _ (by simp) _ [2, 3] _ rfl (by simp))).mono ?_
  rintro e w1 ⟨v1, rfl, S1, hb⟩
  replace hb := below_allocs2 hb
  replace HB := Aside0.mk (HB.out.trans (hb.mono HB.out.size))
  clear hb
  replace S1 := Aside0.mk S1
  go_wp2_with fail
  refine (sl3 prim_Pick.run _ _ _ _ _ _ _ done_Pick _ (((Sl.lit_at _ _ (by simp) _ [1, 0, -2] _ rfl (by simp)).alloc _).alloc _) ((Sl.lit_at _ _ (by simp) _ [1, 2, 3] _ rfl (by simp)).alloc _) (Sl.lit_at _ _ (by simp) _ [4, 5, 6] _ rfl (by simp))).mono ?_
  rintro e w2 ⟨v2, rfl, S2, hb⟩
  replace hb := below_allocs3 hb
  replace S1 := Aside0.mk (S1.out.mono hb)
  replace HB := Aside0.mk (HB.out.trans (hb.mono HB.out.size))
  clear hb
  replace S2 := Aside0.mk S2
  go_wp2_with fail
  refine (sl3 prim_Merge.run _ _ _ _ _ _ _ done_Merge _ (((Sl.lit_at _ _ (by simp) _ [0, 1, 1, 0] _ rfl (by simp)).alloc _).alloc _) ((Sl.lit_at _ _ (by simp) _ [1, 2] _ rfl (by simp)).alloc _) (Sl.lit_at _ _ (by simp) _ [8, 9] _ rfl (by simp))).mono ?_
  rintro e w3 ⟨v3, rfl, S3, hb⟩
  replace hb := below_allocs3 hb
  replace S1 := Aside0.mk (S1.out.mono hb)
  replace S2 := Aside0.mk (S2.out.mono hb)
  replace HB := Aside0.mk (HB.out.trans (hb.mono HB.out.size))
  clear hb
  replace S3 := Aside0.mk S3
  go_wp2_with fail
  refine (sl2 prim_Gather.run _ _ _ _ _ done_Gather _ ((Sl.lit_at _ _ (by simp) _ [7, 8, 9] _ rfl (by simp)).alloc _) (Sl.lit_at _ _ (by simp) _ [2, 0, 2] _ rfl (by simp))).mono ?_
  rintro e w4 ⟨v4, rfl, S4, hb⟩
  replace hb := below_allocs2 hb
  replace S1 := Aside0.mk (S1.out.mono hb)
  replace S2 := Aside0.mk (S2.out.mono hb)
  replace S3 := Aside0.mk (S3.out.mono hb)
  replace HB := Aside0.mk (HB.out.trans (hb.mono HB.out.size))
  clear hb
  replace S4 := Aside0.mk S4
  go_wp2_with fail
  refine (sl2 prim_Put.run _ _ _ _ _ done_Put _ ((Sl.lit_at _ _ (by simp) _ [7, 8, 9] _ rfl (by simp)).alloc _) (Sl.lit_at _ _ (by simp) _ [2, 0, 1] _ rfl (by simp))).mono ?_
  rintro e w5 ⟨v5, rfl, S5, hb⟩
  replace hb := below_allocs2 hb
  replace S1 := Aside0.mk (S1.out.mono hb)
  replace S2 := Aside0.mk (S2.out.mono hb)
  replace S3 := Aside0.mk (S3.out.mono hb)
  replace S4 := Aside0.mk (S4.out.mono hb)
  replace HB := Aside0.mk (HB.out.trans (hb.mono HB.out.size))
  clear hb
  replace S5 := Aside0.mk S5
  go_wp2_with fail
  refine (sl1 prim_Iota.run _ _ _ done_Iota _ (Sl.lit_at _ _ (by simp) _ [2, 0, 3] _ rfl (by simp))).mono ?_
  rintro e w6 ⟨v6, rfl, S6, hb⟩
  replace hb := below_allocs1 hb
  replace S1 := Aside0.mk (S1.out.mono hb)
  replace S2 := Aside0.mk (S2.out.mono hb)
  replace S3 := Aside0.mk (S3.out.mono hb)
  replace S4 := Aside0.mk (S4.out.mono hb)
  replace S5 := Aside0.mk (S5.out.mono hb)
  replace HB := Aside0.mk (HB.out.trans (hb.mono HB.out.size))
  clear hb
  replace S6 := Aside0.mk S6
  go_wp2_with fail
  refine (eqB _ _ _ [3, -2] true (by decide) _ (S1.out _ (by repeat (first | exact Below.refl _ _ | apply below_alloc | apply pw_below_drewN))) (Sl.lit_at _ _ (by simp) _ [3, -2] _ rfl (by simp))).mono ?_
  rintro e w7 ⟨rfl, hb⟩
  replace hb := below_allocs1 hb
  replace S1 := Aside0.mk (S1.out.mono hb)
  replace S2 := Aside0.mk (S2.out.mono hb)
  replace S3 := Aside0.mk (S3.out.mono hb)
  replace S4 := Aside0.mk (S4.out.mono hb)
  replace S5 := Aside0.mk (S5.out.mono hb)
  replace S6 := Aside0.mk (S6.out.mono hb)
  replace HB := Aside0.mk (HB.out.trans (hb.mono HB.out.size))
  clear hb
  clear S1
  go_wp2_with fail
  refine (eqB _ _ _ [1, 5, 3] true (by decide) _ (S2.out _ (by repeat (first | exact Below.refl _ _ | apply below_alloc | apply pw_below_drewN))) (Sl.lit_at _ _ (by simp) _ [1, 5, 3] _ rfl (by simp))).mono ?_
  rintro e w8 ⟨rfl, hb⟩
  replace hb := below_allocs1 hb
  replace S2 := Aside0.mk (S2.out.mono hb)
  replace S3 := Aside0.mk (S3.out.mono hb)
  replace S4 := Aside0.mk (S4.out.mono hb)
  replace S5 := Aside0.mk (S5.out.mono hb)
  replace S6 := Aside0.mk (S6.out.mono hb)
  replace HB := Aside0.mk (HB.out.trans (hb.mono HB.out.size))
  clear hb
  clear S2
  go_wp2_with fail
  refine (eqB _ _ _ [8, 1, 2, 9] true (by decide) _ (S3.out _ (by repeat (first | exact Below.refl _ _ | apply below_alloc | apply pw_below_drewN))) (Sl.lit_at _ _ (by simp) _ [8, 1, 2, 9] _ rfl (by simp))).mono ?_
  rintro e w9 ⟨rfl, hb⟩
  replace hb := below_allocs1 hb
  replace S3 := Aside0.mk (S3.out.mono hb)
  replace S4 := Aside0.mk (S4.out.mono hb)
  replace S5 := Aside0.mk (S5.out.mono hb)
  replace S6 := Aside0.mk (S6.out.mono hb)
  replace HB := Aside0.mk (HB.out.trans (hb.mono HB.out.size))
  clear hb
  clear S3
  go_wp2_with fail
  refine (eqB _ _ _ [9, 7, 9] true (by decide) _ (S4.out _ (by repeat (first | exact Below.refl _ _ | apply below_alloc | apply pw_below_drewN))) (Sl.lit_at _ _ (by simp) _ [9, 7, 9] _ rfl (by simp))).mono ?_
  rintro e w10 ⟨rfl, hb⟩
  replace hb := below_allocs1 hb
  replace S4 := Aside0.mk (S4.out.mono hb)
  replace S5 := Aside0.mk (S5.out.mono hb)
  replace S6 := Aside0.mk (S6.out.mono hb)
  replace HB := Aside0.mk (HB.out.trans (hb.mono HB.out.size))
  clear hb
  clear S4
  go_wp2_with fail
  refine (eqB _ _ _ [8, 9, 7] true (by decide) _ (S5.out _ (by repeat (first | exact Below.refl _ _ | apply below_alloc | apply pw_below_drewN))) (Sl.lit_at _ _ (by simp) _ [8, 9, 7] _ rfl (by simp))).mono ?_
  rintro e w11 ⟨rfl, hb⟩
  replace hb := below_allocs1 hb
  replace S5 := Aside0.mk (S5.out.mono hb)
  replace S6 := Aside0.mk (S6.out.mono hb)
  replace HB := Aside0.mk (HB.out.trans (hb.mono HB.out.size))
  clear hb
  clear S5
  go_wp2_with fail
  refine (eqB _ _ _ [0, 1, 0, 1, 2] true (by decide) _ (S6.out _ (by repeat (first | exact Below.refl _ _ | apply below_alloc | apply pw_below_drewN))) (Sl.lit_at _ _ (by simp) _ [0, 1, 0, 1, 2] _ rfl (by simp))).mono ?_
  rintro e w12 ⟨rfl, hb⟩
  replace hb := below_allocs1 hb
  replace S6 := Aside0.mk (S6.out.mono hb)
  replace HB := Aside0.mk (HB.out.trans (hb.mono HB.out.size))
  clear hb
  clear S6
  go_wp2_with fail
  refine (sl2 prim_Pack.run _ _ _ _ _ done_Pack _ ((Sl.lit_at _ _ (by simp) _ [1, 0, -2] _ rfl (by simp)).alloc _) (Sl.lit_at _ _ (by simp) _ [1, 2, 3] _ rfl (by simp))).mono ?_
  rintro e w13 ⟨v7, rfl, S7, hb⟩
  replace hb := below_allocs2 hb
  replace HB := Aside0.mk (HB.out.trans (hb.mono HB.out.size))
  clear hb
  replace S7 := Aside0.mk S7
  go_wp2_with fail
  refine (sl2 prim_Rep.run _ _ _ _ _ done_Rep _ ((Sl.lit_at _ _ (by simp) _ [7, 8, 9] _ rfl (by simp)).alloc _) (Sl.lit_at _ _ (by simp) _ [2, 0, 1] _ rfl (by simp))).mono ?_
  rintro e w14 ⟨v8, rfl, S8, hb⟩
  replace hb := below_allocs2 hb
  replace S7 := Aside0.mk (S7.out.mono hb)
  replace HB := Aside0.mk (HB.out.trans (hb.mono HB.out.size))
  clear hb
  replace S8 := Aside0.mk S8
  go_wp2_with fail
  refine ((prim_Weave.run _ _ [[1, 2], [3, 4], [5, 6]] _ (lit_rows_at _ _ (by simp) _ _ _ _ rfl (rows_of3 (((Sl.lit_at _ _ (by simp) _ [1, 2] _ rfl (by simp)).alloc _).alloc _) ((Sl.lit_at _ _ (by simp) _ [3, 4] _ rfl (by simp)).alloc _) (Sl.lit_at _ _ (by simp) _ [5, 6] _ rfl (by simp))) (by simp)) (by simp)).mono fun _ _ h => h.three).mono ?_
  rw [done_Weave]
  rintro e w15 ⟨v9, rfl, S9, hb⟩
  replace hb := below_allocs4 hb
  replace S7 := Aside0.mk (S7.out.mono hb)
  replace S8 := Aside0.mk (S8.out.mono hb)
  replace HB := Aside0.mk (HB.out.trans (hb.mono HB.out.size))
  clear hb
  replace S9 := Aside0.mk S9
  go_wp2_with fail
  refine (sl2 prim_Off.run _ _ _ _ _ done_Off _ ((Sl.lit_at _ _ (by simp) _ [1, 2147483647] _ rfl (by simp)).alloc _) (Sl.lit_at _ _ (by simp) _ [5, 6] _ rfl (by simp))).mono ?_
  rintro e w16 ⟨v10, rfl, S10, hb⟩
  replace hb := below_allocs2 hb
  replace S7 := Aside0.mk (S7.out.mono hb)
  replace S8 := Aside0.mk (S8.out.mono hb)
  replace S9 := Aside0.mk (S9.out.mono hb)
  replace HB := Aside0.mk (HB.out.trans (hb.mono HB.out.size))
  clear hb
  replace S10 := Aside0.mk S10
  go_wp2_with fail
  refine (sl2 prim_Cat.run _ _ _ _ _ done_Cat _ ((Sl.lit_at _ _ (by simp) _ [1] _ rfl (by simp)).alloc _) (Sl.lit_at _ _ (by simp) _ [2, 3] _ rfl (by simp))).mono ?_
  rintro e w17 ⟨v11, rfl, S11, hb⟩
  replace hb := below_allocs2 hb
  replace S7 := Aside0.mk (S7.out.mono hb)
  replace S8 := Aside0.mk (S8.out.mono hb)
  replace S9 := Aside0.mk (S9.out.mono hb)
  replace S10 := Aside0.mk (S10.out.mono hb)
  replace HB := Aside0.mk (HB.out.trans (hb.mono HB.out.size))
  clear hb
  replace S11 := Aside0.mk S11
  go_wp2_with fail
  refine (sl1 prim_Len.run _ _ _ done_Len _ (Sl.lit_at _ _ (by simp) _ [5, 6] _ rfl (by simp))).mono ?_
  rintro e w18 ⟨v12, rfl, S12, hb⟩
  replace hb := below_allocs1 hb
  replace S7 := Aside0.mk (S7.out.mono hb)
  replace S8 := Aside0.mk (S8.out.mono hb)
  replace S9 := Aside0.mk (S9.out.mono hb)
  replace S10 := Aside0.mk (S10.out.mono hb)
  replace S11 := Aside0.mk (S11.out.mono hb)
  replace HB := Aside0.mk (HB.out.trans (hb.mono HB.out.size))
  clear hb
  replace S12 := Aside0.mk S12
  go_wp2_with fail
  refine (sl1F (fun A c l w hr hc => prim_Fill.run 7 A c l w hr hc) _ _ _ done_Fill _ (Sl.lit_at _ _ (by simp) _ [1, 2, 3] _ rfl (by simp))).mono ?_
  rintro e w19 ⟨v13, rfl, S13, hb⟩
  replace hb := below_allocs1 hb
  replace S7 := Aside0.mk (S7.out.mono hb)
  replace S8 := Aside0.mk (S8.out.mono hb)
  replace S9 := Aside0.mk (S9.out.mono hb)
  replace S10 := Aside0.mk (S10.out.mono hb)
  replace S11 := Aside0.mk (S11.out.mono hb)
  replace S12 := Aside0.mk (S12.out.mono hb)
  replace HB := Aside0.mk (HB.out.trans (hb.mono HB.out.size))
  clear hb
  replace S13 := Aside0.mk S13
  go_wp2_with fail
  refine (eqB _ _ _ [1, 3] true (by decide) _ (S7.out _ (by repeat (first | exact Below.refl _ _ | apply below_alloc | apply pw_below_drewN))) (Sl.lit_at _ _ (by simp) _ [1, 3] _ rfl (by simp))).mono ?_
  rintro e w20 ⟨rfl, hb⟩
  replace hb := below_allocs1 hb
  replace S7 := Aside0.mk (S7.out.mono hb)
  replace S8 := Aside0.mk (S8.out.mono hb)
  replace S9 := Aside0.mk (S9.out.mono hb)
  replace S10 := Aside0.mk (S10.out.mono hb)
  replace S11 := Aside0.mk (S11.out.mono hb)
  replace S12 := Aside0.mk (S12.out.mono hb)
  replace S13 := Aside0.mk (S13.out.mono hb)
  replace HB := Aside0.mk (HB.out.trans (hb.mono HB.out.size))
  clear hb
  clear S7
  go_wp2_with fail
  refine (eqB _ _ _ [7, 7, 9] true (by decide) _ (S8.out _ (by repeat (first | exact Below.refl _ _ | apply below_alloc | apply pw_below_drewN))) (Sl.lit_at _ _ (by simp) _ [7, 7, 9] _ rfl (by simp))).mono ?_
  rintro e w21 ⟨rfl, hb⟩
  replace hb := below_allocs1 hb
  replace S8 := Aside0.mk (S8.out.mono hb)
  replace S9 := Aside0.mk (S9.out.mono hb)
  replace S10 := Aside0.mk (S10.out.mono hb)
  replace S11 := Aside0.mk (S11.out.mono hb)
  replace S12 := Aside0.mk (S12.out.mono hb)
  replace S13 := Aside0.mk (S13.out.mono hb)
  replace HB := Aside0.mk (HB.out.trans (hb.mono HB.out.size))
  clear hb
  clear S8
  go_wp2_with fail
  refine (eqB _ _ _ [1, 3, 5, 2, 4, 6] true (by decide) _ (S9.out _ (by repeat (first | exact Below.refl _ _ | apply below_alloc | apply pw_below_drewN))) (Sl.lit_at _ _ (by simp) _ [1, 3, 5, 2, 4, 6] _ rfl (by simp))).mono ?_
  rintro e w22 ⟨rfl, hb⟩
  replace hb := below_allocs1 hb
  replace S9 := Aside0.mk (S9.out.mono hb)
  replace S10 := Aside0.mk (S10.out.mono hb)
  replace S11 := Aside0.mk (S11.out.mono hb)
  replace S12 := Aside0.mk (S12.out.mono hb)
  replace S13 := Aside0.mk (S13.out.mono hb)
  replace HB := Aside0.mk (HB.out.trans (hb.mono HB.out.size))
  clear hb
  clear S9
  go_wp2_with fail
  refine (eqB _ _ _ [3, -2147483647] true (by decide) _ (S10.out _ (by repeat (first | exact Below.refl _ _ | apply below_alloc | apply pw_below_drewN))) (Sl.lit_at _ _ (by simp) _ [3, -2147483647] _ rfl (by simp))).mono ?_
  rintro e w23 ⟨rfl, hb⟩
  replace hb := below_allocs1 hb
  replace S10 := Aside0.mk (S10.out.mono hb)
  replace S11 := Aside0.mk (S11.out.mono hb)
  replace S12 := Aside0.mk (S12.out.mono hb)
  replace S13 := Aside0.mk (S13.out.mono hb)
  replace HB := Aside0.mk (HB.out.trans (hb.mono HB.out.size))
  clear hb
  clear S10
  go_wp2_with fail
  refine (eqB _ _ _ [1, 2, 3] true (by decide) _ (S11.out _ (by repeat (first | exact Below.refl _ _ | apply below_alloc | apply pw_below_drewN))) (Sl.lit_at _ _ (by simp) _ [1, 2, 3] _ rfl (by simp))).mono ?_
  rintro e w24 ⟨rfl, hb⟩
  replace hb := below_allocs1 hb
  replace S11 := Aside0.mk (S11.out.mono hb)
  replace S12 := Aside0.mk (S12.out.mono hb)
  replace S13 := Aside0.mk (S13.out.mono hb)
  replace HB := Aside0.mk (HB.out.trans (hb.mono HB.out.size))
  clear hb
  clear S11
  go_wp2_with fail
  refine (eqB _ _ _ [2] true (by decide) _ (S12.out _ (by repeat (first | exact Below.refl _ _ | apply below_alloc | apply pw_below_drewN))) (Sl.lit_at _ _ (by simp) _ [2] _ rfl (by simp))).mono ?_
  rintro e w25 ⟨rfl, hb⟩
  replace hb := below_allocs1 hb
  replace S12 := Aside0.mk (S12.out.mono hb)
  replace S13 := Aside0.mk (S13.out.mono hb)
  replace HB := Aside0.mk (HB.out.trans (hb.mono HB.out.size))
  clear hb
  clear S12
  go_wp2_with fail
  refine (eqB _ _ _ [7, 7, 7] true (by decide) _ (S13.out _ (by repeat (first | exact Below.refl _ _ | apply below_alloc | apply pw_below_drewN))) (Sl.lit_at _ _ (by simp) _ [7, 7, 7] _ rfl (by simp))).mono ?_
  rintro e w26 ⟨rfl, hb⟩
  replace hb := below_allocs1 hb
  replace S13 := Aside0.mk (S13.out.mono hb)
  replace HB := Aside0.mk (HB.out.trans (hb.mono HB.out.size))
  clear hb
  clear S13
  go_wp2_with fail
  refine (trapS _ _ _ done_Trap _ (Sl.lit_at _ _ (by simp) _ [0, 5] _ rfl (by simp))).mono ?_
  rintro e w99 ⟨rfl, hb⟩
  replace hb := below_allocs1 hb
  replace HB := Aside0.mk (HB.out.trans (hb.mono HB.out.size))
  clear hb
  go_wp2
  go_ret
  exact ⟨rfl, HB.out⟩
end Go.Proofs.YtpimackoadfcmaaDoor.Hand
