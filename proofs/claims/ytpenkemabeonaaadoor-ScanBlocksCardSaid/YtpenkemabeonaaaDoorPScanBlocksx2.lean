-- Text of this session's own program (wip/tools: mkprint.py, pr.py) over hand-proved contracts. Not trusted: Lean checks it.
import Derived.Test.YtpenkemabeonaaaDoorPScanBlocksx0
import Derived.Test.YtpenkemabeonaaaDoorPScanBlocksx1
namespace Go.Proofs.YtpenkemabeonaaaDoor.PScanBlocks
open Go.RowKit Go.Proofs.YtpenkemabeonaaaDoorW.PrintWords Go.Proofs.YtpenkemabeonaaaDoorW.PrintLast Go.Proofs.YtpenkemabeonaaaDoorW.PrintMore
attribute [local go_sem] max2_int min2_int max_two min_two max_three min_three max_four min_four   -- for this text's walks alone
set_option linter.unusedVariables false
set_option linter.unusedSimpArgs false

/-! ### w05_ScanBlocks: function 8 -/
mutual
def w05_ScanBlocks.l0 : Nat → Int → List Int → Int → List Int → List Int → Int → List Int → Int → List Int → Int → Option (Bool)
  | 0, _, _, _, _, _, _, _, _, _, _ => none
  | k + 1, x7, x8, x9, x10, x11, x12, x13, x14, x15, x16 => if x16 > 0 then (if x15.length < 17592186044416 then (w05_ScanBlocks.l0 k x7 x8 x9 x10 x11 x12 x13 x14 (x15 ++ [mn x16 x9]) (wrap64 (x16 - x9))) else (none)) else ((Hand.sFold.f x7 x8 x15).bind fun bt141 => ((Hand.sScan.f x7 x8 x15).bind fun bt145 => ((Hand.sScan.f x7 x10 (([(x10.length : Int)] : List Int))).bind fun bt152 => ((Hand.sLevels.f x7 x8).bind fun bt156 => ((Hand.sDown.f x7 bt156.1 (x8.length : Int)).bind fun bt160 => (if x12 = 0 then (if x14 = 0 then (if bt141.2 = 0 then (if bt145.2 = 0 then (if bt152.2 = 0 then (if bt156.2 = 0 then (if bt160.2 = 0 then ((Hand.Eq_.f x11 x13).bind fun t164 => (if t164 = true then ((Hand.Eq_.f x10 bt141.1).bind fun t165 => (if t165 = true then ((Hand.Eq_.f bt160.1 x13).bind fun t166 => (if t166 = true then (if (bt145.1.length : Int) = (x8.length : Int) then (if (bt152.1.length : Int) = (x15.length : Int) then (w05_ScanBlocks.j1 k x7 x8 x9 x13 bt145.1 bt152.1 ((x13.length : Int) != (x8.length : Int))) else (w05_ScanBlocks.j1 k x7 x8 x9 x13 bt145.1 bt152.1 true)) else (w05_ScanBlocks.j1 k x7 x8 x9 x13 bt145.1 bt152.1 true)) else (w05_ScanBlocks.j1 k x7 x8 x9 x13 bt145.1 bt152.1 true))) else (w05_ScanBlocks.j1 k x7 x8 x9 x13 bt145.1 bt152.1 true))) else (w05_ScanBlocks.j1 k x7 x8 x9 x13 bt145.1 bt152.1 true))) else (w05_ScanBlocks.j1 k x7 x8 x9 x13 bt145.1 bt152.1 true)) else (w05_ScanBlocks.j1 k x7 x8 x9 x13 bt145.1 bt152.1 true)) else (w05_ScanBlocks.j1 k x7 x8 x9 x13 bt145.1 bt152.1 true)) else (w05_ScanBlocks.j1 k x7 x8 x9 x13 bt145.1 bt152.1 true)) else (w05_ScanBlocks.j1 k x7 x8 x9 x13 bt145.1 bt152.1 true)) else (w05_ScanBlocks.j1 k x7 x8 x9 x13 bt145.1 bt152.1 true)) else (w05_ScanBlocks.j1 k x7 x8 x9 x13 bt145.1 bt152.1 true)))))))
def w05_ScanBlocks.j1 : Nat → Int → List Int → Int → List Int → List Int → List Int → Bool → Option (Bool)
  | 0, _, _, _, _, _, _, _ => none
  | k + 1, x7, x8, x9, x13, x19, x21, x167 => if x167 = true then (none) else (w05_ScanBlocks.l1 k x7 x8 x9 x13 x19 x21 0)
def w05_ScanBlocks.l1 : Nat → Int → List Int → Int → List Int → List Int → List Int → Int → Option (Bool)
  | 0, _, _, _, _, _, _, _ => none
  | k + 1, x7, x8, x9, x13, x19, x21, x27 => if x27 < (x8.length : Int) then (if x9 = 0 then (none) else (if 0 ≤ (wrap64 (Int.tdiv x27 x9)) then (if (wrap64 (Int.tdiv x27 x9)) < (x21.length : Int) then (if 0 ≤ x27 then (if x27 < (x19.length : Int) then ((w05_value.f x7 (rd x21 (wrap64 (Int.tdiv x27 x9))) (rd x19 x27)).bind fun t169 => (if x27 < (x13.length : Int) then (if t169 = (rd x13 x27) then (w05_ScanBlocks.l1 k x7 x8 x9 x13 x19 x21 (wrap64 (x27 + 1))) else (none)) else (none))) else (none)) else (none)) else (none)) else (none))) else ((Hand.law_joined.f).bind fun t171 => (some t171))
end
def w05_ScanBlocks.f (k : Nat) (a0 : Int) (l1 : List Int) (a2 : Int) : Option (Bool) := (w05_opOf.f a0).bind fun t116 => ((r00_Wrap.f k l1 60).bind fun t117 => ((r00_Turn.f a2 20).bind fun t120 => ((Hand.sBlocks.f t116 t117 (wrap64 (1 + t120))).bind fun bt121 => ((Hand.sScan.f t116 t117 (([(t117.length : Int)] : List Int))).bind fun bt131 => (w05_ScanBlocks.l0 k t116 t117 (wrap64 (1 + t120)) bt121.1 bt121.2.1 bt121.2.2 bt131.1 bt131.2 (([] : List Int)) (t117.length : Int))))))
theorem w05_ScanBlocks.j1_true : ∀ (k : Nat) (y0 : Int) (y1 : List Int) (y2 : Int) (y3 : List Int) (y4 : List Int) (y5 : List Int), w05_ScanBlocks.j1 k y0 y1 y2 y3 y4 y5 true = none := by
  intro k y0 y1 y2 y3 y4 y5
  cases k <;> rfl
theorem w05_ScanBlocks.mono_l : ∀ k, (∀ y0 y1 y2 y3 y4 y5 y6 y7 y8 y9, LeO (w05_ScanBlocks.l0 k y0 y1 y2 y3 y4 y5 y6 y7 y8 y9) (w05_ScanBlocks.l0 (k + 1) y0 y1 y2 y3 y4 y5 y6 y7 y8 y9)) ∧ (∀ y0 y1 y2 y3 y4 y5 y6, LeO (w05_ScanBlocks.j1 k y0 y1 y2 y3 y4 y5 y6) (w05_ScanBlocks.j1 (k + 1) y0 y1 y2 y3 y4 y5 y6)) ∧ (∀ y0 y1 y2 y3 y4 y5 y6, LeO (w05_ScanBlocks.l1 k y0 y1 y2 y3 y4 y5 y6) (w05_ScanBlocks.l1 (k + 1) y0 y1 y2 y3 y4 y5 y6))
  | 0 => ⟨fun _ _ _ _ _ _ _ _ _ _ r h => by simp [w05_ScanBlocks.l0] at h, fun _ _ _ _ _ _ _ r h => by simp [w05_ScanBlocks.j1] at h, fun _ _ _ _ _ _ _ r h => by simp [w05_ScanBlocks.l1] at h⟩
  | k + 1 => by
    obtain ⟨ih0, ih1, ih2⟩ := w05_ScanBlocks.mono_l k
    refine ⟨?_, ?_, ?_⟩
    · intro y0 y1 y2 y3 y4 y5 y6 y7 y8 y9
      unfold w05_ScanBlocks.l0
      repeat' first
      | (with_reducible exact ih0 _ _ _ _ _ _ _ _ _ _)
      | (with_reducible exact ih1 _ _ _ _ _ _ _)
      | (with_reducible exact ih2 _ _ _ _ _ _ _)
      | (with_reducible exact r00_Wrap.mono _ _ _)
      | (with_reducible exact LeO.refl _)
      | (with_reducible exact LeO.none _)
      | (with_reducible refine LeO.ite ?_ ?_)
      | (with_reducible refine LeO.bind ?_ (fun _ => ?_))
      | exact ih0 _ _ _ _ _ _ _ _ _ _
      | exact ih1 _ _ _ _ _ _ _
      | exact ih2 _ _ _ _ _ _ _
      | exact r00_Wrap.mono _ _ _
      | exact LeO.none _
      | refine LeO.ite ?_ ?_
      | refine LeO.bind ?_ (fun _ => ?_)
    · intro y0 y1 y2 y3 y4 y5 y6
      unfold w05_ScanBlocks.j1
      repeat' first
      | (with_reducible exact ih0 _ _ _ _ _ _ _ _ _ _)
      | (with_reducible exact ih1 _ _ _ _ _ _ _)
      | (with_reducible exact ih2 _ _ _ _ _ _ _)
      | (with_reducible exact r00_Wrap.mono _ _ _)
      | (with_reducible exact LeO.refl _)
      | (with_reducible exact LeO.none _)
      | (with_reducible refine LeO.ite ?_ ?_)
      | (with_reducible refine LeO.bind ?_ (fun _ => ?_))
      | exact ih0 _ _ _ _ _ _ _ _ _ _
      | exact ih1 _ _ _ _ _ _ _
      | exact ih2 _ _ _ _ _ _ _
      | exact r00_Wrap.mono _ _ _
      | exact LeO.none _
      | refine LeO.ite ?_ ?_
      | refine LeO.bind ?_ (fun _ => ?_)
    · intro y0 y1 y2 y3 y4 y5 y6
      unfold w05_ScanBlocks.l1
      repeat' first
      | (with_reducible exact ih0 _ _ _ _ _ _ _ _ _ _)
      | (with_reducible exact ih1 _ _ _ _ _ _ _)
      | (with_reducible exact ih2 _ _ _ _ _ _ _)
      | (with_reducible exact r00_Wrap.mono _ _ _)
      | (with_reducible exact LeO.refl _)
      | (with_reducible exact LeO.none _)
      | (with_reducible refine LeO.ite ?_ ?_)
      | (with_reducible refine LeO.bind ?_ (fun _ => ?_))
      | exact ih0 _ _ _ _ _ _ _ _ _ _
      | exact ih1 _ _ _ _ _ _ _
      | exact ih2 _ _ _ _ _ _ _
      | exact r00_Wrap.mono _ _ _
      | exact LeO.none _
      | refine LeO.ite ?_ ?_
      | refine LeO.bind ?_ (fun _ => ?_)
theorem w05_ScanBlocks.mono : ∀ a0 a1 a2 k, LeO (w05_ScanBlocks.f k a0 a1 a2) (w05_ScanBlocks.f (k + 1) a0 a1 a2) := by
  intro a0 a1 a2 k
  obtain ⟨ih0, ih1, ih2⟩ := w05_ScanBlocks.mono_l k
  unfold w05_ScanBlocks.f
  repeat' first
      | (with_reducible exact ih0 _ _ _ _ _ _ _ _ _ _)
      | (with_reducible exact ih1 _ _ _ _ _ _ _)
      | (with_reducible exact ih2 _ _ _ _ _ _ _)
      | (with_reducible exact r00_Wrap.mono _ _ _)
      | (with_reducible exact LeO.refl _)
      | (with_reducible exact LeO.none _)
      | (with_reducible refine LeO.ite ?_ ?_)
      | (with_reducible refine LeO.bind ?_ (fun _ => ?_))
      | exact ih0 _ _ _ _ _ _ _ _ _ _
      | exact ih1 _ _ _ _ _ _ _
      | exact ih2 _ _ _ _ _ _ _
      | exact r00_Wrap.mono _ _ _
      | exact LeO.none _
      | refine LeO.ite ?_ ?_
      | refine LeO.bind ?_ (fun _ => ?_)
def w05_ScanBlocks.T19 : Bool × List (List Nat × List Nat) := (true, [([], []), ([], []), ([], []), ([], []), ([2, 3], [2, 3]), ([1, 4], [1, 4]), ([5], [5]), ([], []), ([], []), ([7, 8], [7, 8]), ([9], [9]), ([0, 6, 10], [0, 6, 10]), ([], []), ([], []), ([12, 13], [12, 13]), ([14], [14]), ([11, 15], [11, 15])])
def w05_ScanBlocks.B19 : List Nat := [0, 0, 0, 0, 12, 30, 62, 0, 0, 384, 896, 2047, 0, 0, 12288, 28672, 65535]
theorem w05_ScanBlocks.tab19 : rtab .any (opsOf Tryd.f8 19) = w05_ScanBlocks.T19 := by kernel_rfl
theorem w05_ScanBlocks.bits19 : waitsOk w05_ScanBlocks.T19.2 w05_ScanBlocks.B19 = true := by kernel_rfl
set_option maxHeartbeats 8000000 in
set_option maxRecDepth 100000 in
theorem w05_ScanBlocks.calls (k : Nat) (a0 : Int) (A1 : Option Addr) (c1 : Nat) (l1 : List Int) (a2 : Int) (r : Bool) (w : World) (hG : Hand.Tabs w) (hr1 : Kd.C (Kd.int .i64) w A1 l1.length l1) (hc1 : l1.length ≤ c1) (h : w05_ScanBlocks.f k a0 l1 a2 = some r) :
    Calls Tryd.prog 8 #[.int .i64 a0, .slice A1 l1.length c1, .int .i64 a2] w fun e w' => e = .returned (.bool r) ∧ Below w.heap.size w w' := by
  have HG := Aside0.mk hG
  clear hG
  have HR1 := Aside0.mk hr1
  have HC1 := Aside0.mk hc1
  clear hr1 hc1
  have HB := Aside0.mk (Below.refl w.heap.size w)
  have H : ((w05_opOf.f a0).bind fun t116 => ((r00_Wrap.f k l1 60).bind fun t117 => ((r00_Turn.f a2 20).bind fun t120 => ((Hand.sBlocks.f t116 t117 (wrap64 (1 + t120))).bind fun bt121 => ((Hand.sScan.f t116 t117 (([(t117.length : Int)] : List Int))).bind fun bt131 => (w05_ScanBlocks.l0 k t116 t117 (wrap64 (1 + t120)) bt121.1 bt121.2.1 bt121.2.2 bt131.1 bt131.2 (([] : List Int)) (t117.length : Int))))))) = some r := h
  clear h
  replace H := Option.bind_eq_some_iff.mp H
  obtain ⟨t116, A40, H⟩ := H
  replace H : ((r00_Wrap.f k l1 60).bind fun t117 => ((r00_Turn.f a2 20).bind fun t120 => ((Hand.sBlocks.f t116 t117 (wrap64 (1 + t120))).bind fun bt121 => ((Hand.sScan.f t116 t117 (([(t117.length : Int)] : List Int))).bind fun bt131 => (w05_ScanBlocks.l0 k t116 t117 (wrap64 (1 + t120)) bt121.1 bt121.2.1 bt121.2.2 bt131.1 bt131.2 (([] : List Int)) (t117.length : Int)))))) = some r := H
  have A4 := Aside0.mk A40
  clear A40
  replace H := Option.bind_eq_some_iff.mp H
  obtain ⟨t117, A50, H⟩ := H
  replace H : ((r00_Turn.f a2 20).bind fun t120 => ((Hand.sBlocks.f t116 t117 (wrap64 (1 + t120))).bind fun bt121 => ((Hand.sScan.f t116 t117 (([(t117.length : Int)] : List Int))).bind fun bt131 => (w05_ScanBlocks.l0 k t116 t117 (wrap64 (1 + t120)) bt121.1 bt121.2.1 bt121.2.2 bt131.1 bt131.2 (([] : List Int)) (t117.length : Int))))) = some r := H
  have A5 := Aside0.mk A50
  clear A50
  replace H := Option.bind_eq_some_iff.mp H
  obtain ⟨t120, A60, H⟩ := H
  replace H : ((Hand.sBlocks.f t116 t117 (wrap64 (1 + t120))).bind fun bt121 => ((Hand.sScan.f t116 t117 (([(t117.length : Int)] : List Int))).bind fun bt131 => (w05_ScanBlocks.l0 k t116 t117 (wrap64 (1 + t120)) bt121.1 bt121.2.1 bt121.2.2 bt131.1 bt131.2 (([] : List Int)) (t117.length : Int)))) = some r := H
  have A6 := Aside0.mk A60
  clear A60
  replace H := Option.bind_eq_some_iff.mp H
  obtain ⟨⟨t121, t124, t127⟩, A70, H⟩ := H
  replace H : ((Hand.sScan.f t116 t117 (([(t117.length : Int)] : List Int))).bind fun bt131 => (w05_ScanBlocks.l0 k t116 t117 (wrap64 (1 + t120)) t121 t124 t127 bt131.1 bt131.2 (([] : List Int)) (t117.length : Int))) = some r := H
  have A7 := Aside0.mk A70
  clear A70
  obtain ⟨y128, hy128⟩ : ∃ y_ : List Int, y_ = (([(t117.length : Int)] : List Int)) := ⟨_, rfl⟩
  replace H : ((Hand.sScan.f t116 t117 y128).bind fun bt131 => (w05_ScanBlocks.l0 k t116 t117 (wrap64 (1 + t120)) t121 t124 t127 bt131.1 bt131.2 (([] : List Int)) (t117.length : Int))) = some r := by first | (rw [hy128]; with_reducible exact H) | (have H2_ := (Option.bind_some _ _).symm.trans H; rw [hy128]; with_reducible exact H2_) | (have H2_ := (Option.bind_some _ _).symm.trans H; with_reducible exact H2_) | with_reducible exact H | (rw [hy128]; exact H) | exact H
  have Ny128 := Aside0.mk hy128
  clear hy128
  replace H := Option.bind_eq_some_iff.mp H
  obtain ⟨⟨t131, t134⟩, A80, H⟩ := H
  replace H : (w05_ScanBlocks.l0 k t116 t117 (wrap64 (1 + t120)) t121 t124 t127 t131 t134 (([] : List Int)) (t117.length : Int)) = some r := H
  have A8 := Aside0.mk A80
  clear A80
  obtain ⟨y135, hy135⟩ : ∃ y_ : List Int, y_ = (([] : List Int)) := ⟨_, rfl⟩
  replace H : (w05_ScanBlocks.l0 k t116 t117 (wrap64 (1 + t120)) t121 t124 t127 t131 t134 y135 (t117.length : Int)) = some r := by first | (rw [hy135]; with_reducible exact H) | (have H2_ := (Option.bind_some _ _).symm.trans H; rw [hy135]; with_reducible exact H2_) | (have H2_ := (Option.bind_some _ _).symm.trans H; with_reducible exact H2_) | with_reducible exact H | (rw [hy135]; exact H) | exact H
  have Ny135 := Aside0.mk hy135
  clear hy135
  have H' := Aside0.mk H
  clear H
  go_enter Tryd.func8, Tryd.ntmps8
  go_wp2_with (first | ((with_reducible refine gate_callee (f := 34) rfl ?_); refine goesL_ (some 29) rfl rfl Tryd.func34 (by kernel_rfl) rfl #[.int .i64 a0] rfl (by (try simp only [List.map_toArray, List.map_cons, List.map_nil]); first | done | rfl | (simp only [List.length_drop, List.length_take]; rfl)) ?_; (with_reducible refine (w05_opOf.calls a0 t116 _ A4.out).mono ?_); rintro e w9 ⟨rfl, hb⟩; refine ⟨_, rfl, ?_⟩; have n0_ := Aside0.mk (below_step (by repeat (first | (with_reducible first | exact HB.out | apply below_alloc | apply pw_below_drewN | apply below_drew1) | exact HB.out)) hb); clear HB; have HB := n0_; clear n0_; (try clear hb); (try clear hb2); (try clear hk); (try clear hi)) | ((with_reducible refine gate_callee (f := 35) rfl ?_); refine goesL_ (some 31) rfl rfl Tryd.func35 (by kernel_rfl) rfl #[.slice A1 l1.length c1, .int .i64 60] rfl (by (try simp only [List.map_toArray, List.map_cons, List.map_nil]); first | done | rfl | (simp only [List.length_drop, List.length_take]; rfl)) ?_; (with_reducible refine (r00_Wrap.calls k _ _ l1 60 t117 _ ?side1 ?side2 A5.out).mono ?_); (case side1 => repeat (first | exact (Kd.C_below HR1.out HB.out) | (with_reducible refine Kd.C_alloc ?_ _) | (with_reducible refine Kd.C_drewN ?_ _) | (with_reducible refine Kd.C_drew ?_))); (case side2 => exact HC1.out); rintro e w10 ⟨v118, rfl, ho0, hb⟩; refine ⟨_, rfl, ?_⟩; have n0_ := Aside0.mk (Kd.R_lower ho0 (below_size (by repeat (first | (with_reducible first | exact HB.out | apply below_alloc | apply pw_below_drewN | apply below_drew1) | exact HB.out)))); have n1_ := Aside0.mk (below_step (by repeat (first | (with_reducible first | exact HB.out | apply below_alloc | apply pw_below_drewN | apply below_drew1) | exact HB.out)) hb); clear HB; have HO119 := n0_; have HB := n1_; clear n0_ n1_; (try clear hb); (try clear hb2); (try clear hk); (try clear hi); (try clear ho0)) | ((with_reducible refine gate_callee (f := 36) rfl ?_); refine goesL_ (some 33) rfl rfl Tryd.func36 (by kernel_rfl) rfl #[.int .i64 a2, .int .i64 20] rfl (by (try simp only [List.map_toArray, List.map_cons, List.map_nil]); first | done | rfl | (simp only [List.length_drop, List.length_take]; rfl)) ?_; (with_reducible refine (r00_Turn.calls a2 20 t120 _ A6.out).mono ?_); rintro e w' ⟨rfl, ⟨nd, rfl⟩⟩; refine ⟨_, rfl, ?_⟩; obtain ⟨Ao11, co11, eo11⟩ := Kd.R_slice HO119.out; subst eo11) | ((with_reducible refine gate_callee (f := 22) rfl ?_); refine goesL_ (some 39) rfl rfl Tryd.func22 (by kernel_rfl) rfl #[.int .i64 t116, .slice Ao11 t117.length co11, .int .i64 (wrap64 (1 + t120))] rfl (by (try simp only [List.map_toArray, List.map_cons, List.map_nil]); first | done | rfl | (simp only [List.length_drop, List.length_take]; rfl)) ?_; (with_reducible refine (Hand.sBlocks.calls t116 _ _ t117 (wrap64 (1 + t120)) t121 t124 t127 _ ?side3 ?side1 ?side2 A7.out).mono ?_); (case side1 => repeat (first | exact (Kd.R_reads' HO119.out).2.2 | (with_reducible refine Kd.C_alloc ?_ _) | (with_reducible refine Kd.C_drewN ?_ _) | (with_reducible refine Kd.C_drew ?_))); (case side2 => exact (Kd.R_reads' HO119.out).2.1); (case side3 => exact Hand.Tabs.below HG.out (by repeat (first | (with_reducible first | exact HB.out | apply below_alloc | apply pw_below_drewN | apply below_drew1) | exact HB.out))); rintro e w12 ⟨v122, v125, rfl, ho0, ho1, hb⟩; refine ⟨_, rfl, ?_⟩; have n0_ := Aside0.mk (Kd.R_below (by (with_reducible repeat (first | apply Kd.R_alloc | apply Kd.R_drewN | apply Kd.R_drew)); exact HO119.out) hb); have n1_ := Aside0.mk (Kd.V_lower (Kd.V_mono (ok' := fun k_ => some k_ ≠ (.slice Ao11 t117.length co11 : Value).ownBlock) ho0 (fun k_ hk_ => (Kd.fresh' (Kd.R_lt (by (with_reducible repeat (first | apply Kd.R_alloc | apply Kd.R_drewN | apply Kd.R_drew)); exact HO119.out)) k_ hk_))) (below_size (by repeat (first | (with_reducible first | exact HB.out | apply below_alloc | apply pw_below_drewN | apply below_drew1) | exact HB.out)))); have n2_ := Aside0.mk (Kd.V_lower (Kd.V_mono (ok' := fun k_ => some k_ ≠ (.slice Ao11 t117.length co11 : Value).ownBlock) ho1 (fun k_ hk_ => (Kd.fresh' (Kd.R_lt (by (with_reducible repeat (first | apply Kd.R_alloc | apply Kd.R_drewN | apply Kd.R_drew)); exact HO119.out)) k_ hk_))) (below_size (by repeat (first | (with_reducible first | exact HB.out | apply below_alloc | apply pw_below_drewN | apply below_drew1) | exact HB.out)))); have n3_ := Aside0.mk (below_step (by repeat (first | (with_reducible first | exact HB.out | apply below_alloc | apply pw_below_drewN | apply below_drew1) | exact HB.out)) hb); clear HO119; clear HB; have HO119 := n0_; have HO123 := n1_; have HO126 := n2_; have HB := n3_; clear n0_ n1_ n2_ n3_; (try clear hb); (try clear hb2); (try clear hk); (try clear hi); (try clear ho0); (try clear ho1)) | ((with_reducible refine gate_dst (N := 48) rfl ?_); (try (refine gate_guard (by rfl) ?_; dsimp only)); refine Kd.R_lit (Kd.int .i64) _ 3 ?hg (N := 48) ?hd (xs := ([(t117.length : Int)] : List Int)) (inner := [.int .i64 (t117.length : Int)]) (ok := fun _ => True) (okp := fun _ => True) ?hr ?hp (fun _ hk => hk) trivial (Below.refl _ _) (Nat.le_refl _) (by simp) ?_; (case hd => rfl); (case hg => rfl); (case hr => first | (go_simp; done) | (go_simp; rfl)); (case hp => exact (Reps.one (show Kd.M (Kd.int .i64) _ _ _ (t117.length : Int) [.int .i64 (t117.length : Int)] from rfl) (Reps.none _ _))); intro v129 w13 ho14 hb hg_ hnew_; clear hg_ hnew_; (first | rw [← Ny128.out] at ho14 | (simp only [Int.reduceToNat] at ho14; rw [← Ny128.out] at ho14)); have n0_ := Aside0.mk (Kd.R_elder' (by (with_reducible repeat (first | apply Kd.R_alloc | apply Kd.R_drewN | apply Kd.R_drew)); exact HO119.out) (Kd.R_base ho14) hb); have n1_ := Aside0.mk (Kd.V_elder' (by (with_reducible repeat (first | apply Kd.V_alloc | apply Kd.V_drewN | apply Kd.V_drew)); exact HO123.out) (Kd.R_base ho14) hb); have n2_ := Aside0.mk (Kd.V_elder' (by (with_reducible repeat (first | apply Kd.V_alloc | apply Kd.V_drewN | apply Kd.V_drew)); exact HO126.out) (Kd.R_base ho14) hb); have n3_ := Aside0.mk (Kd.R_lower (Kd.R_new' ho14 (Kd.R_lt (by (with_reducible repeat (first | apply Kd.R_alloc | apply Kd.R_drewN | apply Kd.R_drew)); exact HO119.out))) (below_size (by repeat (first | (with_reducible first | exact HB.out | apply below_alloc | apply pw_below_drewN | apply below_drew1) | exact HB.out)))); have n4_ := Aside0.mk (below_step (by repeat (first | (with_reducible first | exact HB.out | apply below_alloc | apply pw_below_drewN | apply below_drew1) | exact HB.out)) hb); clear HO119; clear HO123; clear HO126; clear HB; have HO119 := n0_; have HO123 := n1_; have HO126 := n2_; have HO130 := n3_; have HB := n4_; clear n0_ n1_ n2_ n3_ n4_; clear hb ho14; obtain ⟨Ao15, co15, eo15⟩ := Kd.R_slice HO130.out; subst eo15) | ((with_reducible refine gate_callee (f := 14) rfl ?_); refine goesL_ (some 49) rfl rfl Tryd.func14 (by kernel_rfl) rfl #[.int .i64 t116, .slice Ao11 t117.length co11, .slice Ao15 y128.length co15] rfl (by (try simp only [List.map_toArray, List.map_cons, List.map_nil]); first | done | rfl | (simp only [List.length_drop, List.length_take]; rfl)) ?_; (with_reducible refine (Hand.sScan.calls t116 _ _ t117 _ _ y128 t131 t134 _ ?side5 ?side1 ?side2 ?side3 ?side4 A8.out).mono ?_); (case side1 => repeat (first | exact (Kd.R_reads' HO119.out).2.2 | (with_reducible refine Kd.C_alloc ?_ _) | (with_reducible refine Kd.C_drewN ?_ _) | (with_reducible refine Kd.C_drew ?_))); (case side2 => exact (Kd.R_reads' HO119.out).2.1); (case side3 => repeat (first | exact (Kd.R_reads' HO130.out).2.2 | (with_reducible refine Kd.C_alloc ?_ _) | (with_reducible refine Kd.C_drewN ?_ _) | (with_reducible refine Kd.C_drew ?_))); (case side4 => exact (Kd.R_reads' HO130.out).2.1); (case side5 => exact Hand.Tabs.below HG.out (by repeat (first | (with_reducible first | exact HB.out | apply below_alloc | apply pw_below_drewN | apply below_drew1) | exact HB.out))); rintro e w16 ⟨v132, rfl, ho0, hb⟩; refine ⟨_, rfl, ?_⟩; have n0_ := Aside0.mk (Kd.R_below (by (with_reducible repeat (first | apply Kd.R_alloc | apply Kd.R_drewN | apply Kd.R_drew)); exact HO119.out) hb); have n1_ := Aside0.mk (Kd.V_below (by (with_reducible repeat (first | apply Kd.V_alloc | apply Kd.V_drewN | apply Kd.V_drew)); exact HO123.out) hb); have n2_ := Aside0.mk (Kd.V_below (by (with_reducible repeat (first | apply Kd.V_alloc | apply Kd.V_drewN | apply Kd.V_drew)); exact HO126.out) hb); have n3_ := Aside0.mk (Kd.R_below (by (with_reducible repeat (first | apply Kd.R_alloc | apply Kd.R_drewN | apply Kd.R_drew)); exact HO130.out) hb); have n4_ := Aside0.mk (Kd.V_lower (Kd.V_mono (ok' := fun k_ => some k_ ≠ (.slice Ao11 t117.length co11 : Value).ownBlock ∧ some k_ ≠ (.slice Ao15 y128.length co15 : Value).ownBlock) ho0 (fun k_ hk_ => ⟨(Kd.fresh' (Kd.R_lt (by (with_reducible repeat (first | apply Kd.R_alloc | apply Kd.R_drewN | apply Kd.R_drew)); exact HO119.out)) k_ hk_), (Kd.fresh' (Kd.R_lt (by (with_reducible repeat (first | apply Kd.R_alloc | apply Kd.R_drewN | apply Kd.R_drew)); exact HO130.out)) k_ hk_)⟩)) (below_size (by repeat (first | (with_reducible first | exact HB.out | apply below_alloc | apply pw_below_drewN | apply below_drew1) | exact HB.out)))); have n5_ := Aside0.mk (below_step (by repeat (first | (with_reducible first | exact HB.out | apply below_alloc | apply pw_below_drewN | apply below_drew1) | exact HB.out)) hb); clear HO119; clear HO123; clear HO126; clear HO130; clear HB; have HO119 := n0_; have HO123 := n1_; have HO126 := n2_; have HO130 := n3_; have HO133 := n4_; have HB := n5_; clear n0_ n1_ n2_ n3_ n4_ n5_; (try clear hb); (try clear hb2); (try clear hk); (try clear hi); (try clear ho0)) | ((with_reducible refine gate_dst (N := 52) rfl ?_); (try (refine gate_guard (by rfl) ?_; dsimp only)); refine Kd.R_lit (Kd.int .i64) _ 3 ?hg (N := 52) ?hd (xs := ([] : List Int)) (inner := []) (ok := fun _ => True) (okp := fun _ => True) ?hr ?hp (fun _ hk => hk) trivial (Below.refl _ _) (Nat.le_refl _) (by simp) ?_; (case hd => rfl); (case hg => rfl); (case hr => first | (go_simp; done) | (go_simp; rfl)); (case hp => exact (Reps.none _ _)); intro v136 w17 ho18 hb hg_ hnew_; clear hg_ hnew_; (first | rw [← Ny135.out] at ho18 | (simp only [Int.reduceToNat] at ho18; rw [← Ny135.out] at ho18)); have n0_ := Aside0.mk (Kd.R_elder' (by (with_reducible repeat (first | apply Kd.R_alloc | apply Kd.R_drewN | apply Kd.R_drew)); exact HO119.out) (Kd.R_base ho18) hb); have n1_ := Aside0.mk (Kd.V_elder' (by (with_reducible repeat (first | apply Kd.V_alloc | apply Kd.V_drewN | apply Kd.V_drew)); exact HO123.out) (Kd.R_base ho18) hb); have n2_ := Aside0.mk (Kd.V_elder' (by (with_reducible repeat (first | apply Kd.V_alloc | apply Kd.V_drewN | apply Kd.V_drew)); exact HO126.out) (Kd.R_base ho18) hb); have n3_ := Aside0.mk (Kd.R_elder' (by (with_reducible repeat (first | apply Kd.R_alloc | apply Kd.R_drewN | apply Kd.R_drew)); exact HO130.out) (Kd.R_base ho18) hb); have n4_ := Aside0.mk (Kd.V_elder' (by (with_reducible repeat (first | apply Kd.V_alloc | apply Kd.V_drewN | apply Kd.V_drew)); exact HO133.out) (Kd.R_base ho18) hb); have n5_ := Aside0.mk (Kd.R_lower (Kd.R_new' (Kd.R_new' ho18 (Kd.R_lt (by (with_reducible repeat (first | apply Kd.R_alloc | apply Kd.R_drewN | apply Kd.R_drew)); exact HO119.out))) (Kd.R_lt (by (with_reducible repeat (first | apply Kd.R_alloc | apply Kd.R_drewN | apply Kd.R_drew)); exact HO130.out))) (below_size (by repeat (first | (with_reducible first | exact HB.out | apply below_alloc | apply pw_below_drewN | apply below_drew1) | exact HB.out)))); have n6_ := Aside0.mk (below_step (by repeat (first | (with_reducible first | exact HB.out | apply below_alloc | apply pw_below_drewN | apply below_drew1) | exact HB.out)) hb); clear HO119; clear HO123; clear HO126; clear HO130; clear HO133; clear HB; have HO119 := n0_; have HO123 := n1_; have HO126 := n2_; have HO130 := n3_; have HO133 := n4_; have HO137 := n5_; have HB := n6_; clear n0_ n1_ n2_ n3_ n4_ n5_ n6_; clear hb ho18))
  go_loopg [15, 16] k (fun kq v15 v16 w' => ∃ (x15_1 : List Int) (x16_1 : Int), v16 = .int .i64 x16_1 ∧ Aside0 (w05_ScanBlocks.l0 kq t116 t117 (wrap64 (1 + t120)) t121 t124 t127 t131 t134 x15_1 x16_1 = some r) ∧ Aside0 (kq ≤ k) ∧ Aside0 (Kd.R (Kd.int .i64) 3 w' w.heap.size (fun k_ => some k_ ≠ (v15 : Value).ownBlock) (.slice Ao11 t117.length co11) t117) ∧ Aside0 (Kd.V (Kd.int .i64) 3 w' w.heap.size (fun k_ => some k_ ≠ ((.slice Ao11 t117.length co11) : Value).ownBlock ∧ some k_ ≠ (v15 : Value).ownBlock) v122 t121) ∧ Aside0 (Kd.V (Kd.int .i64) 3 w' w.heap.size (fun k_ => some k_ ≠ ((.slice Ao11 t117.length co11) : Value).ownBlock ∧ some k_ ≠ (v15 : Value).ownBlock) v125 t124) ∧ Aside0 (Kd.V (Kd.int .i64) 3 w' w.heap.size (fun k_ => some k_ ≠ ((.slice Ao11 t117.length co11) : Value).ownBlock ∧ some k_ ≠ (v15 : Value).ownBlock) v132 t131) ∧ Aside0 (Kd.R (Kd.int .i64) 3 w' w.heap.size (fun k_ => some k_ ≠ ((.slice Ao11 t117.length co11) : Value).ownBlock) v15 x15_1) ∧ Aside0 (Below w.heap.size w w'))
  case atStart => exact ⟨(y135), ((t117.length : Int)), (by first | rfl | (simp; done) | (simp [*]; done)), H', ⟨Nat.le_refl _⟩, ⟨by (with_reducible repeat (first | apply Kd.R_alloc | apply Kd.R_drewN | apply Kd.R_drew)); exact Kd.R_mono HO119.out (fun _ hk => hk.2)⟩, ⟨by (with_reducible repeat (first | apply Kd.V_alloc | apply Kd.V_drewN | apply Kd.V_drew)); exact Kd.V_mono HO123.out (fun _ hk => ⟨hk.1.1, hk.2⟩)⟩, ⟨by (with_reducible repeat (first | apply Kd.V_alloc | apply Kd.V_drewN | apply Kd.V_drew)); exact Kd.V_mono HO126.out (fun _ hk => ⟨hk.1.1, hk.2⟩)⟩, ⟨by (with_reducible repeat (first | apply Kd.V_alloc | apply Kd.V_drewN | apply Kd.V_drew)); exact Kd.V_mono HO133.out (fun _ hk => ⟨hk.1.1, hk.2⟩)⟩, ⟨by (with_reducible repeat (first | apply Kd.R_alloc | apply Kd.R_drewN | apply Kd.R_drew)); exact Kd.R_mono HO137.out (fun _ hk => hk.1.2)⟩, ⟨by repeat (first | (with_reducible first | exact HB.out | apply below_alloc | apply pw_below_drewN | apply below_drew1) | exact HB.out)⟩⟩
  case round =>
    clear H'
    try clear c1
    try clear c2
    try clear p2
    try clear c3
    try clear p6
    try clear c8
    try clear c14
    obtain ⟨x15_1, x16_1, rfl, HA, HK1, HO_8, HO_10, HO_11, HO_13, HO_15, HB⟩ := hrel
    cases gk with
    | zero => exact absurd HA.out (by simp [w05_ScanBlocks.l0])
    | succ k1 =>
      have H := HA.out
      clear HA
      simp only [w05_ScanBlocks.l0] at H
      by_cases c19 : x16_1 > 0
      · rw [if_pos c19] at H
        have c19b0 : decide (0 < x16_1) = true := decide_eq_true c19
        clear c19
        obtain ⟨ji20, hji20⟩ : ∃ j_ : Int, (mn x16_1 (wrap64 (1 + t120))) = j_ := ⟨_, rfl⟩
        replace H : (if x15_1.length < 17592186044416 then (w05_ScanBlocks.l0 k1 t116 t117 (wrap64 (1 + t120)) t121 t124 t127 t131 t134 (x15_1 ++ [ji20]) (wrap64 (x16_1 - (wrap64 (1 + t120))))) else (none)) = some r := by first | (rw [hji20] at H; exact H) | (simp only [hji20] at H ⊢; exact H)
        have hji20_ : (if (wrap64 (1 + t120)) < x16_1 then (wrap64 (1 + t120)) else x16_1) = ji20 := hji20
        (try (have hji20N := hji20_; simp only [Int.ofNat_lt] at hji20N))
        by_cases c21 : x15_1.length < 17592186044416
        · rw [if_pos c21] at H
          have LMc21 := Aside0.mk c21
          clear c21
          obtain ⟨y138, hy138⟩ : ∃ y_ : List Int, y_ = (x15_1 ++ [ji20]) := ⟨_, rfl⟩
          replace H : (w05_ScanBlocks.l0 k1 t116 t117 (wrap64 (1 + t120)) t121 t124 t127 t131 t134 y138 (wrap64 (x16_1 - (wrap64 (1 + t120))))) = some r := by first | (rw [hy138]; with_reducible exact H) | (have H2_ := (Option.bind_some _ _).symm.trans H; rw [hy138]; with_reducible exact H2_) | (have H2_ := (Option.bind_some _ _).symm.trans H; with_reducible exact H2_) | with_reducible exact H | (rw [hy138]; exact H) | exact H
          have Ny138 := Aside0.mk hy138
          clear hy138
          have H' := Aside0.mk H
          clear H
          go_wp2_with (first | ((with_reducible refine gate_builtin (b := .append) (xs := #[.tmp 60, .tmp 64]) rfl ?_); (try (refine gate_guard (by rfl) ?_; dsimp only)); at_builtin; refine Kd.R_append (Kd.int .i64) (w0 := w) w.heap.size rfl (.tmp 60) (.tmp 64) 22 3 (.int .i64 0) 8 rfl Tryd.underlying22 info3 rfl (by decide) (by omega) u15 x15_1 ji20 [.int .i64 ji20] (fun k_ => some k_ ≠ (.slice Ao11 t117.length co11 : Value).ownBlock) (fun _ => False) rfl rfl ?aP (fun _ hk => hk.elim) ?aF ?aO ?aB ?aS ?aL ?_; (case aP => exact rfl); (case aB => exact (by repeat (first | (with_reducible first | exact HB.out | apply below_alloc | apply pw_below_drewN | apply below_drew1) | exact HB.out))); (case aF => exact (fun k_ hk => Kd.fresh' (Kd.R_lt (by (with_reducible repeat (first | apply Kd.R_alloc | apply Kd.R_drewN | apply Kd.R_drew)); exact HO_8.out)) k_ hk)); (case aO => exact (by (with_reducible repeat (first | apply Kd.R_alloc | apply Kd.R_drewN | apply Kd.R_drew)); exact HO_15.out)); (case aS => exact (below_size (by repeat (first | (with_reducible first | exact HB.out | apply below_alloc | apply pw_below_drewN | apply below_drew1) | exact HB.out)))); (case aL => have := LMc21.out; omega); intro v139 w22 ho hb hg hat; rw [← Ny138.out] at ho; have n0_ := Aside0.mk (Kd.R_after (ok := (fun _ => True)) (by (with_reducible repeat (first | apply Kd.R_alloc | apply Kd.R_drewN | apply Kd.R_drew)); exact Kd.R_mono HO_8.out (fun _ hk => ⟨trivial, hk⟩)) hg hat); have n1_ := Aside0.mk (Kd.V_afterv (ok := (fun k_ => some k_ ≠ (.slice Ao11 t117.length co11 : Value).ownBlock)) (by (with_reducible repeat (first | apply Kd.V_alloc | apply Kd.V_drewN | apply Kd.V_drew)); exact HO_10.out) hg hat); have n2_ := Aside0.mk (Kd.V_afterv (ok := (fun k_ => some k_ ≠ (.slice Ao11 t117.length co11 : Value).ownBlock)) (by (with_reducible repeat (first | apply Kd.V_alloc | apply Kd.V_drewN | apply Kd.V_drew)); exact HO_11.out) hg hat); have n3_ := Aside0.mk (Kd.V_afterv (ok := (fun k_ => some k_ ≠ (.slice Ao11 t117.length co11 : Value).ownBlock)) (by (with_reducible repeat (first | apply Kd.V_alloc | apply Kd.V_drewN | apply Kd.V_drew)); exact HO_13.out) hg hat); have n4_ := Aside0.mk (hb); have n5_ := Aside0.mk (ho); clear HO_8; clear HO_10; clear HO_11; clear HO_13; clear HB; clear HO_15; have HO_8 := n0_; have HO_10 := n1_; have HO_11 := n2_; have HO_13 := n3_; have HB := n4_; have HO140 := n5_; clear n0_ n1_ n2_ n3_ n4_ n5_; clear ho hb hg hat))
          go_roundg k1
          case measure => have := HK1.out; omega
          case rel => exact ⟨(y138), (wrap64 (x16_1 - (wrap64 (1 + t120)))), (by first | rfl | (simp; done) | (simp [*]; done)), H', ⟨by have := HK1.out; omega⟩, ⟨by (with_reducible repeat (first | apply Kd.R_alloc | apply Kd.R_drewN | apply Kd.R_drew)); exact Kd.R_mono HO_8.out (fun _ hk => hk.2)⟩, ⟨by (with_reducible repeat (first | apply Kd.V_alloc | apply Kd.V_drewN | apply Kd.V_drew)); exact HO_10.out⟩, ⟨by (with_reducible repeat (first | apply Kd.V_alloc | apply Kd.V_drewN | apply Kd.V_drew)); exact HO_11.out⟩, ⟨by (with_reducible repeat (first | apply Kd.V_alloc | apply Kd.V_drewN | apply Kd.V_drew)); exact HO_13.out⟩, ⟨by (with_reducible repeat (first | apply Kd.R_alloc | apply Kd.R_drewN | apply Kd.R_drew)); exact HO140.out⟩, ⟨by repeat (first | (with_reducible first | exact HB.out | apply below_alloc | apply pw_below_drewN | apply below_drew1) | exact HB.out)⟩⟩
        · rw [if_neg c21] at H
          exact absurd H (by simp)
      · rw [if_neg c19] at H
        have c19b0 : decide (0 < x16_1) = false := decide_eq_false c19
        clear c19
        replace H := Option.bind_eq_some_iff.mp H
        obtain ⟨⟨t141, t144⟩, A230, H⟩ := H
        replace H : ((Hand.sScan.f t116 t117 x15_1).bind fun bt145 => ((Hand.sScan.f t116 t121 (([(t121.length : Int)] : List Int))).bind fun bt152 => ((Hand.sLevels.f t116 t117).bind fun bt156 => ((Hand.sDown.f t116 bt156.1 (t117.length : Int)).bind fun bt160 => (if t127 = 0 then (if t134 = 0 then (if t144 = 0 then (if bt145.2 = 0 then (if bt152.2 = 0 then (if bt156.2 = 0 then (if bt160.2 = 0 then ((Hand.Eq_.f t124 t131).bind fun t164 => (if t164 = true then ((Hand.Eq_.f t121 t141).bind fun t165 => (if t165 = true then ((Hand.Eq_.f bt160.1 t131).bind fun t166 => (if t166 = true then (if (bt145.1.length : Int) = (t117.length : Int) then (if (bt152.1.length : Int) = (x15_1.length : Int) then (w05_ScanBlocks.j1 k1 t116 t117 (wrap64 (1 + t120)) t131 bt145.1 bt152.1 ((t131.length : Int) != (t117.length : Int))) else (w05_ScanBlocks.j1 k1 t116 t117 (wrap64 (1 + t120)) t131 bt145.1 bt152.1 true)) else (w05_ScanBlocks.j1 k1 t116 t117 (wrap64 (1 + t120)) t131 bt145.1 bt152.1 true)) else (w05_ScanBlocks.j1 k1 t116 t117 (wrap64 (1 + t120)) t131 bt145.1 bt152.1 true))) else (w05_ScanBlocks.j1 k1 t116 t117 (wrap64 (1 + t120)) t131 bt145.1 bt152.1 true))) else (w05_ScanBlocks.j1 k1 t116 t117 (wrap64 (1 + t120)) t131 bt145.1 bt152.1 true))) else (w05_ScanBlocks.j1 k1 t116 t117 (wrap64 (1 + t120)) t131 bt145.1 bt152.1 true)) else (w05_ScanBlocks.j1 k1 t116 t117 (wrap64 (1 + t120)) t131 bt145.1 bt152.1 true)) else (w05_ScanBlocks.j1 k1 t116 t117 (wrap64 (1 + t120)) t131 bt145.1 bt152.1 true)) else (w05_ScanBlocks.j1 k1 t116 t117 (wrap64 (1 + t120)) t131 bt145.1 bt152.1 true)) else (w05_ScanBlocks.j1 k1 t116 t117 (wrap64 (1 + t120)) t131 bt145.1 bt152.1 true)) else (w05_ScanBlocks.j1 k1 t116 t117 (wrap64 (1 + t120)) t131 bt145.1 bt152.1 true)) else (w05_ScanBlocks.j1 k1 t116 t117 (wrap64 (1 + t120)) t131 bt145.1 bt152.1 true)))))) = some r := H
        have A23 := Aside0.mk A230
        clear A230
        replace H := Option.bind_eq_some_iff.mp H
        obtain ⟨⟨t145, t148⟩, A240, H⟩ := H
        replace H : ((Hand.sScan.f t116 t121 (([(t121.length : Int)] : List Int))).bind fun bt152 => ((Hand.sLevels.f t116 t117).bind fun bt156 => ((Hand.sDown.f t116 bt156.1 (t117.length : Int)).bind fun bt160 => (if t127 = 0 then (if t134 = 0 then (if t144 = 0 then (if t148 = 0 then (if bt152.2 = 0 then (if bt156.2 = 0 then (if bt160.2 = 0 then ((Hand.Eq_.f t124 t131).bind fun t164 => (if t164 = true then ((Hand.Eq_.f t121 t141).bind fun t165 => (if t165 = true then ((Hand.Eq_.f bt160.1 t131).bind fun t166 => (if t166 = true then (if (t145.length : Int) = (t117.length : Int) then (if (bt152.1.length : Int) = (x15_1.length : Int) then (w05_ScanBlocks.j1 k1 t116 t117 (wrap64 (1 + t120)) t131 t145 bt152.1 ((t131.length : Int) != (t117.length : Int))) else (w05_ScanBlocks.j1 k1 t116 t117 (wrap64 (1 + t120)) t131 t145 bt152.1 true)) else (w05_ScanBlocks.j1 k1 t116 t117 (wrap64 (1 + t120)) t131 t145 bt152.1 true)) else (w05_ScanBlocks.j1 k1 t116 t117 (wrap64 (1 + t120)) t131 t145 bt152.1 true))) else (w05_ScanBlocks.j1 k1 t116 t117 (wrap64 (1 + t120)) t131 t145 bt152.1 true))) else (w05_ScanBlocks.j1 k1 t116 t117 (wrap64 (1 + t120)) t131 t145 bt152.1 true))) else (w05_ScanBlocks.j1 k1 t116 t117 (wrap64 (1 + t120)) t131 t145 bt152.1 true)) else (w05_ScanBlocks.j1 k1 t116 t117 (wrap64 (1 + t120)) t131 t145 bt152.1 true)) else (w05_ScanBlocks.j1 k1 t116 t117 (wrap64 (1 + t120)) t131 t145 bt152.1 true)) else (w05_ScanBlocks.j1 k1 t116 t117 (wrap64 (1 + t120)) t131 t145 bt152.1 true)) else (w05_ScanBlocks.j1 k1 t116 t117 (wrap64 (1 + t120)) t131 t145 bt152.1 true)) else (w05_ScanBlocks.j1 k1 t116 t117 (wrap64 (1 + t120)) t131 t145 bt152.1 true)) else (w05_ScanBlocks.j1 k1 t116 t117 (wrap64 (1 + t120)) t131 t145 bt152.1 true))))) = some r := H
        have A24 := Aside0.mk A240
        clear A240
        obtain ⟨y149, hy149⟩ : ∃ y_ : List Int, y_ = (([(t121.length : Int)] : List Int)) := ⟨_, rfl⟩
        replace H : ((Hand.sScan.f t116 t121 y149).bind fun bt152 => ((Hand.sLevels.f t116 t117).bind fun bt156 => ((Hand.sDown.f t116 bt156.1 (t117.length : Int)).bind fun bt160 => (if t127 = 0 then (if t134 = 0 then (if t144 = 0 then (if t148 = 0 then (if bt152.2 = 0 then (if bt156.2 = 0 then (if bt160.2 = 0 then ((Hand.Eq_.f t124 t131).bind fun t164 => (if t164 = true then ((Hand.Eq_.f t121 t141).bind fun t165 => (if t165 = true then ((Hand.Eq_.f bt160.1 t131).bind fun t166 => (if t166 = true then (if (t145.length : Int) = (t117.length : Int) then (if (bt152.1.length : Int) = (x15_1.length : Int) then (w05_ScanBlocks.j1 k1 t116 t117 (wrap64 (1 + t120)) t131 t145 bt152.1 ((t131.length : Int) != (t117.length : Int))) else (w05_ScanBlocks.j1 k1 t116 t117 (wrap64 (1 + t120)) t131 t145 bt152.1 true)) else (w05_ScanBlocks.j1 k1 t116 t117 (wrap64 (1 + t120)) t131 t145 bt152.1 true)) else (w05_ScanBlocks.j1 k1 t116 t117 (wrap64 (1 + t120)) t131 t145 bt152.1 true))) else (w05_ScanBlocks.j1 k1 t116 t117 (wrap64 (1 + t120)) t131 t145 bt152.1 true))) else (w05_ScanBlocks.j1 k1 t116 t117 (wrap64 (1 + t120)) t131 t145 bt152.1 true))) else (w05_ScanBlocks.j1 k1 t116 t117 (wrap64 (1 + t120)) t131 t145 bt152.1 true)) else (w05_ScanBlocks.j1 k1 t116 t117 (wrap64 (1 + t120)) t131 t145 bt152.1 true)) else (w05_ScanBlocks.j1 k1 t116 t117 (wrap64 (1 + t120)) t131 t145 bt152.1 true)) else (w05_ScanBlocks.j1 k1 t116 t117 (wrap64 (1 + t120)) t131 t145 bt152.1 true)) else (w05_ScanBlocks.j1 k1 t116 t117 (wrap64 (1 + t120)) t131 t145 bt152.1 true)) else (w05_ScanBlocks.j1 k1 t116 t117 (wrap64 (1 + t120)) t131 t145 bt152.1 true)) else (w05_ScanBlocks.j1 k1 t116 t117 (wrap64 (1 + t120)) t131 t145 bt152.1 true))))) = some r := by first | (rw [hy149]; with_reducible exact H) | (have H2_ := (Option.bind_some _ _).symm.trans H; rw [hy149]; with_reducible exact H2_) | (have H2_ := (Option.bind_some _ _).symm.trans H; with_reducible exact H2_) | with_reducible exact H | (rw [hy149]; exact H) | exact H
        have Ny149 := Aside0.mk hy149
        clear hy149
        replace H := Option.bind_eq_some_iff.mp H
        obtain ⟨⟨t152, t155⟩, A250, H⟩ := H
        replace H : ((Hand.sLevels.f t116 t117).bind fun bt156 => ((Hand.sDown.f t116 bt156.1 (t117.length : Int)).bind fun bt160 => (if t127 = 0 then (if t134 = 0 then (if t144 = 0 then (if t148 = 0 then (if t155 = 0 then (if bt156.2 = 0 then (if bt160.2 = 0 then ((Hand.Eq_.f t124 t131).bind fun t164 => (if t164 = true then ((Hand.Eq_.f t121 t141).bind fun t165 => (if t165 = true then ((Hand.Eq_.f bt160.1 t131).bind fun t166 => (if t166 = true then (if (t145.length : Int) = (t117.length : Int) then (if (t152.length : Int) = (x15_1.length : Int) then (w05_ScanBlocks.j1 k1 t116 t117 (wrap64 (1 + t120)) t131 t145 t152 ((t131.length : Int) != (t117.length : Int))) else (w05_ScanBlocks.j1 k1 t116 t117 (wrap64 (1 + t120)) t131 t145 t152 true)) else (w05_ScanBlocks.j1 k1 t116 t117 (wrap64 (1 + t120)) t131 t145 t152 true)) else (w05_ScanBlocks.j1 k1 t116 t117 (wrap64 (1 + t120)) t131 t145 t152 true))) else (w05_ScanBlocks.j1 k1 t116 t117 (wrap64 (1 + t120)) t131 t145 t152 true))) else (w05_ScanBlocks.j1 k1 t116 t117 (wrap64 (1 + t120)) t131 t145 t152 true))) else (w05_ScanBlocks.j1 k1 t116 t117 (wrap64 (1 + t120)) t131 t145 t152 true)) else (w05_ScanBlocks.j1 k1 t116 t117 (wrap64 (1 + t120)) t131 t145 t152 true)) else (w05_ScanBlocks.j1 k1 t116 t117 (wrap64 (1 + t120)) t131 t145 t152 true)) else (w05_ScanBlocks.j1 k1 t116 t117 (wrap64 (1 + t120)) t131 t145 t152 true)) else (w05_ScanBlocks.j1 k1 t116 t117 (wrap64 (1 + t120)) t131 t145 t152 true)) else (w05_ScanBlocks.j1 k1 t116 t117 (wrap64 (1 + t120)) t131 t145 t152 true)) else (w05_ScanBlocks.j1 k1 t116 t117 (wrap64 (1 + t120)) t131 t145 t152 true)))) = some r := H
        have A25 := Aside0.mk A250
        clear A250
        replace H := Option.bind_eq_some_iff.mp H
        obtain ⟨⟨t156, t159⟩, A260, H⟩ := H
        replace H : ((Hand.sDown.f t116 t156 (t117.length : Int)).bind fun bt160 => (if t127 = 0 then (if t134 = 0 then (if t144 = 0 then (if t148 = 0 then (if t155 = 0 then (if t159 = 0 then (if bt160.2 = 0 then ((Hand.Eq_.f t124 t131).bind fun t164 => (if t164 = true then ((Hand.Eq_.f t121 t141).bind fun t165 => (if t165 = true then ((Hand.Eq_.f bt160.1 t131).bind fun t166 => (if t166 = true then (if (t145.length : Int) = (t117.length : Int) then (if (t152.length : Int) = (x15_1.length : Int) then (w05_ScanBlocks.j1 k1 t116 t117 (wrap64 (1 + t120)) t131 t145 t152 ((t131.length : Int) != (t117.length : Int))) else (w05_ScanBlocks.j1 k1 t116 t117 (wrap64 (1 + t120)) t131 t145 t152 true)) else (w05_ScanBlocks.j1 k1 t116 t117 (wrap64 (1 + t120)) t131 t145 t152 true)) else (w05_ScanBlocks.j1 k1 t116 t117 (wrap64 (1 + t120)) t131 t145 t152 true))) else (w05_ScanBlocks.j1 k1 t116 t117 (wrap64 (1 + t120)) t131 t145 t152 true))) else (w05_ScanBlocks.j1 k1 t116 t117 (wrap64 (1 + t120)) t131 t145 t152 true))) else (w05_ScanBlocks.j1 k1 t116 t117 (wrap64 (1 + t120)) t131 t145 t152 true)) else (w05_ScanBlocks.j1 k1 t116 t117 (wrap64 (1 + t120)) t131 t145 t152 true)) else (w05_ScanBlocks.j1 k1 t116 t117 (wrap64 (1 + t120)) t131 t145 t152 true)) else (w05_ScanBlocks.j1 k1 t116 t117 (wrap64 (1 + t120)) t131 t145 t152 true)) else (w05_ScanBlocks.j1 k1 t116 t117 (wrap64 (1 + t120)) t131 t145 t152 true)) else (w05_ScanBlocks.j1 k1 t116 t117 (wrap64 (1 + t120)) t131 t145 t152 true)) else (w05_ScanBlocks.j1 k1 t116 t117 (wrap64 (1 + t120)) t131 t145 t152 true))) = some r := H
        have A26 := Aside0.mk A260
        clear A260
        replace H := Option.bind_eq_some_iff.mp H
        obtain ⟨⟨t160, t163⟩, A270, H⟩ := H
        replace H : (if t127 = 0 then (if t134 = 0 then (if t144 = 0 then (if t148 = 0 then (if t155 = 0 then (if t159 = 0 then (if t163 = 0 then ((Hand.Eq_.f t124 t131).bind fun t164 => (if t164 = true then ((Hand.Eq_.f t121 t141).bind fun t165 => (if t165 = true then ((Hand.Eq_.f t160 t131).bind fun t166 => (if t166 = true then (if (t145.length : Int) = (t117.length : Int) then (if (t152.length : Int) = (x15_1.length : Int) then (w05_ScanBlocks.j1 k1 t116 t117 (wrap64 (1 + t120)) t131 t145 t152 ((t131.length : Int) != (t117.length : Int))) else (w05_ScanBlocks.j1 k1 t116 t117 (wrap64 (1 + t120)) t131 t145 t152 true)) else (w05_ScanBlocks.j1 k1 t116 t117 (wrap64 (1 + t120)) t131 t145 t152 true)) else (w05_ScanBlocks.j1 k1 t116 t117 (wrap64 (1 + t120)) t131 t145 t152 true))) else (w05_ScanBlocks.j1 k1 t116 t117 (wrap64 (1 + t120)) t131 t145 t152 true))) else (w05_ScanBlocks.j1 k1 t116 t117 (wrap64 (1 + t120)) t131 t145 t152 true))) else (w05_ScanBlocks.j1 k1 t116 t117 (wrap64 (1 + t120)) t131 t145 t152 true)) else (w05_ScanBlocks.j1 k1 t116 t117 (wrap64 (1 + t120)) t131 t145 t152 true)) else (w05_ScanBlocks.j1 k1 t116 t117 (wrap64 (1 + t120)) t131 t145 t152 true)) else (w05_ScanBlocks.j1 k1 t116 t117 (wrap64 (1 + t120)) t131 t145 t152 true)) else (w05_ScanBlocks.j1 k1 t116 t117 (wrap64 (1 + t120)) t131 t145 t152 true)) else (w05_ScanBlocks.j1 k1 t116 t117 (wrap64 (1 + t120)) t131 t145 t152 true)) else (w05_ScanBlocks.j1 k1 t116 t117 (wrap64 (1 + t120)) t131 t145 t152 true)) = some r := H
        have A27 := Aside0.mk A270
        clear A270
        have HC28 := Aside0.mk H
        clear H
        obtain ⟨Ao29, co29, eo29⟩ := Kd.R_slice HO_15.out
        subst eo29
        go_upto_region 14 with (first | ((with_reducible refine gate_callee (f := 12) rfl ?_); refine goesL_ (some 70) rfl rfl Tryd.func12 (by kernel_rfl) rfl #[.int .i64 t116, .slice Ao11 t117.length co11, .slice Ao29 x15_1.length co29] rfl (by (try simp only [List.map_toArray, List.map_cons, List.map_nil]); first | done | rfl | (simp only [List.length_drop, List.length_take]; rfl)) ?_; (with_reducible refine (Hand.sFold.calls t116 _ _ t117 _ _ x15_1 t141 t144 _ ?side5 ?side1 ?side2 ?side3 ?side4 A23.out).mono ?_); (case side1 => repeat (first | exact (Kd.R_reads' HO_8.out).2.2 | (with_reducible refine Kd.C_alloc ?_ _) | (with_reducible refine Kd.C_drewN ?_ _) | (with_reducible refine Kd.C_drew ?_))); (case side2 => exact (Kd.R_reads' HO_8.out).2.1); (case side3 => repeat (first | exact (Kd.R_reads' HO_15.out).2.2 | (with_reducible refine Kd.C_alloc ?_ _) | (with_reducible refine Kd.C_drewN ?_ _) | (with_reducible refine Kd.C_drew ?_))); (case side4 => exact (Kd.R_reads' HO_15.out).2.1); (case side5 => exact Hand.Tabs.below HG.out (by repeat (first | (with_reducible first | exact HB.out | apply below_alloc | apply pw_below_drewN | apply below_drew1) | exact HB.out))); rintro e w30 ⟨v142, rfl, ho0, hb⟩; refine ⟨_, rfl, ?_⟩; have n0_ := Aside0.mk (Kd.R_below (by (with_reducible repeat (first | apply Kd.R_alloc | apply Kd.R_drewN | apply Kd.R_drew)); exact HO_8.out) hb); have n1_ := Aside0.mk (Kd.V_below (by (with_reducible repeat (first | apply Kd.V_alloc | apply Kd.V_drewN | apply Kd.V_drew)); exact HO_10.out) hb); have n2_ := Aside0.mk (Kd.V_below (by (with_reducible repeat (first | apply Kd.V_alloc | apply Kd.V_drewN | apply Kd.V_drew)); exact HO_11.out) hb); have n3_ := Aside0.mk (Kd.V_below (by (with_reducible repeat (first | apply Kd.V_alloc | apply Kd.V_drewN | apply Kd.V_drew)); exact HO_13.out) hb); have n4_ := Aside0.mk (Kd.R_below (by (with_reducible repeat (first | apply Kd.R_alloc | apply Kd.R_drewN | apply Kd.R_drew)); exact HO_15.out) hb); have n5_ := Aside0.mk (Kd.V_lower (Kd.V_mono (ok' := fun k_ => some k_ ≠ (.slice Ao11 t117.length co11 : Value).ownBlock ∧ some k_ ≠ (.slice Ao29 x15_1.length co29 : Value).ownBlock) ho0 (fun k_ hk_ => ⟨(Kd.fresh' (Kd.R_lt (by (with_reducible repeat (first | apply Kd.R_alloc | apply Kd.R_drewN | apply Kd.R_drew)); exact HO_8.out)) k_ hk_), (Kd.fresh' (Kd.R_lt (by (with_reducible repeat (first | apply Kd.R_alloc | apply Kd.R_drewN | apply Kd.R_drew)); exact HO_15.out)) k_ hk_)⟩)) (below_size (by repeat (first | (with_reducible first | exact HB.out | apply below_alloc | apply pw_below_drewN | apply below_drew1) | exact HB.out)))); have n6_ := Aside0.mk (below_step (by repeat (first | (with_reducible first | exact HB.out | apply below_alloc | apply pw_below_drewN | apply below_drew1) | exact HB.out)) hb); clear HO_8; clear HO_10; clear HO_11; clear HO_13; clear HO_15; clear HB; have HO_8 := n0_; have HO_10 := n1_; have HO_11 := n2_; have HO_13 := n3_; have HO_15 := n4_; have HO143 := n5_; have HB := n6_; clear n0_ n1_ n2_ n3_ n4_ n5_ n6_; (try clear hb); (try clear hb2); (try clear hk); (try clear hi); (try clear ho0)) | ((with_reducible refine gate_callee (f := 14) rfl ?_); refine goesL_ (some 77) rfl rfl Tryd.func14 (by kernel_rfl) rfl #[.int .i64 t116, .slice Ao11 t117.length co11, .slice Ao29 x15_1.length co29] rfl (by (try simp only [List.map_toArray, List.map_cons, List.map_nil]); first | done | rfl | (simp only [List.length_drop, List.length_take]; rfl)) ?_; (with_reducible refine (Hand.sScan.calls t116 _ _ t117 _ _ x15_1 t145 t148 _ ?side5 ?side1 ?side2 ?side3 ?side4 A24.out).mono ?_); (case side1 => repeat (first | exact (Kd.R_reads' HO_8.out).2.2 | (with_reducible refine Kd.C_alloc ?_ _) | (with_reducible refine Kd.C_drewN ?_ _) | (with_reducible refine Kd.C_drew ?_))); (case side2 => exact (Kd.R_reads' HO_8.out).2.1); (case side3 => repeat (first | exact (Kd.R_reads' HO_15.out).2.2 | (with_reducible refine Kd.C_alloc ?_ _) | (with_reducible refine Kd.C_drewN ?_ _) | (with_reducible refine Kd.C_drew ?_))); (case side4 => exact (Kd.R_reads' HO_15.out).2.1); (case side5 => exact Hand.Tabs.below HG.out (by repeat (first | (with_reducible first | exact HB.out | apply below_alloc | apply pw_below_drewN | apply below_drew1) | exact HB.out))); rintro e w31 ⟨v146, rfl, ho0, hb⟩; refine ⟨_, rfl, ?_⟩; have n0_ := Aside0.mk (Kd.R_below (by (with_reducible repeat (first | apply Kd.R_alloc | apply Kd.R_drewN | apply Kd.R_drew)); exact HO_8.out) hb); have n1_ := Aside0.mk (Kd.V_below (by (with_reducible repeat (first | apply Kd.V_alloc | apply Kd.V_drewN | apply Kd.V_drew)); exact HO_10.out) hb); have n2_ := Aside0.mk (Kd.V_below (by (with_reducible repeat (first | apply Kd.V_alloc | apply Kd.V_drewN | apply Kd.V_drew)); exact HO_11.out) hb); have n3_ := Aside0.mk (Kd.V_below (by (with_reducible repeat (first | apply Kd.V_alloc | apply Kd.V_drewN | apply Kd.V_drew)); exact HO_13.out) hb); have n4_ := Aside0.mk (Kd.R_below (by (with_reducible repeat (first | apply Kd.R_alloc | apply Kd.R_drewN | apply Kd.R_drew)); exact HO_15.out) hb); have n5_ := Aside0.mk (Kd.V_below (by (with_reducible repeat (first | apply Kd.V_alloc | apply Kd.V_drewN | apply Kd.V_drew)); exact HO143.out) hb); have n6_ := Aside0.mk (Kd.V_lower (Kd.V_mono (ok' := fun k_ => some k_ ≠ (.slice Ao11 t117.length co11 : Value).ownBlock ∧ some k_ ≠ (.slice Ao29 x15_1.length co29 : Value).ownBlock) ho0 (fun k_ hk_ => ⟨(Kd.fresh' (Kd.R_lt (by (with_reducible repeat (first | apply Kd.R_alloc | apply Kd.R_drewN | apply Kd.R_drew)); exact HO_8.out)) k_ hk_), (Kd.fresh' (Kd.R_lt (by (with_reducible repeat (first | apply Kd.R_alloc | apply Kd.R_drewN | apply Kd.R_drew)); exact HO_15.out)) k_ hk_)⟩)) (below_size (by repeat (first | (with_reducible first | exact HB.out | apply below_alloc | apply pw_below_drewN | apply below_drew1) | exact HB.out)))); have n7_ := Aside0.mk (below_step (by repeat (first | (with_reducible first | exact HB.out | apply below_alloc | apply pw_below_drewN | apply below_drew1) | exact HB.out)) hb); clear HO_8; clear HO_10; clear HO_11; clear HO_13; clear HO_15; clear HO143; clear HB; have HO_8 := n0_; have HO_10 := n1_; have HO_11 := n2_; have HO_13 := n3_; have HO_15 := n4_; have HO143 := n5_; have HO147 := n6_; have HB := n7_; clear n0_ n1_ n2_ n3_ n4_ n5_ n6_ n7_; (try clear hb); (try clear hb2); (try clear hk); (try clear hi); (try clear ho0); obtain ⟨Ao32, co32, eo32⟩ := Kd.V_slice HO_10.out; subst eo32) | ((with_reducible refine gate_dst (N := 85) rfl ?_); (try (refine gate_guard (by rfl) ?_; dsimp only)); refine Kd.R_lit (Kd.int .i64) _ 3 ?hg (N := 85) ?hd (xs := ([(t121.length : Int)] : List Int)) (inner := [.int .i64 (t121.length : Int)]) (ok := fun _ => True) (okp := fun _ => True) ?hr ?hp (fun _ hk => hk) trivial (Below.refl _ _) (Nat.le_refl _) (by simp) ?_; (case hd => rfl); (case hg => rfl); (case hr => first | (go_simp; done) | (go_simp; rfl)); (case hp => exact (Reps.one (show Kd.M (Kd.int .i64) _ _ _ (t121.length : Int) [.int .i64 (t121.length : Int)] from rfl) (Reps.none _ _))); intro v150 w33 ho34 hb hg_ hnew_; clear hg_ hnew_; (first | rw [← Ny149.out] at ho34 | (simp only [Int.reduceToNat] at ho34; rw [← Ny149.out] at ho34)); have n0_ := Aside0.mk (Kd.R_elder' (by (with_reducible repeat (first | apply Kd.R_alloc | apply Kd.R_drewN | apply Kd.R_drew)); exact HO_8.out) (Kd.R_base ho34) hb); have n1_ := Aside0.mk (Kd.V_elder' (by (with_reducible repeat (first | apply Kd.V_alloc | apply Kd.V_drewN | apply Kd.V_drew)); exact HO_10.out) (Kd.R_base ho34) hb); have n2_ := Aside0.mk (Kd.V_elder' (by (with_reducible repeat (first | apply Kd.V_alloc | apply Kd.V_drewN | apply Kd.V_drew)); exact HO_11.out) (Kd.R_base ho34) hb); have n3_ := Aside0.mk (Kd.V_elder' (by (with_reducible repeat (first | apply Kd.V_alloc | apply Kd.V_drewN | apply Kd.V_drew)); exact HO_13.out) (Kd.R_base ho34) hb); have n4_ := Aside0.mk (Kd.R_elder' (by (with_reducible repeat (first | apply Kd.R_alloc | apply Kd.R_drewN | apply Kd.R_drew)); exact HO_15.out) (Kd.R_base ho34) hb); have n5_ := Aside0.mk (Kd.V_elder' (by (with_reducible repeat (first | apply Kd.V_alloc | apply Kd.V_drewN | apply Kd.V_drew)); exact HO143.out) (Kd.R_base ho34) hb); have n6_ := Aside0.mk (Kd.V_elder' (by (with_reducible repeat (first | apply Kd.V_alloc | apply Kd.V_drewN | apply Kd.V_drew)); exact HO147.out) (Kd.R_base ho34) hb); have n7_ := Aside0.mk (Kd.R_lower (Kd.R_new' (Kd.R_new' ho34 (Kd.R_lt (by (with_reducible repeat (first | apply Kd.R_alloc | apply Kd.R_drewN | apply Kd.R_drew)); exact HO_8.out))) (Kd.R_lt (by (with_reducible repeat (first | apply Kd.R_alloc | apply Kd.R_drewN | apply Kd.R_drew)); exact HO_15.out))) (below_size (by repeat (first | (with_reducible first | exact HB.out | apply below_alloc | apply pw_below_drewN | apply below_drew1) | exact HB.out)))); have n8_ := Aside0.mk (below_step (by repeat (first | (with_reducible first | exact HB.out | apply below_alloc | apply pw_below_drewN | apply below_drew1) | exact HB.out)) hb); clear HO_8; clear HO_10; clear HO_11; clear HO_13; clear HO_15; clear HO143; clear HO147; clear HB; have HO_8 := n0_; have HO_10 := n1_; have HO_11 := n2_; have HO_13 := n3_; have HO_15 := n4_; have HO143 := n5_; have HO147 := n6_; have HO151 := n7_; have HB := n8_; clear n0_ n1_ n2_ n3_ n4_ n5_ n6_ n7_ n8_; clear hb ho34; obtain ⟨Ao35, co35, eo35⟩ := Kd.R_slice HO151.out; subst eo35) | ((with_reducible refine gate_callee (f := 14) rfl ?_); refine goesL_ (some 86) rfl rfl Tryd.func14 (by kernel_rfl) rfl #[.int .i64 t116, .slice Ao32 t121.length co32, .slice Ao35 y149.length co35] rfl (by (try simp only [List.map_toArray, List.map_cons, List.map_nil]); first | done | rfl | (simp only [List.length_drop, List.length_take]; rfl)) ?_; (with_reducible refine (Hand.sScan.calls t116 _ _ t121 _ _ y149 t152 t155 _ ?side5 ?side1 ?side2 ?side3 ?side4 A25.out).mono ?_); (case side1 => repeat (first | exact (Kd.V_reads' HO_10.out).2.2 | (with_reducible refine Kd.C_alloc ?_ _) | (with_reducible refine Kd.C_drewN ?_ _) | (with_reducible refine Kd.C_drew ?_))); (case side2 => exact (Kd.V_reads' HO_10.out).2.1); (case side3 => repeat (first | exact (Kd.R_reads' HO151.out).2.2 | (with_reducible refine Kd.C_alloc ?_ _) | (with_reducible refine Kd.C_drewN ?_ _) | (with_reducible refine Kd.C_drew ?_))); (case side4 => exact (Kd.R_reads' HO151.out).2.1); (case side5 => exact Hand.Tabs.below HG.out (by repeat (first | (with_reducible first | exact HB.out | apply below_alloc | apply pw_below_drewN | apply below_drew1) | exact HB.out))); rintro e w36 ⟨v153, rfl, ho0, hb⟩; refine ⟨_, rfl, ?_⟩; have n0_ := Aside0.mk (Kd.R_below (by (with_reducible repeat (first | apply Kd.R_alloc | apply Kd.R_drewN | apply Kd.R_drew)); exact HO_8.out) hb); have n1_ := Aside0.mk (Kd.V_below (by (with_reducible repeat (first | apply Kd.V_alloc | apply Kd.V_drewN | apply Kd.V_drew)); exact HO_10.out) hb); have n2_ := Aside0.mk (Kd.V_below (by (with_reducible repeat (first | apply Kd.V_alloc | apply Kd.V_drewN | apply Kd.V_drew)); exact HO_11.out) hb); have n3_ := Aside0.mk (Kd.V_below (by (with_reducible repeat (first | apply Kd.V_alloc | apply Kd.V_drewN | apply Kd.V_drew)); exact HO_13.out) hb); have n4_ := Aside0.mk (Kd.R_below (by (with_reducible repeat (first | apply Kd.R_alloc | apply Kd.R_drewN | apply Kd.R_drew)); exact HO_15.out) hb); have n5_ := Aside0.mk (Kd.V_below (by (with_reducible repeat (first | apply Kd.V_alloc | apply Kd.V_drewN | apply Kd.V_drew)); exact HO143.out) hb); have n6_ := Aside0.mk (Kd.V_below (by (with_reducible repeat (first | apply Kd.V_alloc | apply Kd.V_drewN | apply Kd.V_drew)); exact HO147.out) hb); have n7_ := Aside0.mk (Kd.R_below (by (with_reducible repeat (first | apply Kd.R_alloc | apply Kd.R_drewN | apply Kd.R_drew)); exact HO151.out) hb); have n8_ := Aside0.mk (Kd.V_lower (Kd.V_mono (ok' := fun k_ => some k_ ≠ (.slice Ao11 t117.length co11 : Value).ownBlock ∧ some k_ ≠ (.slice Ao29 x15_1.length co29 : Value).ownBlock ∧ some k_ ≠ (.slice Ao35 y149.length co35 : Value).ownBlock) ho0 (fun k_ hk_ => ⟨(Kd.fresh' (Kd.R_lt (by (with_reducible repeat (first | apply Kd.R_alloc | apply Kd.R_drewN | apply Kd.R_drew)); exact HO_8.out)) k_ hk_), (Kd.fresh' (Kd.R_lt (by (with_reducible repeat (first | apply Kd.R_alloc | apply Kd.R_drewN | apply Kd.R_drew)); exact HO_15.out)) k_ hk_), (Kd.fresh' (Kd.R_lt (by (with_reducible repeat (first | apply Kd.R_alloc | apply Kd.R_drewN | apply Kd.R_drew)); exact HO151.out)) k_ hk_)⟩)) (below_size (by repeat (first | (with_reducible first | exact HB.out | apply below_alloc | apply pw_below_drewN | apply below_drew1) | exact HB.out)))); have n9_ := Aside0.mk (below_step (by repeat (first | (with_reducible first | exact HB.out | apply below_alloc | apply pw_below_drewN | apply below_drew1) | exact HB.out)) hb); clear HO_8; clear HO_10; clear HO_11; clear HO_13; clear HO_15; clear HO143; clear HO147; clear HO151; clear HB; have HO_8 := n0_; have HO_10 := n1_; have HO_11 := n2_; have HO_13 := n3_; have HO_15 := n4_; have HO143 := n5_; have HO147 := n6_; have HO151 := n7_; have HO154 := n8_; have HB := n9_; clear n0_ n1_ n2_ n3_ n4_ n5_ n6_ n7_ n8_ n9_; (try clear hb); (try clear hb2); (try clear hk); (try clear hi); (try clear ho0)) | ((with_reducible refine gate_callee (f := 24) rfl ?_); refine goesL_ (some 92) rfl rfl Tryd.func24 (by kernel_rfl) rfl #[.int .i64 t116, .slice Ao11 t117.length co11] rfl (by (try simp only [List.map_toArray, List.map_cons, List.map_nil]); first | done | rfl | (simp only [List.length_drop, List.length_take]; rfl)) ?_; (with_reducible refine (Hand.sLevels.calls t116 _ _ t117 t156 t159 _ ?side3 ?side1 ?side2 A26.out).mono ?_); (case side1 => repeat (first | exact (Kd.R_reads' HO_8.out).2.2 | (with_reducible refine Kd.C_alloc ?_ _) | (with_reducible refine Kd.C_drewN ?_ _) | (with_reducible refine Kd.C_drew ?_))); (case side2 => exact (Kd.R_reads' HO_8.out).2.1); (case side3 => exact Hand.Tabs.below HG.out (by repeat (first | (with_reducible first | exact HB.out | apply below_alloc | apply pw_below_drewN | apply below_drew1) | exact HB.out))); rintro e w37 ⟨v157, rfl, ho0, hb⟩; refine ⟨_, rfl, ?_⟩; have n0_ := Aside0.mk (Kd.R_below (by (with_reducible repeat (first | apply Kd.R_alloc | apply Kd.R_drewN | apply Kd.R_drew)); exact HO_8.out) hb); have n1_ := Aside0.mk (Kd.V_below (by (with_reducible repeat (first | apply Kd.V_alloc | apply Kd.V_drewN | apply Kd.V_drew)); exact HO_10.out) hb); have n2_ := Aside0.mk (Kd.V_below (by (with_reducible repeat (first | apply Kd.V_alloc | apply Kd.V_drewN | apply Kd.V_drew)); exact HO_11.out) hb); have n3_ := Aside0.mk (Kd.V_below (by (with_reducible repeat (first | apply Kd.V_alloc | apply Kd.V_drewN | apply Kd.V_drew)); exact HO_13.out) hb); have n4_ := Aside0.mk (Kd.R_below (by (with_reducible repeat (first | apply Kd.R_alloc | apply Kd.R_drewN | apply Kd.R_drew)); exact HO_15.out) hb); have n5_ := Aside0.mk (Kd.V_below (by (with_reducible repeat (first | apply Kd.V_alloc | apply Kd.V_drewN | apply Kd.V_drew)); exact HO143.out) hb); have n6_ := Aside0.mk (Kd.V_below (by (with_reducible repeat (first | apply Kd.V_alloc | apply Kd.V_drewN | apply Kd.V_drew)); exact HO147.out) hb); have n7_ := Aside0.mk (Kd.R_below (by (with_reducible repeat (first | apply Kd.R_alloc | apply Kd.R_drewN | apply Kd.R_drew)); exact HO151.out) hb); have n8_ := Aside0.mk (Kd.V_below (by (with_reducible repeat (first | apply Kd.V_alloc | apply Kd.V_drewN | apply Kd.V_drew)); exact HO154.out) hb); have n9_ := Aside0.mk (Kd.V_lower (Kd.V_mono (ok' := fun k_ => some k_ ≠ (.slice Ao11 t117.length co11 : Value).ownBlock ∧ some k_ ≠ (.slice Ao29 x15_1.length co29 : Value).ownBlock ∧ some k_ ≠ (.slice Ao35 y149.length co35 : Value).ownBlock) ho0 (fun k_ hk_ => ⟨(Kd.fresh' (Kd.R_lt (by (with_reducible repeat (first | apply Kd.R_alloc | apply Kd.R_drewN | apply Kd.R_drew)); exact HO_8.out)) k_ hk_), (Kd.fresh' (Kd.R_lt (by (with_reducible repeat (first | apply Kd.R_alloc | apply Kd.R_drewN | apply Kd.R_drew)); exact HO_15.out)) k_ hk_), (Kd.fresh' (Kd.R_lt (by (with_reducible repeat (first | apply Kd.R_alloc | apply Kd.R_drewN | apply Kd.R_drew)); exact HO151.out)) k_ hk_)⟩)) (below_size (by repeat (first | (with_reducible first | exact HB.out | apply below_alloc | apply pw_below_drewN | apply below_drew1) | exact HB.out)))); have n10_ := Aside0.mk (below_step (by repeat (first | (with_reducible first | exact HB.out | apply below_alloc | apply pw_below_drewN | apply below_drew1) | exact HB.out)) hb); clear HO_8; clear HO_10; clear HO_11; clear HO_13; clear HO_15; clear HO143; clear HO147; clear HO151; clear HO154; clear HB; have HO_8 := n0_; have HO_10 := n1_; have HO_11 := n2_; have HO_13 := n3_; have HO_15 := n4_; have HO143 := n5_; have HO147 := n6_; have HO151 := n7_; have HO154 := n8_; have HO158 := n9_; have HB := n10_; clear n0_ n1_ n2_ n3_ n4_ n5_ n6_ n7_ n8_ n9_ n10_; (try clear hb); (try clear hb2); (try clear hk); (try clear hi); (try clear ho0); obtain ⟨Ao38, co38, eo38⟩ := Kd.V_slice HO158.out; subst eo38) | ((with_reducible refine gate_callee (f := 27) rfl ?_); refine goesL_ (some 100) rfl rfl Tryd.func27 (by kernel_rfl) rfl #[.int .i64 t116, .slice Ao38 t156.length co38, .int .i64 (t117.length : Int)] rfl (by (try simp only [List.map_toArray, List.map_cons, List.map_nil]); first | done | rfl | (simp only [List.length_drop, List.length_take]; rfl)) ?_; (with_reducible refine (Hand.sDown.calls t116 _ _ t156 (t117.length : Int) t160 t163 _ ?side3 ?side1 ?side2 A27.out).mono ?_); (case side1 => repeat (first | exact (Kd.V_reads' HO158.out).2.2 | (with_reducible refine Kd.C_alloc ?_ _) | (with_reducible refine Kd.C_drewN ?_ _) | (with_reducible refine Kd.C_drew ?_))); (case side2 => exact (Kd.V_reads' HO158.out).2.1); (case side3 => exact Hand.Tabs.below HG.out (by repeat (first | (with_reducible first | exact HB.out | apply below_alloc | apply pw_below_drewN | apply below_drew1) | exact HB.out))); rintro e w39 ⟨v161, rfl, ho0, hb⟩; refine ⟨_, rfl, ?_⟩; have n0_ := Aside0.mk (Kd.R_below (by (with_reducible repeat (first | apply Kd.R_alloc | apply Kd.R_drewN | apply Kd.R_drew)); exact HO_8.out) hb); have n1_ := Aside0.mk (Kd.V_below (by (with_reducible repeat (first | apply Kd.V_alloc | apply Kd.V_drewN | apply Kd.V_drew)); exact HO_10.out) hb); have n2_ := Aside0.mk (Kd.V_below (by (with_reducible repeat (first | apply Kd.V_alloc | apply Kd.V_drewN | apply Kd.V_drew)); exact HO_11.out) hb); have n3_ := Aside0.mk (Kd.V_below (by (with_reducible repeat (first | apply Kd.V_alloc | apply Kd.V_drewN | apply Kd.V_drew)); exact HO_13.out) hb); have n4_ := Aside0.mk (Kd.R_below (by (with_reducible repeat (first | apply Kd.R_alloc | apply Kd.R_drewN | apply Kd.R_drew)); exact HO_15.out) hb); have n5_ := Aside0.mk (Kd.V_below (by (with_reducible repeat (first | apply Kd.V_alloc | apply Kd.V_drewN | apply Kd.V_drew)); exact HO143.out) hb); have n6_ := Aside0.mk (Kd.V_below (by (with_reducible repeat (first | apply Kd.V_alloc | apply Kd.V_drewN | apply Kd.V_drew)); exact HO147.out) hb); have n7_ := Aside0.mk (Kd.R_below (by (with_reducible repeat (first | apply Kd.R_alloc | apply Kd.R_drewN | apply Kd.R_drew)); exact HO151.out) hb); have n8_ := Aside0.mk (Kd.V_below (by (with_reducible repeat (first | apply Kd.V_alloc | apply Kd.V_drewN | apply Kd.V_drew)); exact HO154.out) hb); have n9_ := Aside0.mk (Kd.V_below (by (with_reducible repeat (first | apply Kd.V_alloc | apply Kd.V_drewN | apply Kd.V_drew)); exact HO158.out) hb); have n10_ := Aside0.mk (Kd.V_lower (Kd.V_mono (ok' := fun k_ => some k_ ≠ (.slice Ao11 t117.length co11 : Value).ownBlock ∧ some k_ ≠ (.slice Ao29 x15_1.length co29 : Value).ownBlock ∧ some k_ ≠ (.slice Ao35 y149.length co35 : Value).ownBlock) ho0 (fun k_ hk_ => ⟨(Kd.fresh' (Kd.R_lt (by (with_reducible repeat (first | apply Kd.R_alloc | apply Kd.R_drewN | apply Kd.R_drew)); exact HO_8.out)) k_ hk_), (Kd.fresh' (Kd.R_lt (by (with_reducible repeat (first | apply Kd.R_alloc | apply Kd.R_drewN | apply Kd.R_drew)); exact HO_15.out)) k_ hk_), (Kd.fresh' (Kd.R_lt (by (with_reducible repeat (first | apply Kd.R_alloc | apply Kd.R_drewN | apply Kd.R_drew)); exact HO151.out)) k_ hk_)⟩)) (below_size (by repeat (first | (with_reducible first | exact HB.out | apply below_alloc | apply pw_below_drewN | apply below_drew1) | exact HB.out)))); have n11_ := Aside0.mk (below_step (by repeat (first | (with_reducible first | exact HB.out | apply below_alloc | apply pw_below_drewN | apply below_drew1) | exact HB.out)) hb); clear HO_8; clear HO_10; clear HO_11; clear HO_13; clear HO_15; clear HO143; clear HO147; clear HO151; clear HO154; clear HO158; clear HB; have HO_8 := n0_; have HO_10 := n1_; have HO_11 := n2_; have HO_13 := n3_; have HO_15 := n4_; have HO143 := n5_; have HO147 := n6_; have HO151 := n7_; have HO154 := n8_; have HO158 := n9_; have HO162 := n10_; have HB := n11_; clear n0_ n1_ n2_ n3_ n4_ n5_ n6_ n7_ n8_ n9_ n10_ n11_; (try clear hb); (try clear hb2); (try clear hk); (try clear hi); (try clear ho0)))
        (try simp only [Act.put, List.setIfInBounds_toArray, List.set_cons_zero, List.set_cons_succ])
        go_cut [167] (fun v167 wc => ∃ (kq : Nat) (x167_27 : Bool), v167 = .bool x167_27 ∧ Aside0 (w05_ScanBlocks.j1 kq t116 t117 (wrap64 (1 + t120)) t131 t145 t152 x167_27 = some r) ∧ Aside0 (kq ≤ k1) ∧ Aside0 (Kd.R (Kd.int .i64) 3 wc w.heap.size (fun _ => True) (.slice Ao11 t117.length co11) t117) ∧ Aside0 (Kd.V (Kd.int .i64) 3 wc w.heap.size (fun k_ => some k_ ≠ ((.slice Ao11 t117.length co11) : Value).ownBlock) v132 t131) ∧ Aside0 (Kd.V (Kd.int .i64) 3 wc w.heap.size (fun k_ => some k_ ≠ ((.slice Ao11 t117.length co11) : Value).ownBlock) v146 t145) ∧ Aside0 (Kd.V (Kd.int .i64) 3 wc w.heap.size (fun k_ => some k_ ≠ ((.slice Ao11 t117.length co11) : Value).ownBlock) v153 t152) ∧ Aside0 (Below w.heap.size w wc))
        case first =>
          have H := HC28.out
          clear HC28
          by_cases c40 : t127 = 0
          · rw [if_pos c40] at H
            have c40b0 : (t127 == 0) = true := beq_iff_eq.mpr c40
            have c40b1 : (t127 != 0) = false := bne_eq_false_iff_eq.mpr c40
            clear c40
            (first | rw [c40b0] | (simp only [i64_w, i32_w]; rw [c40b0]) | skip)
            by_cases c41 : t134 = 0
            · rw [if_pos c41] at H
              have c41b0 : (t134 == 0) = true := beq_iff_eq.mpr c41
              have c41b1 : (t134 != 0) = false := bne_eq_false_iff_eq.mpr c41
              clear c41
              by_cases c42 : t144 = 0
              · rw [if_pos c42] at H
                have c42b0 : (t144 == 0) = true := beq_iff_eq.mpr c42
                have c42b1 : (t144 != 0) = false := bne_eq_false_iff_eq.mpr c42
                clear c42
                by_cases c43 : t148 = 0
                · rw [if_pos c43] at H
                  have c43b0 : (t148 == 0) = true := beq_iff_eq.mpr c43
                  have c43b1 : (t148 != 0) = false := bne_eq_false_iff_eq.mpr c43
                  clear c43
                  by_cases c44 : t155 = 0
                  · rw [if_pos c44] at H
                    have c44b0 : (t155 == 0) = true := beq_iff_eq.mpr c44
                    have c44b1 : (t155 != 0) = false := bne_eq_false_iff_eq.mpr c44
                    clear c44
                    by_cases c45 : t159 = 0
                    · rw [if_pos c45] at H
                      have c45b0 : (t159 == 0) = true := beq_iff_eq.mpr c45
                      have c45b1 : (t159 != 0) = false := bne_eq_false_iff_eq.mpr c45
                      clear c45
                      by_cases c46 : t163 = 0
                      · rw [if_pos c46] at H
                        have c46b0 : (t163 == 0) = true := beq_iff_eq.mpr c46
                        have c46b1 : (t163 != 0) = false := bne_eq_false_iff_eq.mpr c46
                        clear c46
                        replace H := Option.bind_eq_some_iff.mp H
                        obtain ⟨t164, A470, H⟩ := H
                        replace H : (if t164 = true then ((Hand.Eq_.f t121 t141).bind fun t165 => (if t165 = true then ((Hand.Eq_.f t160 t131).bind fun t166 => (if t166 = true then (if (t145.length : Int) = (t117.length : Int) then (if (t152.length : Int) = (x15_1.length : Int) then (w05_ScanBlocks.j1 k1 t116 t117 (wrap64 (1 + t120)) t131 t145 t152 ((t131.length : Int) != (t117.length : Int))) else (w05_ScanBlocks.j1 k1 t116 t117 (wrap64 (1 + t120)) t131 t145 t152 true)) else (w05_ScanBlocks.j1 k1 t116 t117 (wrap64 (1 + t120)) t131 t145 t152 true)) else (w05_ScanBlocks.j1 k1 t116 t117 (wrap64 (1 + t120)) t131 t145 t152 true))) else (w05_ScanBlocks.j1 k1 t116 t117 (wrap64 (1 + t120)) t131 t145 t152 true))) else (w05_ScanBlocks.j1 k1 t116 t117 (wrap64 (1 + t120)) t131 t145 t152 true)) = some r := H
                        have A47 := Aside0.mk A470
                        clear A470
                        by_cases c48 : t164 = true
                        · subst c48
                          have H1 : ((Hand.Eq_.f t121 t141).bind fun t165 => (if t165 = true then ((Hand.Eq_.f t160 t131).bind fun t166 => (if t166 = true then (if (t145.length : Int) = (t117.length : Int) then (if (t152.length : Int) = (x15_1.length : Int) then (w05_ScanBlocks.j1 k1 t116 t117 (wrap64 (1 + t120)) t131 t145 t152 ((t131.length : Int) != (t117.length : Int))) else (w05_ScanBlocks.j1 k1 t116 t117 (wrap64 (1 + t120)) t131 t145 t152 true)) else (w05_ScanBlocks.j1 k1 t116 t117 (wrap64 (1 + t120)) t131 t145 t152 true)) else (w05_ScanBlocks.j1 k1 t116 t117 (wrap64 (1 + t120)) t131 t145 t152 true))) else (w05_ScanBlocks.j1 k1 t116 t117 (wrap64 (1 + t120)) t131 t145 t152 true))) = some r := by rw [if_pos rfl] at H; exact H
                          clear H
                          have H := H1
                          clear H1
                          replace H := Option.bind_eq_some_iff.mp H
                          obtain ⟨t165, A490, H⟩ := H
                          replace H : (if t165 = true then ((Hand.Eq_.f t160 t131).bind fun t166 => (if t166 = true then (if (t145.length : Int) = (t117.length : Int) then (if (t152.length : Int) = (x15_1.length : Int) then (w05_ScanBlocks.j1 k1 t116 t117 (wrap64 (1 + t120)) t131 t145 t152 ((t131.length : Int) != (t117.length : Int))) else (w05_ScanBlocks.j1 k1 t116 t117 (wrap64 (1 + t120)) t131 t145 t152 true)) else (w05_ScanBlocks.j1 k1 t116 t117 (wrap64 (1 + t120)) t131 t145 t152 true)) else (w05_ScanBlocks.j1 k1 t116 t117 (wrap64 (1 + t120)) t131 t145 t152 true))) else (w05_ScanBlocks.j1 k1 t116 t117 (wrap64 (1 + t120)) t131 t145 t152 true)) = some r := H
                          have A49 := Aside0.mk A490
                          clear A490
                          by_cases c50 : t165 = true
                          · subst c50
                            have H1 : ((Hand.Eq_.f t160 t131).bind fun t166 => (if t166 = true then (if (t145.length : Int) = (t117.length : Int) then (if (t152.length : Int) = (x15_1.length : Int) then (w05_ScanBlocks.j1 k1 t116 t117 (wrap64 (1 + t120)) t131 t145 t152 ((t131.length : Int) != (t117.length : Int))) else (w05_ScanBlocks.j1 k1 t116 t117 (wrap64 (1 + t120)) t131 t145 t152 true)) else (w05_ScanBlocks.j1 k1 t116 t117 (wrap64 (1 + t120)) t131 t145 t152 true)) else (w05_ScanBlocks.j1 k1 t116 t117 (wrap64 (1 + t120)) t131 t145 t152 true))) = some r := by rw [if_pos rfl] at H; exact H
                            clear H
                            have H := H1
                            clear H1
                            replace H := Option.bind_eq_some_iff.mp H
                            obtain ⟨t166, A510, H⟩ := H
                            replace H : (if t166 = true then (if (t145.length : Int) = (t117.length : Int) then (if (t152.length : Int) = (x15_1.length : Int) then (w05_ScanBlocks.j1 k1 t116 t117 (wrap64 (1 + t120)) t131 t145 t152 ((t131.length : Int) != (t117.length : Int))) else (w05_ScanBlocks.j1 k1 t116 t117 (wrap64 (1 + t120)) t131 t145 t152 true)) else (w05_ScanBlocks.j1 k1 t116 t117 (wrap64 (1 + t120)) t131 t145 t152 true)) else (w05_ScanBlocks.j1 k1 t116 t117 (wrap64 (1 + t120)) t131 t145 t152 true)) = some r := H
                            have A51 := Aside0.mk A510
                            clear A510
                            by_cases c52 : t166 = true
                            · subst c52
                              have H1 : (if (t145.length : Int) = (t117.length : Int) then (if (t152.length : Int) = (x15_1.length : Int) then (w05_ScanBlocks.j1 k1 t116 t117 (wrap64 (1 + t120)) t131 t145 t152 ((t131.length : Int) != (t117.length : Int))) else (w05_ScanBlocks.j1 k1 t116 t117 (wrap64 (1 + t120)) t131 t145 t152 true)) else (w05_ScanBlocks.j1 k1 t116 t117 (wrap64 (1 + t120)) t131 t145 t152 true)) = some r := by rw [if_pos rfl] at H; exact H
                              clear H
                              have H := H1
                              clear H1
                              by_cases c53 : (t145.length : Int) = (t117.length : Int)
                              · rw [if_pos c53] at H
                                have c53b0 : ((t145.length : Int) == (t117.length : Int)) = true := beq_iff_eq.mpr c53
                                have c53b1 : ((t145.length : Int) != (t117.length : Int)) = false := bne_eq_false_iff_eq.mpr c53
                                have c53b2 : (t145.length == t117.length) = true := by first | simpa using c53 | (simp at c53 ⊢; omega)
                                clear c53
                                by_cases c54 : (t152.length : Int) = (x15_1.length : Int)
                                · rw [if_pos c54] at H
                                  have c54b0 : ((t152.length : Int) == (x15_1.length : Int)) = true := beq_iff_eq.mpr c54
                                  have c54b1 : ((t152.length : Int) != (x15_1.length : Int)) = false := bne_eq_false_iff_eq.mpr c54
                                  have c54b2 : (t152.length == x15_1.length) = true := by first | simpa using c54 | (simp at c54 ⊢; omega)
                                  clear c54
                                  have H' := Aside0.mk H
                                  clear H
                                  obtain ⟨Ao55, co55, eo55⟩ := Kd.V_slice HO_11.out
                                  subst eo55
                                  obtain ⟨Ao56, co56, eo56⟩ := Kd.V_slice HO_13.out
                                  subst eo56
                                  go_wp2_with (first | (go_at_call 18; (with_reducible refine (Hand.Eq_.calls _ _ t124 _ _ t131 true _ ?side1 ?side2 ?side3 ?side4 A47.out).mono ?_); (case side1 => repeat (first | exact (Kd.V_reads' HO_11.out).2.2 | (with_reducible refine Kd.C_alloc ?_ _) | (with_reducible refine Kd.C_drewN ?_ _) | (with_reducible refine Kd.C_drew ?_))); (case side2 => exact (Kd.V_reads' HO_11.out).2.1); (case side3 => repeat (first | exact (Kd.V_reads' HO_13.out).2.2 | (with_reducible refine Kd.C_alloc ?_ _) | (with_reducible refine Kd.C_drewN ?_ _) | (with_reducible refine Kd.C_drew ?_))); (case side4 => exact (Kd.V_reads' HO_13.out).2.1); rintro e w' ⟨rfl, ⟨nd, rfl⟩⟩; obtain ⟨Ao57, co57, eo57⟩ := Kd.V_slice HO143.out; subst eo57) | (go_at_call 18; (with_reducible refine (Hand.Eq_.calls _ _ t121 _ _ t141 true _ ?side1 ?side2 ?side3 ?side4 A49.out).mono ?_); (case side1 => repeat (first | exact (Kd.V_reads' HO_10.out).2.2 | (with_reducible refine Kd.C_alloc ?_ _) | (with_reducible refine Kd.C_drewN ?_ _) | (with_reducible refine Kd.C_drew ?_))); (case side2 => exact (Kd.V_reads' HO_10.out).2.1); (case side3 => repeat (first | exact (Kd.V_reads' HO143.out).2.2 | (with_reducible refine Kd.C_alloc ?_ _) | (with_reducible refine Kd.C_drewN ?_ _) | (with_reducible refine Kd.C_drew ?_))); (case side4 => exact (Kd.V_reads' HO143.out).2.1); rintro e w' ⟨rfl, ⟨nd, rfl⟩⟩; obtain ⟨Ao58, co58, eo58⟩ := Kd.V_slice HO162.out; subst eo58) | (go_at_call 18; (with_reducible refine (Hand.Eq_.calls _ _ t160 _ _ t131 true _ ?side1 ?side2 ?side3 ?side4 A51.out).mono ?_); (case side1 => repeat (first | exact (Kd.V_reads' HO162.out).2.2 | (with_reducible refine Kd.C_alloc ?_ _) | (with_reducible refine Kd.C_drewN ?_ _) | (with_reducible refine Kd.C_drew ?_))); (case side2 => exact (Kd.V_reads' HO162.out).2.1); (case side3 => repeat (first | exact (Kd.V_reads' HO_13.out).2.2 | (with_reducible refine Kd.C_alloc ?_ _) | (with_reducible refine Kd.C_drewN ?_ _) | (with_reducible refine Kd.C_drew ?_))); (case side4 => exact (Kd.V_reads' HO_13.out).2.1); rintro e w' ⟨rfl, ⟨nd, rfl⟩⟩; obtain ⟨Ao59, co59, eo59⟩ := Kd.V_slice HO147.out; subst eo59; obtain ⟨Ao60, co60, eo60⟩ := Kd.V_slice HO154.out; subst eo60))
                                  go_meet
                                  case rel => exact ⟨_, (((t131.length : Int) != (t117.length : Int))), (by first | rfl | (simp; done) | (simp [*]; done)), H', ⟨by have := HK1.out; first | omega | exact Nat.le_refl _⟩, ⟨by (with_reducible repeat (first | apply Kd.R_alloc | apply Kd.R_drewN | apply Kd.R_drew)); exact Kd.R_mono HO_8.out (fun _ hk => trivial)⟩, ⟨by (with_reducible repeat (first | apply Kd.V_alloc | apply Kd.V_drewN | apply Kd.V_drew)); exact Kd.V_mono HO_13.out (fun _ hk => hk.1.1)⟩, ⟨by (with_reducible repeat (first | apply Kd.V_alloc | apply Kd.V_drewN | apply Kd.V_drew)); exact Kd.V_mono HO147.out (fun _ hk => hk.1.1)⟩, ⟨by (with_reducible repeat (first | apply Kd.V_alloc | apply Kd.V_drewN | apply Kd.V_drew)); exact Kd.V_mono HO154.out (fun _ hk => hk.1)⟩, ⟨by repeat (first | (with_reducible first | exact HB.out | apply below_alloc | apply pw_below_drewN | apply below_drew1) | exact HB.out)⟩⟩
                                · rw [if_neg c54] at H
                                  exact absurd H (by first | (rw [w05_ScanBlocks.j1_true]; simp))
                              · rw [if_neg c53] at H
                                exact absurd H (by first | (rw [w05_ScanBlocks.j1_true]; simp))
                            · replace c52 := Bool.eq_false_iff.mpr c52
                              subst c52
                              have H1 : (w05_ScanBlocks.j1 k1 t116 t117 (wrap64 (1 + t120)) t131 t145 t152 true) = some r := by rw [if_neg (show ¬ (false = true) by decide)] at H; exact H
                              exact absurd H1 (by first | (rw [w05_ScanBlocks.j1_true]; simp))
                          · replace c50 := Bool.eq_false_iff.mpr c50
                            subst c50
                            have H1 : (w05_ScanBlocks.j1 k1 t116 t117 (wrap64 (1 + t120)) t131 t145 t152 true) = some r := by rw [if_neg (show ¬ (false = true) by decide)] at H; exact H
                            exact absurd H1 (by first | (rw [w05_ScanBlocks.j1_true]; simp))
                        · replace c48 := Bool.eq_false_iff.mpr c48
                          subst c48
                          have H1 : (w05_ScanBlocks.j1 k1 t116 t117 (wrap64 (1 + t120)) t131 t145 t152 true) = some r := by rw [if_neg (show ¬ (false = true) by decide)] at H; exact H
                          exact absurd H1 (by first | (rw [w05_ScanBlocks.j1_true]; simp))
                      · rw [if_neg c46] at H
                        exact absurd H (by first | (rw [w05_ScanBlocks.j1_true]; simp))
                    · rw [if_neg c45] at H
                      exact absurd H (by first | (rw [w05_ScanBlocks.j1_true]; simp))
                  · rw [if_neg c44] at H
                    exact absurd H (by first | (rw [w05_ScanBlocks.j1_true]; simp))
                · rw [if_neg c43] at H
                  exact absurd H (by first | (rw [w05_ScanBlocks.j1_true]; simp))
              · rw [if_neg c42] at H
                exact absurd H (by first | (rw [w05_ScanBlocks.j1_true]; simp))
            · rw [if_neg c41] at H
              exact absurd H (by first | (rw [w05_ScanBlocks.j1_true]; simp))
          · rw [if_neg c40] at H
            exact absurd H (by first | (rw [w05_ScanBlocks.j1_true]; simp))
        case rest =>
          clear HC28
          try clear c1
          try clear c2
          try clear p2
          try clear c3
          try clear c4
          try clear c5
          try clear p6
          try clear c8
          try clear c12
          try clear c14
          try clear c19
          try clear c19b0
          try clear c21
          try clear c22
          try clear c24
          try clear c27
          try clear c34
          try clear c35
          try clear c36
          try clear c40
          try clear c40b0
          try clear c40b1
          try clear c41
          try clear c41b0
          try clear c41b1
          try clear c42
          try clear c42b0
          try clear c42b1
          try clear c43
          try clear c43b0
          try clear c43b1
          try clear c44
          try clear c44b0
          try clear c44b1
          try clear c45
          try clear c45b0
          try clear c45b1
          try clear c46
          try clear c46b0
          try clear c46b1
          try clear c48
          try clear c50
          try clear c52
          try clear c53
          try clear c53b0
          try clear c53b1
          try clear c53b2
          try clear c54
          try clear c54b0
          try clear c54b1
          try clear c54b2
          try clear p64
          try clear p2
          try clear p6
          obtain ⟨kq, x167_27, rfl, HA, HJ27, HO_8, HO_13, HO_19, HO_21, HB⟩ := hcut
          cases kq with
          | zero => exact absurd HA.out (by simp [w05_ScanBlocks.j1])
          | succ kj27 =>
            have H := HA.out
            clear HA
            simp only [w05_ScanBlocks.j1] at H
            by_cases c81 : x167_27 = true
            · subst c81
              have H1 : (none) = some r := by rw [if_pos rfl] at H; exact H
              clear H
              have H := H1
              clear H1
              exact absurd H (by simp)
            · replace c81 := Bool.eq_false_iff.mpr c81
              subst c81
              have H1 : (w05_ScanBlocks.l1 kj27 t116 t117 (wrap64 (1 + t120)) t131 t145 t152 0) = some r := by rw [if_neg (show ¬ (false = true) by decide)] at H; exact H
              clear H
              have H := H1
              clear H1
              have H' := Aside0.mk H
              clear H
              go_wp2
              go_loopg [27] kj27 (fun kq v27 w' => ∃ (x27_3 : Int), v27 = .int .i64 x27_3 ∧ Aside0 (w05_ScanBlocks.l1 kq t116 t117 (wrap64 (1 + t120)) t131 t145 t152 x27_3 = some r) ∧ Aside0 (kq ≤ kj27) ∧ Aside0 (Kd.R (Kd.int .i64) 3 w' w.heap.size (fun _ => True) (.slice Ao11 t117.length co11) t117) ∧ Aside0 (Kd.V (Kd.int .i64) 3 w' w.heap.size (fun k_ => some k_ ≠ ((.slice Ao11 t117.length co11) : Value).ownBlock) v132 t131) ∧ Aside0 (Kd.V (Kd.int .i64) 3 w' w.heap.size (fun k_ => some k_ ≠ ((.slice Ao11 t117.length co11) : Value).ownBlock) v146 t145) ∧ Aside0 (Kd.V (Kd.int .i64) 3 w' w.heap.size (fun k_ => some k_ ≠ ((.slice Ao11 t117.length co11) : Value).ownBlock) v153 t152) ∧ Aside0 (Below w.heap.size w w'))
              case atStart => exact ⟨(0), (by first | rfl | (simp; done) | (simp [*]; done)), H', ⟨Nat.le_refl _⟩, ⟨by (with_reducible repeat (first | apply Kd.R_alloc | apply Kd.R_drewN | apply Kd.R_drew)); exact HO_8.out⟩, ⟨by (with_reducible repeat (first | apply Kd.V_alloc | apply Kd.V_drewN | apply Kd.V_drew)); exact HO_13.out⟩, ⟨by (with_reducible repeat (first | apply Kd.V_alloc | apply Kd.V_drewN | apply Kd.V_drew)); exact HO_19.out⟩, ⟨by (with_reducible repeat (first | apply Kd.V_alloc | apply Kd.V_drewN | apply Kd.V_drew)); exact HO_21.out⟩, ⟨by repeat (first | (with_reducible first | exact HB.out | apply below_alloc | apply pw_below_drewN | apply below_drew1) | exact HB.out)⟩⟩
              case round =>
                clear H'
                try clear c1
                try clear c2
                try clear p2
                try clear c3
                try clear c4
                try clear c5
                try clear p6
                try clear c8
                try clear c12
                try clear c14
                try clear c19
                try clear c19b0
                try clear c21
                try clear c22
                try clear c24
                try clear c27
                try clear c34
                try clear c35
                try clear c36
                try clear c40
                try clear c40b0
                try clear c40b1
                try clear c41
                try clear c41b0
                try clear c41b1
                try clear c42
                try clear c42b0
                try clear c42b1
                try clear c43
                try clear c43b0
                try clear c43b1
                try clear c44
                try clear c44b0
                try clear c44b1
                try clear c45
                try clear c45b0
                try clear c45b1
                try clear c46
                try clear c46b0
                try clear c46b1
                try clear c48
                try clear c50
                try clear c52
                try clear c53
                try clear c53b0
                try clear c53b1
                try clear c53b2
                try clear c54
                try clear c54b0
                try clear c54b1
                try clear c54b2
                try clear p64
                try clear c81
                try clear p2
                try clear p6
                try clear p64
                obtain ⟨x27_3, rfl, HA, HK3, HO_8, HO_13, HO_19, HO_21, HB⟩ := hrel
                cases gk with
                | zero => exact absurd HA.out (by simp [w05_ScanBlocks.l1])
                | succ k3 =>
                  have H := HA.out
                  clear HA
                  simp only [w05_ScanBlocks.l1] at H
                  by_cases c82 : x27_3 < (t117.length : Int)
                  · rw [if_pos c82] at H
                    have c82b0 : decide (x27_3 < (t117.length : Int)) = true := decide_eq_true c82
                    clear c82
                    by_cases c83 : (wrap64 (1 + t120)) = 0
                    · rw [if_pos c83] at H
                      exact absurd H (by simp)
                    · rw [if_neg c83] at H
                      have c83b0 : ((wrap64 (1 + t120)) == 0) = false := beq_eq_false_iff_ne.mpr c83
                      have c83b1 : ((wrap64 (1 + t120)) != 0) = true := bne_iff_ne.mpr c83
                      obtain ⟨ji84, hji84⟩ : ∃ j_ : Int, (wrap64 (Int.tdiv x27_3 (wrap64 (1 + t120)))) = j_ := ⟨_, rfl⟩
                      replace H : (if 0 ≤ (ji84) then (if (ji84) < (t152.length : Int) then (if 0 ≤ x27_3 then (if x27_3 < (t145.length : Int) then ((w05_value.f t116 (rd t152 (ji84)) (rd t145 x27_3)).bind fun t169 => (if x27_3 < (t131.length : Int) then (if t169 = (rd t131 x27_3) then (w05_ScanBlocks.l1 k3 t116 t117 (wrap64 (1 + t120)) t131 t145 t152 (wrap64 (x27_3 + 1))) else (none)) else (none))) else (none)) else (none)) else (none)) else (none)) = some r := by first | (rw [hji84] at H; exact H) | (simp only [hji84] at H ⊢; exact H)
                      have hji84w : (IntKind.i64.wrap (Int.tdiv x27_3 (wrap64 (1 + t120)))) = ji84 := (i64_w _).trans hji84
                      by_cases c85 : 0 ≤ (ji84)
                      · rw [if_pos c85] at H
                        have c85b0 : decide (0 ≤ (ji84)) = true := decide_eq_true c85
                        clear c85
                        by_cases c86 : (ji84) < (t152.length : Int)
                        · rw [if_pos c86] at H
                          have c86b0 : decide ((ji84) < (t152.length : Int)) = true := decide_eq_true c86
                          clear c86
                          by_cases c87 : 0 ≤ x27_3
                          · rw [if_pos c87] at H
                            have c87b0 : decide (0 ≤ x27_3) = true := decide_eq_true c87
                            clear c87
                            by_cases c88 : x27_3 < (t145.length : Int)
                            · rw [if_pos c88] at H
                              have c88b0 : decide (x27_3 < (t145.length : Int)) = true := decide_eq_true c88
                              clear c88
                              replace H := Option.bind_eq_some_iff.mp H
                              obtain ⟨t169, A890, H⟩ := H
                              replace H : (if x27_3 < (t131.length : Int) then (if t169 = (rd t131 x27_3) then (w05_ScanBlocks.l1 k3 t116 t117 (wrap64 (1 + t120)) t131 t145 t152 (wrap64 (x27_3 + 1))) else (none)) else (none)) = some r := H
                              have A89 := Aside0.mk A890
                              clear A890
                              by_cases c90 : x27_3 < (t131.length : Int)
                              · rw [if_pos c90] at H
                                have c90b0 : decide (x27_3 < (t131.length : Int)) = true := decide_eq_true c90
                                clear c90
                                by_cases c91 : t169 = (rd t131 x27_3)
                                · rw [if_pos c91] at H
                                  have c91b0 : (t169 == (rd t131 x27_3)) = true := beq_iff_eq.mpr c91
                                  have c91b1 : (t169 != (rd t131 x27_3)) = false := bne_eq_false_iff_eq.mpr c91
                                  clear c91
                                  have H' := Aside0.mk H
                                  clear H
                                  try go_wp2
                                  have n0_ := Aside0.mk (Kd.R_drew HO_8.out)
                                  have n1_ := Aside0.mk (Kd.V_drew HO_13.out)
                                  have n2_ := Aside0.mk (Kd.V_drew HO_19.out)
                                  have n3_ := Aside0.mk (Kd.V_drew HO_21.out)
                                  have n4_ := Aside0.mk (below_drew1 HB.out)
                                  clear HO_8
                                  clear HO_13
                                  clear HO_19
                                  clear HO_21
                                  clear HB
                                  have HO_8 := n0_
                                  have HO_13 := n1_
                                  have HO_19 := n2_
                                  have HO_21 := n3_
                                  have HB := n4_
                                  clear n0_ n1_ n2_ n3_ n4_
                                  obtain ⟨Ao93, co93, eo93⟩ := Kd.V_slice HO_21.out
                                  (first | subst eo93 | (injection eo93 with f1_ f2_ f3_; have f4_ := f1_.symm; have f5_ := f3_.symm; clear f1_ f2_ f3_; subst f4_; subst f5_))
                                  have p167 : 0 ≤ ((ji84) : Int) := of_decide_eq_true (by first | (with_reducible assumption) | assumption)
                                  have q167 : (ji84) < (t152.length : Int) := of_decide_eq_true (by first | (with_reducible assumption) | assumption)
                                  obtain ⟨ad167, e167, hx167_0⟩ := Kd.at_int (Kd.V_reads' HO_21.out).2.2 (ji84) p167 q167
                                  cases e167
                                  replace p167 := eq_true p167
                                  replace q167 := eq_true q167
                                  obtain ⟨Ao94, co94, eo94⟩ := Kd.V_slice HO_19.out
                                  (first | subst eo94 | (injection eo94 with f1_ f2_ f3_; have f4_ := f1_.symm; have f5_ := f3_.symm; clear f1_ f2_ f3_; subst f4_; subst f5_))
                                  have p168 : 0 ≤ (x27_3 : Int) := of_decide_eq_true (by first | (with_reducible assumption) | assumption)
                                  have q168 : x27_3 < (t145.length : Int) := of_decide_eq_true (by first | (with_reducible assumption) | assumption)
                                  obtain ⟨ad168, e168, hx168_0⟩ := Kd.at_int (Kd.V_reads' HO_19.out).2.2 x27_3 p168 q168
                                  cases e168
                                  replace p168 := eq_true p168
                                  replace q168 := eq_true q168
                                  obtain ⟨Ao95, co95, eo95⟩ := Kd.V_slice HO_13.out
                                  (first | subst eo95 | (injection eo95 with f1_ f2_ f3_; have f4_ := f1_.symm; have f5_ := f3_.symm; clear f1_ f2_ f3_; subst f4_; subst f5_))
                                  have p170 : 0 ≤ (x27_3 : Int) := of_decide_eq_true (by first | (with_reducible assumption) | assumption)
                                  have q170 : x27_3 < (t131.length : Int) := of_decide_eq_true (by first | (with_reducible assumption) | assumption)
                                  obtain ⟨ad170, e170, hx170_0⟩ := Kd.at_int (Kd.V_reads' HO_13.out).2.2 x27_3 p170 q170
                                  cases e170
                                  replace p170 := eq_true p170
                                  replace q170 := eq_true q170
                                  refine start_ (n := 17) (S := fun w' => w'.cell? (ad167.add ((ji84)).toNat) = some (.int .i64 (rd t152 (ji84))) ∧ w'.cell? (ad168.add (x27_3).toNat) = some (.int .i64 (rd t145 x27_3)) ∧ w'.cell? (ad170.add (x27_3).toNat) = some (.int .i64 (rd t131 x27_3))) (ds := []) #[false, false, false, false, false, false, false, false, false, false, false, false, false, false, false, false, false] (by kernel_rfl) rfl rfl ⟨hx167_0, hx168_0, hx170_0⟩ (fun hHeld => ?_); refine with_tabW w05_ScanBlocks.tab19 w05_ScanBlocks.bits19 (fun HT_ HW_ => ?_)
                                  generalize wr.drew = w92 at HO_8 HO_13 HO_19 HO_21 HB hx167_0 hx168_0 hx170_0 hHeld ⊢
                                  refine pure_ (i := 0) (N := some 174) (v := ?_) (a' := ?_) #[true, false, false, false, false, false, false, false, false, false, false, false, false, false, false, false, false] rfl rfl (any_of HT_.out (by kernel_rfl)) (fun _ _ _ h => h) (Or.inl ⟨by rfl, ?_⟩) ?_ ?_
                                  rotate_left
                                  · intro w'
                                    go_simp
                                    with_reducible rfl
                                  rotate_left
                                  · simp only [Act.put, List.setIfInBounds_toArray, List.set_cons_zero, List.set_cons_succ, i64_w, i32_w]
                                    rfl
                                  refine pure_ (i := 1) (N := some 175) (v := ?_) (a' := ?_) #[true, true, false, false, false, false, false, false, false, false, false, false, false, false, false, false, false] rfl rfl (any_of HT_.out (by kernel_rfl)) (fun _ _ _ h => h) (Or.inl ⟨by rfl, ?_⟩) ?_ ?_
                                  rotate_left
                                  · intro w'
                                    go_simp
                                    with_reducible rfl
                                  rotate_left
                                  · simp only [Act.put, List.setIfInBounds_toArray, List.set_cons_zero, List.set_cons_succ, i64_w, i32_w]
                                    rfl
                                  refine pure_ (i := 2) (N := some 176) (v := ?_) (a' := ?_) #[true, true, true, false, false, false, false, false, false, false, false, false, false, false, false, false, false] rfl rfl (any_of HT_.out (by kernel_rfl)) (fun _ _ _ h => h) (Or.inl ⟨by rfl, ?_⟩) ?_ ?_
                                  rotate_left
                                  · intro w'
                                    go_simp
                                    with_reducible rfl
                                  rotate_left
                                  · simp only [Act.put, List.setIfInBounds_toArray, List.set_cons_zero, List.set_cons_succ, i64_w, i32_w]
                                    rfl
                                  refine pure_ (i := 3) (N := some 177) (v := ?_) (a' := ?_) #[true, true, true, true, false, false, false, false, false, false, false, false, false, false, false, false, false] rfl rfl (any_of HT_.out (by kernel_rfl)) (fun _ _ _ h => h) (Or.inl ⟨by rfl, ?_⟩) ?_ ?_
                                  rotate_left
                                  · intro w'
                                    go_simp
                                    with_reducible rfl
                                  rotate_left
                                  · simp only [Act.put, List.setIfInBounds_toArray, List.set_cons_zero, List.set_cons_succ, i64_w, i32_w]
                                    rfl
                                  refine pure_ (i := 4) (N := some 178) (v := ?_) (a' := ?_) #[true, true, true, true, true, false, false, false, false, false, false, false, false, false, false, false, false] rfl rfl (any_of HT_.out (by kernel_rfl)) (fun _ _ _ h => h) (Or.inl ⟨by rfl, ?_⟩) ?_ ?_
                                  rotate_left
                                  · intro w'
                                    go_simp
                                    with_reducible rfl
                                  rotate_left
                                  · simp only [Act.put, List.setIfInBounds_toArray, List.set_cons_zero, List.set_cons_succ, i64_w, i32_w]
                                    rfl
                                  refine pure_ (i := 5) (N := some 179) (v := ?_) (a' := ?_) #[true, true, true, true, true, true, false, false, false, false, false, false, false, false, false, false, false] rfl rfl (any_of HT_.out (by kernel_rfl)) (fun _ _ _ h => h) (Or.inl ⟨by rfl, ?_⟩) ?_ ?_
                                  rotate_left
                                  · intro w'
                                    go_simp
                                    with_reducible rfl
                                  rotate_left
                                  · simp only [Act.put, List.setIfInBounds_toArray, List.set_cons_zero, List.set_cons_succ, i64_w, i32_w]
                                    rfl
                                  refine pure_ (i := 7) (N := some 181) (v := ?_) (a' := ?_) #[true, true, true, true, true, true, false, true, false, false, false, false, false, false, false, false, false] rfl rfl (any_of HT_.out (by kernel_rfl)) (fun _ _ _ h => h) (Or.inl ⟨by rfl, ?_⟩) ?_ ?_
                                  rotate_left
                                  · intro w'
                                    go_simp
                                    with_reducible rfl
                                  rotate_left
                                  · simp only [Act.put, List.setIfInBounds_toArray, List.set_cons_zero, List.set_cons_succ, i64_w, i32_w]
                                    rfl
                                  refine pure_ (i := 8) (N := some 182) (v := ?_) (a' := ?_) #[true, true, true, true, true, true, false, true, true, false, false, false, false, false, false, false, false] rfl rfl (any_of HT_.out (by kernel_rfl)) (fun _ _ _ h => h) (Or.inl ⟨by rfl, ?_⟩) ?_ ?_
                                  rotate_left
                                  · intro w'
                                    go_simp
                                    with_reducible rfl
                                  rotate_left
                                  · simp only [Act.put, List.setIfInBounds_toArray, List.set_cons_zero, List.set_cons_succ, i64_w, i32_w]
                                    rfl
                                  refine pure_ (i := 9) (N := some 183) (v := ?_) (a' := ?_) #[true, true, true, true, true, true, false, true, true, true, false, false, false, false, false, false, false] rfl rfl (any_of HT_.out (by kernel_rfl)) (fun _ _ _ h => h) (Or.inl ⟨by rfl, ?_⟩) ?_ ?_
                                  rotate_left
                                  · intro w'
                                    go_simp
                                    with_reducible rfl
                                  rotate_left
                                  · simp only [Act.put, List.setIfInBounds_toArray, List.set_cons_zero, List.set_cons_succ, i64_w, i32_w]
                                    rfl
                                  refine pure_ (i := 12) (N := some 186) (v := ?_) (a' := ?_) #[true, true, true, true, true, true, false, true, true, true, false, false, true, false, false, false, false] rfl rfl (any_of HT_.out (by kernel_rfl)) (fun _ _ _ h => h) (Or.inl ⟨by rfl, ?_⟩) ?_ ?_
                                  rotate_left
                                  · intro w'
                                    go_simp
                                    with_reducible rfl
                                  rotate_left
                                  · simp only [Act.put, List.setIfInBounds_toArray, List.set_cons_zero, List.set_cons_succ, i64_w, i32_w]
                                    rfl
                                  refine pure_ (i := 13) (N := some 187) (v := ?_) (a' := ?_) #[true, true, true, true, true, true, false, true, true, true, false, false, true, true, false, false, false] rfl rfl (any_of HT_.out (by kernel_rfl)) (fun _ _ _ h => h) (Or.inl ⟨by rfl, ?_⟩) ?_ ?_
                                  rotate_left
                                  · intro w'
                                    go_simp
                                    with_reducible rfl
                                  rotate_left
                                  · simp only [Act.put, List.setIfInBounds_toArray, List.set_cons_zero, List.set_cons_succ, i64_w, i32_w]
                                    rfl
                                  refine pure_ (i := 14) (N := some 188) (v := ?_) (a' := ?_) #[true, true, true, true, true, true, false, true, true, true, false, false, true, true, true, false, false] rfl rfl (any_of HT_.out (by kernel_rfl)) (fun _ _ _ h => h) (Or.inl ⟨by rfl, ?_⟩) ?_ ?_
                                  rotate_left
                                  · intro w'
                                    go_simp
                                    with_reducible rfl
                                  rotate_left
                                  · simp only [Act.put, List.setIfInBounds_toArray, List.set_cons_zero, List.set_cons_succ, i64_w, i32_w]
                                    rfl
                                  refine take_ (i := 6) (N := some 180) (v := ?_) (a' := ?_) #[true, true, true, true, true, true, true, true, true, true, false, false, true, true, true, false, false] rfl rfl (take_ofW HT_.out HW_.out (by kernel_rfl)) (fun _ _ _ h => h) (Or.inl ⟨by rfl, ?_⟩) hHeld ?_ ?_
                                  rotate_left
                                  · rintro w' ⟨s0, s1, s2⟩
                                    go_simp
                                    with_reducible rfl
                                  rotate_left
                                  · simp only [Act.put, List.setIfInBounds_toArray, List.set_cons_zero, List.set_cons_succ, i64_w, i32_w]
                                    rfl
                                  refine take_ (i := 10) (N := some 184) (v := ?_) (a' := ?_) #[true, true, true, true, true, true, true, true, true, true, true, false, true, true, true, false, false] rfl rfl (take_ofW HT_.out HW_.out (by kernel_rfl)) (fun _ _ _ h => h) (Or.inl ⟨by rfl, ?_⟩) hHeld ?_ ?_
                                  rotate_left
                                  · rintro w' ⟨s0, s1, s2⟩
                                    go_simp
                                    with_reducible rfl
                                  rotate_left
                                  · simp only [Act.put, List.setIfInBounds_toArray, List.set_cons_zero, List.set_cons_succ, i64_w, i32_w]
                                    rfl
                                  refine take_ (i := 15) (N := some 189) (v := ?_) (a' := ?_) #[true, true, true, true, true, true, true, true, true, true, true, false, true, true, true, true, false] rfl rfl (take_ofW HT_.out HW_.out (by kernel_rfl)) (fun _ _ _ h => h) (Or.inl ⟨by rfl, ?_⟩) hHeld ?_ ?_
                                  rotate_left
                                  · rintro w' ⟨s0, s1, s2⟩
                                    go_simp
                                    with_reducible rfl
                                  rotate_left
                                  · simp only [Act.put, List.setIfInBounds_toArray, List.set_cons_zero, List.set_cons_succ, i64_w, i32_w]
                                    rfl
                                  refine one_ (i := 11) (N := some 185) #[true, true, true, true, true, true, true, true, true, true, true, true, true, true, true, true, false] rfl rfl (one_of HT_.out (by kernel_rfl)) (by decide) (fun K hK => ?_)
                                  refine goes_ Tryd.func38 (by kernel_rfl) rfl #[.int .i64 t116, .int .i64 (rd t152 (ji84)), .int .i64 (rd t145 x27_3)] (by rfl) rfl rfl (by (try simp only [List.map_toArray, List.map_cons, List.map_nil]); first | done | (simp only [hji84]; rfl) | rfl | (simp only [List.length_drop, List.length_take]; rfl)) ?_
                                  with_reducible refine (w05_value.calls t116 (rd t152 (ji84)) (rd t145 x27_3) t169 _ ?side1 A89.out).mono ?_
                                  (case side1 => exact Hand.Tabs.below HG.out (by repeat (first | (with_reducible first | exact HB.out | apply below_alloc | apply pw_below_drewN | apply below_drew1) | exact HB.out)))
                                  rintro e w96 ⟨rfl, hb⟩
                                  have HS0_ := (hb.cell (World.block_lt_of_cell? _ _ (hHeld.1))).trans (hHeld.1)
                                  have HS1_ := (hb.cell (World.block_lt_of_cell? _ _ (hHeld.2.1))).trans (hHeld.2.1)
                                  have HS2_ := (hb.cell (World.block_lt_of_cell? _ _ (hHeld.2.2))).trans (hHeld.2.2)
                                  refine ⟨_, rfl, ?_⟩
                                  have n0_ := Aside0.mk (Kd.R_below (by (with_reducible repeat (first | apply Kd.R_alloc | apply Kd.R_drewN | apply Kd.R_drew)); exact HO_8.out) hb)
                                  have n1_ := Aside0.mk (Kd.V_below (by (with_reducible repeat (first | apply Kd.V_alloc | apply Kd.V_drewN | apply Kd.V_drew)); exact HO_13.out) hb)
                                  have n2_ := Aside0.mk (Kd.V_below (by (with_reducible repeat (first | apply Kd.V_alloc | apply Kd.V_drewN | apply Kd.V_drew)); exact HO_19.out) hb)
                                  have n3_ := Aside0.mk (Kd.V_below (by (with_reducible repeat (first | apply Kd.V_alloc | apply Kd.V_drewN | apply Kd.V_drew)); exact HO_21.out) hb)
                                  have n4_ := Aside0.mk (below_step (by repeat (first | (with_reducible first | exact HB.out | apply below_alloc | apply pw_below_drewN | apply below_drew1) | exact HB.out)) hb)
                                  clear HO_8
                                  clear HO_13
                                  clear HO_19
                                  clear HO_21
                                  clear HB
                                  have HO_8 := n0_
                                  have HO_13 := n1_
                                  have HO_19 := n2_
                                  have HO_21 := n3_
                                  have HB := n4_
                                  clear n0_ n1_ n2_ n3_ n4_
                                  (try clear hb)
                                  (try clear hb2)
                                  (try clear hk)
                                  (try clear hi)
                                  refine hK.out _ _ ⟨HS0_, HS1_, HS2_⟩ (fun hHeld => ?_)
                                  clear hK K
                                  refine norm_ (a' := ?_) ?_ ?_
                                  rotate_left
                                  · show Act.put _ (some 185) _ = _
                                    simp only [Act.put, List.setIfInBounds_toArray, List.set_cons_zero, List.set_cons_succ, i64_w, i32_w]
                                    rfl
                                  refine pure_ (i := 16) (N := some 190) (v := ?_) (a' := ?_) #[true, true, true, true, true, true, true, true, true, true, true, true, true, true, true, true, true] rfl rfl (any_of HT_.out (by kernel_rfl)) (fun _ _ _ h => h) (Or.inl ⟨by rfl, ?_⟩) ?_ ?_
                                  rotate_left
                                  · intro w'
                                    go_simp
                                    with_reducible rfl
                                  rotate_left
                                  · simp only [Act.put, List.setIfInBounds_toArray, List.set_cons_zero, List.set_cons_succ, i64_w, i32_w]
                                    rfl
                                  refine done_ (done_of HT_.out (by kernel_rfl)) ?_
                                  try go_wp2
                                  go_roundg k3
                                  case measure => have := HK1.out; have := HJ27.out; have := HK3.out; omega
                                  case rel => exact ⟨(wrap64 (x27_3 + 1)), (by first | rfl | (simp; done) | (simp [*]; done)), H', ⟨by have := HK1.out; have := HJ27.out; have := HK3.out; omega⟩, ⟨by (with_reducible repeat (first | apply Kd.R_alloc | apply Kd.R_drewN | apply Kd.R_drew)); exact HO_8.out⟩, ⟨by (with_reducible repeat (first | apply Kd.V_alloc | apply Kd.V_drewN | apply Kd.V_drew)); exact HO_13.out⟩, ⟨by (with_reducible repeat (first | apply Kd.V_alloc | apply Kd.V_drewN | apply Kd.V_drew)); exact HO_19.out⟩, ⟨by (with_reducible repeat (first | apply Kd.V_alloc | apply Kd.V_drewN | apply Kd.V_drew)); exact HO_21.out⟩, ⟨by repeat (first | (with_reducible first | exact HB.out | apply below_alloc | apply pw_below_drewN | apply below_drew1) | exact HB.out)⟩⟩
                                · rw [if_neg c91] at H
                                  exact absurd H (by simp)
                              · rw [if_neg c90] at H
                                exact absurd H (by simp)
                            · rw [if_neg c88] at H
                              exact absurd H (by simp)
                          · rw [if_neg c87] at H
                            exact absurd H (by simp)
                        · rw [if_neg c86] at H
                          exact absurd H (by simp)
                      · rw [if_neg c85] at H
                        exact absurd H (by simp)
                  · rw [if_neg c82] at H
                    have c82b0 : decide (x27_3 < (t117.length : Int)) = false := decide_eq_false c82
                    clear c82
                    replace H := Option.bind_eq_some_iff.mp H
                    obtain ⟨t171, A970, H⟩ := H
                    replace H : (some t171) = some r := H
                    have A97 := Aside0.mk A970
                    clear A970
                    obtain rfl := Option.some.inj H
                    go_wp2_with (first | ((with_reducible refine gate_callee (f := 19) rfl ?_); refine goesL_ (some 191) rfl rfl Tryd.func19 (by kernel_rfl) rfl #[] rfl (by (try simp only [List.map_toArray, List.map_cons, List.map_nil]); first | done | rfl | (simp only [List.length_drop, List.length_take]; rfl)) ?_; (with_reducible refine (Hand.law_joined.calls  t171 _ ?side1 A97.out).mono ?_); (case side1 => exact Hand.Tabs.below HG.out (by repeat (first | (with_reducible first | exact HB.out | apply below_alloc | apply pw_below_drewN | apply below_drew1) | exact HB.out))); rintro e w98 ⟨rfl, hb⟩; refine ⟨_, rfl, ?_⟩; have n0_ := Aside0.mk (Kd.R_below (by (with_reducible repeat (first | apply Kd.R_alloc | apply Kd.R_drewN | apply Kd.R_drew)); exact HO_8.out) hb); have n1_ := Aside0.mk (Kd.V_below (by (with_reducible repeat (first | apply Kd.V_alloc | apply Kd.V_drewN | apply Kd.V_drew)); exact HO_13.out) hb); have n2_ := Aside0.mk (Kd.V_below (by (with_reducible repeat (first | apply Kd.V_alloc | apply Kd.V_drewN | apply Kd.V_drew)); exact HO_19.out) hb); have n3_ := Aside0.mk (Kd.V_below (by (with_reducible repeat (first | apply Kd.V_alloc | apply Kd.V_drewN | apply Kd.V_drew)); exact HO_21.out) hb); have n4_ := Aside0.mk (below_step (by repeat (first | (with_reducible first | exact HB.out | apply below_alloc | apply pw_below_drewN | apply below_drew1) | exact HB.out)) hb); clear HO_8; clear HO_13; clear HO_19; clear HO_21; clear HB; have HO_8 := n0_; have HO_13 := n1_; have HO_19 := n2_; have HO_21 := n3_; have HB := n4_; clear n0_ n1_ n2_ n3_ n4_; (try clear hb); (try clear hb2); (try clear hk); (try clear hi)))
                    go_ret
                    exact ⟨by first | rfl | (simp [errW_none, errW_some] <;> rfl) | (simp [*, errW_none, errW_some] <;> rfl), by repeat (first | (with_reducible first | exact HB.out | apply below_alloc | apply pw_below_drewN | apply below_drew1) | exact HB.out)⟩

/-- THE ONE PURE STATEMENT of w05_ScanBlocks: yours. -/
def w05_ScanBlocks.Pure : Prop := ∀ (a0 : Int) (l1 : List Int) (a2 : Int), (Lit.int .i64 a0).wf = true → l1.length ≤ maxLen → l1.length * 8 ≤ 140737488351232 → (∀ x ∈ l1, (Lit.int .i64 x).wf = true) → (Lit.int .i64 a2).wf = true → ∃ k, w05_ScanBlocks.f k a0 l1 a2 = some true
theorem w05_ScanBlocks.walk (P : w05_ScanBlocks.Pure) (a0 : Int) (a1 : Option Addr) (len1 cap1 : Nat) (z1 : List Int) (a2 : Int) (w : World) (hG : Hand.Tabs w) (w0 : (Lit.int .i64 a0).wf = true) (w1 : (a1 = none ∧ len1 = 0 ∧ cap1 = 0 ∧ z1 = []) ∨ ∃ x, a1 = some x ∧ len1 ≤ cap1 ∧ cap1 ≤ maxLen ∧ z1.length = cap1 ∧ (∀ i, i < z1.length → w.cell? (x.add i) = some (.int .i64 (z1.getD i 0))) ∧ ∀ n ∈ z1, (Lit.int .i64 n).wf = true) (y1 : len1 * 8 ≤ 140737488351232) (w2 : (Lit.int .i64 a2).wf = true) :
    Calls Tryd.prog 8 #[.int .i64 a0, .slice a1 len1 cap1, .int .i64 a2] w fun e w' => e = .returned (.bool true) ∧ Below w.heap.size w w' := by
  obtain ⟨l1, rfl, hr1, hm1, hw1, hc1⟩ := ReadsInt.ofRowC w1
  obtain ⟨k, h⟩ := P a0 l1 a2 w0 hm1 y1 hw1 w2
  refine (w05_ScanBlocks.calls k a0 _ _ l1 a2 true w hG (Kd.C_of_reads (d := (0 : Int)) (h1 := fun _ => rfl) hr1) hc1 h).mono ?_
  rintro e w' ⟨rfl, hd⟩
  exact ⟨rfl, hd⟩

end Go.Proofs.YtpenkemabeonaaaDoor.PScanBlocks
