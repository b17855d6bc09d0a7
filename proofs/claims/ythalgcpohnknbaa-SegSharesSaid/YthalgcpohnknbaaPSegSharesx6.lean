-- Text of this session's own program (wip/tools: mkprint.py, pr.py) over hand-proved contracts. Not trusted: Lean checks it.
import Derived.Test.YthalgcpohnknbaaPSegSharesx0
import Derived.Test.YthalgcpohnknbaaPSegSharesx2
import Derived.Test.YthalgcpohnknbaaPSegSharesx3
import Derived.Test.YthalgcpohnknbaaPSegSharesx4
import Derived.Test.YthalgcpohnknbaaPSegSharesx5
namespace Go.Proofs.Ythalgcpohnknbaa.PSegShares
open Go.Proofs.Ythalgcpohnknbaa.Hand (S52 z52 k52 k52_open k52_openM k52_mk k52_mkM rd_T52 at_T52)
open Go.RowKit Go.Proofs.YthalgcpohnknbaaW.PrintWords Go.Proofs.YthalgcpohnknbaaW.PrintLast Go.Proofs.YthalgcpohnknbaaW.PrintMore
attribute [local go_sem] max2_int min2_int max_two min_two max_three min_three max_four min_four   -- for this text's walks alone
set_option linter.unusedVariables false
set_option linter.unusedSimpArgs false

/-! ### w02_SegShares: function 6 -/
mutual
def w02_SegShares.j0 : Nat → List Int → List Int → Int → Bool → Option (Bool)
  | 0, _, _, _, _ => none
  | k + 1, x0, x1, x2, x33 => if x33 = true then ((Hand.law_cut.f).bind fun t183 => (some t183)) else ((r02_Shared.f k x0 x1 x2).bind fun bt184 => (if bt184.2 = 0 then (w02_SegShares.j1 k x0 x1 x2 (decide (bt184.1 > 2000))) else (w02_SegShares.j1 k x0 x1 x2 false)))
def w02_SegShares.j1 : Nat → List Int → List Int → Int → Bool → Option (Bool)
  | 0, _, _, _, _ => none
  | k + 1, x0, x1, x2, x47 => if x47 = true then ((Hand.law_cut.f).bind fun t186 => (some t186)) else ((Hand.rShared.f x0 x1 x2).bind fun bt187 => ((r02_Shared.f k x0 x1 x2).bind fun bt189 => ((Hand.rDepth.f x0 x1 x2).bind fun bt191 => ((r02_Depth.f k x0 x1 x2).bind fun bt193 => ((Hand.sTouched.f x0 x1 x2).bind fun bt195 => ((r02_Touched.f k x0 x1 x2).bind fun bt199 => (if bt187.1 = bt189.1 then (if bt187.2 = bt189.2 then (if bt191.1 = bt193.1 then (if bt191.2 = bt193.2 then ((w02_same.f k bt195.1 bt199.1).bind fun t203 => (if t203 = true then (w02_SegShares.j2 k x0 x1 x2 (bt195.2 != bt199.2)) else (w02_SegShares.j2 k x0 x1 x2 true))) else (w02_SegShares.j2 k x0 x1 x2 true)) else (w02_SegShares.j2 k x0 x1 x2 true)) else (w02_SegShares.j2 k x0 x1 x2 true)) else (w02_SegShares.j2 k x0 x1 x2 true))))))))
def w02_SegShares.j2 : Nat → List Int → List Int → Int → Bool → Option (Bool)
  | 0, _, _, _, _ => none
  | k + 1, x0, x1, x2, x119 => if x119 = true then (none) else ((Hand.rPlaces.f x0 x1 x2).bind fun bt204 => ((r02_Places.f k x0 x1 x2).bind fun bt208 => ((Hand.rCompact.f x0 x1 x2).bind fun bt212 => ((r02_Compact.f k x0 x1 x2).bind fun bt219 => ((Hand.Eq_.f bt204.1 bt208.1).bind fun t226 => (if t226 = true then (if bt204.2 = bt208.2 then ((Hand.Eq_.f bt212.1 bt219.1).bind fun t227 => (if t227 = true then ((Hand.Eq_.f bt212.2.1 bt219.2.1).bind fun t228 => (if t228 = true then (if bt212.2.2 = bt219.2.2 then ((Hand.law_cut.f).bind fun t229 => (some t229)) else (none)) else (none))) else (none))) else (none)) else (none)))))))
end
def w02_SegShares.f (k : Nat) (l0 : List Int) (l1 : List Int) (a2 : Int) : Option (Bool) := (r00_Lies.f a2 2001 1048576).bind fun t182 => (if t182 = true then (w02_SegShares.j0 k l0 l1 a2 true) else (w02_SegShares.j0 k l0 l1 a2 (decide ((l1.length : Int) > 400))))
theorem w02_SegShares.j2_true : ∀ (k : Nat) (y0 : List Int) (y1 : List Int) (y2 : Int), w02_SegShares.j2 k y0 y1 y2 true = none := by
  intro k y0 y1 y2
  cases k <;> rfl
theorem w02_SegShares.mono_l : ∀ k, (∀ y0 y1 y2 y3, LeO (w02_SegShares.j0 k y0 y1 y2 y3) (w02_SegShares.j0 (k + 1) y0 y1 y2 y3)) ∧ (∀ y0 y1 y2 y3, LeO (w02_SegShares.j1 k y0 y1 y2 y3) (w02_SegShares.j1 (k + 1) y0 y1 y2 y3)) ∧ (∀ y0 y1 y2 y3, LeO (w02_SegShares.j2 k y0 y1 y2 y3) (w02_SegShares.j2 (k + 1) y0 y1 y2 y3))
  | 0 => ⟨fun _ _ _ _ r h => by simp [w02_SegShares.j0] at h, fun _ _ _ _ r h => by simp [w02_SegShares.j1] at h, fun _ _ _ _ r h => by simp [w02_SegShares.j2] at h⟩
  | k + 1 => by
    obtain ⟨ih0, ih1, ih2⟩ := w02_SegShares.mono_l k
    refine ⟨?_, ?_, ?_⟩
    · intro y0 y1 y2 y3
      unfold w02_SegShares.j0
      repeat' first
      | (with_reducible exact ih0 _ _ _ _)
      | (with_reducible exact ih1 _ _ _ _)
      | (with_reducible exact ih2 _ _ _ _)
      | (with_reducible exact r02_Compact.mono _ _ _ _)
      | (with_reducible exact r02_Depth.mono _ _ _ _)
      | (with_reducible exact r02_Places.mono _ _ _ _)
      | (with_reducible exact r02_Shared.mono _ _ _ _)
      | (with_reducible exact r02_Touched.mono _ _ _ _)
      | (with_reducible exact w02_same.mono _ _ _)
      | (with_reducible exact LeO.refl _)
      | (with_reducible exact LeO.none _)
      | (with_reducible refine LeO.ite ?_ ?_)
      | (with_reducible refine LeO.bind ?_ (fun _ => ?_))
      | exact ih0 _ _ _ _
      | exact ih1 _ _ _ _
      | exact ih2 _ _ _ _
      | exact r02_Compact.mono _ _ _ _
      | exact r02_Depth.mono _ _ _ _
      | exact r02_Places.mono _ _ _ _
      | exact r02_Shared.mono _ _ _ _
      | exact r02_Touched.mono _ _ _ _
      | exact w02_same.mono _ _ _
      | exact LeO.none _
      | refine LeO.ite ?_ ?_
      | refine LeO.bind ?_ (fun _ => ?_)
    · intro y0 y1 y2 y3
      unfold w02_SegShares.j1
      repeat' first
      | (with_reducible exact ih0 _ _ _ _)
      | (with_reducible exact ih1 _ _ _ _)
      | (with_reducible exact ih2 _ _ _ _)
      | (with_reducible exact r02_Compact.mono _ _ _ _)
      | (with_reducible exact r02_Depth.mono _ _ _ _)
      | (with_reducible exact r02_Places.mono _ _ _ _)
      | (with_reducible exact r02_Shared.mono _ _ _ _)
      | (with_reducible exact r02_Touched.mono _ _ _ _)
      | (with_reducible exact w02_same.mono _ _ _)
      | (with_reducible exact LeO.refl _)
      | (with_reducible exact LeO.none _)
      | (with_reducible refine LeO.ite ?_ ?_)
      | (with_reducible refine LeO.bind ?_ (fun _ => ?_))
      | exact ih0 _ _ _ _
      | exact ih1 _ _ _ _
      | exact ih2 _ _ _ _
      | exact r02_Compact.mono _ _ _ _
      | exact r02_Depth.mono _ _ _ _
      | exact r02_Places.mono _ _ _ _
      | exact r02_Shared.mono _ _ _ _
      | exact r02_Touched.mono _ _ _ _
      | exact w02_same.mono _ _ _
      | exact LeO.none _
      | refine LeO.ite ?_ ?_
      | refine LeO.bind ?_ (fun _ => ?_)
    · intro y0 y1 y2 y3
      unfold w02_SegShares.j2
      repeat' first
      | (with_reducible exact ih0 _ _ _ _)
      | (with_reducible exact ih1 _ _ _ _)
      | (with_reducible exact ih2 _ _ _ _)
      | (with_reducible exact r02_Compact.mono _ _ _ _)
      | (with_reducible exact r02_Depth.mono _ _ _ _)
      | (with_reducible exact r02_Places.mono _ _ _ _)
      | (with_reducible exact r02_Shared.mono _ _ _ _)
      | (with_reducible exact r02_Touched.mono _ _ _ _)
      | (with_reducible exact w02_same.mono _ _ _)
      | (with_reducible exact LeO.refl _)
      | (with_reducible exact LeO.none _)
      | (with_reducible refine LeO.ite ?_ ?_)
      | (with_reducible refine LeO.bind ?_ (fun _ => ?_))
      | exact ih0 _ _ _ _
      | exact ih1 _ _ _ _
      | exact ih2 _ _ _ _
      | exact r02_Compact.mono _ _ _ _
      | exact r02_Depth.mono _ _ _ _
      | exact r02_Places.mono _ _ _ _
      | exact r02_Shared.mono _ _ _ _
      | exact r02_Touched.mono _ _ _ _
      | exact w02_same.mono _ _ _
      | exact LeO.none _
      | refine LeO.ite ?_ ?_
      | refine LeO.bind ?_ (fun _ => ?_)
theorem w02_SegShares.mono : ∀ a0 a1 a2 k, LeO (w02_SegShares.f k a0 a1 a2) (w02_SegShares.f (k + 1) a0 a1 a2) := by
  intro a0 a1 a2 k
  obtain ⟨ih0, ih1, ih2⟩ := w02_SegShares.mono_l k
  unfold w02_SegShares.f
  repeat' first
      | (with_reducible exact ih0 _ _ _ _)
      | (with_reducible exact ih1 _ _ _ _)
      | (with_reducible exact ih2 _ _ _ _)
      | (with_reducible exact r02_Compact.mono _ _ _ _)
      | (with_reducible exact r02_Depth.mono _ _ _ _)
      | (with_reducible exact r02_Places.mono _ _ _ _)
      | (with_reducible exact r02_Shared.mono _ _ _ _)
      | (with_reducible exact r02_Touched.mono _ _ _ _)
      | (with_reducible exact w02_same.mono _ _ _)
      | (with_reducible exact LeO.refl _)
      | (with_reducible exact LeO.none _)
      | (with_reducible refine LeO.ite ?_ ?_)
      | (with_reducible refine LeO.bind ?_ (fun _ => ?_))
      | exact ih0 _ _ _ _
      | exact ih1 _ _ _ _
      | exact ih2 _ _ _ _
      | exact r02_Compact.mono _ _ _ _
      | exact r02_Depth.mono _ _ _ _
      | exact r02_Places.mono _ _ _ _
      | exact r02_Shared.mono _ _ _ _
      | exact r02_Touched.mono _ _ _ _
      | exact w02_same.mono _ _ _
      | exact LeO.none _
      | refine LeO.ite ?_ ?_
      | refine LeO.bind ?_ (fun _ => ?_)
set_option maxHeartbeats 8000000 in
set_option maxRecDepth 100000 in
theorem w02_SegShares.calls (k : Nat) (A0 : Option Addr) (c0 : Nat) (l0 : List Int) (A1 : Option Addr) (c1 : Nat) (l1 : List Int) (a2 : Int) (r : Bool) (w : World) (hr0 : Kd.C (Kd.int .i64) w A0 l0.length l0) (hc0 : l0.length ≤ c0) (hr1 : Kd.C (Kd.int .i64) w A1 l1.length l1) (hc1 : l1.length ≤ c1) (h : w02_SegShares.f k l0 l1 a2 = some r) :
    Calls Try.prog 6 #[.slice A0 l0.length c0, .slice A1 l1.length c1, .int .i64 a2] w fun e w' => e = .returned (.bool r) ∧ Below w.heap.size w w' := by
  have HR0 := Aside0.mk hr0
  have HC0 := Aside0.mk hc0
  clear hr0 hc0
  have HR1 := Aside0.mk hr1
  have HC1 := Aside0.mk hc1
  clear hr1 hc1
  have HB := Aside0.mk (Below.refl w.heap.size w)
  have H : ((r00_Lies.f a2 2001 1048576).bind fun t182 => (if t182 = true then (w02_SegShares.j0 k l0 l1 a2 true) else (w02_SegShares.j0 k l0 l1 a2 (decide ((l1.length : Int) > 400))))) = some r := h
  clear h
  have HC4 := Aside0.mk H
  clear H
  go_enter Try.func6, Try.ntmps6
  go_upto_region 1 with (fail)
  go_cut [33] (fun zv33 wc => ∃ (kq : Nat) (x33_3 : Bool), zv33 = .bool x33_3 ∧ Aside0 (w02_SegShares.j0 kq l0 l1 a2 x33_3 = some r) ∧ Aside0 (kq ≤ k) ∧ Aside0 (Below w.heap.size w wc))
  case first =>
    have H := HC4.out
    clear HC4
    replace H := Option.bind_eq_some_iff.mp H
    obtain ⟨t182, A50, H⟩ := H
    replace H : (if t182 = true then (w02_SegShares.j0 k l0 l1 a2 true) else (w02_SegShares.j0 k l0 l1 a2 (decide ((l1.length : Int) > 400)))) = some r := H
    have A5 := Aside0.mk A50
    clear A50
    by_cases c6 : t182 = true
    · subst c6
      have H1 : (w02_SegShares.j0 k l0 l1 a2 true) = some r := by rw [if_pos rfl] at H; exact H
      clear H
      have H := H1
      clear H1
      have H' := Aside0.mk H
      clear H
      go_wp2_with (first | ((with_reducible refine gate_callee (f := 23) rfl ?_); refine goesL_ (some 28) rfl rfl Try.func23 (by kernel_rfl) rfl #[.int .i64 a2, .int .i64 2001, .int .i64 1048576] rfl (by (try simp only [List.map_toArray, List.map_cons, List.map_nil]); first | done | rfl | (simp only [List.length_drop, List.length_take]; rfl)) ?_; (with_reducible refine (r00_Lies.calls a2 2001 1048576 true _ A5.out).mono ?_); rintro e w' ⟨rfl, ⟨nd, rfl⟩⟩; refine ⟨_, rfl, ?_⟩))
      go_meet
      case rel => exact ⟨_, (true), (by first | rfl | (simp; done) | (simp [*]; done)), H', ⟨by first | omega | exact Nat.le_refl _⟩, ⟨by repeat (first | (with_reducible first | exact HB.out | apply below_alloc | apply pw_below_drewN | apply below_drew1) | exact HB.out)⟩⟩
    · replace c6 := Bool.eq_false_iff.mpr c6
      subst c6
      have H1 : (w02_SegShares.j0 k l0 l1 a2 (decide ((l1.length : Int) > 400))) = some r := by rw [if_neg (show ¬ (false = true) by decide)] at H; exact H
      clear H
      have H := H1
      clear H1
      have H' := Aside0.mk H
      clear H
      go_wp2_with (first | ((with_reducible refine gate_callee (f := 23) rfl ?_); refine goesL_ (some 28) rfl rfl Try.func23 (by kernel_rfl) rfl #[.int .i64 a2, .int .i64 2001, .int .i64 1048576] rfl (by (try simp only [List.map_toArray, List.map_cons, List.map_nil]); first | done | rfl | (simp only [List.length_drop, List.length_take]; rfl)) ?_; (with_reducible refine (r00_Lies.calls a2 2001 1048576 false _ A5.out).mono ?_); rintro e w' ⟨rfl, ⟨nd, rfl⟩⟩; refine ⟨_, rfl, ?_⟩))
      go_meet
      case rel => exact ⟨_, (decide ((l1.length : Int) > 400)), (by first | rfl | (simp; done) | (simp [*]; done)), H', ⟨by first | omega | exact Nat.le_refl _⟩, ⟨by repeat (first | (with_reducible first | exact HB.out | apply below_alloc | apply pw_below_drewN | apply below_drew1) | exact HB.out)⟩⟩
  case rest =>
    clear HC4
    try clear c1
    try clear c2
    try clear p2
    try clear c6
    obtain ⟨kq, x33_3, rfl, HA, HJ3, HB⟩ := hcut
    cases kq with
    | zero => exact absurd HA.out (by simp [w02_SegShares.j0])
    | succ kj3 =>
      have H := HA.out
      clear HA
      simp only [w02_SegShares.j0] at H
      by_cases c7 : x33_3 = true
      · subst c7
        have H1 : ((Hand.law_cut.f).bind fun t183 => (some t183)) = some r := by rw [if_pos rfl] at H; exact H
        clear H
        have H := H1
        clear H1
        replace H := Option.bind_eq_some_iff.mp H
        obtain ⟨t183, A80, H⟩ := H
        replace H : (some t183) = some r := H
        have A8 := Aside0.mk A80
        clear A80
        obtain rfl := Option.some.inj H
        go_wp2_with (first | ((with_reducible refine gate_callee (f := 13) rfl ?_); refine goesL_ (some 34) rfl rfl Try.func13 (by kernel_rfl) rfl #[] rfl (by (try simp only [List.map_toArray, List.map_cons, List.map_nil]); first | done | rfl | (simp only [List.length_drop, List.length_take]; rfl)) ?_; (with_reducible refine (Hand.law_cut.calls  t183 _ A8.out).mono ?_); rintro e w9 ⟨rfl, hb⟩; refine ⟨_, rfl, ?_⟩; have n0_ := Aside0.mk (below_step (by repeat (first | (with_reducible first | exact HB.out | apply below_alloc | apply pw_below_drewN | apply below_drew1) | exact HB.out)) hb); clear HB; have HB := n0_; clear n0_; (try clear hb); (try clear hb2); (try clear hk); (try clear hi)))
        go_ret
        exact ⟨by first | rfl | (simp [errW_none, errW_some] <;> rfl) | (simp [*, errW_none, errW_some] <;> rfl), by repeat (first | (with_reducible first | exact HB.out | apply below_alloc | apply pw_below_drewN | apply below_drew1) | exact HB.out)⟩
      · replace c7 := Bool.eq_false_iff.mpr c7
        subst c7
        have H1 : ((r02_Shared.f kj3 l0 l1 a2).bind fun bt184 => (if bt184.2 = 0 then (w02_SegShares.j1 kj3 l0 l1 a2 (decide (bt184.1 > 2000))) else (w02_SegShares.j1 kj3 l0 l1 a2 false))) = some r := by rw [if_neg (show ¬ (false = true) by decide)] at H; exact H
        clear H
        have H := H1
        clear H1
        replace H := Option.bind_eq_some_iff.mp H
        obtain ⟨⟨t184, t185⟩, A100, H⟩ := H
        replace H : (if t185 = 0 then (w02_SegShares.j1 kj3 l0 l1 a2 (decide (t184 > 2000))) else (w02_SegShares.j1 kj3 l0 l1 a2 false)) = some r := H
        have A10 := Aside0.mk A100
        clear A100
        have HC11 := Aside0.mk H
        clear H
        go_upto_region 4 with (first | ((with_reducible refine gate_callee (f := 36) rfl ?_); refine goesL_ (some 39) rfl rfl Try.func36 (by kernel_rfl) rfl #[.slice A0 l0.length c0, .slice A1 l1.length c1, .int .i64 a2] rfl (by (try simp only [List.map_toArray, List.map_cons, List.map_nil]); first | done | rfl | (simp only [List.length_drop, List.length_take]; rfl)) ?_; (with_reducible refine (r02_Shared.calls kj3 _ _ l0 _ _ l1 a2 t184 t185 _ ?side1 ?side2 ?side3 ?side4 A10.out).mono ?_); (case side1 => repeat (first | exact (Kd.C_below HR0.out HB.out) | (with_reducible refine Kd.C_alloc ?_ _) | (with_reducible refine Kd.C_drewN ?_ _) | (with_reducible refine Kd.C_drew ?_))); (case side2 => exact HC0.out); (case side3 => repeat (first | exact (Kd.C_below HR1.out HB.out) | (with_reducible refine Kd.C_alloc ?_ _) | (with_reducible refine Kd.C_drewN ?_ _) | (with_reducible refine Kd.C_drew ?_))); (case side4 => exact HC1.out); rintro e w12 ⟨rfl, hb⟩; refine ⟨_, rfl, ?_⟩; have n0_ := Aside0.mk (below_step (by repeat (first | (with_reducible first | exact HB.out | apply below_alloc | apply pw_below_drewN | apply below_drew1) | exact HB.out)) hb); clear HB; have HB := n0_; clear n0_; (try clear hb); (try clear hb2); (try clear hk); (try clear hi)))
        (try simp only [Act.put, List.setIfInBounds_toArray, List.set_cons_zero, List.set_cons_succ])
        go_cut [47] (fun zv47 wc => ∃ (kq : Nat) (x47_10 : Bool), zv47 = .bool x47_10 ∧ Aside0 (w02_SegShares.j1 kq l0 l1 a2 x47_10 = some r) ∧ Aside0 (kq ≤ kj3) ∧ Aside0 (Below w.heap.size w wc))
        case first =>
          have H := HC11.out
          clear HC11
          by_cases c13 : t185 = 0
          · rw [if_pos c13] at H
            have c13b0 : (t185 == 0) = true := beq_iff_eq.mpr c13
            have c13b1 : (t185 != 0) = false := bne_eq_false_iff_eq.mpr c13
            clear c13
            (first | rw [c13b0] | (simp only [i64_w, i32_w]; rw [c13b0]) | skip)
            have H' := Aside0.mk H
            clear H
            go_wp2
            go_meet
            case rel => exact ⟨_, (decide (t184 > 2000)), (by first | rfl | (simp; done) | (simp [*]; done)), H', ⟨by have := HJ3.out; first | omega | exact Nat.le_refl _⟩, ⟨by repeat (first | (with_reducible first | exact HB.out | apply below_alloc | apply pw_below_drewN | apply below_drew1) | exact HB.out)⟩⟩
          · rw [if_neg c13] at H
            have c13b0 : (t185 == 0) = false := beq_eq_false_iff_ne.mpr c13
            have c13b1 : (t185 != 0) = true := bne_iff_ne.mpr c13
            (first | rw [c13b0] | (simp only [i64_w, i32_w]; rw [c13b0]) | skip)
            have H' := Aside0.mk H
            clear H
            go_wp2
            go_meet
            case rel => exact ⟨_, (false), (by first | rfl | (simp; done) | (simp [*]; done)), H', ⟨by have := HJ3.out; first | omega | exact Nat.le_refl _⟩, ⟨by repeat (first | (with_reducible first | exact HB.out | apply below_alloc | apply pw_below_drewN | apply below_drew1) | exact HB.out)⟩⟩
        case rest =>
          clear HC11
          try clear c1
          try clear c2
          try clear p2
          try clear c3
          try clear c6
          try clear c7
          try clear c13
          try clear c13b0
          try clear c13b1
          try clear p2
          obtain ⟨kq, x47_10, rfl, HA, HJ10, HB⟩ := hcut
          cases kq with
          | zero => exact absurd HA.out (by simp [w02_SegShares.j1])
          | succ kj10 =>
            have H := HA.out
            clear HA
            simp only [w02_SegShares.j1] at H
            by_cases c14 : x47_10 = true
            · subst c14
              have H1 : ((Hand.law_cut.f).bind fun t186 => (some t186)) = some r := by rw [if_pos rfl] at H; exact H
              clear H
              have H := H1
              clear H1
              replace H := Option.bind_eq_some_iff.mp H
              obtain ⟨t186, A150, H⟩ := H
              replace H : (some t186) = some r := H
              have A15 := Aside0.mk A150
              clear A150
              obtain rfl := Option.some.inj H
              go_wp2_with (first | ((with_reducible refine gate_callee (f := 13) rfl ?_); refine goesL_ (some 48) rfl rfl Try.func13 (by kernel_rfl) rfl #[] rfl (by (try simp only [List.map_toArray, List.map_cons, List.map_nil]); first | done | rfl | (simp only [List.length_drop, List.length_take]; rfl)) ?_; (with_reducible refine (Hand.law_cut.calls  t186 _ A15.out).mono ?_); rintro e w16 ⟨rfl, hb⟩; refine ⟨_, rfl, ?_⟩; have n0_ := Aside0.mk (below_step (by repeat (first | (with_reducible first | exact HB.out | apply below_alloc | apply pw_below_drewN | apply below_drew1) | exact HB.out)) hb); clear HB; have HB := n0_; clear n0_; (try clear hb); (try clear hb2); (try clear hk); (try clear hi)))
              go_ret
              exact ⟨by first | rfl | (simp [errW_none, errW_some] <;> rfl) | (simp [*, errW_none, errW_some] <;> rfl), by repeat (first | (with_reducible first | exact HB.out | apply below_alloc | apply pw_below_drewN | apply below_drew1) | exact HB.out)⟩
            · replace c14 := Bool.eq_false_iff.mpr c14
              subst c14
              have H1 : ((Hand.rShared.f l0 l1 a2).bind fun bt187 => ((r02_Shared.f kj10 l0 l1 a2).bind fun bt189 => ((Hand.rDepth.f l0 l1 a2).bind fun bt191 => ((r02_Depth.f kj10 l0 l1 a2).bind fun bt193 => ((Hand.sTouched.f l0 l1 a2).bind fun bt195 => ((r02_Touched.f kj10 l0 l1 a2).bind fun bt199 => (if bt187.1 = bt189.1 then (if bt187.2 = bt189.2 then (if bt191.1 = bt193.1 then (if bt191.2 = bt193.2 then ((w02_same.f kj10 bt195.1 bt199.1).bind fun t203 => (if t203 = true then (w02_SegShares.j2 kj10 l0 l1 a2 (bt195.2 != bt199.2)) else (w02_SegShares.j2 kj10 l0 l1 a2 true))) else (w02_SegShares.j2 kj10 l0 l1 a2 true)) else (w02_SegShares.j2 kj10 l0 l1 a2 true)) else (w02_SegShares.j2 kj10 l0 l1 a2 true)) else (w02_SegShares.j2 kj10 l0 l1 a2 true)))))))) = some r := by rw [if_neg (show ¬ (false = true) by decide)] at H; exact H
              clear H
              have H := H1
              clear H1
              replace H := Option.bind_eq_some_iff.mp H
              obtain ⟨⟨t187, t188⟩, A170, H⟩ := H
              replace H : ((r02_Shared.f kj10 l0 l1 a2).bind fun bt189 => ((Hand.rDepth.f l0 l1 a2).bind fun bt191 => ((r02_Depth.f kj10 l0 l1 a2).bind fun bt193 => ((Hand.sTouched.f l0 l1 a2).bind fun bt195 => ((r02_Touched.f kj10 l0 l1 a2).bind fun bt199 => (if t187 = bt189.1 then (if t188 = bt189.2 then (if bt191.1 = bt193.1 then (if bt191.2 = bt193.2 then ((w02_same.f kj10 bt195.1 bt199.1).bind fun t203 => (if t203 = true then (w02_SegShares.j2 kj10 l0 l1 a2 (bt195.2 != bt199.2)) else (w02_SegShares.j2 kj10 l0 l1 a2 true))) else (w02_SegShares.j2 kj10 l0 l1 a2 true)) else (w02_SegShares.j2 kj10 l0 l1 a2 true)) else (w02_SegShares.j2 kj10 l0 l1 a2 true)) else (w02_SegShares.j2 kj10 l0 l1 a2 true))))))) = some r := H
              have A17 := Aside0.mk A170
              clear A170
              replace H := Option.bind_eq_some_iff.mp H
              obtain ⟨⟨t189, t190⟩, A180, H⟩ := H
              replace H : ((Hand.rDepth.f l0 l1 a2).bind fun bt191 => ((r02_Depth.f kj10 l0 l1 a2).bind fun bt193 => ((Hand.sTouched.f l0 l1 a2).bind fun bt195 => ((r02_Touched.f kj10 l0 l1 a2).bind fun bt199 => (if t187 = t189 then (if t188 = t190 then (if bt191.1 = bt193.1 then (if bt191.2 = bt193.2 then ((w02_same.f kj10 bt195.1 bt199.1).bind fun t203 => (if t203 = true then (w02_SegShares.j2 kj10 l0 l1 a2 (bt195.2 != bt199.2)) else (w02_SegShares.j2 kj10 l0 l1 a2 true))) else (w02_SegShares.j2 kj10 l0 l1 a2 true)) else (w02_SegShares.j2 kj10 l0 l1 a2 true)) else (w02_SegShares.j2 kj10 l0 l1 a2 true)) else (w02_SegShares.j2 kj10 l0 l1 a2 true)))))) = some r := H
              have A18 := Aside0.mk A180
              clear A180
              replace H := Option.bind_eq_some_iff.mp H
              obtain ⟨⟨t191, t192⟩, A190, H⟩ := H
              replace H : ((r02_Depth.f kj10 l0 l1 a2).bind fun bt193 => ((Hand.sTouched.f l0 l1 a2).bind fun bt195 => ((r02_Touched.f kj10 l0 l1 a2).bind fun bt199 => (if t187 = t189 then (if t188 = t190 then (if t191 = bt193.1 then (if t192 = bt193.2 then ((w02_same.f kj10 bt195.1 bt199.1).bind fun t203 => (if t203 = true then (w02_SegShares.j2 kj10 l0 l1 a2 (bt195.2 != bt199.2)) else (w02_SegShares.j2 kj10 l0 l1 a2 true))) else (w02_SegShares.j2 kj10 l0 l1 a2 true)) else (w02_SegShares.j2 kj10 l0 l1 a2 true)) else (w02_SegShares.j2 kj10 l0 l1 a2 true)) else (w02_SegShares.j2 kj10 l0 l1 a2 true))))) = some r := H
              have A19 := Aside0.mk A190
              clear A190
              replace H := Option.bind_eq_some_iff.mp H
              obtain ⟨⟨t193, t194⟩, A200, H⟩ := H
              replace H : ((Hand.sTouched.f l0 l1 a2).bind fun bt195 => ((r02_Touched.f kj10 l0 l1 a2).bind fun bt199 => (if t187 = t189 then (if t188 = t190 then (if t191 = t193 then (if t192 = t194 then ((w02_same.f kj10 bt195.1 bt199.1).bind fun t203 => (if t203 = true then (w02_SegShares.j2 kj10 l0 l1 a2 (bt195.2 != bt199.2)) else (w02_SegShares.j2 kj10 l0 l1 a2 true))) else (w02_SegShares.j2 kj10 l0 l1 a2 true)) else (w02_SegShares.j2 kj10 l0 l1 a2 true)) else (w02_SegShares.j2 kj10 l0 l1 a2 true)) else (w02_SegShares.j2 kj10 l0 l1 a2 true)))) = some r := H
              have A20 := Aside0.mk A200
              clear A200
              replace H := Option.bind_eq_some_iff.mp H
              obtain ⟨⟨t195, t198⟩, A210, H⟩ := H
              replace H : ((r02_Touched.f kj10 l0 l1 a2).bind fun bt199 => (if t187 = t189 then (if t188 = t190 then (if t191 = t193 then (if t192 = t194 then ((w02_same.f kj10 t195 bt199.1).bind fun t203 => (if t203 = true then (w02_SegShares.j2 kj10 l0 l1 a2 (t198 != bt199.2)) else (w02_SegShares.j2 kj10 l0 l1 a2 true))) else (w02_SegShares.j2 kj10 l0 l1 a2 true)) else (w02_SegShares.j2 kj10 l0 l1 a2 true)) else (w02_SegShares.j2 kj10 l0 l1 a2 true)) else (w02_SegShares.j2 kj10 l0 l1 a2 true))) = some r := H
              have A21 := Aside0.mk A210
              clear A210
              replace H := Option.bind_eq_some_iff.mp H
              obtain ⟨⟨t199, t200⟩, A220, H⟩ := H
              replace H : (if t187 = t189 then (if t188 = t190 then (if t191 = t193 then (if t192 = t194 then ((w02_same.f kj10 t195 t199).bind fun t203 => (if t203 = true then (w02_SegShares.j2 kj10 l0 l1 a2 (t198 != t200)) else (w02_SegShares.j2 kj10 l0 l1 a2 true))) else (w02_SegShares.j2 kj10 l0 l1 a2 true)) else (w02_SegShares.j2 kj10 l0 l1 a2 true)) else (w02_SegShares.j2 kj10 l0 l1 a2 true)) else (w02_SegShares.j2 kj10 l0 l1 a2 true)) = some r := H
              have A22 := Aside0.mk A220
              clear A220
              have HC23 := Aside0.mk H
              clear H
              go_upto_region 12 with (first | ((with_reducible refine gate_callee (f := 37) rfl ?_); refine goesL_ (some 53) rfl rfl Try.func37 (by kernel_rfl) rfl #[.slice A0 l0.length c0, .slice A1 l1.length c1, .int .i64 a2] rfl (by (try simp only [List.map_toArray, List.map_cons, List.map_nil]); first | done | rfl | (simp only [List.length_drop, List.length_take]; rfl)) ?_; (with_reducible refine (Hand.rShared.calls _ _ l0 _ _ l1 a2 t187 t188 _ ?side1 ?side2 ?side3 ?side4 A17.out).mono ?_); (case side1 => repeat (first | exact (Kd.C_below HR0.out HB.out) | (with_reducible refine Kd.C_alloc ?_ _) | (with_reducible refine Kd.C_drewN ?_ _) | (with_reducible refine Kd.C_drew ?_))); (case side2 => exact HC0.out); (case side3 => repeat (first | exact (Kd.C_below HR1.out HB.out) | (with_reducible refine Kd.C_alloc ?_ _) | (with_reducible refine Kd.C_drewN ?_ _) | (with_reducible refine Kd.C_drew ?_))); (case side4 => exact HC1.out); rintro e w24 ⟨rfl, hb⟩; refine ⟨_, rfl, ?_⟩; have n0_ := Aside0.mk (below_step (by repeat (first | (with_reducible first | exact HB.out | apply below_alloc | apply pw_below_drewN | apply below_drew1) | exact HB.out)) hb); clear HB; have HB := n0_; clear n0_; (try clear hb); (try clear hb2); (try clear hk); (try clear hi)) | ((with_reducible refine gate_callee (f := 36) rfl ?_); refine goesL_ (some 60) rfl rfl Try.func36 (by kernel_rfl) rfl #[.slice A0 l0.length c0, .slice A1 l1.length c1, .int .i64 a2] rfl (by (try simp only [List.map_toArray, List.map_cons, List.map_nil]); first | done | rfl | (simp only [List.length_drop, List.length_take]; rfl)) ?_; (with_reducible refine (r02_Shared.calls kj10 _ _ l0 _ _ l1 a2 t189 t190 _ ?side1 ?side2 ?side3 ?side4 A18.out).mono ?_); (case side1 => repeat (first | exact (Kd.C_below HR0.out HB.out) | (with_reducible refine Kd.C_alloc ?_ _) | (with_reducible refine Kd.C_drewN ?_ _) | (with_reducible refine Kd.C_drew ?_))); (case side2 => exact HC0.out); (case side3 => repeat (first | exact (Kd.C_below HR1.out HB.out) | (with_reducible refine Kd.C_alloc ?_ _) | (with_reducible refine Kd.C_drewN ?_ _) | (with_reducible refine Kd.C_drew ?_))); (case side4 => exact HC1.out); rintro e w25 ⟨rfl, hb⟩; refine ⟨_, rfl, ?_⟩; have n0_ := Aside0.mk (below_step (by repeat (first | (with_reducible first | exact HB.out | apply below_alloc | apply pw_below_drewN | apply below_drew1) | exact HB.out)) hb); clear HB; have HB := n0_; clear n0_; (try clear hb); (try clear hb2); (try clear hk); (try clear hi)) | ((with_reducible refine gate_callee (f := 38) rfl ?_); refine goesL_ (some 67) rfl rfl Try.func38 (by kernel_rfl) rfl #[.slice A0 l0.length c0, .slice A1 l1.length c1, .int .i64 a2] rfl (by (try simp only [List.map_toArray, List.map_cons, List.map_nil]); first | done | rfl | (simp only [List.length_drop, List.length_take]; rfl)) ?_; (with_reducible refine (Hand.rDepth.calls _ _ l0 _ _ l1 a2 t191 t192 _ ?side1 ?side2 ?side3 ?side4 A19.out).mono ?_); (case side1 => repeat (first | exact (Kd.C_below HR0.out HB.out) | (with_reducible refine Kd.C_alloc ?_ _) | (with_reducible refine Kd.C_drewN ?_ _) | (with_reducible refine Kd.C_drew ?_))); (case side2 => exact HC0.out); (case side3 => repeat (first | exact (Kd.C_below HR1.out HB.out) | (with_reducible refine Kd.C_alloc ?_ _) | (with_reducible refine Kd.C_drewN ?_ _) | (with_reducible refine Kd.C_drew ?_))); (case side4 => exact HC1.out); rintro e w26 ⟨rfl, hb⟩; refine ⟨_, rfl, ?_⟩; have n0_ := Aside0.mk (below_step (by repeat (first | (with_reducible first | exact HB.out | apply below_alloc | apply pw_below_drewN | apply below_drew1) | exact HB.out)) hb); clear HB; have HB := n0_; clear n0_; (try clear hb); (try clear hb2); (try clear hk); (try clear hi)) | ((with_reducible refine gate_callee (f := 39) rfl ?_); refine goesL_ (some 74) rfl rfl Try.func39 (by kernel_rfl) rfl #[.slice A0 l0.length c0, .slice A1 l1.length c1, .int .i64 a2] rfl (by (try simp only [List.map_toArray, List.map_cons, List.map_nil]); first | done | rfl | (simp only [List.length_drop, List.length_take]; rfl)) ?_; (with_reducible refine (r02_Depth.calls kj10 _ _ l0 _ _ l1 a2 t193 t194 _ ?side1 ?side2 ?side3 ?side4 A20.out).mono ?_); (case side1 => repeat (first | exact (Kd.C_below HR0.out HB.out) | (with_reducible refine Kd.C_alloc ?_ _) | (with_reducible refine Kd.C_drewN ?_ _) | (with_reducible refine Kd.C_drew ?_))); (case side2 => exact HC0.out); (case side3 => repeat (first | exact (Kd.C_below HR1.out HB.out) | (with_reducible refine Kd.C_alloc ?_ _) | (with_reducible refine Kd.C_drewN ?_ _) | (with_reducible refine Kd.C_drew ?_))); (case side4 => exact HC1.out); rintro e w27 ⟨rfl, hb⟩; refine ⟨_, rfl, ?_⟩; have n0_ := Aside0.mk (below_step (by repeat (first | (with_reducible first | exact HB.out | apply below_alloc | apply pw_below_drewN | apply below_drew1) | exact HB.out)) hb); clear HB; have HB := n0_; clear n0_; (try clear hb); (try clear hb2); (try clear hk); (try clear hi)) | ((with_reducible refine gate_callee (f := 40) rfl ?_); refine goesL_ (some 81) rfl rfl Try.func40 (by kernel_rfl) rfl #[.slice A0 l0.length c0, .slice A1 l1.length c1, .int .i64 a2] rfl (by (try simp only [List.map_toArray, List.map_cons, List.map_nil]); first | done | rfl | (simp only [List.length_drop, List.length_take]; rfl)) ?_; (with_reducible refine (Hand.sTouched.calls _ _ l0 _ _ l1 a2 t195 t198 _ ?side1 ?side2 ?side3 ?side4 A21.out).mono ?_); (case side1 => repeat (first | exact (Kd.C_below HR0.out HB.out) | (with_reducible refine Kd.C_alloc ?_ _) | (with_reducible refine Kd.C_drewN ?_ _) | (with_reducible refine Kd.C_drew ?_))); (case side2 => exact HC0.out); (case side3 => repeat (first | exact (Kd.C_below HR1.out HB.out) | (with_reducible refine Kd.C_alloc ?_ _) | (with_reducible refine Kd.C_drewN ?_ _) | (with_reducible refine Kd.C_drew ?_))); (case side4 => exact HC1.out); rintro e w28 ⟨v196, rfl, ho0, hb⟩; refine ⟨_, rfl, ?_⟩; have n0_ := Aside0.mk (Kd.V_lower (Kd.V_mono (ok' := fun k_ => True) ho0 (fun k_ hk_ => trivial)) (below_size (by repeat (first | (with_reducible first | exact HB.out | apply below_alloc | apply pw_below_drewN | apply below_drew1) | exact HB.out)))); have n1_ := Aside0.mk (below_step (by repeat (first | (with_reducible first | exact HB.out | apply below_alloc | apply pw_below_drewN | apply below_drew1) | exact HB.out)) hb); clear HB; have HO197 := n0_; have HB := n1_; clear n0_ n1_; (try clear hb); (try clear hb2); (try clear hk); (try clear hi); (try clear ho0)) | ((with_reducible refine gate_callee (f := 41) rfl ?_); refine goesL_ (some 88) rfl rfl Try.func41 (by kernel_rfl) rfl #[.slice A0 l0.length c0, .slice A1 l1.length c1, .int .i64 a2] rfl (by (try simp only [List.map_toArray, List.map_cons, List.map_nil]); first | done | rfl | (simp only [List.length_drop, List.length_take]; rfl)) ?_; (with_reducible refine (r02_Touched.calls kj10 _ _ l0 _ _ l1 a2 t199 t200 _ ?side1 ?side2 ?side3 ?side4 A22.out).mono ?_); (case side1 => repeat (first | exact (Kd.C_below HR0.out HB.out) | (with_reducible refine Kd.C_alloc ?_ _) | (with_reducible refine Kd.C_drewN ?_ _) | (with_reducible refine Kd.C_drew ?_))); (case side2 => exact HC0.out); (case side3 => repeat (first | exact (Kd.C_below HR1.out HB.out) | (with_reducible refine Kd.C_alloc ?_ _) | (with_reducible refine Kd.C_drewN ?_ _) | (with_reducible refine Kd.C_drew ?_))); (case side4 => exact HC1.out); rintro e w29 ⟨v201, rfl, ho0, hb⟩; refine ⟨_, rfl, ?_⟩; have n0_ := Aside0.mk (Kd.V_elder' (by (with_reducible repeat (first | apply Kd.V_alloc | apply Kd.V_drewN | apply Kd.V_drew)); exact HO197.out) (Kd.R_base ho0) hb); have n1_ := Aside0.mk (Kd.R_lower ho0 (below_size (by repeat (first | (with_reducible first | exact HB.out | apply below_alloc | apply pw_below_drewN | apply below_drew1) | exact HB.out)))); have n2_ := Aside0.mk (below_step (by repeat (first | (with_reducible first | exact HB.out | apply below_alloc | apply pw_below_drewN | apply below_drew1) | exact HB.out)) hb); clear HO197; clear HB; have HO197 := n0_; have HO202 := n1_; have HB := n2_; clear n0_ n1_ n2_; (try clear hb); (try clear hb2); (try clear hk); (try clear hi); (try clear ho0)))
              (try simp only [Act.put, List.setIfInBounds_toArray, List.set_cons_zero, List.set_cons_succ])
              go_cut [119] (fun zv119 wc => ∃ (kq : Nat) (x119_22 : Bool), zv119 = .bool x119_22 ∧ Aside0 (w02_SegShares.j2 kq l0 l1 a2 x119_22 = some r) ∧ Aside0 (kq ≤ kj10) ∧ Aside0 (Below w.heap.size w wc))
              case first =>
                have H := HC23.out
                clear HC23
                by_cases c30 : t187 = t189
                · rw [if_pos c30] at H
                  have c30b0 : (t187 == t189) = true := beq_iff_eq.mpr c30
                  have c30b1 : (t187 != t189) = false := bne_eq_false_iff_eq.mpr c30
                  clear c30
                  (first | rw [c30b0] | (simp only [i64_w, i32_w]; rw [c30b0]) | skip)
                  by_cases c31 : t188 = t190
                  · rw [if_pos c31] at H
                    have c31b0 : (t188 == t190) = true := beq_iff_eq.mpr c31
                    have c31b1 : (t188 != t190) = false := bne_eq_false_iff_eq.mpr c31
                    clear c31
                    by_cases c32 : t191 = t193
                    · rw [if_pos c32] at H
                      have c32b0 : (t191 == t193) = true := beq_iff_eq.mpr c32
                      have c32b1 : (t191 != t193) = false := bne_eq_false_iff_eq.mpr c32
                      clear c32
                      by_cases c33 : t192 = t194
                      · rw [if_pos c33] at H
                        have c33b0 : (t192 == t194) = true := beq_iff_eq.mpr c33
                        have c33b1 : (t192 != t194) = false := bne_eq_false_iff_eq.mpr c33
                        clear c33
                        replace H := Option.bind_eq_some_iff.mp H
                        obtain ⟨t203, A340, H⟩ := H
                        replace H : (if t203 = true then (w02_SegShares.j2 kj10 l0 l1 a2 (t198 != t200)) else (w02_SegShares.j2 kj10 l0 l1 a2 true)) = some r := H
                        have A34 := Aside0.mk A340
                        clear A340
                        by_cases c35 : t203 = true
                        · subst c35
                          have H1 : (w02_SegShares.j2 kj10 l0 l1 a2 (t198 != t200)) = some r := by rw [if_pos rfl] at H; exact H
                          clear H
                          have H := H1
                          clear H1
                          have H' := Aside0.mk H
                          clear H
                          obtain ⟨Ao36, co36, eo36⟩ := Kd.V_slice HO197.out
                          subst eo36
                          obtain ⟨Ao37, co37, eo37⟩ := Kd.R_slice HO202.out
                          subst eo37
                          go_wp2_with (first | (go_at_call 42; (with_reducible refine (w02_same.calls kj10 _ _ t195 _ _ t199 true _ ?side1 ?side2 ?side3 ?side4 A34.out).mono ?_); (case side1 => repeat (first | exact (Kd.V_reads' HO197.out).2.2 | (with_reducible refine Kd.C_alloc ?_ _) | (with_reducible refine Kd.C_drewN ?_ _) | (with_reducible refine Kd.C_drew ?_))); (case side2 => exact (Kd.V_reads' HO197.out).2.1); (case side3 => repeat (first | exact (Kd.R_reads' HO202.out).2.2 | (with_reducible refine Kd.C_alloc ?_ _) | (with_reducible refine Kd.C_drewN ?_ _) | (with_reducible refine Kd.C_drew ?_))); (case side4 => exact (Kd.R_reads' HO202.out).2.1); rintro e w' ⟨rfl, ⟨nd, rfl⟩⟩))
                          go_meet
                          case rel => exact ⟨_, ((t198 != t200)), (by first | rfl | (simp; done) | (simp [*]; done)), H', ⟨by have := HJ3.out; have := HJ10.out; first | omega | exact Nat.le_refl _⟩, ⟨by repeat (first | (with_reducible first | exact HB.out | apply below_alloc | apply pw_below_drewN | apply below_drew1) | exact HB.out)⟩⟩
                        · replace c35 := Bool.eq_false_iff.mpr c35
                          subst c35
                          have H1 : (w02_SegShares.j2 kj10 l0 l1 a2 true) = some r := by rw [if_neg (show ¬ (false = true) by decide)] at H; exact H
                          exact absurd H1 (by first | (rw [w02_SegShares.j2_true]; simp))
                      · rw [if_neg c33] at H
                        exact absurd H (by first | (rw [w02_SegShares.j2_true]; simp))
                    · rw [if_neg c32] at H
                      exact absurd H (by first | (rw [w02_SegShares.j2_true]; simp))
                  · rw [if_neg c31] at H
                    exact absurd H (by first | (rw [w02_SegShares.j2_true]; simp))
                · rw [if_neg c30] at H
                  exact absurd H (by first | (rw [w02_SegShares.j2_true]; simp))
              case rest =>
                clear HC23
                try clear c1
                try clear c2
                try clear p2
                try clear c3
                try clear c4
                try clear c6
                try clear c7
                try clear c13
                try clear c13b0
                try clear c13b1
                try clear c14
                try clear c23
                try clear c30
                try clear c30b0
                try clear c30b1
                try clear c31
                try clear c31b0
                try clear c31b1
                try clear c32
                try clear c32b0
                try clear c32b1
                try clear c33
                try clear c33b0
                try clear c33b1
                try clear c35
                try clear c36
                try clear c37
                try clear c38
                try clear c39
                try clear p2
                obtain ⟨kq, x119_22, rfl, HA, HJ22, HB⟩ := hcut
                cases kq with
                | zero => exact absurd HA.out (by simp [w02_SegShares.j2])
                | succ kj22 =>
                  have H := HA.out
                  clear HA
                  simp only [w02_SegShares.j2] at H
                  by_cases c40 : x119_22 = true
                  · subst c40
                    have H1 : (none) = some r := by rw [if_pos rfl] at H; exact H
                    clear H
                    have H := H1
                    clear H1
                    exact absurd H (by simp)
                  · replace c40 := Bool.eq_false_iff.mpr c40
                    subst c40
                    have H1 : ((Hand.rPlaces.f l0 l1 a2).bind fun bt204 => ((r02_Places.f kj22 l0 l1 a2).bind fun bt208 => ((Hand.rCompact.f l0 l1 a2).bind fun bt212 => ((r02_Compact.f kj22 l0 l1 a2).bind fun bt219 => ((Hand.Eq_.f bt204.1 bt208.1).bind fun t226 => (if t226 = true then (if bt204.2 = bt208.2 then ((Hand.Eq_.f bt212.1 bt219.1).bind fun t227 => (if t227 = true then ((Hand.Eq_.f bt212.2.1 bt219.2.1).bind fun t228 => (if t228 = true then (if bt212.2.2 = bt219.2.2 then ((Hand.law_cut.f).bind fun t229 => (some t229)) else (none)) else (none))) else (none))) else (none)) else (none))))))) = some r := by rw [if_neg (show ¬ (false = true) by decide)] at H; exact H
                    clear H
                    have H := H1
                    clear H1
                    replace H := Option.bind_eq_some_iff.mp H
                    obtain ⟨⟨t204, t207⟩, A410, H⟩ := H
                    replace H : ((r02_Places.f kj22 l0 l1 a2).bind fun bt208 => ((Hand.rCompact.f l0 l1 a2).bind fun bt212 => ((r02_Compact.f kj22 l0 l1 a2).bind fun bt219 => ((Hand.Eq_.f t204 bt208.1).bind fun t226 => (if t226 = true then (if t207 = bt208.2 then ((Hand.Eq_.f bt212.1 bt219.1).bind fun t227 => (if t227 = true then ((Hand.Eq_.f bt212.2.1 bt219.2.1).bind fun t228 => (if t228 = true then (if bt212.2.2 = bt219.2.2 then ((Hand.law_cut.f).bind fun t229 => (some t229)) else (none)) else (none))) else (none))) else (none)) else (none)))))) = some r := H
                    have A41 := Aside0.mk A410
                    clear A410
                    replace H := Option.bind_eq_some_iff.mp H
                    obtain ⟨⟨t208, t209⟩, A420, H⟩ := H
                    replace H : ((Hand.rCompact.f l0 l1 a2).bind fun bt212 => ((r02_Compact.f kj22 l0 l1 a2).bind fun bt219 => ((Hand.Eq_.f t204 t208).bind fun t226 => (if t226 = true then (if t207 = t209 then ((Hand.Eq_.f bt212.1 bt219.1).bind fun t227 => (if t227 = true then ((Hand.Eq_.f bt212.2.1 bt219.2.1).bind fun t228 => (if t228 = true then (if bt212.2.2 = bt219.2.2 then ((Hand.law_cut.f).bind fun t229 => (some t229)) else (none)) else (none))) else (none))) else (none)) else (none))))) = some r := H
                    have A42 := Aside0.mk A420
                    clear A420
                    replace H := Option.bind_eq_some_iff.mp H
                    obtain ⟨⟨t212, t215, t218⟩, A430, H⟩ := H
                    replace H : ((r02_Compact.f kj22 l0 l1 a2).bind fun bt219 => ((Hand.Eq_.f t204 t208).bind fun t226 => (if t226 = true then (if t207 = t209 then ((Hand.Eq_.f t212 bt219.1).bind fun t227 => (if t227 = true then ((Hand.Eq_.f t215 bt219.2.1).bind fun t228 => (if t228 = true then (if t218 = bt219.2.2 then ((Hand.law_cut.f).bind fun t229 => (some t229)) else (none)) else (none))) else (none))) else (none)) else (none)))) = some r := H
                    have A43 := Aside0.mk A430
                    clear A430
                    replace H := Option.bind_eq_some_iff.mp H
                    obtain ⟨⟨t219, t220, t221⟩, A440, H⟩ := H
                    replace H : ((Hand.Eq_.f t204 t208).bind fun t226 => (if t226 = true then (if t207 = t209 then ((Hand.Eq_.f t212 t219).bind fun t227 => (if t227 = true then ((Hand.Eq_.f t215 t220).bind fun t228 => (if t228 = true then (if t218 = t221 then ((Hand.law_cut.f).bind fun t229 => (some t229)) else (none)) else (none))) else (none))) else (none)) else (none))) = some r := H
                    have A44 := Aside0.mk A440
                    clear A440
                    replace H := Option.bind_eq_some_iff.mp H
                    obtain ⟨t226, A450, H⟩ := H
                    replace H : (if t226 = true then (if t207 = t209 then ((Hand.Eq_.f t212 t219).bind fun t227 => (if t227 = true then ((Hand.Eq_.f t215 t220).bind fun t228 => (if t228 = true then (if t218 = t221 then ((Hand.law_cut.f).bind fun t229 => (some t229)) else (none)) else (none))) else (none))) else (none)) else (none)) = some r := H
                    have A45 := Aside0.mk A450
                    clear A450
                    by_cases c46 : t226 = true
                    · subst c46
                      have H1 : (if t207 = t209 then ((Hand.Eq_.f t212 t219).bind fun t227 => (if t227 = true then ((Hand.Eq_.f t215 t220).bind fun t228 => (if t228 = true then (if t218 = t221 then ((Hand.law_cut.f).bind fun t229 => (some t229)) else (none)) else (none))) else (none))) else (none)) = some r := by rw [if_pos rfl] at H; exact H
                      clear H
                      have H := H1
                      clear H1
                      by_cases c47 : t207 = t209
                      · rw [if_pos c47] at H
                        have c47b0 : (t207 == t209) = true := beq_iff_eq.mpr c47
                        have c47b1 : (t207 != t209) = false := bne_eq_false_iff_eq.mpr c47
                        clear c47
                        replace H := Option.bind_eq_some_iff.mp H
                        obtain ⟨t227, A480, H⟩ := H
                        replace H : (if t227 = true then ((Hand.Eq_.f t215 t220).bind fun t228 => (if t228 = true then (if t218 = t221 then ((Hand.law_cut.f).bind fun t229 => (some t229)) else (none)) else (none))) else (none)) = some r := H
                        have A48 := Aside0.mk A480
                        clear A480
                        by_cases c49 : t227 = true
                        · subst c49
                          have H1 : ((Hand.Eq_.f t215 t220).bind fun t228 => (if t228 = true then (if t218 = t221 then ((Hand.law_cut.f).bind fun t229 => (some t229)) else (none)) else (none))) = some r := by rw [if_pos rfl] at H; exact H
                          clear H
                          have H := H1
                          clear H1
                          replace H := Option.bind_eq_some_iff.mp H
                          obtain ⟨t228, A500, H⟩ := H
                          replace H : (if t228 = true then (if t218 = t221 then ((Hand.law_cut.f).bind fun t229 => (some t229)) else (none)) else (none)) = some r := H
                          have A50 := Aside0.mk A500
                          clear A500
                          by_cases c51 : t228 = true
                          · subst c51
                            have H1 : (if t218 = t221 then ((Hand.law_cut.f).bind fun t229 => (some t229)) else (none)) = some r := by rw [if_pos rfl] at H; exact H
                            clear H
                            have H := H1
                            clear H1
                            by_cases c52 : t218 = t221
                            · rw [if_pos c52] at H
                              have c52b0 : (t218 == t221) = true := beq_iff_eq.mpr c52
                              have c52b1 : (t218 != t221) = false := bne_eq_false_iff_eq.mpr c52
                              clear c52
                              replace H := Option.bind_eq_some_iff.mp H
                              obtain ⟨t229, A530, H⟩ := H
                              replace H : (some t229) = some r := H
                              have A53 := Aside0.mk A530
                              clear A530
                              obtain rfl := Option.some.inj H
                              go_wp2_with (first | ((with_reducible refine gate_callee (f := 43) rfl ?_); refine goesL_ (some 124) rfl rfl Try.func43 (by kernel_rfl) rfl #[.slice A0 l0.length c0, .slice A1 l1.length c1, .int .i64 a2] rfl (by (try simp only [List.map_toArray, List.map_cons, List.map_nil]); first | done | rfl | (simp only [List.length_drop, List.length_take]; rfl)) ?_; (with_reducible refine (Hand.rPlaces.calls _ _ l0 _ _ l1 a2 t204 t207 _ ?side1 ?side2 ?side3 ?side4 A41.out).mono ?_); (case side1 => repeat (first | exact (Kd.C_below HR0.out HB.out) | (with_reducible refine Kd.C_alloc ?_ _) | (with_reducible refine Kd.C_drewN ?_ _) | (with_reducible refine Kd.C_drew ?_))); (case side2 => exact HC0.out); (case side3 => repeat (first | exact (Kd.C_below HR1.out HB.out) | (with_reducible refine Kd.C_alloc ?_ _) | (with_reducible refine Kd.C_drewN ?_ _) | (with_reducible refine Kd.C_drew ?_))); (case side4 => exact HC1.out); rintro e w54 ⟨v205, rfl, ho0, hb⟩; refine ⟨_, rfl, ?_⟩; have n0_ := Aside0.mk (Kd.V_lower (Kd.V_mono (ok' := fun k_ => True) ho0 (fun k_ hk_ => trivial)) (below_size (by repeat (first | (with_reducible first | exact HB.out | apply below_alloc | apply pw_below_drewN | apply below_drew1) | exact HB.out)))); have n1_ := Aside0.mk (below_step (by repeat (first | (with_reducible first | exact HB.out | apply below_alloc | apply pw_below_drewN | apply below_drew1) | exact HB.out)) hb); clear HB; have HO206 := n0_; have HB := n1_; clear n0_ n1_; (try clear hb); (try clear hb2); (try clear hk); (try clear hi); (try clear ho0)) | ((with_reducible refine gate_callee (f := 44) rfl ?_); refine goesL_ (some 131) rfl rfl Try.func44 (by kernel_rfl) rfl #[.slice A0 l0.length c0, .slice A1 l1.length c1, .int .i64 a2] rfl (by (try simp only [List.map_toArray, List.map_cons, List.map_nil]); first | done | rfl | (simp only [List.length_drop, List.length_take]; rfl)) ?_; (with_reducible refine (r02_Places.calls kj22 _ _ l0 _ _ l1 a2 t208 t209 _ ?side1 ?side2 ?side3 ?side4 A42.out).mono ?_); (case side1 => repeat (first | exact (Kd.C_below HR0.out HB.out) | (with_reducible refine Kd.C_alloc ?_ _) | (with_reducible refine Kd.C_drewN ?_ _) | (with_reducible refine Kd.C_drew ?_))); (case side2 => exact HC0.out); (case side3 => repeat (first | exact (Kd.C_below HR1.out HB.out) | (with_reducible refine Kd.C_alloc ?_ _) | (with_reducible refine Kd.C_drewN ?_ _) | (with_reducible refine Kd.C_drew ?_))); (case side4 => exact HC1.out); rintro e w55 ⟨v210, rfl, ho0, hb⟩; refine ⟨_, rfl, ?_⟩; have n0_ := Aside0.mk (Kd.V_elder' (by (with_reducible repeat (first | apply Kd.V_alloc | apply Kd.V_drewN | apply Kd.V_drew)); exact HO206.out) (Kd.R_base ho0) hb); have n1_ := Aside0.mk (Kd.R_lower ho0 (below_size (by repeat (first | (with_reducible first | exact HB.out | apply below_alloc | apply pw_below_drewN | apply below_drew1) | exact HB.out)))); have n2_ := Aside0.mk (below_step (by repeat (first | (with_reducible first | exact HB.out | apply below_alloc | apply pw_below_drewN | apply below_drew1) | exact HB.out)) hb); clear HO206; clear HB; have HO206 := n0_; have HO211 := n1_; have HB := n2_; clear n0_ n1_ n2_; (try clear hb); (try clear hb2); (try clear hk); (try clear hi); (try clear ho0)) | ((with_reducible refine gate_callee (f := 45) rfl ?_); refine goesL_ (some 138) rfl rfl Try.func45 (by kernel_rfl) rfl #[.slice A0 l0.length c0, .slice A1 l1.length c1, .int .i64 a2] rfl (by (try simp only [List.map_toArray, List.map_cons, List.map_nil]); first | done | rfl | (simp only [List.length_drop, List.length_take]; rfl)) ?_; (with_reducible refine (Hand.rCompact.calls _ _ l0 _ _ l1 a2 t212 t215 t218 _ ?side1 ?side2 ?side3 ?side4 A43.out).mono ?_); (case side1 => repeat (first | exact (Kd.C_below HR0.out HB.out) | (with_reducible refine Kd.C_alloc ?_ _) | (with_reducible refine Kd.C_drewN ?_ _) | (with_reducible refine Kd.C_drew ?_))); (case side2 => exact HC0.out); (case side3 => repeat (first | exact (Kd.C_below HR1.out HB.out) | (with_reducible refine Kd.C_alloc ?_ _) | (with_reducible refine Kd.C_drewN ?_ _) | (with_reducible refine Kd.C_drew ?_))); (case side4 => exact HC1.out); rintro e w56 ⟨v213, v216, rfl, ho0, ho1, hb⟩; refine ⟨_, rfl, ?_⟩; have n0_ := Aside0.mk (Kd.V_below (by (with_reducible repeat (first | apply Kd.V_alloc | apply Kd.V_drewN | apply Kd.V_drew)); exact HO206.out) hb); have n1_ := Aside0.mk (Kd.R_below (by (with_reducible repeat (first | apply Kd.R_alloc | apply Kd.R_drewN | apply Kd.R_drew)); exact HO211.out) hb); have n2_ := Aside0.mk (Kd.V_lower (Kd.V_mono (ok' := fun k_ => some k_ ≠ (v210 : Value).ownBlock) ho0 (fun k_ hk_ => (Kd.fresh' (Kd.R_lt (by (with_reducible repeat (first | apply Kd.R_alloc | apply Kd.R_drewN | apply Kd.R_drew)); exact HO211.out)) k_ hk_))) (below_size (by repeat (first | (with_reducible first | exact HB.out | apply below_alloc | apply pw_below_drewN | apply below_drew1) | exact HB.out)))); have n3_ := Aside0.mk (Kd.V_lower (Kd.V_mono (ok' := fun k_ => some k_ ≠ (v210 : Value).ownBlock) ho1 (fun k_ hk_ => (Kd.fresh' (Kd.R_lt (by (with_reducible repeat (first | apply Kd.R_alloc | apply Kd.R_drewN | apply Kd.R_drew)); exact HO211.out)) k_ hk_))) (below_size (by repeat (first | (with_reducible first | exact HB.out | apply below_alloc | apply pw_below_drewN | apply below_drew1) | exact HB.out)))); have n4_ := Aside0.mk (below_step (by repeat (first | (with_reducible first | exact HB.out | apply below_alloc | apply pw_below_drewN | apply below_drew1) | exact HB.out)) hb); clear HO206; clear HO211; clear HB; have HO206 := n0_; have HO211 := n1_; have HO214 := n2_; have HO217 := n3_; have HB := n4_; clear n0_ n1_ n2_ n3_ n4_; (try clear hb); (try clear hb2); (try clear hk); (try clear hi); (try clear ho0); (try clear ho1)) | ((with_reducible refine gate_callee (f := 46) rfl ?_); refine goesL_ (some 146) rfl rfl Try.func46 (by kernel_rfl) rfl #[.slice A0 l0.length c0, .slice A1 l1.length c1, .int .i64 a2] rfl (by (try simp only [List.map_toArray, List.map_cons, List.map_nil]); first | done | rfl | (simp only [List.length_drop, List.length_take]; rfl)) ?_; (with_reducible refine (r02_Compact.calls kj22 _ _ l0 _ _ l1 a2 t219 t220 t221 _ ?side1 ?side2 ?side3 ?side4 A44.out).mono ?_); (case side1 => repeat (first | exact (Kd.C_below HR0.out HB.out) | (with_reducible refine Kd.C_alloc ?_ _) | (with_reducible refine Kd.C_drewN ?_ _) | (with_reducible refine Kd.C_drew ?_))); (case side2 => exact HC0.out); (case side3 => repeat (first | exact (Kd.C_below HR1.out HB.out) | (with_reducible refine Kd.C_alloc ?_ _) | (with_reducible refine Kd.C_drewN ?_ _) | (with_reducible refine Kd.C_drew ?_))); (case side4 => exact HC1.out); rintro e w57 ⟨v222, v224, rfl, ho0, ho1, hb⟩; refine ⟨_, rfl, ?_⟩; have n0_ := Aside0.mk (Kd.V_mono (Kd.V_told (Kd.V_told (Kd.V_old (by (with_reducible repeat (first | apply Kd.V_alloc | apply Kd.V_drewN | apply Kd.V_drew)); exact HO206.out) hb) (Kd.R_base ho0)) (Kd.R_base ho1)) (fun _ h_ => h_.1)); have n1_ := Aside0.mk (Kd.R_mono (Kd.R_told (Kd.R_told (Kd.R_old (by (with_reducible repeat (first | apply Kd.R_alloc | apply Kd.R_drewN | apply Kd.R_drew)); exact HO211.out) hb) (Kd.R_base ho0)) (Kd.R_base ho1)) (fun _ h_ => h_.1)); have n2_ := Aside0.mk (Kd.V_mono (Kd.V_told (Kd.V_told (Kd.V_old (by (with_reducible repeat (first | apply Kd.V_alloc | apply Kd.V_drewN | apply Kd.V_drew)); exact HO214.out) hb) (Kd.R_base ho0)) (Kd.R_base ho1)) (fun _ h_ => h_.1)); have n3_ := Aside0.mk (Kd.V_mono (Kd.V_told (Kd.V_told (Kd.V_old (by (with_reducible repeat (first | apply Kd.V_alloc | apply Kd.V_drewN | apply Kd.V_drew)); exact HO217.out) hb) (Kd.R_base ho0)) (Kd.R_base ho1)) (fun _ h_ => h_.1)); have n4_ := Aside0.mk (Kd.R_lower (Kd.R_new' ho0 (Kd.R_lt (by (with_reducible repeat (first | apply Kd.R_alloc | apply Kd.R_drewN | apply Kd.R_drew)); exact HO211.out))) (below_size (by repeat (first | (with_reducible first | exact HB.out | apply below_alloc | apply pw_below_drewN | apply below_drew1) | exact HB.out)))); have n5_ := Aside0.mk (Kd.R_lower (Kd.R_new' ho1 (Kd.R_lt (by (with_reducible repeat (first | apply Kd.R_alloc | apply Kd.R_drewN | apply Kd.R_drew)); exact HO211.out))) (below_size (by repeat (first | (with_reducible first | exact HB.out | apply below_alloc | apply pw_below_drewN | apply below_drew1) | exact HB.out)))); have n6_ := Aside0.mk (below_step (by repeat (first | (with_reducible first | exact HB.out | apply below_alloc | apply pw_below_drewN | apply below_drew1) | exact HB.out)) hb); clear HO206; clear HO211; clear HO214; clear HO217; clear HB; have HO206 := n0_; have HO211 := n1_; have HO214 := n2_; have HO217 := n3_; have HO223 := n4_; have HO225 := n5_; have HB := n6_; clear n0_ n1_ n2_ n3_ n4_ n5_ n6_; (try clear hb); (try clear hb2); (try clear hk); (try clear hi); (try clear ho0); (try clear ho1); obtain ⟨Ao58, co58, eo58⟩ := Kd.V_slice HO206.out; subst eo58; obtain ⟨Ao59, co59, eo59⟩ := Kd.R_slice HO211.out; subst eo59) | ((with_reducible refine gate_callee (f := 22) rfl ?_); refine goesL_ (some 152) rfl rfl Try.func22 (by kernel_rfl) rfl #[.slice Ao58 t204.length co58, .slice Ao59 t208.length co59] rfl (by (try simp only [List.map_toArray, List.map_cons, List.map_nil]); first | done | rfl | (simp only [List.length_drop, List.length_take]; rfl)) ?_; (with_reducible refine (Hand.Eq_.calls _ _ t204 _ _ t208 true _ ?side1 ?side2 ?side3 ?side4 A45.out).mono ?_); (case side1 => repeat (first | exact (Kd.V_reads' HO206.out).2.2 | (with_reducible refine Kd.C_alloc ?_ _) | (with_reducible refine Kd.C_drewN ?_ _) | (with_reducible refine Kd.C_drew ?_))); (case side2 => exact (Kd.V_reads' HO206.out).2.1); (case side3 => repeat (first | exact (Kd.R_reads' HO211.out).2.2 | (with_reducible refine Kd.C_alloc ?_ _) | (with_reducible refine Kd.C_drewN ?_ _) | (with_reducible refine Kd.C_drew ?_))); (case side4 => exact (Kd.R_reads' HO211.out).2.1); rintro e w' ⟨rfl, ⟨nd, rfl⟩⟩; refine ⟨_, rfl, ?_⟩; obtain ⟨Ao60, co60, eo60⟩ := Kd.V_slice HO214.out; subst eo60; obtain ⟨Ao61, co61, eo61⟩ := Kd.R_slice HO223.out; subst eo61) | (go_at_call 22; (with_reducible refine (Hand.Eq_.calls _ _ t212 _ _ t219 true _ ?side1 ?side2 ?side3 ?side4 A48.out).mono ?_); (case side1 => repeat (first | exact (Kd.V_reads' HO214.out).2.2 | (with_reducible refine Kd.C_alloc ?_ _) | (with_reducible refine Kd.C_drewN ?_ _) | (with_reducible refine Kd.C_drew ?_))); (case side2 => exact (Kd.V_reads' HO214.out).2.1); (case side3 => repeat (first | exact (Kd.R_reads' HO223.out).2.2 | (with_reducible refine Kd.C_alloc ?_ _) | (with_reducible refine Kd.C_drewN ?_ _) | (with_reducible refine Kd.C_drew ?_))); (case side4 => exact (Kd.R_reads' HO223.out).2.1); rintro e w' ⟨rfl, ⟨nd, rfl⟩⟩; obtain ⟨Ao62, co62, eo62⟩ := Kd.V_slice HO217.out; subst eo62; obtain ⟨Ao63, co63, eo63⟩ := Kd.R_slice HO225.out; subst eo63) | (go_at_call 22; (with_reducible refine (Hand.Eq_.calls _ _ t215 _ _ t220 true _ ?side1 ?side2 ?side3 ?side4 A50.out).mono ?_); (case side1 => repeat (first | exact (Kd.V_reads' HO217.out).2.2 | (with_reducible refine Kd.C_alloc ?_ _) | (with_reducible refine Kd.C_drewN ?_ _) | (with_reducible refine Kd.C_drew ?_))); (case side2 => exact (Kd.V_reads' HO217.out).2.1); (case side3 => repeat (first | exact (Kd.R_reads' HO225.out).2.2 | (with_reducible refine Kd.C_alloc ?_ _) | (with_reducible refine Kd.C_drewN ?_ _) | (with_reducible refine Kd.C_drew ?_))); (case side4 => exact (Kd.R_reads' HO225.out).2.1); rintro e w' ⟨rfl, ⟨nd, rfl⟩⟩) | (go_at_call 13; (with_reducible refine (Hand.law_cut.calls  t229 _ A53.out).mono ?_); rintro e w64 ⟨rfl, hb⟩; have n0_ := Aside0.mk (Kd.V_below (by (with_reducible repeat (first | apply Kd.V_alloc | apply Kd.V_drewN | apply Kd.V_drew)); exact HO206.out) hb); have n1_ := Aside0.mk (Kd.R_below (by (with_reducible repeat (first | apply Kd.R_alloc | apply Kd.R_drewN | apply Kd.R_drew)); exact HO211.out) hb); have n2_ := Aside0.mk (Kd.V_below (by (with_reducible repeat (first | apply Kd.V_alloc | apply Kd.V_drewN | apply Kd.V_drew)); exact HO214.out) hb); have n3_ := Aside0.mk (Kd.V_below (by (with_reducible repeat (first | apply Kd.V_alloc | apply Kd.V_drewN | apply Kd.V_drew)); exact HO217.out) hb); have n4_ := Aside0.mk (Kd.R_below (by (with_reducible repeat (first | apply Kd.R_alloc | apply Kd.R_drewN | apply Kd.R_drew)); exact HO223.out) hb); have n5_ := Aside0.mk (Kd.R_below (by (with_reducible repeat (first | apply Kd.R_alloc | apply Kd.R_drewN | apply Kd.R_drew)); exact HO225.out) hb); have n6_ := Aside0.mk (below_step (by repeat (first | (with_reducible first | exact HB.out | apply below_alloc | apply pw_below_drewN | apply below_drew1) | exact HB.out)) hb); clear HO206; clear HO211; clear HO214; clear HO217; clear HO223; clear HO225; clear HB; have HO206 := n0_; have HO211 := n1_; have HO214 := n2_; have HO217 := n3_; have HO223 := n4_; have HO225 := n5_; have HB := n6_; clear n0_ n1_ n2_ n3_ n4_ n5_ n6_; (try clear hb); (try clear hb2); (try clear hk); (try clear hi)))
                              go_ret
                              exact ⟨by first | rfl | (simp [errW_none, errW_some] <;> rfl) | (simp [*, errW_none, errW_some] <;> rfl), by repeat (first | (with_reducible first | exact HB.out | apply below_alloc | apply pw_below_drewN | apply below_drew1) | exact HB.out)⟩
                            · rw [if_neg c52] at H
                              exact absurd H (by simp)
                          · replace c51 := Bool.eq_false_iff.mpr c51
                            subst c51
                            have H1 : (none) = some r := by rw [if_neg (show ¬ (false = true) by decide)] at H; exact H
                            clear H
                            have H := H1
                            clear H1
                            exact absurd H (by simp)
                        · replace c49 := Bool.eq_false_iff.mpr c49
                          subst c49
                          have H1 : (none) = some r := by rw [if_neg (show ¬ (false = true) by decide)] at H; exact H
                          clear H
                          have H := H1
                          clear H1
                          exact absurd H (by simp)
                      · rw [if_neg c47] at H
                        exact absurd H (by simp)
                    · replace c46 := Bool.eq_false_iff.mpr c46
                      subst c46
                      have H1 : (none) = some r := by rw [if_neg (show ¬ (false = true) by decide)] at H; exact H
                      clear H
                      have H := H1
                      clear H1
                      exact absurd H (by simp)

/-- THE ONE PURE STATEMENT of w02_SegShares: yours. -/
def w02_SegShares.Pure : Prop := ∀ (l0 : List Int) (l1 : List Int) (a2 : Int), l0.length ≤ maxLen → l0.length * 8 ≤ 140737488351232 → (∀ x ∈ l0, (Lit.int .i64 x).wf = true) → l1.length ≤ maxLen → l1.length * 8 ≤ 140737488351232 → (∀ x ∈ l1, (Lit.int .i64 x).wf = true) → (Lit.int .i64 a2).wf = true → ∃ k, w02_SegShares.f k l0 l1 a2 = some true
theorem w02_SegShares.walk (P : w02_SegShares.Pure) (a0 : Option Addr) (len0 cap0 : Nat) (z0 : List Int) (a1 : Option Addr) (len1 cap1 : Nat) (z1 : List Int) (a2 : Int) (w : World) (w0 : (a0 = none ∧ len0 = 0 ∧ cap0 = 0 ∧ z0 = []) ∨ ∃ x, a0 = some x ∧ len0 ≤ cap0 ∧ cap0 ≤ maxLen ∧ z0.length = cap0 ∧ (∀ i, i < z0.length → w.cell? (x.add i) = some (.int .i64 (z0.getD i 0))) ∧ ∀ n ∈ z0, (Lit.int .i64 n).wf = true) (y0 : len0 * 8 ≤ 140737488351232) (w1 : (a1 = none ∧ len1 = 0 ∧ cap1 = 0 ∧ z1 = []) ∨ ∃ x, a1 = some x ∧ len1 ≤ cap1 ∧ cap1 ≤ maxLen ∧ z1.length = cap1 ∧ (∀ i, i < z1.length → w.cell? (x.add i) = some (.int .i64 (z1.getD i 0))) ∧ ∀ n ∈ z1, (Lit.int .i64 n).wf = true) (y1 : len1 * 8 ≤ 140737488351232) (w2 : (Lit.int .i64 a2).wf = true) :
    Calls Try.prog 6 #[.slice a0 len0 cap0, .slice a1 len1 cap1, .int .i64 a2] w fun e w' => e = .returned (.bool true) ∧ Below w.heap.size w w' := by
  obtain ⟨l0, rfl, hr0, hm0, hw0, hc0⟩ := ReadsInt.ofRowC w0
  obtain ⟨l1, rfl, hr1, hm1, hw1, hc1⟩ := ReadsInt.ofRowC w1
  obtain ⟨k, h⟩ := P l0 l1 a2 hm0 y0 hw0 hm1 y1 hw1 w2
  refine (w02_SegShares.calls k _ _ l0 _ _ l1 a2 true w (Kd.C_of_reads (d := (0 : Int)) (h1 := fun _ => rfl) hr0) hc0 (Kd.C_of_reads (d := (0 : Int)) (h1 := fun _ => rfl) hr1) hc1 h).mono ?_
  rintro e w' ⟨rfl, hd⟩
  exact ⟨rfl, hd⟩

end Go.Proofs.Ythalgcpohnknbaa.PSegShares
