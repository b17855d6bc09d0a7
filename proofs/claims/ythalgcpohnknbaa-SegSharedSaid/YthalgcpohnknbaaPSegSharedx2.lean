-- Text of this session's own program (wip/tools: mkprint.py, pr.py) over hand-proved contracts. Not trusted: Lean checks it.
import Derived.Test.YthalgcpohnknbaaPSegSharedx0
import Derived.Test.YthalgcpohnknbaaPSegSharedx1
namespace Go.Proofs.Ythalgcpohnknbaa.PSegShared
open Go.Proofs.Ythalgcpohnknbaa.Hand (S52 z52 k52 k52_open k52_openM k52_mk k52_mkM rd_T52 at_T52)
open Go.RowKit Go.Proofs.YthalgcpohnknbaaW.PrintWords Go.Proofs.YthalgcpohnknbaaW.PrintLast Go.Proofs.YthalgcpohnknbaaW.PrintMore
attribute [local go_sem] max2_int min2_int max_two min_two max_three min_three max_four min_four   -- for this text's walks alone
set_option linter.unusedVariables false
set_option linter.unusedSimpArgs false

/-! ### w02_SegShared: function 9 -/
mutual
def w02_SegShared.l0 : Nat → List Int → Int → List Int → List Int → Int → Option (Bool)
  | 0, _, _, _, _, _ => none
  | k + 1, x0, x1, x5, x6, x7 => if (wrap64 (x7 + 1)) < (x0.length : Int) then (w02_SegShared.j1 k x0 x1 x5 x6 x7 (decide (x7 < 60))) else (w02_SegShared.j1 k x0 x1 x5 x6 x7 false)
def w02_SegShared.j1 : Nat → List Int → Int → List Int → List Int → Int → Bool → Option (Bool)
  | 0, _, _, _, _, _, _ => none
  | k + 1, x0, x1, x5, x6, x7, x41 => if x41 = true then (if 0 ≤ x7 then (if x7 < (x0.length : Int) then ((r00_Turn.f (rd x0 x7) (wrap64 (x1 + 1))).bind fun t146 => (if x5.length < 17592186044416 then (if 0 ≤ (wrap64 (x7 + 1)) then (if (wrap64 (x7 + 1)) < (x0.length : Int) then ((r00_Turn.f (rd x0 (wrap64 (x7 + 1))) (wrap64 ((mn (wrap64 (x1 - t146)) 9) + 1))).bind fun t151 => (if x6.length < 17592186044416 then (w02_SegShared.l0 k x0 x1 (x5 ++ [t146]) (x6 ++ [t151]) (wrap64 (x7 + 2))) else (none))) else (none)) else (none)) else (none))) else (none)) else (none)) else ((Hand.rShared.f x5 x6 x1).bind fun bt155 => ((Hand.rPlaces.f x5 x6 x1).bind fun bt157 => ((Hand.rCompact.f x5 x6 x1).bind fun bt161 => ((Hand.rDepth.f x5 x6 x1).bind fun bt168 => ((Hand.sTouched.f x5 x6 x1).bind fun bt170 => (if bt155.2 = 0 then (if bt157.2 = 0 then (if bt161.2.2 = 0 then (if bt168.2 = 0 then (if bt170.2 = 0 then ((r00_Sum.f k x6).bind fun t174 => (if bt155.1 = t174 then (if (bt157.1.length : Int) = bt155.1 then (w02_SegShared.j2 k x6 bt155.1 bt157.1 bt161.1 bt161.2.1 bt168.1 bt170.1 ((bt161.1.length : Int) != (x6.length : Int))) else (w02_SegShared.j2 k x6 bt155.1 bt157.1 bt161.1 bt161.2.1 bt168.1 bt170.1 true)) else (w02_SegShared.j2 k x6 bt155.1 bt157.1 bt161.1 bt161.2.1 bt168.1 bt170.1 true))) else (w02_SegShared.j2 k x6 bt155.1 bt157.1 bt161.1 bt161.2.1 bt168.1 bt170.1 true)) else (w02_SegShared.j2 k x6 bt155.1 bt157.1 bt161.1 bt161.2.1 bt168.1 bt170.1 true)) else (w02_SegShared.j2 k x6 bt155.1 bt157.1 bt161.1 bt161.2.1 bt168.1 bt170.1 true)) else (w02_SegShared.j2 k x6 bt155.1 bt157.1 bt161.1 bt161.2.1 bt168.1 bt170.1 true)) else (w02_SegShared.j2 k x6 bt155.1 bt157.1 bt161.1 bt161.2.1 bt168.1 bt170.1 true)))))))
def w02_SegShared.j2 : Nat → List Int → Int → List Int → List Int → List Int → Int → List (S52) → Bool → Option (Bool)
  | 0, _, _, _, _, _, _, _, _ => none
  | k + 1, x6, x9, x11, x13, x14, x16, x18, x141 => if x141 = true then (none) else ((Hand.rPlaces.f x13 x6 (x14.length : Int)).bind fun bt175 => (if bt175.2 = 0 then (if (bt175.1.length : Int) = x9 then ((r00_Union.f k ([] : List Int) x11).bind fun t179 => ((Hand.Eq_.f t179 x14).bind fun t182 => (w02_SegShared.j3 k x9 x11 x14 x16 x18 bt175.1 (!t182)))) else (w02_SegShared.j3 k x9 x11 x14 x16 x18 bt175.1 true)) else (w02_SegShared.j3 k x9 x11 x14 x16 x18 bt175.1 true)))
def w02_SegShared.j3 : Nat → Int → List Int → List Int → Int → List (S52) → List Int → Bool → Option (Bool)
  | 0, _, _, _, _, _, _, _ => none
  | k + 1, x9, x11, x14, x16, x18, x20, x164 => if x164 = true then (none) else (w02_SegShared.l1 k x9 x11 x14 x16 x18 x20 0 0 0)
def w02_SegShared.l1 : Nat → Int → List Int → List Int → Int → List (S52) → List Int → Int → Int → Int → Option (Bool)
  | 0, _, _, _, _, _, _, _, _, _ => none
  | k + 1, x9, x11, x14, x16, x18, x20, x21, x22, x23 => if x23 < x9 then (if 0 ≤ x23 then (if x23 < (x20.length : Int) then ((r00_Lies.f (rd x20 x23) 0 (wrap64 ((x14.length : Int) - 1))).bind fun t184 => (if t184 = true then (if 0 ≤ (rd x20 x23) then (if (rd x20 x23) < (x14.length : Int) then (if x23 < (x11.length : Int) then (w02_SegShared.j5 k x9 x11 x14 x16 x18 x20 x21 x22 x23 ((rd x14 (rd x20 x23)) != (rd x11 x23))) else (none)) else (none)) else (none)) else (w02_SegShared.j5 k x9 x11 x14 x16 x18 x20 x21 x22 x23 true))) else (none)) else (none)) else (w02_SegShared.l3 k x14 x16 x18 x21 x22 (-1) 0)
def w02_SegShared.j5 : Nat → Int → List Int → List Int → Int → List (S52) → List Int → Int → Int → Int → Bool → Option (Bool)
  | 0, _, _, _, _, _, _, _, _, _, _ => none
  | k + 1, x9, x11, x14, x16, x18, x20, x21, x22, x23, x192 => if x192 = true then (none) else (w02_SegShared.l2 k x9 x11 x14 x16 x18 x20 x21 x22 x23 0 0)
def w02_SegShared.l2 : Nat → Int → List Int → List Int → Int → List (S52) → List Int → Int → Int → Int → Int → Int → Option (Bool)
  | 0, _, _, _, _, _, _, _, _, _, _, _ => none
  | k + 1, x9, x11, x14, x16, x18, x20, x21, x22, x23, x24, x25 => if x25 < x9 then (if 0 ≤ x25 then (if x25 < (x11.length : Int) then (if 0 ≤ x23 then (if x23 < (x11.length : Int) then (if (rd x11 x25) = (rd x11 x23) then (w02_SegShared.l2 k x9 x11 x14 x16 x18 x20 x21 x22 x23 (wrap64 (x24 + 1)) (wrap64 (x25 + 1))) else (w02_SegShared.l2 k x9 x11 x14 x16 x18 x20 x21 x22 x23 x24 (wrap64 (x25 + 1)))) else (none)) else (none)) else (none)) else (none)) else (w02_SegShared.l1 k x9 x11 x14 x16 x18 x20 (mx x21 x24) x22 (wrap64 (x23 + 1)))
def w02_SegShared.l3 : Nat → List Int → Int → List (S52) → Int → Int → Int → Int → Option (Bool)
  | 0, _, _, _, _, _, _, _ => none
  | k + 1, x14, x16, x18, x21, x22, x26, x27 => if x27 < (x18.length : Int) then (if 0 ≤ x27 then (if ((rd_T52 x18 x27).f0) ≤ x26 then (w02_SegShared.j8 k x14 x16 x18 x21 x22 x27 true) else ((r00_Lies.f ((rd_T52 x18 x27).f1) 1 (wrap64 ((x14.length : Int) - x22))).bind fun t193 => (w02_SegShared.j8 k x14 x16 x18 x21 x22 x27 (!t193)))) else (none)) else (if x22 = (x14.length : Int) then (if x16 = x21 then ((Hand.law_cut.f).bind fun t190 => (some t190)) else (none)) else (none))
def w02_SegShared.j8 : Nat → List Int → Int → List (S52) → Int → Int → Int → Bool → Option (Bool)
  | 0, _, _, _, _, _, _, _ => none
  | k + 1, x14, x16, x18, x21, x22, x27, x237 => if x237 = true then (none) else (w02_SegShared.l4 k x14 x16 x18 x21 x22 x27 0)
def w02_SegShared.l4 : Nat → List Int → Int → List (S52) → Int → Int → Int → Int → Option (Bool)
  | 0, _, _, _, _, _, _, _ => none
  | k + 1, x14, x16, x18, x21, x22, x27, x28 => if 0 ≤ x27 then (if x27 < (x18.length : Int) then (if x28 < ((rd_T52 x18 x27).f1) then (if 0 ≤ (wrap64 (x22 + x28)) then (if (wrap64 (x22 + x28)) < (x14.length : Int) then (if (rd x14 (wrap64 (x22 + x28))) = (wrap64 (((rd_T52 x18 x27).f0) + x28)) then (w02_SegShared.l4 k x14 x16 x18 x21 x22 x27 (wrap64 (x28 + 1))) else (none)) else (none)) else (none)) else (w02_SegShared.l3 k x14 x16 x18 x21 (wrap64 (x22 + ((rd_T52 x18 x27).f1))) (wrap64 (((rd_T52 x18 x27).f0) + ((rd_T52 x18 x27).f1))) (wrap64 (x27 + 1)))) else (none)) else (none)
end
def w02_SegShared.f (k : Nat) (l0 : List Int) (a1 : Int) : Option (Bool) := (r00_Turn.f a1 61).bind fun t138 => (w02_SegShared.l0 k l0 t138 (([] : List Int)) (([] : List Int)) 0)
theorem w02_SegShared.j2_true : ∀ (k : Nat) (y0 : List Int) (y1 : Int) (y2 : List Int) (y3 : List Int) (y4 : List Int) (y5 : Int) (y6 : List (S52)), w02_SegShared.j2 k y0 y1 y2 y3 y4 y5 y6 true = none := by
  intro k y0 y1 y2 y3 y4 y5 y6
  cases k <;> rfl
theorem w02_SegShared.j3_true : ∀ (k : Nat) (y0 : Int) (y1 : List Int) (y2 : List Int) (y3 : Int) (y4 : List (S52)) (y5 : List Int), w02_SegShared.j3 k y0 y1 y2 y3 y4 y5 true = none := by
  intro k y0 y1 y2 y3 y4 y5
  cases k <;> rfl
theorem w02_SegShared.j5_true : ∀ (k : Nat) (y0 : Int) (y1 : List Int) (y2 : List Int) (y3 : Int) (y4 : List (S52)) (y5 : List Int) (y6 : Int) (y7 : Int) (y8 : Int), w02_SegShared.j5 k y0 y1 y2 y3 y4 y5 y6 y7 y8 true = none := by
  intro k y0 y1 y2 y3 y4 y5 y6 y7 y8
  cases k <;> rfl
theorem w02_SegShared.j8_true : ∀ (k : Nat) (y0 : List Int) (y1 : Int) (y2 : List (S52)) (y3 : Int) (y4 : Int) (y5 : Int), w02_SegShared.j8 k y0 y1 y2 y3 y4 y5 true = none := by
  intro k y0 y1 y2 y3 y4 y5
  cases k <;> rfl
theorem w02_SegShared.mono_l : ∀ k, (∀ y0 y1 y2 y3 y4, LeO (w02_SegShared.l0 k y0 y1 y2 y3 y4) (w02_SegShared.l0 (k + 1) y0 y1 y2 y3 y4)) ∧ (∀ y0 y1 y2 y3 y4 y5, LeO (w02_SegShared.j1 k y0 y1 y2 y3 y4 y5) (w02_SegShared.j1 (k + 1) y0 y1 y2 y3 y4 y5)) ∧ (∀ y0 y1 y2 y3 y4 y5 y6 y7, LeO (w02_SegShared.j2 k y0 y1 y2 y3 y4 y5 y6 y7) (w02_SegShared.j2 (k + 1) y0 y1 y2 y3 y4 y5 y6 y7)) ∧ (∀ y0 y1 y2 y3 y4 y5 y6, LeO (w02_SegShared.j3 k y0 y1 y2 y3 y4 y5 y6) (w02_SegShared.j3 (k + 1) y0 y1 y2 y3 y4 y5 y6)) ∧ (∀ y0 y1 y2 y3 y4 y5 y6 y7 y8, LeO (w02_SegShared.l1 k y0 y1 y2 y3 y4 y5 y6 y7 y8) (w02_SegShared.l1 (k + 1) y0 y1 y2 y3 y4 y5 y6 y7 y8)) ∧ (∀ y0 y1 y2 y3 y4 y5 y6 y7 y8 y9, LeO (w02_SegShared.j5 k y0 y1 y2 y3 y4 y5 y6 y7 y8 y9) (w02_SegShared.j5 (k + 1) y0 y1 y2 y3 y4 y5 y6 y7 y8 y9)) ∧ (∀ y0 y1 y2 y3 y4 y5 y6 y7 y8 y9 y10, LeO (w02_SegShared.l2 k y0 y1 y2 y3 y4 y5 y6 y7 y8 y9 y10) (w02_SegShared.l2 (k + 1) y0 y1 y2 y3 y4 y5 y6 y7 y8 y9 y10)) ∧ (∀ y0 y1 y2 y3 y4 y5 y6, LeO (w02_SegShared.l3 k y0 y1 y2 y3 y4 y5 y6) (w02_SegShared.l3 (k + 1) y0 y1 y2 y3 y4 y5 y6)) ∧ (∀ y0 y1 y2 y3 y4 y5 y6, LeO (w02_SegShared.j8 k y0 y1 y2 y3 y4 y5 y6) (w02_SegShared.j8 (k + 1) y0 y1 y2 y3 y4 y5 y6)) ∧ (∀ y0 y1 y2 y3 y4 y5 y6, LeO (w02_SegShared.l4 k y0 y1 y2 y3 y4 y5 y6) (w02_SegShared.l4 (k + 1) y0 y1 y2 y3 y4 y5 y6))
  | 0 => ⟨fun _ _ _ _ _ r h => by simp [w02_SegShared.l0] at h, fun _ _ _ _ _ _ r h => by simp [w02_SegShared.j1] at h, fun _ _ _ _ _ _ _ _ r h => by simp [w02_SegShared.j2] at h, fun _ _ _ _ _ _ _ r h => by simp [w02_SegShared.j3] at h, fun _ _ _ _ _ _ _ _ _ r h => by simp [w02_SegShared.l1] at h, fun _ _ _ _ _ _ _ _ _ _ r h => by simp [w02_SegShared.j5] at h, fun _ _ _ _ _ _ _ _ _ _ _ r h => by simp [w02_SegShared.l2] at h, fun _ _ _ _ _ _ _ r h => by simp [w02_SegShared.l3] at h, fun _ _ _ _ _ _ _ r h => by simp [w02_SegShared.j8] at h, fun _ _ _ _ _ _ _ r h => by simp [w02_SegShared.l4] at h⟩
  | k + 1 => by
    obtain ⟨ih0, ih1, ih2, ih3, ih4, ih5, ih6, ih7, ih8, ih9⟩ := w02_SegShared.mono_l k
    refine ⟨?_, ?_, ?_, ?_, ?_, ?_, ?_, ?_, ?_, ?_⟩
    · intro y0 y1 y2 y3 y4
      unfold w02_SegShared.l0
      repeat' first
      | (with_reducible exact ih0 _ _ _ _ _)
      | (with_reducible exact ih1 _ _ _ _ _ _)
      | (with_reducible exact ih2 _ _ _ _ _ _ _ _)
      | (with_reducible exact ih3 _ _ _ _ _ _ _)
      | (with_reducible exact ih4 _ _ _ _ _ _ _ _ _)
      | (with_reducible exact ih5 _ _ _ _ _ _ _ _ _ _)
      | (with_reducible exact ih6 _ _ _ _ _ _ _ _ _ _ _)
      | (with_reducible exact ih7 _ _ _ _ _ _ _)
      | (with_reducible exact ih8 _ _ _ _ _ _ _)
      | (with_reducible exact ih9 _ _ _ _ _ _ _)
      | (with_reducible exact r00_Sum.mono _ _)
      | (with_reducible exact r00_Union.mono _ _ _)
      | (with_reducible exact LeO.refl _)
      | (with_reducible exact LeO.none _)
      | (with_reducible refine LeO.ite ?_ ?_)
      | (with_reducible refine LeO.bind ?_ (fun _ => ?_))
      | exact ih0 _ _ _ _ _
      | exact ih1 _ _ _ _ _ _
      | exact ih2 _ _ _ _ _ _ _ _
      | exact ih3 _ _ _ _ _ _ _
      | exact ih4 _ _ _ _ _ _ _ _ _
      | exact ih5 _ _ _ _ _ _ _ _ _ _
      | exact ih6 _ _ _ _ _ _ _ _ _ _ _
      | exact ih7 _ _ _ _ _ _ _
      | exact ih8 _ _ _ _ _ _ _
      | exact ih9 _ _ _ _ _ _ _
      | exact r00_Sum.mono _ _
      | exact r00_Union.mono _ _ _
      | exact LeO.none _
      | refine LeO.ite ?_ ?_
      | refine LeO.bind ?_ (fun _ => ?_)
    · intro y0 y1 y2 y3 y4 y5
      unfold w02_SegShared.j1
      repeat' first
      | (with_reducible exact ih0 _ _ _ _ _)
      | (with_reducible exact ih1 _ _ _ _ _ _)
      | (with_reducible exact ih2 _ _ _ _ _ _ _ _)
      | (with_reducible exact ih3 _ _ _ _ _ _ _)
      | (with_reducible exact ih4 _ _ _ _ _ _ _ _ _)
      | (with_reducible exact ih5 _ _ _ _ _ _ _ _ _ _)
      | (with_reducible exact ih6 _ _ _ _ _ _ _ _ _ _ _)
      | (with_reducible exact ih7 _ _ _ _ _ _ _)
      | (with_reducible exact ih8 _ _ _ _ _ _ _)
      | (with_reducible exact ih9 _ _ _ _ _ _ _)
      | (with_reducible exact r00_Sum.mono _ _)
      | (with_reducible exact r00_Union.mono _ _ _)
      | (with_reducible exact LeO.refl _)
      | (with_reducible exact LeO.none _)
      | (with_reducible refine LeO.ite ?_ ?_)
      | (with_reducible refine LeO.bind ?_ (fun _ => ?_))
      | exact ih0 _ _ _ _ _
      | exact ih1 _ _ _ _ _ _
      | exact ih2 _ _ _ _ _ _ _ _
      | exact ih3 _ _ _ _ _ _ _
      | exact ih4 _ _ _ _ _ _ _ _ _
      | exact ih5 _ _ _ _ _ _ _ _ _ _
      | exact ih6 _ _ _ _ _ _ _ _ _ _ _
      | exact ih7 _ _ _ _ _ _ _
      | exact ih8 _ _ _ _ _ _ _
      | exact ih9 _ _ _ _ _ _ _
      | exact r00_Sum.mono _ _
      | exact r00_Union.mono _ _ _
      | exact LeO.none _
      | refine LeO.ite ?_ ?_
      | refine LeO.bind ?_ (fun _ => ?_)
    · intro y0 y1 y2 y3 y4 y5 y6 y7
      unfold w02_SegShared.j2
      repeat' first
      | (with_reducible exact ih0 _ _ _ _ _)
      | (with_reducible exact ih1 _ _ _ _ _ _)
      | (with_reducible exact ih2 _ _ _ _ _ _ _ _)
      | (with_reducible exact ih3 _ _ _ _ _ _ _)
      | (with_reducible exact ih4 _ _ _ _ _ _ _ _ _)
      | (with_reducible exact ih5 _ _ _ _ _ _ _ _ _ _)
      | (with_reducible exact ih6 _ _ _ _ _ _ _ _ _ _ _)
      | (with_reducible exact ih7 _ _ _ _ _ _ _)
      | (with_reducible exact ih8 _ _ _ _ _ _ _)
      | (with_reducible exact ih9 _ _ _ _ _ _ _)
      | (with_reducible exact r00_Sum.mono _ _)
      | (with_reducible exact r00_Union.mono _ _ _)
      | (with_reducible exact LeO.refl _)
      | (with_reducible exact LeO.none _)
      | (with_reducible refine LeO.ite ?_ ?_)
      | (with_reducible refine LeO.bind ?_ (fun _ => ?_))
      | exact ih0 _ _ _ _ _
      | exact ih1 _ _ _ _ _ _
      | exact ih2 _ _ _ _ _ _ _ _
      | exact ih3 _ _ _ _ _ _ _
      | exact ih4 _ _ _ _ _ _ _ _ _
      | exact ih5 _ _ _ _ _ _ _ _ _ _
      | exact ih6 _ _ _ _ _ _ _ _ _ _ _
      | exact ih7 _ _ _ _ _ _ _
      | exact ih8 _ _ _ _ _ _ _
      | exact ih9 _ _ _ _ _ _ _
      | exact r00_Sum.mono _ _
      | exact r00_Union.mono _ _ _
      | exact LeO.none _
      | refine LeO.ite ?_ ?_
      | refine LeO.bind ?_ (fun _ => ?_)
    · intro y0 y1 y2 y3 y4 y5 y6
      unfold w02_SegShared.j3
      repeat' first
      | (with_reducible exact ih0 _ _ _ _ _)
      | (with_reducible exact ih1 _ _ _ _ _ _)
      | (with_reducible exact ih2 _ _ _ _ _ _ _ _)
      | (with_reducible exact ih3 _ _ _ _ _ _ _)
      | (with_reducible exact ih4 _ _ _ _ _ _ _ _ _)
      | (with_reducible exact ih5 _ _ _ _ _ _ _ _ _ _)
      | (with_reducible exact ih6 _ _ _ _ _ _ _ _ _ _ _)
      | (with_reducible exact ih7 _ _ _ _ _ _ _)
      | (with_reducible exact ih8 _ _ _ _ _ _ _)
      | (with_reducible exact ih9 _ _ _ _ _ _ _)
      | (with_reducible exact r00_Sum.mono _ _)
      | (with_reducible exact r00_Union.mono _ _ _)
      | (with_reducible exact LeO.refl _)
      | (with_reducible exact LeO.none _)
      | (with_reducible refine LeO.ite ?_ ?_)
      | (with_reducible refine LeO.bind ?_ (fun _ => ?_))
      | exact ih0 _ _ _ _ _
      | exact ih1 _ _ _ _ _ _
      | exact ih2 _ _ _ _ _ _ _ _
      | exact ih3 _ _ _ _ _ _ _
      | exact ih4 _ _ _ _ _ _ _ _ _
      | exact ih5 _ _ _ _ _ _ _ _ _ _
      | exact ih6 _ _ _ _ _ _ _ _ _ _ _
      | exact ih7 _ _ _ _ _ _ _
      | exact ih8 _ _ _ _ _ _ _
      | exact ih9 _ _ _ _ _ _ _
      | exact r00_Sum.mono _ _
      | exact r00_Union.mono _ _ _
      | exact LeO.none _
      | refine LeO.ite ?_ ?_
      | refine LeO.bind ?_ (fun _ => ?_)
    · intro y0 y1 y2 y3 y4 y5 y6 y7 y8
      unfold w02_SegShared.l1
      repeat' first
      | (with_reducible exact ih0 _ _ _ _ _)
      | (with_reducible exact ih1 _ _ _ _ _ _)
      | (with_reducible exact ih2 _ _ _ _ _ _ _ _)
      | (with_reducible exact ih3 _ _ _ _ _ _ _)
      | (with_reducible exact ih4 _ _ _ _ _ _ _ _ _)
      | (with_reducible exact ih5 _ _ _ _ _ _ _ _ _ _)
      | (with_reducible exact ih6 _ _ _ _ _ _ _ _ _ _ _)
      | (with_reducible exact ih7 _ _ _ _ _ _ _)
      | (with_reducible exact ih8 _ _ _ _ _ _ _)
      | (with_reducible exact ih9 _ _ _ _ _ _ _)
      | (with_reducible exact r00_Sum.mono _ _)
      | (with_reducible exact r00_Union.mono _ _ _)
      | (with_reducible exact LeO.refl _)
      | (with_reducible exact LeO.none _)
      | (with_reducible refine LeO.ite ?_ ?_)
      | (with_reducible refine LeO.bind ?_ (fun _ => ?_))
      | exact ih0 _ _ _ _ _
      | exact ih1 _ _ _ _ _ _
      | exact ih2 _ _ _ _ _ _ _ _
      | exact ih3 _ _ _ _ _ _ _
      | exact ih4 _ _ _ _ _ _ _ _ _
      | exact ih5 _ _ _ _ _ _ _ _ _ _
      | exact ih6 _ _ _ _ _ _ _ _ _ _ _
      | exact ih7 _ _ _ _ _ _ _
      | exact ih8 _ _ _ _ _ _ _
      | exact ih9 _ _ _ _ _ _ _
      | exact r00_Sum.mono _ _
      | exact r00_Union.mono _ _ _
      | exact LeO.none _
      | refine LeO.ite ?_ ?_
      | refine LeO.bind ?_ (fun _ => ?_)
    · intro y0 y1 y2 y3 y4 y5 y6 y7 y8 y9
      unfold w02_SegShared.j5
      repeat' first
      | (with_reducible exact ih0 _ _ _ _ _)
      | (with_reducible exact ih1 _ _ _ _ _ _)
      | (with_reducible exact ih2 _ _ _ _ _ _ _ _)
      | (with_reducible exact ih3 _ _ _ _ _ _ _)
      | (with_reducible exact ih4 _ _ _ _ _ _ _ _ _)
      | (with_reducible exact ih5 _ _ _ _ _ _ _ _ _ _)
      | (with_reducible exact ih6 _ _ _ _ _ _ _ _ _ _ _)
      | (with_reducible exact ih7 _ _ _ _ _ _ _)
      | (with_reducible exact ih8 _ _ _ _ _ _ _)
      | (with_reducible exact ih9 _ _ _ _ _ _ _)
      | (with_reducible exact r00_Sum.mono _ _)
      | (with_reducible exact r00_Union.mono _ _ _)
      | (with_reducible exact LeO.refl _)
      | (with_reducible exact LeO.none _)
      | (with_reducible refine LeO.ite ?_ ?_)
      | (with_reducible refine LeO.bind ?_ (fun _ => ?_))
      | exact ih0 _ _ _ _ _
      | exact ih1 _ _ _ _ _ _
      | exact ih2 _ _ _ _ _ _ _ _
      | exact ih3 _ _ _ _ _ _ _
      | exact ih4 _ _ _ _ _ _ _ _ _
      | exact ih5 _ _ _ _ _ _ _ _ _ _
      | exact ih6 _ _ _ _ _ _ _ _ _ _ _
      | exact ih7 _ _ _ _ _ _ _
      | exact ih8 _ _ _ _ _ _ _
      | exact ih9 _ _ _ _ _ _ _
      | exact r00_Sum.mono _ _
      | exact r00_Union.mono _ _ _
      | exact LeO.none _
      | refine LeO.ite ?_ ?_
      | refine LeO.bind ?_ (fun _ => ?_)
    · intro y0 y1 y2 y3 y4 y5 y6 y7 y8 y9 y10
      unfold w02_SegShared.l2
      repeat' first
      | (with_reducible exact ih0 _ _ _ _ _)
      | (with_reducible exact ih1 _ _ _ _ _ _)
      | (with_reducible exact ih2 _ _ _ _ _ _ _ _)
      | (with_reducible exact ih3 _ _ _ _ _ _ _)
      | (with_reducible exact ih4 _ _ _ _ _ _ _ _ _)
      | (with_reducible exact ih5 _ _ _ _ _ _ _ _ _ _)
      | (with_reducible exact ih6 _ _ _ _ _ _ _ _ _ _ _)
      | (with_reducible exact ih7 _ _ _ _ _ _ _)
      | (with_reducible exact ih8 _ _ _ _ _ _ _)
      | (with_reducible exact ih9 _ _ _ _ _ _ _)
      | (with_reducible exact r00_Sum.mono _ _)
      | (with_reducible exact r00_Union.mono _ _ _)
      | (with_reducible exact LeO.refl _)
      | (with_reducible exact LeO.none _)
      | (with_reducible refine LeO.ite ?_ ?_)
      | (with_reducible refine LeO.bind ?_ (fun _ => ?_))
      | exact ih0 _ _ _ _ _
      | exact ih1 _ _ _ _ _ _
      | exact ih2 _ _ _ _ _ _ _ _
      | exact ih3 _ _ _ _ _ _ _
      | exact ih4 _ _ _ _ _ _ _ _ _
      | exact ih5 _ _ _ _ _ _ _ _ _ _
      | exact ih6 _ _ _ _ _ _ _ _ _ _ _
      | exact ih7 _ _ _ _ _ _ _
      | exact ih8 _ _ _ _ _ _ _
      | exact ih9 _ _ _ _ _ _ _
      | exact r00_Sum.mono _ _
      | exact r00_Union.mono _ _ _
      | exact LeO.none _
      | refine LeO.ite ?_ ?_
      | refine LeO.bind ?_ (fun _ => ?_)
    · intro y0 y1 y2 y3 y4 y5 y6
      unfold w02_SegShared.l3
      repeat' first
      | (with_reducible exact ih0 _ _ _ _ _)
      | (with_reducible exact ih1 _ _ _ _ _ _)
      | (with_reducible exact ih2 _ _ _ _ _ _ _ _)
      | (with_reducible exact ih3 _ _ _ _ _ _ _)
      | (with_reducible exact ih4 _ _ _ _ _ _ _ _ _)
      | (with_reducible exact ih5 _ _ _ _ _ _ _ _ _ _)
      | (with_reducible exact ih6 _ _ _ _ _ _ _ _ _ _ _)
      | (with_reducible exact ih7 _ _ _ _ _ _ _)
      | (with_reducible exact ih8 _ _ _ _ _ _ _)
      | (with_reducible exact ih9 _ _ _ _ _ _ _)
      | (with_reducible exact r00_Sum.mono _ _)
      | (with_reducible exact r00_Union.mono _ _ _)
      | (with_reducible exact LeO.refl _)
      | (with_reducible exact LeO.none _)
      | (with_reducible refine LeO.ite ?_ ?_)
      | (with_reducible refine LeO.bind ?_ (fun _ => ?_))
      | exact ih0 _ _ _ _ _
      | exact ih1 _ _ _ _ _ _
      | exact ih2 _ _ _ _ _ _ _ _
      | exact ih3 _ _ _ _ _ _ _
      | exact ih4 _ _ _ _ _ _ _ _ _
      | exact ih5 _ _ _ _ _ _ _ _ _ _
      | exact ih6 _ _ _ _ _ _ _ _ _ _ _
      | exact ih7 _ _ _ _ _ _ _
      | exact ih8 _ _ _ _ _ _ _
      | exact ih9 _ _ _ _ _ _ _
      | exact r00_Sum.mono _ _
      | exact r00_Union.mono _ _ _
      | exact LeO.none _
      | refine LeO.ite ?_ ?_
      | refine LeO.bind ?_ (fun _ => ?_)
    · intro y0 y1 y2 y3 y4 y5 y6
      unfold w02_SegShared.j8
      repeat' first
      | (with_reducible exact ih0 _ _ _ _ _)
      | (with_reducible exact ih1 _ _ _ _ _ _)
      | (with_reducible exact ih2 _ _ _ _ _ _ _ _)
      | (with_reducible exact ih3 _ _ _ _ _ _ _)
      | (with_reducible exact ih4 _ _ _ _ _ _ _ _ _)
      | (with_reducible exact ih5 _ _ _ _ _ _ _ _ _ _)
      | (with_reducible exact ih6 _ _ _ _ _ _ _ _ _ _ _)
      | (with_reducible exact ih7 _ _ _ _ _ _ _)
      | (with_reducible exact ih8 _ _ _ _ _ _ _)
      | (with_reducible exact ih9 _ _ _ _ _ _ _)
      | (with_reducible exact r00_Sum.mono _ _)
      | (with_reducible exact r00_Union.mono _ _ _)
      | (with_reducible exact LeO.refl _)
      | (with_reducible exact LeO.none _)
      | (with_reducible refine LeO.ite ?_ ?_)
      | (with_reducible refine LeO.bind ?_ (fun _ => ?_))
      | exact ih0 _ _ _ _ _
      | exact ih1 _ _ _ _ _ _
      | exact ih2 _ _ _ _ _ _ _ _
      | exact ih3 _ _ _ _ _ _ _
      | exact ih4 _ _ _ _ _ _ _ _ _
      | exact ih5 _ _ _ _ _ _ _ _ _ _
      | exact ih6 _ _ _ _ _ _ _ _ _ _ _
      | exact ih7 _ _ _ _ _ _ _
      | exact ih8 _ _ _ _ _ _ _
      | exact ih9 _ _ _ _ _ _ _
      | exact r00_Sum.mono _ _
      | exact r00_Union.mono _ _ _
      | exact LeO.none _
      | refine LeO.ite ?_ ?_
      | refine LeO.bind ?_ (fun _ => ?_)
    · intro y0 y1 y2 y3 y4 y5 y6
      unfold w02_SegShared.l4
      repeat' first
      | (with_reducible exact ih0 _ _ _ _ _)
      | (with_reducible exact ih1 _ _ _ _ _ _)
      | (with_reducible exact ih2 _ _ _ _ _ _ _ _)
      | (with_reducible exact ih3 _ _ _ _ _ _ _)
      | (with_reducible exact ih4 _ _ _ _ _ _ _ _ _)
      | (with_reducible exact ih5 _ _ _ _ _ _ _ _ _ _)
      | (with_reducible exact ih6 _ _ _ _ _ _ _ _ _ _ _)
      | (with_reducible exact ih7 _ _ _ _ _ _ _)
      | (with_reducible exact ih8 _ _ _ _ _ _ _)
      | (with_reducible exact ih9 _ _ _ _ _ _ _)
      | (with_reducible exact r00_Sum.mono _ _)
      | (with_reducible exact r00_Union.mono _ _ _)
      | (with_reducible exact LeO.refl _)
      | (with_reducible exact LeO.none _)
      | (with_reducible refine LeO.ite ?_ ?_)
      | (with_reducible refine LeO.bind ?_ (fun _ => ?_))
      | exact ih0 _ _ _ _ _
      | exact ih1 _ _ _ _ _ _
      | exact ih2 _ _ _ _ _ _ _ _
      | exact ih3 _ _ _ _ _ _ _
      | exact ih4 _ _ _ _ _ _ _ _ _
      | exact ih5 _ _ _ _ _ _ _ _ _ _
      | exact ih6 _ _ _ _ _ _ _ _ _ _ _
      | exact ih7 _ _ _ _ _ _ _
      | exact ih8 _ _ _ _ _ _ _
      | exact ih9 _ _ _ _ _ _ _
      | exact r00_Sum.mono _ _
      | exact r00_Union.mono _ _ _
      | exact LeO.none _
      | refine LeO.ite ?_ ?_
      | refine LeO.bind ?_ (fun _ => ?_)
theorem w02_SegShared.mono : ∀ a0 a1 k, LeO (w02_SegShared.f k a0 a1) (w02_SegShared.f (k + 1) a0 a1) := by
  intro a0 a1 k
  obtain ⟨ih0, ih1, ih2, ih3, ih4, ih5, ih6, ih7, ih8, ih9⟩ := w02_SegShared.mono_l k
  unfold w02_SegShared.f
  repeat' first
      | (with_reducible exact ih0 _ _ _ _ _)
      | (with_reducible exact ih1 _ _ _ _ _ _)
      | (with_reducible exact ih2 _ _ _ _ _ _ _ _)
      | (with_reducible exact ih3 _ _ _ _ _ _ _)
      | (with_reducible exact ih4 _ _ _ _ _ _ _ _ _)
      | (with_reducible exact ih5 _ _ _ _ _ _ _ _ _ _)
      | (with_reducible exact ih6 _ _ _ _ _ _ _ _ _ _ _)
      | (with_reducible exact ih7 _ _ _ _ _ _ _)
      | (with_reducible exact ih8 _ _ _ _ _ _ _)
      | (with_reducible exact ih9 _ _ _ _ _ _ _)
      | (with_reducible exact r00_Sum.mono _ _)
      | (with_reducible exact r00_Union.mono _ _ _)
      | (with_reducible exact LeO.refl _)
      | (with_reducible exact LeO.none _)
      | (with_reducible refine LeO.ite ?_ ?_)
      | (with_reducible refine LeO.bind ?_ (fun _ => ?_))
      | exact ih0 _ _ _ _ _
      | exact ih1 _ _ _ _ _ _
      | exact ih2 _ _ _ _ _ _ _ _
      | exact ih3 _ _ _ _ _ _ _
      | exact ih4 _ _ _ _ _ _ _ _ _
      | exact ih5 _ _ _ _ _ _ _ _ _ _
      | exact ih6 _ _ _ _ _ _ _ _ _ _ _
      | exact ih7 _ _ _ _ _ _ _
      | exact ih8 _ _ _ _ _ _ _
      | exact ih9 _ _ _ _ _ _ _
      | exact r00_Sum.mono _ _
      | exact r00_Union.mono _ _ _
      | exact LeO.none _
      | refine LeO.ite ?_ ?_
      | refine LeO.bind ?_ (fun _ => ?_)
def w02_SegShared.T7 : Bool × List (List Nat × List Nat) := (true, [([], []), ([], []), ([1], [1]), ([0, 2], [0, 2]), ([], []), ([], []), ([], []), ([6], [6]), ([5, 7], [5, 7]), ([8], [8]), ([], []), ([], []), ([10, 11], [10, 11]), ([12], [12]), ([13], [13]), ([9, 14, 3], [9, 14]), ([15], [15]), ([4, 16, 15], [4, 16]), ([3, 17, 0, 1, 2, 3], [0, 3]), ([17, 18, 0, 1, 2, 3, 4, 5, 6, 7, 8, 9, 10, 11, 12, 13, 14, 15, 16, 17, 18], [4, 17])])
def w02_SegShared.B7 : List Nat := [0, 0, 2, 7, 0, 0, 0, 64, 224, 480, 0, 0, 3072, 7168, 15360, 32751, 65519, 131071, 262143, 524287]
theorem w02_SegShared.tab7 : rtab .any (opsOf Try.f9 7) = w02_SegShared.T7 := by kernel_rfl
theorem w02_SegShared.bits7 : waitsOk w02_SegShared.T7.2 w02_SegShared.B7 = true := by kernel_rfl
def w02_SegShared.T22 : Bool × List (List Nat × List Nat) := (true, [([], []), ([], []), ([0, 1], [0, 1]), ([2], [2]), ([], []), ([4], [4]), ([5], [5]), ([3, 6], [3, 6]), ([7], [7]), ([8, 7], [8]), ([9], [9]), ([9], [9]), ([9], [9]), ([11, 12, 9], [9, 11, 12]), ([13, 9], [9, 13]), ([10, 14, 9], [9, 10, 14]), ([15, 9], [9, 15]), ([9], [9]), ([9], [9]), ([17, 18, 9], [9, 17, 18]), ([19, 9], [9, 19]), ([16, 20, 9], [9, 16, 20]), ([9, 21], [9, 21])])
def w02_SegShared.B22 : List Nat := [0, 0, 3, 7, 0, 16, 48, 127, 255, 511, 1023, 1023, 1023, 7167, 15359, 32767, 65535, 1023, 1023, 394239, 918527, 2097151, 4194303]
theorem w02_SegShared.tab22 : rtab .any (opsOf Try.f9 22) = w02_SegShared.T22 := by kernel_rfl
theorem w02_SegShared.bits22 : waitsOk w02_SegShared.T22.2 w02_SegShared.B22 = true := by kernel_rfl
def w02_SegShared.T28 : Bool × List (List Nat × List Nat) := (true, [([], []), ([], []), ([0, 1], [0, 1]), ([2], [2]), ([], []), ([], []), ([4, 5], [4, 5]), ([6], [6]), ([3, 7], [3, 7])])
def w02_SegShared.B28 : List Nat := [0, 0, 3, 7, 0, 0, 48, 112, 255]
theorem w02_SegShared.tab28 : rtab .any (opsOf Try.f9 28) = w02_SegShared.T28 := by kernel_rfl
theorem w02_SegShared.bits28 : waitsOk w02_SegShared.T28.2 w02_SegShared.B28 = true := by kernel_rfl
def w02_SegShared.T40 : Bool × List (List Nat × List Nat) := (true, [([], []), ([], []), ([], []), ([1, 2], [1, 2]), ([0, 3], [0, 3]), ([4], [4]), ([], []), ([], []), ([6, 7], [6, 7]), ([8], [8]), ([9], [9]), ([], []), ([10, 11], [10, 11]), ([5, 12], [5, 12])])
def w02_SegShared.B40 : List Nat := [0, 0, 0, 6, 15, 31, 0, 0, 192, 448, 960, 0, 4032, 8191]
theorem w02_SegShared.tab40 : rtab .any (opsOf Try.f9 40) = w02_SegShared.T40 := by kernel_rfl
theorem w02_SegShared.bits40 : waitsOk w02_SegShared.T40.2 w02_SegShared.B40 = true := by kernel_rfl
def w02_SegShared.T42 : Bool × List (List Nat × List Nat) := (true, [([], []), ([], []), ([], []), ([1, 2], [1, 2]), ([3], [3]), ([4], [4]), ([0, 5], [0, 5]), ([], []), ([], []), ([7, 8], [7, 8]), ([9], [9]), ([10], [10]), ([], []), ([], []), ([12, 13], [12, 13]), ([14], [14]), ([15], [15]), ([11, 16], [11, 16]), ([6, 0, 1, 2, 3, 4, 5, 6], [0, 6]), ([17, 18, 0, 1, 2, 3, 4, 5, 6, 7, 8, 9, 10, 11, 12, 13, 14, 15, 16, 17, 18], [17])])
def w02_SegShared.B42 : List Nat := [0, 0, 0, 6, 14, 30, 63, 0, 0, 384, 896, 1920, 0, 0, 12288, 28672, 61440, 130944, 127, 524287]
theorem w02_SegShared.tab42 : rtab .any (opsOf Try.f9 42) = w02_SegShared.T42 := by kernel_rfl
theorem w02_SegShared.bits42 : waitsOk w02_SegShared.T42.2 w02_SegShared.B42 = true := by kernel_rfl
set_option maxHeartbeats 8000000 in
set_option maxRecDepth 100000 in
theorem w02_SegShared.calls (k : Nat) (A0 : Option Addr) (c0 : Nat) (l0 : List Int) (a1 : Int) (r : Bool) (w : World) (hr0 : Kd.C (Kd.int .i64) w A0 l0.length l0) (hc0 : l0.length ≤ c0) (h : w02_SegShared.f k l0 a1 = some r) :
    Calls Try.prog 9 #[.slice A0 l0.length c0, .int .i64 a1] w fun e w' => e = .returned (.bool r) ∧ Below w.heap.size w w' := by
  have HR0 := Aside0.mk hr0
  have HC0 := Aside0.mk hc0
  clear hr0 hc0
  have HB := Aside0.mk (Below.refl w.heap.size w)
  have H : ((r00_Turn.f a1 61).bind fun t138 => (w02_SegShared.l0 k l0 t138 (([] : List Int)) (([] : List Int)) 0)) = some r := h
  clear h
  replace H := Option.bind_eq_some_iff.mp H
  obtain ⟨t138, A30, H⟩ := H
  replace H : (w02_SegShared.l0 k l0 t138 (([] : List Int)) (([] : List Int)) 0) = some r := H
  have A3 := Aside0.mk A30
  clear A30
  obtain ⟨y139, hy139⟩ : ∃ y_ : List Int, y_ = (([] : List Int)) := ⟨_, rfl⟩
  replace H : (w02_SegShared.l0 k l0 t138 y139 (([] : List Int)) 0) = some r := by first | (rw [hy139]; with_reducible exact H) | (have H2_ := (Option.bind_some _ _).symm.trans H; rw [hy139]; with_reducible exact H2_) | (have H2_ := (Option.bind_some _ _).symm.trans H; with_reducible exact H2_) | with_reducible exact H | (rw [hy139]; exact H) | exact H
  have Ny139 := Aside0.mk hy139
  clear hy139
  obtain ⟨y142, hy142⟩ : ∃ y_ : List Int, y_ = (([] : List Int)) := ⟨_, rfl⟩
  replace H : (w02_SegShared.l0 k l0 t138 y139 y142 0) = some r := by first | (rw [hy142]; with_reducible exact H) | (have H2_ := (Option.bind_some _ _).symm.trans H; rw [hy142]; with_reducible exact H2_) | (have H2_ := (Option.bind_some _ _).symm.trans H; with_reducible exact H2_) | with_reducible exact H | (rw [hy142]; exact H) | exact H
  have Ny142 := Aside0.mk hy142
  clear hy142
  have H' := Aside0.mk H
  clear H
  go_enter Try.func9, Try.ntmps9
  go_wp2_with (first | ((with_reducible refine gate_callee (f := 48) rfl ?_); refine goesL_ (some 30) rfl rfl Try.func48 (by kernel_rfl) rfl #[.int .i64 a1, .int .i64 61] rfl (by (try simp only [List.map_toArray, List.map_cons, List.map_nil]); first | done | rfl | (simp only [List.length_drop, List.length_take]; rfl)) ?_; (with_reducible refine (r00_Turn.calls a1 61 t138 _ A3.out).mono ?_); rintro e w' ⟨rfl, ⟨nd, rfl⟩⟩; refine ⟨_, rfl, ?_⟩) | ((with_reducible refine gate_dst (N := 31) rfl ?_); (try (refine gate_guard (by rfl) ?_; dsimp only)); refine Kd.R_lit (Kd.int .i64) _ 3 ?hg (N := 31) ?hd (xs := ([] : List Int)) (inner := []) (ok := fun _ => True) (okp := fun _ => True) ?hr ?hp (fun _ hk => hk) trivial (Below.refl _ _) (Nat.le_refl _) (by simp) ?_; (case hd => rfl); (case hg => rfl); (case hr => first | (go_simp; done) | (go_simp; rfl)); (case hp => exact (Reps.none _ _)); intro v140 w4 ho5 hb hg_ hnew_; clear hg_ hnew_; (first | rw [← Ny139.out] at ho5 | (simp only [Int.reduceToNat] at ho5; rw [← Ny139.out] at ho5)); have n0_ := Aside0.mk (Kd.R_lower ho5 (below_size (by repeat (first | (with_reducible first | exact HB.out | apply below_alloc | apply pw_below_drewN | apply below_drew1) | exact HB.out)))); have n1_ := Aside0.mk (below_step (by repeat (first | (with_reducible first | exact HB.out | apply below_alloc | apply pw_below_drewN | apply below_drew1) | exact HB.out)) hb); clear HB; have HO141 := n0_; have HB := n1_; clear n0_ n1_; clear hb ho5) | ((with_reducible refine gate_dst (N := 32) rfl ?_); (try (refine gate_guard (by rfl) ?_; dsimp only)); refine Kd.R_lit (Kd.int .i64) _ 3 ?hg (N := 32) ?hd (xs := ([] : List Int)) (inner := []) (ok := fun _ => True) (okp := fun _ => True) ?hr ?hp (fun _ hk => hk) trivial (Below.refl _ _) (Nat.le_refl _) (by simp) ?_; (case hd => rfl); (case hg => rfl); (case hr => first | (go_simp; done) | (go_simp; rfl)); (case hp => exact (Reps.none _ _)); intro v143 w6 ho7 hb hg_ hnew_; clear hg_ hnew_; (first | rw [← Ny142.out] at ho7 | (simp only [Int.reduceToNat] at ho7; rw [← Ny142.out] at ho7)); have n0_ := Aside0.mk (Kd.R_elder' (by (with_reducible repeat (first | apply Kd.R_alloc | apply Kd.R_drewN | apply Kd.R_drew)); exact HO141.out) (Kd.R_base ho7) hb); have n1_ := Aside0.mk (Kd.R_lower (Kd.R_new' ho7 (Kd.R_lt (by (with_reducible repeat (first | apply Kd.R_alloc | apply Kd.R_drewN | apply Kd.R_drew)); exact HO141.out))) (below_size (by repeat (first | (with_reducible first | exact HB.out | apply below_alloc | apply pw_below_drewN | apply below_drew1) | exact HB.out)))); have n2_ := Aside0.mk (below_step (by repeat (first | (with_reducible first | exact HB.out | apply below_alloc | apply pw_below_drewN | apply below_drew1) | exact HB.out)) hb); clear HO141; clear HB; have HO141 := n0_; have HO144 := n1_; have HB := n2_; clear n0_ n1_ n2_; clear hb ho7))
  go_loopg [5, 6, 7] k (fun kq v5 v6 v7 w' => ∃ (x5_1 : List Int) (x6_1 : List Int) (x7_1 : Int), v7 = .int .i64 x7_1 ∧ Aside0 (w02_SegShared.l0 kq l0 t138 x5_1 x6_1 x7_1 = some r) ∧ Aside0 (kq ≤ k) ∧ Aside0 (Kd.R (Kd.int .i64) 3 w' w.heap.size (fun k_ => some k_ ≠ (v6 : Value).ownBlock) v5 x5_1) ∧ Aside0 (Kd.R (Kd.int .i64) 3 w' w.heap.size (fun k_ => some k_ ≠ (v5 : Value).ownBlock) v6 x6_1) ∧ Aside0 (Below w.heap.size w w'))
  case atStart => exact ⟨(y139), (y142), (0), (by first | rfl | (simp; done) | (simp [*]; done)), H', ⟨Nat.le_refl _⟩, ⟨by (with_reducible repeat (first | apply Kd.R_alloc | apply Kd.R_drewN | apply Kd.R_drew)); exact Kd.R_mono HO141.out (fun _ hk => hk.2)⟩, ⟨by (with_reducible repeat (first | apply Kd.R_alloc | apply Kd.R_drewN | apply Kd.R_drew)); exact Kd.R_mono HO144.out (fun _ hk => hk.2)⟩, ⟨by repeat (first | (with_reducible first | exact HB.out | apply below_alloc | apply pw_below_drewN | apply below_drew1) | exact HB.out)⟩⟩
  case round => as_aux_lemma =>
    clear H'
    try clear p2
    try clear c4
    obtain ⟨x5_1, x6_1, x7_1, rfl, HA, HK1, HO_5, HO_6, HB⟩ := hrel
    cases gk with
    | zero => exact absurd HA.out (by simp [w02_SegShared.l0])
    | succ k1 =>
      have H := HA.out
      clear HA
      simp only [w02_SegShared.l0] at H
      have HC8 := Aside0.mk H
      clear H
      go_upto_region 4 with (fail)
      go_cut [41] (fun zv41 wc => ∃ (kq : Nat) (x41_7 : Bool), zv41 = .bool x41_7 ∧ Aside0 (w02_SegShared.j1 kq l0 t138 x5_1 x6_1 x7_1 x41_7 = some r) ∧ Aside0 (kq ≤ k1) ∧ Aside0 (Kd.R (Kd.int .i64) 3 wc w.heap.size (fun k_ => some k_ ≠ (u6 : Value).ownBlock) u5 x5_1) ∧ Aside0 (Kd.R (Kd.int .i64) 3 wc w.heap.size (fun k_ => some k_ ≠ (u5 : Value).ownBlock) u6 x6_1) ∧ Aside0 (Below w.heap.size w wc))
      case first =>
        have H := HC8.out
        clear HC8
        by_cases c9 : (wrap64 (x7_1 + 1)) < (l0.length : Int)
        · rw [if_pos c9] at H
          have c9b0 : decide ((wrap64 (x7_1 + 1)) < (l0.length : Int)) = true := decide_eq_true c9
          clear c9
          (first | rw [c9b0] | (simp only [i64_w, i32_w]; rw [c9b0]) | skip)
          have H' := Aside0.mk H
          clear H
          go_wp2
          go_meet
          case rel => exact ⟨_, (decide (x7_1 < 60)), (by first | rfl | (simp; done) | (simp [*]; done)), H', ⟨by have := HK1.out; first | omega | exact Nat.le_refl _⟩, ⟨by (with_reducible repeat (first | apply Kd.R_alloc | apply Kd.R_drewN | apply Kd.R_drew)); first | exact HO_5.out | exact Kd.R_mono HO_5.out (fun _ hk => ⟨hk.2, hk.1⟩)⟩, ⟨by (with_reducible repeat (first | apply Kd.R_alloc | apply Kd.R_drewN | apply Kd.R_drew)); first | exact HO_6.out | exact Kd.R_mono HO_6.out (fun _ hk => ⟨hk.2, hk.1⟩)⟩, ⟨by repeat (first | (with_reducible first | exact HB.out | apply below_alloc | apply pw_below_drewN | apply below_drew1) | exact HB.out)⟩⟩
        · rw [if_neg c9] at H
          have c9b0 : decide ((wrap64 (x7_1 + 1)) < (l0.length : Int)) = false := decide_eq_false c9
          clear c9
          (first | rw [c9b0] | (simp only [i64_w, i32_w]; rw [c9b0]) | skip)
          have H' := Aside0.mk H
          clear H
          go_wp2
          go_meet
          case rel => exact ⟨_, (false), (by first | rfl | (simp; done) | (simp [*]; done)), H', ⟨by have := HK1.out; first | omega | exact Nat.le_refl _⟩, ⟨by (with_reducible repeat (first | apply Kd.R_alloc | apply Kd.R_drewN | apply Kd.R_drew)); first | exact HO_5.out | exact Kd.R_mono HO_5.out (fun _ hk => ⟨hk.2, hk.1⟩)⟩, ⟨by (with_reducible repeat (first | apply Kd.R_alloc | apply Kd.R_drewN | apply Kd.R_drew)); first | exact HO_6.out | exact Kd.R_mono HO_6.out (fun _ hk => ⟨hk.2, hk.1⟩)⟩, ⟨by repeat (first | (with_reducible first | exact HB.out | apply below_alloc | apply pw_below_drewN | apply below_drew1) | exact HB.out)⟩⟩
      case rest => as_aux_lemma =>
        clear HC8
        try clear p2
        try clear c4
        try clear p6
        try clear c9
        try clear c9b0
        try clear p2
        obtain ⟨kq, x41_7, rfl, HA, HJ7, HO_5, HO_6, HB⟩ := hcut
        cases kq with
        | zero => exact absurd HA.out (by simp [w02_SegShared.j1])
        | succ kj7 =>
          have H := HA.out
          clear HA
          simp only [w02_SegShared.j1] at H
          by_cases c10 : x41_7 = true
          · subst c10
            have H1 : (if 0 ≤ x7_1 then (if x7_1 < (l0.length : Int) then ((r00_Turn.f (rd l0 x7_1) (wrap64 (t138 + 1))).bind fun t146 => (if x5_1.length < 17592186044416 then (if 0 ≤ (wrap64 (x7_1 + 1)) then (if (wrap64 (x7_1 + 1)) < (l0.length : Int) then ((r00_Turn.f (rd l0 (wrap64 (x7_1 + 1))) (wrap64 ((mn (wrap64 (t138 - t146)) 9) + 1))).bind fun t151 => (if x6_1.length < 17592186044416 then (w02_SegShared.l0 kj7 l0 t138 (x5_1 ++ [t146]) (x6_1 ++ [t151]) (wrap64 (x7_1 + 2))) else (none))) else (none)) else (none)) else (none))) else (none)) else (none)) = some r := by rw [if_pos rfl] at H; exact H
            clear H
            have H := H1
            clear H1
            by_cases c11 : 0 ≤ x7_1
            · rw [if_pos c11] at H
              have c11b0 : decide (0 ≤ x7_1) = true := decide_eq_true c11
              clear c11
              by_cases c12 : x7_1 < (l0.length : Int)
              · rw [if_pos c12] at H
                have c12b0 : decide (x7_1 < (l0.length : Int)) = true := decide_eq_true c12
                clear c12
                replace H := Option.bind_eq_some_iff.mp H
                obtain ⟨t146, A130, H⟩ := H
                replace H : (if x5_1.length < 17592186044416 then (if 0 ≤ (wrap64 (x7_1 + 1)) then (if (wrap64 (x7_1 + 1)) < (l0.length : Int) then ((r00_Turn.f (rd l0 (wrap64 (x7_1 + 1))) (wrap64 ((mn (wrap64 (t138 - t146)) 9) + 1))).bind fun t151 => (if x6_1.length < 17592186044416 then (w02_SegShared.l0 kj7 l0 t138 (x5_1 ++ [t146]) (x6_1 ++ [t151]) (wrap64 (x7_1 + 2))) else (none))) else (none)) else (none)) else (none)) = some r := H
                have A13 := Aside0.mk A130
                clear A130
                by_cases c14 : x5_1.length < 17592186044416
                · rw [if_pos c14] at H
                  have LMc14 := Aside0.mk c14
                  clear c14
                  obtain ⟨y147, hy147⟩ : ∃ y_ : List Int, y_ = (x5_1 ++ [t146]) := ⟨_, rfl⟩
                  replace H : (if 0 ≤ (wrap64 (x7_1 + 1)) then (if (wrap64 (x7_1 + 1)) < (l0.length : Int) then ((r00_Turn.f (rd l0 (wrap64 (x7_1 + 1))) (wrap64 ((mn (wrap64 (t138 - t146)) 9) + 1))).bind fun t151 => (if x6_1.length < 17592186044416 then (w02_SegShared.l0 kj7 l0 t138 y147 (x6_1 ++ [t151]) (wrap64 (x7_1 + 2))) else (none))) else (none)) else (none)) = some r := by first | (rw [hy147]; with_reducible exact H) | (have H2_ := (Option.bind_some _ _).symm.trans H; rw [hy147]; with_reducible exact H2_) | (have H2_ := (Option.bind_some _ _).symm.trans H; with_reducible exact H2_) | with_reducible exact H | (rw [hy147]; exact H) | exact H
                  have Ny147 := Aside0.mk hy147
                  clear hy147
                  obtain ⟨ji15, hji15⟩ : ∃ j_ : Int, (wrap64 (x7_1 + 1)) = j_ := ⟨_, rfl⟩
                  replace H : (if 0 ≤ (ji15) then (if (ji15) < (l0.length : Int) then ((r00_Turn.f (rd l0 (ji15)) (wrap64 ((mn (wrap64 (t138 - t146)) 9) + 1))).bind fun t151 => (if x6_1.length < 17592186044416 then (w02_SegShared.l0 kj7 l0 t138 y147 (x6_1 ++ [t151]) (wrap64 (x7_1 + 2))) else (none))) else (none)) else (none)) = some r := by first | (rw [hji15] at H; exact H) | (simp only [hji15] at H ⊢; exact H)
                  (try rw [hji15] at A13)
                  have hji15w : (IntKind.i64.wrap (x7_1 + 1)) = ji15 := (i64_w _).trans hji15
                  by_cases c16 : 0 ≤ (ji15)
                  · rw [if_pos c16] at H
                    have c16b0 : decide (0 ≤ (ji15)) = true := decide_eq_true c16
                    clear c16
                    by_cases c17 : (ji15) < (l0.length : Int)
                    · rw [if_pos c17] at H
                      have c17b0 : decide ((ji15) < (l0.length : Int)) = true := decide_eq_true c17
                      clear c17
                      obtain ⟨ji18, hji18⟩ : ∃ j_ : Int, (mn (wrap64 (t138 - t146)) 9) = j_ := ⟨_, rfl⟩
                      replace H : ((r00_Turn.f (rd l0 (ji15)) (wrap64 ((ji18) + 1))).bind fun t151 => (if x6_1.length < 17592186044416 then (w02_SegShared.l0 kj7 l0 t138 y147 (x6_1 ++ [t151]) (wrap64 (x7_1 + 2))) else (none))) = some r := by first | (rw [hji18] at H; exact H) | (simp only [hji18] at H ⊢; exact H)
                      (try rw [hji18] at A13)
                      have hji18_ : (if 9 < (wrap64 (t138 - t146)) then 9 else (wrap64 (t138 - t146))) = ji18 := hji18
                      (try (have hji18N := hji18_; simp only [Int.ofNat_lt] at hji18N))
                      replace H := Option.bind_eq_some_iff.mp H
                      obtain ⟨t151, A190, H⟩ := H
                      replace H : (if x6_1.length < 17592186044416 then (w02_SegShared.l0 kj7 l0 t138 y147 (x6_1 ++ [t151]) (wrap64 (x7_1 + 2))) else (none)) = some r := H
                      have A19 := Aside0.mk A190
                      clear A190
                      by_cases c20 : x6_1.length < 17592186044416
                      · rw [if_pos c20] at H
                        have LMc20 := Aside0.mk c20
                        clear c20
                        obtain ⟨y152, hy152⟩ : ∃ y_ : List Int, y_ = (x6_1 ++ [t151]) := ⟨_, rfl⟩
                        replace H : (w02_SegShared.l0 kj7 l0 t138 y147 y152 (wrap64 (x7_1 + 2))) = some r := by first | (rw [hy152]; with_reducible exact H) | (have H2_ := (Option.bind_some _ _).symm.trans H; rw [hy152]; with_reducible exact H2_) | (have H2_ := (Option.bind_some _ _).symm.trans H; with_reducible exact H2_) | with_reducible exact H | (rw [hy152]; exact H) | exact H
                        have Ny152 := Aside0.mk hy152
                        clear hy152
                        have H' := Aside0.mk H
                        clear H
                        have p145 : 0 ≤ (x7_1 : Int) := of_decide_eq_true (by first | (with_reducible assumption) | assumption)
                        have q145 : x7_1 < (l0.length : Int) := of_decide_eq_true (by first | (with_reducible assumption) | assumption)
                        obtain ⟨ad145, e145, hx145_0⟩ := Kd.at_int HR0.out x7_1 p145 q145
                        cases e145
                        replace hx145_0 := (HB.out.cell (World.block_lt_of_cell? w _ hx145_0)).trans hx145_0
                        replace p145 := eq_true p145
                        replace q145 := eq_true q145
                        try go_wp2_with (first | ((with_reducible refine gate_callee (f := 48) rfl ?_); refine goesL_ (some 50) rfl rfl Try.func48 (by kernel_rfl) rfl #[.int .i64 (rd l0 x7_1), .int .i64 (wrap64 (t138 + 1))] rfl (by (try simp only [List.map_toArray, List.map_cons, List.map_nil]); first | done | rfl | (simp only [List.length_drop, List.length_take]; rfl)) ?_; (with_reducible refine (r00_Turn.calls (rd l0 x7_1) (wrap64 (t138 + 1)) t146 _ A13.out).mono ?_); rintro e w' ⟨rfl, ⟨nd, rfl⟩⟩; refine ⟨_, rfl, ?_⟩))
                        (try (rw [drewN_self wc]; generalize hq_ : World.drewN wc _ = wc; have n0_ : Aside0 (Kd.R (Kd.int .i64) 3 wc w.heap.size (fun k_ => some k_ ≠ (u6 : Value).ownBlock) u5 x5_1) := ⟨by rw [← hq_]; exact (by (with_reducible repeat (first | apply Kd.R_alloc | apply Kd.R_drewN | apply Kd.R_drew)); exact HO_5.out)⟩; have n1_ : Aside0 (Kd.R (Kd.int .i64) 3 wc w.heap.size (fun k_ => some k_ ≠ (u5 : Value).ownBlock) u6 x6_1) := ⟨by rw [← hq_]; exact (by (with_reducible repeat (first | apply Kd.R_alloc | apply Kd.R_drewN | apply Kd.R_drew)); exact HO_6.out)⟩; have n2_ : Aside0 (Below w.heap.size w wc) := ⟨by rw [← hq_]; exact (by repeat (first | (with_reducible first | exact HB.out | apply below_alloc | apply pw_below_drewN | apply below_drew1) | exact HB.out))⟩; clear HO_5 HO_6 HB hq_; have HO_5 := n0_; have HO_6 := n1_; have HB := n2_; clear n0_ n1_ n2_))
                        have n0_ := Aside0.mk (Kd.R_drew HO_5.out)
                        have n1_ := Aside0.mk (Kd.R_drew HO_6.out)
                        have n2_ := Aside0.mk (below_drew1 HB.out)
                        clear HO_5
                        clear HO_6
                        clear HB
                        have HO_5 := n0_
                        have HO_6 := n1_
                        have HB := n2_
                        clear n0_ n1_ n2_
                        have p150 : 0 ≤ ((ji15) : Int) := of_decide_eq_true (by first | (with_reducible assumption) | assumption)
                        have q150 : (ji15) < (l0.length : Int) := of_decide_eq_true (by first | (with_reducible assumption) | assumption)
                        obtain ⟨ad150, e150, hx150_0⟩ := Kd.at_int HR0.out (ji15) p150 q150
                        have hw150_0 := hx150_0
                        obtain rfl : ad145 = ad150 := (by injection e150)
                        replace hx150_0 := (HB.out.cell (World.block_lt_of_cell? w _ hx150_0)).trans hx150_0
                        replace p150 := eq_true p150
                        replace q150 := eq_true q150
                        refine start_ (n := 20) (S := fun w' => w'.cell? (ad145.add ((ji15)).toNat) = some (.int .i64 (rd l0 (ji15)))) (ds := []) #[false, false, false, false, false, false, false, false, false, false, false, false, false, false, false, false, false, false, false, false] (by kernel_rfl) rfl rfl (((HB.out.cell (World.block_lt_of_cell? w _ hw150_0)).trans hw150_0)) (fun hHeld => ?_); refine with_tabW w02_SegShared.tab7 w02_SegShared.bits7 (fun HT_ HW_ => ?_)
                        generalize wc.drew = w21 at HO_5 HO_6 HB hx150_0 hHeld ⊢
                        refine pure_ (i := 0) (N := some 51) (v := ?_) (a' := ?_) #[true, false, false, false, false, false, false, false, false, false, false, false, false, false, false, false, false, false, false, false] rfl rfl (any_of HT_.out (by kernel_rfl)) (fun _ _ _ h => h) (Or.inl ⟨by rfl, ?_⟩) ?_ ?_
                        rotate_left
                        · intro w'
                          go_simp
                          with_reducible rfl
                        rotate_left
                        · simp only [Act.put, List.setIfInBounds_toArray, List.set_cons_zero, List.set_cons_succ, i64_w, i32_w]
                          rfl
                        refine pure_ (i := 1) (N := some 52) (v := ?_) (a' := ?_) #[true, true, false, false, false, false, false, false, false, false, false, false, false, false, false, false, false, false, false, false] rfl rfl (any_of HT_.out (by kernel_rfl)) (fun _ _ _ h => h) (Or.inl ⟨by rfl, ?_⟩) ?_ ?_
                        rotate_left
                        · intro w'
                          go_simp
                          with_reducible rfl
                        rotate_left
                        · simp only [Act.put, List.setIfInBounds_toArray, List.set_cons_zero, List.set_cons_succ, i64_w, i32_w]
                          rfl
                        refine pure_ (i := 4) (N := some 55) (v := ?_) (a' := ?_) #[true, true, false, false, true, false, false, false, false, false, false, false, false, false, false, false, false, false, false, false] rfl rfl (any_of HT_.out (by kernel_rfl)) (fun _ _ _ h => h) (Or.inl ⟨by rfl, ?_⟩) ?_ ?_
                        rotate_left
                        · intro w'
                          go_simp
                          with_reducible rfl
                        rotate_left
                        · simp only [Act.put, List.setIfInBounds_toArray, List.set_cons_zero, List.set_cons_succ, i64_w, i32_w]
                          rfl
                        refine pure_ (i := 5) (N := some 56) (v := ?_) (a' := ?_) #[true, true, false, false, true, true, false, false, false, false, false, false, false, false, false, false, false, false, false, false] rfl rfl (any_of HT_.out (by kernel_rfl)) (fun _ _ _ h => h) (Or.inl ⟨by rfl, ?_⟩) ?_ ?_
                        rotate_left
                        · intro w'
                          go_simp
                          with_reducible rfl
                        rotate_left
                        · simp only [Act.put, List.setIfInBounds_toArray, List.set_cons_zero, List.set_cons_succ, i64_w, i32_w]
                          rfl
                        refine pure_ (i := 6) (N := some 57) (v := ?_) (a' := ?_) #[true, true, false, false, true, true, true, false, false, false, false, false, false, false, false, false, false, false, false, false] rfl rfl (any_of HT_.out (by kernel_rfl)) (fun _ _ _ h => h) (Or.inl ⟨by rfl, ?_⟩) ?_ ?_
                        rotate_left
                        · intro w'
                          go_simp
                          with_reducible rfl
                        rotate_left
                        · simp only [Act.put, List.setIfInBounds_toArray, List.set_cons_zero, List.set_cons_succ, i64_w, i32_w]
                          rfl
                        refine pure_ (i := 7) (N := some 58) (v := ?_) (a' := ?_) #[true, true, false, false, true, true, true, true, false, false, false, false, false, false, false, false, false, false, false, false] rfl rfl (any_of HT_.out (by kernel_rfl)) (fun _ _ _ h => h) (Or.inl ⟨by rfl, ?_⟩) ?_ ?_
                        rotate_left
                        · intro w'
                          go_simp
                          with_reducible rfl
                        rotate_left
                        · simp only [Act.put, List.setIfInBounds_toArray, List.set_cons_zero, List.set_cons_succ, i64_w, i32_w]
                          rfl
                        refine pure_ (i := 8) (N := some 59) (v := ?_) (a' := ?_) #[true, true, false, false, true, true, true, true, true, false, false, false, false, false, false, false, false, false, false, false] rfl rfl (any_of HT_.out (by kernel_rfl)) (fun _ _ _ h => h) (Or.inl ⟨by rfl, ?_⟩) ?_ ?_
                        rotate_left
                        · intro w'
                          go_simp
                          with_reducible rfl
                        rotate_left
                        · simp only [Act.put, List.setIfInBounds_toArray, List.set_cons_zero, List.set_cons_succ, i64_w, i32_w]
                          rfl
                        refine pure_ (i := 10) (N := some 61) (v := ?_) (a' := ?_) #[true, true, false, false, true, true, true, true, true, false, true, false, false, false, false, false, false, false, false, false] rfl rfl (any_of HT_.out (by kernel_rfl)) (fun _ _ _ h => h) (Or.inl ⟨by rfl, ?_⟩) ?_ ?_
                        rotate_left
                        · intro w'
                          go_simp
                          with_reducible rfl
                        rotate_left
                        · simp only [Act.put, List.setIfInBounds_toArray, List.set_cons_zero, List.set_cons_succ, i64_w, i32_w]
                          rfl
                        refine pure_ (i := 11) (N := some 62) (v := ?_) (a' := ?_) #[true, true, false, false, true, true, true, true, true, false, true, true, false, false, false, false, false, false, false, false] rfl rfl (any_of HT_.out (by kernel_rfl)) (fun _ _ _ h => h) (Or.inl ⟨by rfl, ?_⟩) ?_ ?_
                        rotate_left
                        · intro w'
                          go_simp
                          with_reducible rfl
                        rotate_left
                        · simp only [Act.put, List.setIfInBounds_toArray, List.set_cons_zero, List.set_cons_succ, i64_w, i32_w]
                          rfl
                        refine pure_ (i := 12) (N := some 63) (v := ?_) (a' := ?_) #[true, true, false, false, true, true, true, true, true, false, true, true, true, false, false, false, false, false, false, false] rfl rfl (any_of HT_.out (by kernel_rfl)) (fun _ _ _ h => h) (Or.inl ⟨by rfl, ?_⟩) ?_ ?_
                        rotate_left
                        · intro w'
                          go_simp
                          with_reducible rfl
                        rotate_left
                        · simp only [Act.put, List.setIfInBounds_toArray, List.set_cons_zero, List.set_cons_succ, i64_w, i32_w]
                          rfl
                        refine pure_ (i := 13) (N := some 64) (v := ?_) (a' := ?_) #[true, true, false, false, true, true, true, true, true, false, true, true, true, true, false, false, false, false, false, false] rfl rfl (any_of HT_.out (by kernel_rfl)) (fun _ _ _ h => h) (Or.inl ⟨by rfl, ?_⟩) ?_ ?_
                        rotate_left
                        · intro w'
                          go_simp
                          with_reducible rfl
                        rotate_left
                        · simp only [Act.put, List.setIfInBounds_toArray, List.set_cons_zero, List.set_cons_succ, i64_w, i32_w]
                          rfl
                        refine pure_ (i := 14) (N := some 65) (v := ?_) (a' := ?_) #[true, true, false, false, true, true, true, true, true, false, true, true, true, true, true, false, false, false, false, false] rfl rfl (any_of HT_.out (by kernel_rfl)) (fun _ _ _ h => h) (Or.inl ⟨by rfl, ?_⟩) ?_ ?_
                        rotate_left
                        · intro w'
                          go_simp
                          with_reducible rfl
                        rotate_left
                        · simp only [Act.put, List.setIfInBounds_toArray, List.set_cons_zero, List.set_cons_succ, i64_w, i32_w]
                          rfl
                        refine take_ (i := 9) (N := some 60) (v := ?_) (a' := ?_) #[true, true, false, false, true, true, true, true, true, true, true, true, true, true, true, false, false, false, false, false] rfl rfl (take_ofW HT_.out HW_.out (by kernel_rfl)) (fun _ _ _ h => h) (Or.inl ⟨by rfl, ?_⟩) hHeld ?_ ?_
                        rotate_left
                        · intro w' s0
                          go_simp
                          with_reducible rfl
                        rotate_left
                        · simp only [Act.put, List.setIfInBounds_toArray, List.set_cons_zero, List.set_cons_succ, i64_w, i32_w]
                          rfl
                        refine one_ (i := 2) (N := some 53) #[true, true, true, false, true, true, true, true, true, true, true, true, true, true, true, false, false, false, false, false] rfl rfl (one_of HT_.out (by kernel_rfl)) (by decide) (fun K hK => ?_)
                        refine value_ (w1 := ?_) (v := ?_) (by rfl) rfl ?_ ?_
                        rotate_left 2
                        · go_simp
                          constructor
                          · rfl
                          · rfl
                        refine hK.out _ _ ((World.cell?_alloc_lt _ _ _ (World.block_lt_of_cell? _ _ (((HB.out.cell (World.block_lt_of_cell? w _ hw150_0)).trans hw150_0)))).trans (((HB.out.cell (World.block_lt_of_cell? w _ hw150_0)).trans hw150_0))) (fun hHeld => ?_)
                        clear hK K
                        refine norm_ (a' := ?_) ?_ ?_
                        rotate_left
                        · show Act.put _ (some 53) _ = _
                          simp only [Act.put, List.setIfInBounds_toArray, List.set_cons_zero, List.set_cons_succ, i64_w, i32_w]
                          rfl
                        refine one_ (i := 3) (N := some 54) #[true, true, true, true, true, true, true, true, true, true, true, true, true, true, true, false, false, false, false, false] rfl rfl (one_of HT_.out (by kernel_rfl)) (by decide) (fun K hK => ?_)
                        refine Kd.R_append_step (Kd.int .i64) (w0 := w) w.heap.size (by rfl) (.tmp 51) (.tmp 53) 22 3 (.int .i64 0) 8 rfl Try.underlying22 info3 rfl (by decide) (by omega) u5 x5_1 t146 [.int .i64 t146] (fun k_ => some k_ ≠ (u6 : Value).ownBlock) (fun _ => False) rfl rfl ?aP (fun _ hk => hk.elim) ?aF ?aO ?aB ?aS ?aL ?_
                        (case aP => exact rfl)
                        (case aB => exact (by repeat (first | (with_reducible first | exact HB.out | apply below_alloc | apply pw_below_drewN | apply below_drew1) | exact HB.out)))
                        (case aF => exact (fun k_ hk => Kd.fresh' (Kd.R_lt (by (with_reducible repeat (first | apply Kd.R_alloc | apply Kd.R_drewN | apply Kd.R_drew)); exact HO_6.out)) k_ hk))
                        (case aO => exact (by (with_reducible repeat (first | apply Kd.R_alloc | apply Kd.R_drewN | apply Kd.R_drew)); exact HO_5.out))
                        (case aS => exact (below_size (by repeat (first | (with_reducible first | exact HB.out | apply below_alloc | apply pw_below_drewN | apply below_drew1) | exact HB.out))))
                        (case aL => have := LMc14.out; omega)
                        intro v148 w22 ho hb hg hat
                        rw [← Ny147.out] at ho
                        have n0_ := Aside0.mk (Kd.R_after (ok := (fun _ => True)) (by (with_reducible repeat (first | apply Kd.R_alloc | apply Kd.R_drewN | apply Kd.R_drew)); exact Kd.R_mono HO_6.out (fun _ hk => ⟨trivial, hk⟩)) hg hat)
                        have n1_ := Aside0.mk (hb)
                        have n2_ := Aside0.mk (ho)
                        clear HO_6
                        clear HB
                        clear HO_5
                        have HO_6 := n0_
                        have HB := n1_
                        have HO149 := n2_
                        clear n0_ n1_ n2_
                        clear ho hb hg hat
                        refine hK.out _ _ (((HB.out.cell (World.block_lt_of_cell? w _ hw150_0)).trans hw150_0)) (fun hHeld => ?_)
                        clear hK K
                        refine norm_ (a' := ?_) ?_ ?_
                        rotate_left
                        · show Act.put _ (some 54) _ = _
                          simp only [Act.put, List.setIfInBounds_toArray, List.set_cons_zero, List.set_cons_succ, i64_w, i32_w]
                          rfl
                        refine one_ (i := 15) (N := some 66) #[true, true, true, true, true, true, true, true, true, true, true, true, true, true, true, true, false, false, false, false] rfl rfl (one_of HT_.out (by kernel_rfl)) (by decide) (fun K hK => ?_)
                        refine goes_ Try.func48 (by kernel_rfl) rfl #[.int .i64 (rd l0 (ji15)), .int .i64 (wrap64 ((ji18) + 1))] (by rfl) rfl rfl (by (try simp only [List.map_toArray, List.map_cons, List.map_nil]); first | done | (simp only [hji15, hji18]; rfl) | rfl | (simp only [List.length_drop, List.length_take]; rfl)) ?_
                        with_reducible refine (r00_Turn.calls (rd l0 (ji15)) (wrap64 ((ji18) + 1)) t151 _ A19.out).mono ?_
                        rintro e w' ⟨rfl, ⟨nd, rfl⟩⟩
                        refine ⟨_, rfl, ?_⟩
                        refine hK.out _ _ (((HB.out.cell (World.block_lt_of_cell? w _ hw150_0)).trans hw150_0)) (fun hHeld => ?_)
                        clear hK K
                        refine norm_ (a' := ?_) ?_ ?_
                        rotate_left
                        · show Act.put _ (some 66) _ = _
                          simp only [Act.put, List.setIfInBounds_toArray, List.set_cons_zero, List.set_cons_succ, i64_w, i32_w]
                          rfl
                        refine one_ (i := 16) (N := some 67) #[true, true, true, true, true, true, true, true, true, true, true, true, true, true, true, true, true, false, false, false] rfl rfl (one_of HT_.out (by kernel_rfl)) (by decide) (fun K hK => ?_)
                        refine value_ (w1 := ?_) (v := ?_) (by rfl) rfl ?_ ?_
                        rotate_left 2
                        · go_simp
                          constructor
                          · rfl
                          · rfl
                        refine hK.out _ _ ((World.cell?_alloc_lt _ _ _ (World.block_lt_of_cell? _ _ (((HB.out.cell (World.block_lt_of_cell? w _ hw150_0)).trans hw150_0)))).trans (((HB.out.cell (World.block_lt_of_cell? w _ hw150_0)).trans hw150_0))) (fun hHeld => ?_)
                        clear hK K
                        refine norm_ (a' := ?_) ?_ ?_
                        rotate_left
                        · show Act.put _ (some 67) _ = _
                          simp only [Act.put, List.setIfInBounds_toArray, List.set_cons_zero, List.set_cons_succ, i64_w, i32_w]
                          rfl
                        refine one_ (i := 17) (N := some 68) #[true, true, true, true, true, true, true, true, true, true, true, true, true, true, true, true, true, true, false, false] rfl rfl (one_of HT_.out (by kernel_rfl)) (by decide) (fun K hK => ?_)
                        refine Kd.R_append_step (Kd.int .i64) (w0 := w) w.heap.size (by rfl) (.tmp 55) (.tmp 67) 22 3 (.int .i64 0) 8 rfl Try.underlying22 info3 rfl (by decide) (by omega) u6 x6_1 t151 [.int .i64 t151] (fun k_ => some k_ ≠ (v148 : Value).ownBlock) (fun _ => False) rfl rfl ?aP (fun _ hk => hk.elim) ?aF ?aO ?aB ?aS ?aL ?_
                        (case aP => exact rfl)
                        (case aB => exact (by repeat (first | (with_reducible first | exact HB.out | apply below_alloc | apply pw_below_drewN | apply below_drew1) | exact HB.out)))
                        (case aF => exact (fun k_ hk => Kd.fresh' (Kd.R_lt (by (with_reducible repeat (first | apply Kd.R_alloc | apply Kd.R_drewN | apply Kd.R_drew)); exact HO149.out)) k_ hk))
                        (case aO => exact (by (with_reducible repeat (first | apply Kd.R_alloc | apply Kd.R_drewN | apply Kd.R_drew)); exact Kd.R_mono HO_6.out (fun _ hk => hk.2)))
                        (case aS => exact (below_size (by repeat (first | (with_reducible first | exact HB.out | apply below_alloc | apply pw_below_drewN | apply below_drew1) | exact HB.out))))
                        (case aL => have := LMc20.out; omega)
                        intro v153 w23 ho hb hg hat
                        rw [← Ny152.out] at ho
                        have n0_ := Aside0.mk (Kd.R_after (ok := (fun _ => True)) (by (with_reducible repeat (first | apply Kd.R_alloc | apply Kd.R_drewN | apply Kd.R_drew)); exact Kd.R_mono HO149.out (fun _ hk => ⟨trivial, hk⟩)) hg hat)
                        have n1_ := Aside0.mk (hb)
                        have n2_ := Aside0.mk (ho)
                        clear HO149
                        clear HB
                        clear HO_6
                        have HO149 := n0_
                        have HB := n1_
                        have HO154 := n2_
                        clear n0_ n1_ n2_
                        clear ho hb hg hat
                        refine hK.out _ _ (((HB.out.cell (World.block_lt_of_cell? w _ hw150_0)).trans hw150_0)) (fun hHeld => ?_)
                        clear hK K
                        refine norm_ (a' := ?_) ?_ ?_
                        rotate_left
                        · show Act.put _ (some 68) _ = _
                          simp only [Act.put, List.setIfInBounds_toArray, List.set_cons_zero, List.set_cons_succ, i64_w, i32_w]
                          rfl
                        refine pure_ (i := 18) (N := some 5) (v := ?_) (a' := ?_) #[true, true, true, true, true, true, true, true, true, true, true, true, true, true, true, true, true, true, true, false] rfl rfl (any_of HT_.out (by kernel_rfl)) (fun _ _ _ h => h) (Or.inl ⟨by rfl, ?_⟩) ?_ ?_
                        rotate_left
                        · intro w'
                          go_simp
                          with_reducible rfl
                        rotate_left
                        · simp only [Act.put, List.setIfInBounds_toArray, List.set_cons_zero, List.set_cons_succ, i64_w, i32_w]
                          rfl
                        refine pure_ (i := 19) (N := some 6) (v := ?_) (a' := ?_) #[true, true, true, true, true, true, true, true, true, true, true, true, true, true, true, true, true, true, true, true] rfl rfl (any_of HT_.out (by kernel_rfl)) (fun _ _ _ h => h) (Or.inl ⟨by rfl, ?_⟩) ?_ ?_
                        rotate_left
                        · intro w'
                          go_simp
                          with_reducible rfl
                        rotate_left
                        · simp only [Act.put, List.setIfInBounds_toArray, List.set_cons_zero, List.set_cons_succ, i64_w, i32_w]
                          rfl
                        refine done_ (done_of HT_.out (by kernel_rfl)) ?_
                        try go_wp2
                        go_roundg kj7
                        case measure => have := HK1.out; have := HJ7.out; omega
                        case rel => exact ⟨(y147), (y152), (wrap64 (x7_1 + 2)), (by first | rfl | (simp; done) | (simp [*]; done)), H', ⟨by have := HK1.out; have := HJ7.out; omega⟩, ⟨by (with_reducible repeat (first | apply Kd.R_alloc | apply Kd.R_drewN | apply Kd.R_drew)); exact Kd.R_mono HO149.out (fun _ hk => hk.2)⟩, ⟨by (with_reducible repeat (first | apply Kd.R_alloc | apply Kd.R_drewN | apply Kd.R_drew)); exact HO154.out⟩, ⟨by repeat (first | (with_reducible first | exact HB.out | apply below_alloc | apply pw_below_drewN | apply below_drew1) | exact HB.out)⟩⟩
                      · rw [if_neg c20] at H
                        exact absurd H (by simp)
                    · rw [if_neg c17] at H
                      exact absurd H (by simp)
                  · rw [if_neg c16] at H
                    exact absurd H (by simp)
                · rw [if_neg c14] at H
                  exact absurd H (by simp)
              · rw [if_neg c12] at H
                exact absurd H (by simp)
            · rw [if_neg c11] at H
              exact absurd H (by simp)
          · replace c10 := Bool.eq_false_iff.mpr c10
            subst c10
            have H1 : ((Hand.rShared.f x5_1 x6_1 t138).bind fun bt155 => ((Hand.rPlaces.f x5_1 x6_1 t138).bind fun bt157 => ((Hand.rCompact.f x5_1 x6_1 t138).bind fun bt161 => ((Hand.rDepth.f x5_1 x6_1 t138).bind fun bt168 => ((Hand.sTouched.f x5_1 x6_1 t138).bind fun bt170 => (if bt155.2 = 0 then (if bt157.2 = 0 then (if bt161.2.2 = 0 then (if bt168.2 = 0 then (if bt170.2 = 0 then ((r00_Sum.f kj7 x6_1).bind fun t174 => (if bt155.1 = t174 then (if (bt157.1.length : Int) = bt155.1 then (w02_SegShared.j2 kj7 x6_1 bt155.1 bt157.1 bt161.1 bt161.2.1 bt168.1 bt170.1 ((bt161.1.length : Int) != (x6_1.length : Int))) else (w02_SegShared.j2 kj7 x6_1 bt155.1 bt157.1 bt161.1 bt161.2.1 bt168.1 bt170.1 true)) else (w02_SegShared.j2 kj7 x6_1 bt155.1 bt157.1 bt161.1 bt161.2.1 bt168.1 bt170.1 true))) else (w02_SegShared.j2 kj7 x6_1 bt155.1 bt157.1 bt161.1 bt161.2.1 bt168.1 bt170.1 true)) else (w02_SegShared.j2 kj7 x6_1 bt155.1 bt157.1 bt161.1 bt161.2.1 bt168.1 bt170.1 true)) else (w02_SegShared.j2 kj7 x6_1 bt155.1 bt157.1 bt161.1 bt161.2.1 bt168.1 bt170.1 true)) else (w02_SegShared.j2 kj7 x6_1 bt155.1 bt157.1 bt161.1 bt161.2.1 bt168.1 bt170.1 true)) else (w02_SegShared.j2 kj7 x6_1 bt155.1 bt157.1 bt161.1 bt161.2.1 bt168.1 bt170.1 true))))))) = some r := by rw [if_neg (show ¬ (false = true) by decide)] at H; exact H
            clear H
            have H := H1
            clear H1
            replace H := Option.bind_eq_some_iff.mp H
            obtain ⟨⟨t155, t156⟩, A240, H⟩ := H
            replace H : ((Hand.rPlaces.f x5_1 x6_1 t138).bind fun bt157 => ((Hand.rCompact.f x5_1 x6_1 t138).bind fun bt161 => ((Hand.rDepth.f x5_1 x6_1 t138).bind fun bt168 => ((Hand.sTouched.f x5_1 x6_1 t138).bind fun bt170 => (if t156 = 0 then (if bt157.2 = 0 then (if bt161.2.2 = 0 then (if bt168.2 = 0 then (if bt170.2 = 0 then ((r00_Sum.f kj7 x6_1).bind fun t174 => (if t155 = t174 then (if (bt157.1.length : Int) = t155 then (w02_SegShared.j2 kj7 x6_1 t155 bt157.1 bt161.1 bt161.2.1 bt168.1 bt170.1 ((bt161.1.length : Int) != (x6_1.length : Int))) else (w02_SegShared.j2 kj7 x6_1 t155 bt157.1 bt161.1 bt161.2.1 bt168.1 bt170.1 true)) else (w02_SegShared.j2 kj7 x6_1 t155 bt157.1 bt161.1 bt161.2.1 bt168.1 bt170.1 true))) else (w02_SegShared.j2 kj7 x6_1 t155 bt157.1 bt161.1 bt161.2.1 bt168.1 bt170.1 true)) else (w02_SegShared.j2 kj7 x6_1 t155 bt157.1 bt161.1 bt161.2.1 bt168.1 bt170.1 true)) else (w02_SegShared.j2 kj7 x6_1 t155 bt157.1 bt161.1 bt161.2.1 bt168.1 bt170.1 true)) else (w02_SegShared.j2 kj7 x6_1 t155 bt157.1 bt161.1 bt161.2.1 bt168.1 bt170.1 true)) else (w02_SegShared.j2 kj7 x6_1 t155 bt157.1 bt161.1 bt161.2.1 bt168.1 bt170.1 true)))))) = some r := H
            have A24 := Aside0.mk A240
            clear A240
            replace H := Option.bind_eq_some_iff.mp H
            obtain ⟨⟨t157, t160⟩, A250, H⟩ := H
            replace H : ((Hand.rCompact.f x5_1 x6_1 t138).bind fun bt161 => ((Hand.rDepth.f x5_1 x6_1 t138).bind fun bt168 => ((Hand.sTouched.f x5_1 x6_1 t138).bind fun bt170 => (if t156 = 0 then (if t160 = 0 then (if bt161.2.2 = 0 then (if bt168.2 = 0 then (if bt170.2 = 0 then ((r00_Sum.f kj7 x6_1).bind fun t174 => (if t155 = t174 then (if (t157.length : Int) = t155 then (w02_SegShared.j2 kj7 x6_1 t155 t157 bt161.1 bt161.2.1 bt168.1 bt170.1 ((bt161.1.length : Int) != (x6_1.length : Int))) else (w02_SegShared.j2 kj7 x6_1 t155 t157 bt161.1 bt161.2.1 bt168.1 bt170.1 true)) else (w02_SegShared.j2 kj7 x6_1 t155 t157 bt161.1 bt161.2.1 bt168.1 bt170.1 true))) else (w02_SegShared.j2 kj7 x6_1 t155 t157 bt161.1 bt161.2.1 bt168.1 bt170.1 true)) else (w02_SegShared.j2 kj7 x6_1 t155 t157 bt161.1 bt161.2.1 bt168.1 bt170.1 true)) else (w02_SegShared.j2 kj7 x6_1 t155 t157 bt161.1 bt161.2.1 bt168.1 bt170.1 true)) else (w02_SegShared.j2 kj7 x6_1 t155 t157 bt161.1 bt161.2.1 bt168.1 bt170.1 true)) else (w02_SegShared.j2 kj7 x6_1 t155 t157 bt161.1 bt161.2.1 bt168.1 bt170.1 true))))) = some r := H
            have A25 := Aside0.mk A250
            clear A250
            replace H := Option.bind_eq_some_iff.mp H
            obtain ⟨⟨t161, t164, t167⟩, A260, H⟩ := H
            replace H : ((Hand.rDepth.f x5_1 x6_1 t138).bind fun bt168 => ((Hand.sTouched.f x5_1 x6_1 t138).bind fun bt170 => (if t156 = 0 then (if t160 = 0 then (if t167 = 0 then (if bt168.2 = 0 then (if bt170.2 = 0 then ((r00_Sum.f kj7 x6_1).bind fun t174 => (if t155 = t174 then (if (t157.length : Int) = t155 then (w02_SegShared.j2 kj7 x6_1 t155 t157 t161 t164 bt168.1 bt170.1 ((t161.length : Int) != (x6_1.length : Int))) else (w02_SegShared.j2 kj7 x6_1 t155 t157 t161 t164 bt168.1 bt170.1 true)) else (w02_SegShared.j2 kj7 x6_1 t155 t157 t161 t164 bt168.1 bt170.1 true))) else (w02_SegShared.j2 kj7 x6_1 t155 t157 t161 t164 bt168.1 bt170.1 true)) else (w02_SegShared.j2 kj7 x6_1 t155 t157 t161 t164 bt168.1 bt170.1 true)) else (w02_SegShared.j2 kj7 x6_1 t155 t157 t161 t164 bt168.1 bt170.1 true)) else (w02_SegShared.j2 kj7 x6_1 t155 t157 t161 t164 bt168.1 bt170.1 true)) else (w02_SegShared.j2 kj7 x6_1 t155 t157 t161 t164 bt168.1 bt170.1 true)))) = some r := H
            have A26 := Aside0.mk A260
            clear A260
            replace H := Option.bind_eq_some_iff.mp H
            obtain ⟨⟨t168, t169⟩, A270, H⟩ := H
            replace H : ((Hand.sTouched.f x5_1 x6_1 t138).bind fun bt170 => (if t156 = 0 then (if t160 = 0 then (if t167 = 0 then (if t169 = 0 then (if bt170.2 = 0 then ((r00_Sum.f kj7 x6_1).bind fun t174 => (if t155 = t174 then (if (t157.length : Int) = t155 then (w02_SegShared.j2 kj7 x6_1 t155 t157 t161 t164 t168 bt170.1 ((t161.length : Int) != (x6_1.length : Int))) else (w02_SegShared.j2 kj7 x6_1 t155 t157 t161 t164 t168 bt170.1 true)) else (w02_SegShared.j2 kj7 x6_1 t155 t157 t161 t164 t168 bt170.1 true))) else (w02_SegShared.j2 kj7 x6_1 t155 t157 t161 t164 t168 bt170.1 true)) else (w02_SegShared.j2 kj7 x6_1 t155 t157 t161 t164 t168 bt170.1 true)) else (w02_SegShared.j2 kj7 x6_1 t155 t157 t161 t164 t168 bt170.1 true)) else (w02_SegShared.j2 kj7 x6_1 t155 t157 t161 t164 t168 bt170.1 true)) else (w02_SegShared.j2 kj7 x6_1 t155 t157 t161 t164 t168 bt170.1 true))) = some r := H
            have A27 := Aside0.mk A270
            clear A270
            replace H := Option.bind_eq_some_iff.mp H
            obtain ⟨⟨t170, t173⟩, A280, H⟩ := H
            replace H : (if t156 = 0 then (if t160 = 0 then (if t167 = 0 then (if t169 = 0 then (if t173 = 0 then ((r00_Sum.f kj7 x6_1).bind fun t174 => (if t155 = t174 then (if (t157.length : Int) = t155 then (w02_SegShared.j2 kj7 x6_1 t155 t157 t161 t164 t168 t170 ((t161.length : Int) != (x6_1.length : Int))) else (w02_SegShared.j2 kj7 x6_1 t155 t157 t161 t164 t168 t170 true)) else (w02_SegShared.j2 kj7 x6_1 t155 t157 t161 t164 t168 t170 true))) else (w02_SegShared.j2 kj7 x6_1 t155 t157 t161 t164 t168 t170 true)) else (w02_SegShared.j2 kj7 x6_1 t155 t157 t161 t164 t168 t170 true)) else (w02_SegShared.j2 kj7 x6_1 t155 t157 t161 t164 t168 t170 true)) else (w02_SegShared.j2 kj7 x6_1 t155 t157 t161 t164 t168 t170 true)) else (w02_SegShared.j2 kj7 x6_1 t155 t157 t161 t164 t168 t170 true)) = some r := H
            have A28 := Aside0.mk A280
            clear A280
            have HC29 := Aside0.mk H
            clear H
            obtain ⟨Ao30, co30, eo30⟩ := Kd.R_slice HO_5.out
            subst eo30
            obtain ⟨Ao31, co31, eo31⟩ := Kd.R_slice HO_6.out
            subst eo31
            go_upto_region 13 with (first | ((with_reducible refine gate_callee (f := 37) rfl ?_); refine goesL_ (some 73) rfl rfl Try.func37 (by kernel_rfl) rfl #[.slice Ao30 x5_1.length co30, .slice Ao31 x6_1.length co31, .int .i64 t138] rfl (by (try simp only [List.map_toArray, List.map_cons, List.map_nil]); first | done | rfl | (simp only [List.length_drop, List.length_take]; rfl)) ?_; (with_reducible refine (Hand.rShared.calls _ _ x5_1 _ _ x6_1 t138 t155 t156 _ ?side1 ?side2 ?side3 ?side4 A24.out).mono ?_); (case side1 => repeat (first | exact (Kd.R_reads' HO_5.out).2.2 | (with_reducible refine Kd.C_alloc ?_ _) | (with_reducible refine Kd.C_drewN ?_ _) | (with_reducible refine Kd.C_drew ?_))); (case side2 => exact (Kd.R_reads' HO_5.out).2.1); (case side3 => repeat (first | exact (Kd.R_reads' HO_6.out).2.2 | (with_reducible refine Kd.C_alloc ?_ _) | (with_reducible refine Kd.C_drewN ?_ _) | (with_reducible refine Kd.C_drew ?_))); (case side4 => exact (Kd.R_reads' HO_6.out).2.1); rintro e w32 ⟨rfl, hb⟩; refine ⟨_, rfl, ?_⟩; have n0_ := Aside0.mk (Kd.R_below (by (with_reducible repeat (first | apply Kd.R_alloc | apply Kd.R_drewN | apply Kd.R_drew)); exact HO_5.out) hb); have n1_ := Aside0.mk (Kd.R_below (by (with_reducible repeat (first | apply Kd.R_alloc | apply Kd.R_drewN | apply Kd.R_drew)); exact HO_6.out) hb); have n2_ := Aside0.mk (below_step (by repeat (first | (with_reducible first | exact HB.out | apply below_alloc | apply pw_below_drewN | apply below_drew1) | exact HB.out)) hb); clear HO_5; clear HO_6; clear HB; have HO_5 := n0_; have HO_6 := n1_; have HB := n2_; clear n0_ n1_ n2_; (try clear hb); (try clear hb2); (try clear hk); (try clear hi)) | ((with_reducible refine gate_callee (f := 43) rfl ?_); refine goesL_ (some 80) rfl rfl Try.func43 (by kernel_rfl) rfl #[.slice Ao30 x5_1.length co30, .slice Ao31 x6_1.length co31, .int .i64 t138] rfl (by (try simp only [List.map_toArray, List.map_cons, List.map_nil]); first | done | rfl | (simp only [List.length_drop, List.length_take]; rfl)) ?_; (with_reducible refine (Hand.rPlaces.calls _ _ x5_1 _ _ x6_1 t138 t157 t160 _ ?side1 ?side2 ?side3 ?side4 A25.out).mono ?_); (case side1 => repeat (first | exact (Kd.R_reads' HO_5.out).2.2 | (with_reducible refine Kd.C_alloc ?_ _) | (with_reducible refine Kd.C_drewN ?_ _) | (with_reducible refine Kd.C_drew ?_))); (case side2 => exact (Kd.R_reads' HO_5.out).2.1); (case side3 => repeat (first | exact (Kd.R_reads' HO_6.out).2.2 | (with_reducible refine Kd.C_alloc ?_ _) | (with_reducible refine Kd.C_drewN ?_ _) | (with_reducible refine Kd.C_drew ?_))); (case side4 => exact (Kd.R_reads' HO_6.out).2.1); rintro e w33 ⟨v158, rfl, ho0, hb⟩; refine ⟨_, rfl, ?_⟩; have n0_ := Aside0.mk (Kd.R_below (by (with_reducible repeat (first | apply Kd.R_alloc | apply Kd.R_drewN | apply Kd.R_drew)); exact HO_5.out) hb); have n1_ := Aside0.mk (Kd.R_below (by (with_reducible repeat (first | apply Kd.R_alloc | apply Kd.R_drewN | apply Kd.R_drew)); exact HO_6.out) hb); have n2_ := Aside0.mk (Kd.V_lower (Kd.V_mono (ok' := fun k_ => some k_ ≠ (.slice Ao30 x5_1.length co30 : Value).ownBlock ∧ some k_ ≠ (.slice Ao31 x6_1.length co31 : Value).ownBlock) ho0 (fun k_ hk_ => ⟨(Kd.fresh' (Kd.R_lt (by (with_reducible repeat (first | apply Kd.R_alloc | apply Kd.R_drewN | apply Kd.R_drew)); exact HO_5.out)) k_ hk_), (Kd.fresh' (Kd.R_lt (by (with_reducible repeat (first | apply Kd.R_alloc | apply Kd.R_drewN | apply Kd.R_drew)); exact HO_6.out)) k_ hk_)⟩)) (below_size (by repeat (first | (with_reducible first | exact HB.out | apply below_alloc | apply pw_below_drewN | apply below_drew1) | exact HB.out)))); have n3_ := Aside0.mk (below_step (by repeat (first | (with_reducible first | exact HB.out | apply below_alloc | apply pw_below_drewN | apply below_drew1) | exact HB.out)) hb); clear HO_5; clear HO_6; clear HB; have HO_5 := n0_; have HO_6 := n1_; have HO159 := n2_; have HB := n3_; clear n0_ n1_ n2_ n3_; (try clear hb); (try clear hb2); (try clear hk); (try clear hi); (try clear ho0)) | ((with_reducible refine gate_callee (f := 45) rfl ?_); refine goesL_ (some 87) rfl rfl Try.func45 (by kernel_rfl) rfl #[.slice Ao30 x5_1.length co30, .slice Ao31 x6_1.length co31, .int .i64 t138] rfl (by (try simp only [List.map_toArray, List.map_cons, List.map_nil]); first | done | rfl | (simp only [List.length_drop, List.length_take]; rfl)) ?_; (with_reducible refine (Hand.rCompact.calls _ _ x5_1 _ _ x6_1 t138 t161 t164 t167 _ ?side1 ?side2 ?side3 ?side4 A26.out).mono ?_); (case side1 => repeat (first | exact (Kd.R_reads' HO_5.out).2.2 | (with_reducible refine Kd.C_alloc ?_ _) | (with_reducible refine Kd.C_drewN ?_ _) | (with_reducible refine Kd.C_drew ?_))); (case side2 => exact (Kd.R_reads' HO_5.out).2.1); (case side3 => repeat (first | exact (Kd.R_reads' HO_6.out).2.2 | (with_reducible refine Kd.C_alloc ?_ _) | (with_reducible refine Kd.C_drewN ?_ _) | (with_reducible refine Kd.C_drew ?_))); (case side4 => exact (Kd.R_reads' HO_6.out).2.1); rintro e w34 ⟨v162, v165, rfl, ho0, ho1, hb⟩; refine ⟨_, rfl, ?_⟩; have n0_ := Aside0.mk (Kd.R_below (by (with_reducible repeat (first | apply Kd.R_alloc | apply Kd.R_drewN | apply Kd.R_drew)); exact HO_5.out) hb); have n1_ := Aside0.mk (Kd.R_below (by (with_reducible repeat (first | apply Kd.R_alloc | apply Kd.R_drewN | apply Kd.R_drew)); exact HO_6.out) hb); have n2_ := Aside0.mk (Kd.V_below (by (with_reducible repeat (first | apply Kd.V_alloc | apply Kd.V_drewN | apply Kd.V_drew)); exact HO159.out) hb); have n3_ := Aside0.mk (Kd.V_lower (Kd.V_mono (ok' := fun k_ => some k_ ≠ (.slice Ao30 x5_1.length co30 : Value).ownBlock ∧ some k_ ≠ (.slice Ao31 x6_1.length co31 : Value).ownBlock) ho0 (fun k_ hk_ => ⟨(Kd.fresh' (Kd.R_lt (by (with_reducible repeat (first | apply Kd.R_alloc | apply Kd.R_drewN | apply Kd.R_drew)); exact HO_5.out)) k_ hk_), (Kd.fresh' (Kd.R_lt (by (with_reducible repeat (first | apply Kd.R_alloc | apply Kd.R_drewN | apply Kd.R_drew)); exact HO_6.out)) k_ hk_)⟩)) (below_size (by repeat (first | (with_reducible first | exact HB.out | apply below_alloc | apply pw_below_drewN | apply below_drew1) | exact HB.out)))); have n4_ := Aside0.mk (Kd.V_lower (Kd.V_mono (ok' := fun k_ => some k_ ≠ (.slice Ao30 x5_1.length co30 : Value).ownBlock ∧ some k_ ≠ (.slice Ao31 x6_1.length co31 : Value).ownBlock) ho1 (fun k_ hk_ => ⟨(Kd.fresh' (Kd.R_lt (by (with_reducible repeat (first | apply Kd.R_alloc | apply Kd.R_drewN | apply Kd.R_drew)); exact HO_5.out)) k_ hk_), (Kd.fresh' (Kd.R_lt (by (with_reducible repeat (first | apply Kd.R_alloc | apply Kd.R_drewN | apply Kd.R_drew)); exact HO_6.out)) k_ hk_)⟩)) (below_size (by repeat (first | (with_reducible first | exact HB.out | apply below_alloc | apply pw_below_drewN | apply below_drew1) | exact HB.out)))); have n5_ := Aside0.mk (below_step (by repeat (first | (with_reducible first | exact HB.out | apply below_alloc | apply pw_below_drewN | apply below_drew1) | exact HB.out)) hb); clear HO_5; clear HO_6; clear HO159; clear HB; have HO_5 := n0_; have HO_6 := n1_; have HO159 := n2_; have HO163 := n3_; have HO166 := n4_; have HB := n5_; clear n0_ n1_ n2_ n3_ n4_ n5_; (try clear hb); (try clear hb2); (try clear hk); (try clear hi); (try clear ho0); (try clear ho1)) | ((with_reducible refine gate_callee (f := 38) rfl ?_); refine goesL_ (some 95) rfl rfl Try.func38 (by kernel_rfl) rfl #[.slice Ao30 x5_1.length co30, .slice Ao31 x6_1.length co31, .int .i64 t138] rfl (by (try simp only [List.map_toArray, List.map_cons, List.map_nil]); first | done | rfl | (simp only [List.length_drop, List.length_take]; rfl)) ?_; (with_reducible refine (Hand.rDepth.calls _ _ x5_1 _ _ x6_1 t138 t168 t169 _ ?side1 ?side2 ?side3 ?side4 A27.out).mono ?_); (case side1 => repeat (first | exact (Kd.R_reads' HO_5.out).2.2 | (with_reducible refine Kd.C_alloc ?_ _) | (with_reducible refine Kd.C_drewN ?_ _) | (with_reducible refine Kd.C_drew ?_))); (case side2 => exact (Kd.R_reads' HO_5.out).2.1); (case side3 => repeat (first | exact (Kd.R_reads' HO_6.out).2.2 | (with_reducible refine Kd.C_alloc ?_ _) | (with_reducible refine Kd.C_drewN ?_ _) | (with_reducible refine Kd.C_drew ?_))); (case side4 => exact (Kd.R_reads' HO_6.out).2.1); rintro e w35 ⟨rfl, hb⟩; refine ⟨_, rfl, ?_⟩; have n0_ := Aside0.mk (Kd.R_below (by (with_reducible repeat (first | apply Kd.R_alloc | apply Kd.R_drewN | apply Kd.R_drew)); exact HO_5.out) hb); have n1_ := Aside0.mk (Kd.R_below (by (with_reducible repeat (first | apply Kd.R_alloc | apply Kd.R_drewN | apply Kd.R_drew)); exact HO_6.out) hb); have n2_ := Aside0.mk (Kd.V_below (by (with_reducible repeat (first | apply Kd.V_alloc | apply Kd.V_drewN | apply Kd.V_drew)); exact HO159.out) hb); have n3_ := Aside0.mk (Kd.V_below (by (with_reducible repeat (first | apply Kd.V_alloc | apply Kd.V_drewN | apply Kd.V_drew)); exact HO163.out) hb); have n4_ := Aside0.mk (Kd.V_below (by (with_reducible repeat (first | apply Kd.V_alloc | apply Kd.V_drewN | apply Kd.V_drew)); exact HO166.out) hb); have n5_ := Aside0.mk (below_step (by repeat (first | (with_reducible first | exact HB.out | apply below_alloc | apply pw_below_drewN | apply below_drew1) | exact HB.out)) hb); clear HO_5; clear HO_6; clear HO159; clear HO163; clear HO166; clear HB; have HO_5 := n0_; have HO_6 := n1_; have HO159 := n2_; have HO163 := n3_; have HO166 := n4_; have HB := n5_; clear n0_ n1_ n2_ n3_ n4_ n5_; (try clear hb); (try clear hb2); (try clear hk); (try clear hi)) | ((with_reducible refine gate_callee (f := 40) rfl ?_); refine goesL_ (some 102) rfl rfl Try.func40 (by kernel_rfl) rfl #[.slice Ao30 x5_1.length co30, .slice Ao31 x6_1.length co31, .int .i64 t138] rfl (by (try simp only [List.map_toArray, List.map_cons, List.map_nil]); first | done | rfl | (simp only [List.length_drop, List.length_take]; rfl)) ?_; (with_reducible refine (Hand.sTouched.calls _ _ x5_1 _ _ x6_1 t138 t170 t173 _ ?side1 ?side2 ?side3 ?side4 A28.out).mono ?_); (case side1 => repeat (first | exact (Kd.R_reads' HO_5.out).2.2 | (with_reducible refine Kd.C_alloc ?_ _) | (with_reducible refine Kd.C_drewN ?_ _) | (with_reducible refine Kd.C_drew ?_))); (case side2 => exact (Kd.R_reads' HO_5.out).2.1); (case side3 => repeat (first | exact (Kd.R_reads' HO_6.out).2.2 | (with_reducible refine Kd.C_alloc ?_ _) | (with_reducible refine Kd.C_drewN ?_ _) | (with_reducible refine Kd.C_drew ?_))); (case side4 => exact (Kd.R_reads' HO_6.out).2.1); rintro e w36 ⟨v171, rfl, ho0, hb⟩; refine ⟨_, rfl, ?_⟩; have n0_ := Aside0.mk (Kd.R_below (by (with_reducible repeat (first | apply Kd.R_alloc | apply Kd.R_drewN | apply Kd.R_drew)); exact HO_5.out) hb); have n1_ := Aside0.mk (Kd.R_below (by (with_reducible repeat (first | apply Kd.R_alloc | apply Kd.R_drewN | apply Kd.R_drew)); exact HO_6.out) hb); have n2_ := Aside0.mk (Kd.V_below (by (with_reducible repeat (first | apply Kd.V_alloc | apply Kd.V_drewN | apply Kd.V_drew)); exact HO159.out) hb); have n3_ := Aside0.mk (Kd.V_below (by (with_reducible repeat (first | apply Kd.V_alloc | apply Kd.V_drewN | apply Kd.V_drew)); exact HO163.out) hb); have n4_ := Aside0.mk (Kd.V_below (by (with_reducible repeat (first | apply Kd.V_alloc | apply Kd.V_drewN | apply Kd.V_drew)); exact HO166.out) hb); have n5_ := Aside0.mk (Kd.V_lower (Kd.V_mono (ok' := fun k_ => some k_ ≠ (.slice Ao30 x5_1.length co30 : Value).ownBlock ∧ some k_ ≠ (.slice Ao31 x6_1.length co31 : Value).ownBlock) ho0 (fun k_ hk_ => ⟨(Kd.fresh' (Kd.R_lt (by (with_reducible repeat (first | apply Kd.R_alloc | apply Kd.R_drewN | apply Kd.R_drew)); exact HO_5.out)) k_ hk_), (Kd.fresh' (Kd.R_lt (by (with_reducible repeat (first | apply Kd.R_alloc | apply Kd.R_drewN | apply Kd.R_drew)); exact HO_6.out)) k_ hk_)⟩)) (below_size (by repeat (first | (with_reducible first | exact HB.out | apply below_alloc | apply pw_below_drewN | apply below_drew1) | exact HB.out)))); have n6_ := Aside0.mk (below_step (by repeat (first | (with_reducible first | exact HB.out | apply below_alloc | apply pw_below_drewN | apply below_drew1) | exact HB.out)) hb); clear HO_5; clear HO_6; clear HO159; clear HO163; clear HO166; clear HB; have HO_5 := n0_; have HO_6 := n1_; have HO159 := n2_; have HO163 := n3_; have HO166 := n4_; have HO172 := n5_; have HB := n6_; clear n0_ n1_ n2_ n3_ n4_ n5_ n6_; (try clear hb); (try clear hb2); (try clear hk); (try clear hi); (try clear ho0)))
            (try simp only [Act.put, List.setIfInBounds_toArray, List.set_cons_zero, List.set_cons_succ])
            go_cut [141] (fun zv141 wc => ∃ (kq : Nat) (x141_28 : Bool), zv141 = .bool x141_28 ∧ Aside0 (w02_SegShared.j2 kq x6_1 t155 t157 t161 t164 t168 t170 x141_28 = some r) ∧ Aside0 (kq ≤ kj7) ∧ Aside0 (Kd.R (Kd.int .i64) 3 wc w.heap.size (fun _ => True) (.slice Ao31 x6_1.length co31) x6_1) ∧ Aside0 (Kd.V (Kd.int .i64) 3 wc w.heap.size (fun k_ => some k_ ≠ ((.slice Ao31 x6_1.length co31) : Value).ownBlock) v158 t157) ∧ Aside0 (Kd.V (Kd.int .i64) 3 wc w.heap.size (fun k_ => some k_ ≠ ((.slice Ao31 x6_1.length co31) : Value).ownBlock) v162 t161) ∧ Aside0 (Kd.V (Kd.int .i64) 3 wc w.heap.size (fun k_ => some k_ ≠ ((.slice Ao31 x6_1.length co31) : Value).ownBlock) v165 t164) ∧ Aside0 (Kd.V k52 52 wc w.heap.size (fun k_ => some k_ ≠ ((.slice Ao31 x6_1.length co31) : Value).ownBlock) v171 t170) ∧ Aside0 (Below w.heap.size w wc))
            case first =>
              have H := HC29.out
              clear HC29
              by_cases c37 : t156 = 0
              · rw [if_pos c37] at H
                have c37b0 : (t156 == 0) = true := beq_iff_eq.mpr c37
                have c37b1 : (t156 != 0) = false := bne_eq_false_iff_eq.mpr c37
                clear c37
                (first | rw [c37b0] | (simp only [i64_w, i32_w]; rw [c37b0]) | skip)
                by_cases c38 : t160 = 0
                · rw [if_pos c38] at H
                  have c38b0 : (t160 == 0) = true := beq_iff_eq.mpr c38
                  have c38b1 : (t160 != 0) = false := bne_eq_false_iff_eq.mpr c38
                  clear c38
                  by_cases c39 : t167 = 0
                  · rw [if_pos c39] at H
                    have c39b0 : (t167 == 0) = true := beq_iff_eq.mpr c39
                    have c39b1 : (t167 != 0) = false := bne_eq_false_iff_eq.mpr c39
                    clear c39
                    by_cases c40 : t169 = 0
                    · rw [if_pos c40] at H
                      have c40b0 : (t169 == 0) = true := beq_iff_eq.mpr c40
                      have c40b1 : (t169 != 0) = false := bne_eq_false_iff_eq.mpr c40
                      clear c40
                      by_cases c41 : t173 = 0
                      · rw [if_pos c41] at H
                        have c41b0 : (t173 == 0) = true := beq_iff_eq.mpr c41
                        have c41b1 : (t173 != 0) = false := bne_eq_false_iff_eq.mpr c41
                        clear c41
                        replace H := Option.bind_eq_some_iff.mp H
                        obtain ⟨t174, A420, H⟩ := H
                        replace H : (if t155 = t174 then (if (t157.length : Int) = t155 then (w02_SegShared.j2 kj7 x6_1 t155 t157 t161 t164 t168 t170 ((t161.length : Int) != (x6_1.length : Int))) else (w02_SegShared.j2 kj7 x6_1 t155 t157 t161 t164 t168 t170 true)) else (w02_SegShared.j2 kj7 x6_1 t155 t157 t161 t164 t168 t170 true)) = some r := H
                        have A42 := Aside0.mk A420
                        clear A420
                        by_cases c43 : t155 = t174
                        · rw [if_pos c43] at H
                          have c43b0 : (t155 == t174) = true := beq_iff_eq.mpr c43
                          have c43b1 : (t155 != t174) = false := bne_eq_false_iff_eq.mpr c43
                          clear c43
                          by_cases c44 : (t157.length : Int) = t155
                          · rw [if_pos c44] at H
                            have c44b0 : ((t157.length : Int) == t155) = true := beq_iff_eq.mpr c44
                            have c44b1 : ((t157.length : Int) != t155) = false := bne_eq_false_iff_eq.mpr c44
                            clear c44
                            have H' := Aside0.mk H
                            clear H
                            go_wp2_with (first | (go_at_call 25; (try simp only [i64_w]); (with_reducible refine (r00_Sum.calls kj7 _ _ x6_1 t174 _ ?side1 ?side2 A42.out).mono ?_); (case side1 => repeat (first | exact (Kd.R_reads' HO_6.out).2.2 | (with_reducible refine Kd.C_alloc ?_ _) | (with_reducible refine Kd.C_drewN ?_ _) | (with_reducible refine Kd.C_drew ?_))); (case side2 => exact (Kd.R_reads' HO_6.out).2.1); rintro e w' ⟨rfl, ⟨nd, rfl⟩⟩; obtain ⟨Ao45, co45, eo45⟩ := Kd.V_slice HO159.out; subst eo45; obtain ⟨Ao46, co46, eo46⟩ := Kd.V_slice HO163.out; subst eo46))
                            go_meet
                            case rel => exact ⟨_, (((t161.length : Int) != (x6_1.length : Int))), (by first | rfl | (simp; done) | (simp [*]; done)), H', ⟨by have := HK1.out; have := HJ7.out; first | omega | exact Nat.le_refl _⟩, ⟨by (with_reducible repeat (first | apply Kd.R_alloc | apply Kd.R_drewN | apply Kd.R_drew)); exact Kd.R_mono HO_6.out (fun _ hk => trivial)⟩, ⟨by (with_reducible repeat (first | apply Kd.V_alloc | apply Kd.V_drewN | apply Kd.V_drew)); exact Kd.V_mono HO159.out (fun _ hk => hk.2)⟩, ⟨by (with_reducible repeat (first | apply Kd.V_alloc | apply Kd.V_drewN | apply Kd.V_drew)); exact Kd.V_mono HO163.out (fun _ hk => hk.2)⟩, ⟨by (with_reducible repeat (first | apply Kd.V_alloc | apply Kd.V_drewN | apply Kd.V_drew)); exact Kd.V_mono HO166.out (fun _ hk => hk.2)⟩, ⟨by (with_reducible repeat (first | apply Kd.V_alloc | apply Kd.V_drewN | apply Kd.V_drew)); exact Kd.V_mono HO172.out (fun _ hk => hk.2)⟩, ⟨by repeat (first | (with_reducible first | exact HB.out | apply below_alloc | apply pw_below_drewN | apply below_drew1) | exact HB.out)⟩⟩
                          · rw [if_neg c44] at H
                            exact absurd H (by first | (rw [w02_SegShared.j2_true]; simp) | (rw [w02_SegShared.j3_true]; simp) | (rw [w02_SegShared.j5_true]; simp) | (rw [w02_SegShared.j8_true]; simp))
                        · rw [if_neg c43] at H
                          exact absurd H (by first | (rw [w02_SegShared.j2_true]; simp) | (rw [w02_SegShared.j3_true]; simp) | (rw [w02_SegShared.j5_true]; simp) | (rw [w02_SegShared.j8_true]; simp))
                      · rw [if_neg c41] at H
                        exact absurd H (by first | (rw [w02_SegShared.j2_true]; simp) | (rw [w02_SegShared.j3_true]; simp) | (rw [w02_SegShared.j5_true]; simp) | (rw [w02_SegShared.j8_true]; simp))
                    · rw [if_neg c40] at H
                      exact absurd H (by first | (rw [w02_SegShared.j2_true]; simp) | (rw [w02_SegShared.j3_true]; simp) | (rw [w02_SegShared.j5_true]; simp) | (rw [w02_SegShared.j8_true]; simp))
                  · rw [if_neg c39] at H
                    exact absurd H (by first | (rw [w02_SegShared.j2_true]; simp) | (rw [w02_SegShared.j3_true]; simp) | (rw [w02_SegShared.j5_true]; simp) | (rw [w02_SegShared.j8_true]; simp))
                · rw [if_neg c38] at H
                  exact absurd H (by first | (rw [w02_SegShared.j2_true]; simp) | (rw [w02_SegShared.j3_true]; simp) | (rw [w02_SegShared.j5_true]; simp) | (rw [w02_SegShared.j8_true]; simp))
              · rw [if_neg c37] at H
                exact absurd H (by first | (rw [w02_SegShared.j2_true]; simp) | (rw [w02_SegShared.j3_true]; simp) | (rw [w02_SegShared.j5_true]; simp) | (rw [w02_SegShared.j8_true]; simp))
            case rest => as_aux_lemma =>
              clear HC29
              try clear c1
              try clear p1
              try clear q1
              try clear hx1
              try clear c2
              try clear p2
              try clear c3
              try clear c4
              try clear p6
              try clear c9
              try clear c9b0
              try clear c10
              try clear c11
              try clear c11b0
              try clear c12
              try clear c12b0
              try clear c14
              try clear p14
              try clear q14
              try clear hx14
              try clear p15
              try clear q15
              try clear hx15
              try clear c16
              try clear c16b0
              try clear c17
              try clear c17b0
              try clear c20
              try clear c37
              try clear c37b0
              try clear c37b1
              try clear c38
              try clear c38b0
              try clear c38b1
              try clear c39
              try clear c39b0
              try clear c39b1
              try clear c40
              try clear c40b0
              try clear c40b1
              try clear c41
              try clear c41b0
              try clear c41b1
              try clear c43
              try clear c43b0
              try clear c43b1
              try clear c44
              try clear c44b0
              try clear c44b1
              try clear c45
              try clear hx145_0
              try clear hx150_0
              try clear p145
              try clear p150
              try clear p2
              try clear p6
              try clear q145
              try clear q150
              obtain ⟨kq, x141_28, rfl, HA, HJ28, HO_6, HO_11, HO_13, HO_14, HO_18, HB⟩ := hcut
              cases kq with
              | zero => exact absurd HA.out (by simp [w02_SegShared.j2])
              | succ kj28 =>
                have H := HA.out
                clear HA
                simp only [w02_SegShared.j2] at H
                by_cases c48 : x141_28 = true
                · subst c48
                  have H1 : (none) = some r := by rw [if_pos rfl] at H; exact H
                  clear H
                  have H := H1
                  clear H1
                  exact absurd H (by simp)
                · replace c48 := Bool.eq_false_iff.mpr c48
                  subst c48
                  have H1 : ((Hand.rPlaces.f t161 x6_1 (t164.length : Int)).bind fun bt175 => (if bt175.2 = 0 then (if (bt175.1.length : Int) = t155 then ((r00_Union.f kj28 ([] : List Int) t157).bind fun t179 => ((Hand.Eq_.f t179 t164).bind fun t182 => (w02_SegShared.j3 kj28 t155 t157 t164 t168 t170 bt175.1 (!t182)))) else (w02_SegShared.j3 kj28 t155 t157 t164 t168 t170 bt175.1 true)) else (w02_SegShared.j3 kj28 t155 t157 t164 t168 t170 bt175.1 true))) = some r := by rw [if_neg (show ¬ (false = true) by decide)] at H; exact H
                  clear H
                  have H := H1
                  clear H1
                  replace H := Option.bind_eq_some_iff.mp H
                  obtain ⟨⟨t175, t178⟩, A490, H⟩ := H
                  replace H : (if t178 = 0 then (if (t175.length : Int) = t155 then ((r00_Union.f kj28 ([] : List Int) t157).bind fun t179 => ((Hand.Eq_.f t179 t164).bind fun t182 => (w02_SegShared.j3 kj28 t155 t157 t164 t168 t170 t175 (!t182)))) else (w02_SegShared.j3 kj28 t155 t157 t164 t168 t170 t175 true)) else (w02_SegShared.j3 kj28 t155 t157 t164 t168 t170 t175 true)) = some r := H
                  have A49 := Aside0.mk A490
                  clear A490
                  have HC50 := Aside0.mk H
                  clear H
                  obtain ⟨Ao51, co51, eo51⟩ := Kd.V_slice HO_14.out
                  subst eo51
                  obtain ⟨Ao52, co52, eo52⟩ := Kd.V_slice HO_13.out
                  subst eo52
                  go_upto_region 16 with (first | ((with_reducible refine gate_callee (f := 43) rfl ?_); refine goesL_ (some 147) rfl rfl Try.func43 (by kernel_rfl) rfl #[.slice Ao52 t161.length co52, .slice Ao31 x6_1.length co31, .int .i64 (t164.length : Int)] rfl (by (try simp only [List.map_toArray, List.map_cons, List.map_nil]); first | done | rfl | (simp only [List.length_drop, List.length_take]; rfl)) ?_; (with_reducible refine (Hand.rPlaces.calls _ _ t161 _ _ x6_1 (t164.length : Int) t175 t178 _ ?side1 ?side2 ?side3 ?side4 A49.out).mono ?_); (case side1 => repeat (first | exact (Kd.V_reads' HO_13.out).2.2 | (with_reducible refine Kd.C_alloc ?_ _) | (with_reducible refine Kd.C_drewN ?_ _) | (with_reducible refine Kd.C_drew ?_))); (case side2 => exact (Kd.V_reads' HO_13.out).2.1); (case side3 => repeat (first | exact (Kd.R_reads' HO_6.out).2.2 | (with_reducible refine Kd.C_alloc ?_ _) | (with_reducible refine Kd.C_drewN ?_ _) | (with_reducible refine Kd.C_drew ?_))); (case side4 => exact (Kd.R_reads' HO_6.out).2.1); rintro e w53 ⟨v176, rfl, ho0, hb⟩; refine ⟨_, rfl, ?_⟩; have n0_ := Aside0.mk (Kd.R_below (by (with_reducible repeat (first | apply Kd.R_alloc | apply Kd.R_drewN | apply Kd.R_drew)); exact HO_6.out) hb); have n1_ := Aside0.mk (Kd.V_below (by (with_reducible repeat (first | apply Kd.V_alloc | apply Kd.V_drewN | apply Kd.V_drew)); exact HO_11.out) hb); have n2_ := Aside0.mk (Kd.V_below (by (with_reducible repeat (first | apply Kd.V_alloc | apply Kd.V_drewN | apply Kd.V_drew)); exact HO_13.out) hb); have n3_ := Aside0.mk (Kd.V_below (by (with_reducible repeat (first | apply Kd.V_alloc | apply Kd.V_drewN | apply Kd.V_drew)); exact HO_14.out) hb); have n4_ := Aside0.mk (Kd.V_below (by (with_reducible repeat (first | apply Kd.V_alloc | apply Kd.V_drewN | apply Kd.V_drew)); exact HO_18.out) hb); have n5_ := Aside0.mk (Kd.V_lower (Kd.V_mono (ok' := fun k_ => some k_ ≠ (.slice Ao31 x6_1.length co31 : Value).ownBlock) ho0 (fun k_ hk_ => (Kd.fresh' (Kd.R_lt (by (with_reducible repeat (first | apply Kd.R_alloc | apply Kd.R_drewN | apply Kd.R_drew)); exact HO_6.out)) k_ hk_))) (below_size (by repeat (first | (with_reducible first | exact HB.out | apply below_alloc | apply pw_below_drewN | apply below_drew1) | exact HB.out)))); have n6_ := Aside0.mk (below_step (by repeat (first | (with_reducible first | exact HB.out | apply below_alloc | apply pw_below_drewN | apply below_drew1) | exact HB.out)) hb); clear HO_6; clear HO_11; clear HO_13; clear HO_14; clear HO_18; clear HB; have HO_6 := n0_; have HO_11 := n1_; have HO_13 := n2_; have HO_14 := n3_; have HO_18 := n4_; have HO177 := n5_; have HB := n6_; clear n0_ n1_ n2_ n3_ n4_ n5_ n6_; (try clear hb); (try clear hb2); (try clear hk); (try clear hi); (try clear ho0)))
                  (try simp only [Act.put, List.setIfInBounds_toArray, List.set_cons_zero, List.set_cons_succ])
                  go_cut [164] (fun zv164 wc => ∃ (kq : Nat) (x164_49 : Bool), zv164 = .bool x164_49 ∧ Aside0 (w02_SegShared.j3 kq t155 t157 t164 t168 t170 t175 x164_49 = some r) ∧ Aside0 (kq ≤ kj28) ∧ Aside0 (Kd.V (Kd.int .i64) 3 wc w.heap.size (fun _ => True) v158 t157) ∧ Aside0 (Kd.V (Kd.int .i64) 3 wc w.heap.size (fun _ => True) (.slice Ao51 t164.length co51) t164) ∧ Aside0 (Kd.V k52 52 wc w.heap.size (fun _ => True) v171 t170) ∧ Aside0 (Kd.V (Kd.int .i64) 3 wc w.heap.size (fun _ => True) v176 t175) ∧ Aside0 (Below w.heap.size w wc))
                  case first =>
                    have H := HC50.out
                    clear HC50
                    by_cases c54 : t178 = 0
                    · rw [if_pos c54] at H
                      have c54b0 : (t178 == 0) = true := beq_iff_eq.mpr c54
                      have c54b1 : (t178 != 0) = false := bne_eq_false_iff_eq.mpr c54
                      clear c54
                      (first | rw [c54b0] | (simp only [i64_w, i32_w]; rw [c54b0]) | skip)
                      by_cases c55 : (t175.length : Int) = t155
                      · rw [if_pos c55] at H
                        have c55b0 : ((t175.length : Int) == t155) = true := beq_iff_eq.mpr c55
                        have c55b1 : ((t175.length : Int) != t155) = false := bne_eq_false_iff_eq.mpr c55
                        clear c55
                        replace H := Option.bind_eq_some_iff.mp H
                        obtain ⟨t179, A560, H⟩ := H
                        replace H : ((Hand.Eq_.f t179 t164).bind fun t182 => (w02_SegShared.j3 kj28 t155 t157 t164 t168 t170 t175 (!t182))) = some r := H
                        have A56 := Aside0.mk A560
                        clear A560
                        replace H := Option.bind_eq_some_iff.mp H
                        obtain ⟨t182, A570, H⟩ := H
                        replace H : (w02_SegShared.j3 kj28 t155 t157 t164 t168 t170 t175 (!t182)) = some r := H
                        have A57 := Aside0.mk A570
                        clear A570
                        have H' := Aside0.mk H
                        clear H
                        obtain ⟨Ao58, co58, eo58⟩ := Kd.V_slice HO177.out
                        subst eo58
                        obtain ⟨Ao59, co59, eo59⟩ := Kd.V_slice HO_11.out
                        subst eo59
                        go_wp2_with (first | (go_at_call 50; (refine (r00_Union.calls kj28 _ _ ([] : List Int) _ _ t157 t179 _ ?side1 ?side2 ?side3 ?side4 A56.out).mono ?_); (case side1 => exact Kd.C_nil _ _); (case side2 => exact Nat.le_refl _); (case side3 => repeat (first | exact (Kd.V_reads' HO_11.out).2.2 | (with_reducible refine Kd.C_alloc ?_ _) | (with_reducible refine Kd.C_drewN ?_ _) | (with_reducible refine Kd.C_drew ?_))); (case side4 => exact (Kd.V_reads' HO_11.out).2.1); rintro e w60 ⟨v180, rfl, ho0, hb⟩; have n0_ := Aside0.mk (Kd.R_elder' (by (with_reducible repeat (first | apply Kd.R_alloc | apply Kd.R_drewN | apply Kd.R_drew)); exact HO_6.out) (Kd.R_base ho0) hb); have n1_ := Aside0.mk (Kd.V_elder' (by (with_reducible repeat (first | apply Kd.V_alloc | apply Kd.V_drewN | apply Kd.V_drew)); exact HO_11.out) (Kd.R_base ho0) hb); have n2_ := Aside0.mk (Kd.V_elder' (by (with_reducible repeat (first | apply Kd.V_alloc | apply Kd.V_drewN | apply Kd.V_drew)); exact HO_13.out) (Kd.R_base ho0) hb); have n3_ := Aside0.mk (Kd.V_elder' (by (with_reducible repeat (first | apply Kd.V_alloc | apply Kd.V_drewN | apply Kd.V_drew)); exact HO_14.out) (Kd.R_base ho0) hb); have n4_ := Aside0.mk (Kd.V_elder' (by (with_reducible repeat (first | apply Kd.V_alloc | apply Kd.V_drewN | apply Kd.V_drew)); exact HO_18.out) (Kd.R_base ho0) hb); have n5_ := Aside0.mk (Kd.V_elder' (by (with_reducible repeat (first | apply Kd.V_alloc | apply Kd.V_drewN | apply Kd.V_drew)); exact HO177.out) (Kd.R_base ho0) hb); have n6_ := Aside0.mk (Kd.R_lower (Kd.R_new' ho0 (Kd.R_lt (by (with_reducible repeat (first | apply Kd.R_alloc | apply Kd.R_drewN | apply Kd.R_drew)); exact HO_6.out))) (below_size (by repeat (first | (with_reducible first | exact HB.out | apply below_alloc | apply pw_below_drewN | apply below_drew1) | exact HB.out)))); have n7_ := Aside0.mk (below_step (by repeat (first | (with_reducible first | exact HB.out | apply below_alloc | apply pw_below_drewN | apply below_drew1) | exact HB.out)) hb); clear HO_6; clear HO_11; clear HO_13; clear HO_14; clear HO_18; clear HO177; clear HB; have HO_6 := n0_; have HO_11 := n1_; have HO_13 := n2_; have HO_14 := n3_; have HO_18 := n4_; have HO177 := n5_; have HO181 := n6_; have HB := n7_; clear n0_ n1_ n2_ n3_ n4_ n5_ n6_ n7_; (try clear hb); (try clear hb2); (try clear hk); (try clear hi); (try clear ho0); obtain ⟨Ao61, co61, eo61⟩ := Kd.R_slice HO181.out; subst eo61) | (go_at_call 22; (try simp only [i64_w]); (with_reducible refine (Hand.Eq_.calls _ _ t179 _ _ t164 t182 _ ?side1 ?side2 ?side3 ?side4 A57.out).mono ?_); (case side1 => repeat (first | exact (Kd.R_reads' HO181.out).2.2 | (with_reducible refine Kd.C_alloc ?_ _) | (with_reducible refine Kd.C_drewN ?_ _) | (with_reducible refine Kd.C_drew ?_))); (case side2 => exact (Kd.R_reads' HO181.out).2.1); (case side3 => repeat (first | exact (Kd.V_reads' HO_14.out).2.2 | (with_reducible refine Kd.C_alloc ?_ _) | (with_reducible refine Kd.C_drewN ?_ _) | (with_reducible refine Kd.C_drew ?_))); (case side4 => exact (Kd.V_reads' HO_14.out).2.1); rintro e w' ⟨rfl, ⟨nd, rfl⟩⟩))
                        go_meet
                        case rel => exact ⟨_, (!t182), (by first | rfl | (simp; done) | (simp [*]; done)), H', ⟨by have := HK1.out; have := HJ7.out; have := HJ28.out; first | omega | exact Nat.le_refl _⟩, ⟨by (with_reducible repeat (first | apply Kd.V_alloc | apply Kd.V_drewN | apply Kd.V_drew)); exact Kd.V_mono HO_11.out (fun _ hk => trivial)⟩, ⟨by (with_reducible repeat (first | apply Kd.V_alloc | apply Kd.V_drewN | apply Kd.V_drew)); exact Kd.V_mono HO_14.out (fun _ hk => trivial)⟩, ⟨by (with_reducible repeat (first | apply Kd.V_alloc | apply Kd.V_drewN | apply Kd.V_drew)); exact Kd.V_mono HO_18.out (fun _ hk => trivial)⟩, ⟨by (with_reducible repeat (first | apply Kd.V_alloc | apply Kd.V_drewN | apply Kd.V_drew)); exact Kd.V_mono HO177.out (fun _ hk => trivial)⟩, ⟨by repeat (first | (with_reducible first | exact HB.out | apply below_alloc | apply pw_below_drewN | apply below_drew1) | exact HB.out)⟩⟩
                      · rw [if_neg c55] at H
                        exact absurd H (by first | (rw [w02_SegShared.j2_true]; simp) | (rw [w02_SegShared.j3_true]; simp) | (rw [w02_SegShared.j5_true]; simp) | (rw [w02_SegShared.j8_true]; simp))
                    · rw [if_neg c54] at H
                      exact absurd H (by first | (rw [w02_SegShared.j2_true]; simp) | (rw [w02_SegShared.j3_true]; simp) | (rw [w02_SegShared.j5_true]; simp) | (rw [w02_SegShared.j8_true]; simp))
                  case rest => as_aux_lemma =>
                    clear HC50
                    try clear c1
                    try clear p1
                    try clear q1
                    try clear hx1
                    try clear c2
                    try clear p2
                    try clear c3
                    try clear c4
                    try clear c5
                    try clear p6
                    try clear c9
                    try clear c9b0
                    try clear c10
                    try clear c11
                    try clear c11b0
                    try clear c12
                    try clear c12b0
                    try clear c14
                    try clear p14
                    try clear q14
                    try clear hx14
                    try clear p15
                    try clear q15
                    try clear hx15
                    try clear c16
                    try clear c16b0
                    try clear c17
                    try clear c17b0
                    try clear c20
                    try clear c37
                    try clear c37b0
                    try clear c37b1
                    try clear c38
                    try clear c38b0
                    try clear c38b1
                    try clear c39
                    try clear c39b0
                    try clear c39b1
                    try clear c40
                    try clear c40b0
                    try clear c40b1
                    try clear c41
                    try clear c41b0
                    try clear c41b1
                    try clear c43
                    try clear c43b0
                    try clear c43b1
                    try clear c44
                    try clear c44b0
                    try clear c44b1
                    try clear c45
                    try clear c48
                    try clear c54
                    try clear c54b0
                    try clear c54b1
                    try clear c55
                    try clear c55b0
                    try clear c55b1
                    try clear hx145_0
                    try clear hx150_0
                    try clear p1
                    try clear p14
                    try clear p145
                    try clear p15
                    try clear p150
                    try clear p2
                    try clear p6
                    try clear q1
                    try clear q14
                    try clear q145
                    try clear q15
                    try clear q150
                    obtain ⟨kq, x164_49, rfl, HA, HJ49, HO_11, HO_14, HO_18, HO_20, HB⟩ := hcut
                    cases kq with
                    | zero => exact absurd HA.out (by simp [w02_SegShared.j3])
                    | succ kj49 =>
                      have H := HA.out
                      clear HA
                      simp only [w02_SegShared.j3] at H
                      by_cases c63 : x164_49 = true
                      · subst c63
                        have H1 : (none) = some r := by rw [if_pos rfl] at H; exact H
                        clear H
                        have H := H1
                        clear H1
                        exact absurd H (by simp)
                      · replace c63 := Bool.eq_false_iff.mpr c63
                        subst c63
                        have H1 : (w02_SegShared.l1 kj49 t155 t157 t164 t168 t170 t175 0 0 0) = some r := by rw [if_neg (show ¬ (false = true) by decide)] at H; exact H
                        clear H
                        have H := H1
                        clear H1
                        have H' := Aside0.mk H
                        clear H
                        go_wp2
                        go_loopg [21, 23] kj49 (fun kq v21 v23 w' => ∃ (x21_5 : Int) (x23_5 : Int), v21 = .int .i64 x21_5 ∧ v23 = .int .i64 x23_5 ∧ Aside0 (w02_SegShared.l1 kq t155 t157 t164 t168 t170 t175 x21_5 0 x23_5 = some r) ∧ Aside0 (kq ≤ kj49) ∧ Aside0 (Kd.V (Kd.int .i64) 3 w' w.heap.size (fun _ => True) v158 t157) ∧ Aside0 (Kd.V (Kd.int .i64) 3 w' w.heap.size (fun _ => True) (.slice Ao51 t164.length co51) t164) ∧ Aside0 (Kd.V k52 52 w' w.heap.size (fun _ => True) v171 t170) ∧ Aside0 (Kd.V (Kd.int .i64) 3 w' w.heap.size (fun _ => True) v176 t175) ∧ Aside0 (Below w.heap.size w w'))
                        case atStart => exact ⟨(0), (0), (by first | rfl | (simp; done) | (simp [*]; done)), (by first | rfl | (simp; done) | (simp [*]; done)), H', ⟨Nat.le_refl _⟩, ⟨by (with_reducible repeat (first | apply Kd.V_alloc | apply Kd.V_drewN | apply Kd.V_drew)); exact HO_11.out⟩, ⟨by (with_reducible repeat (first | apply Kd.V_alloc | apply Kd.V_drewN | apply Kd.V_drew)); exact HO_14.out⟩, ⟨by (with_reducible repeat (first | apply Kd.V_alloc | apply Kd.V_drewN | apply Kd.V_drew)); exact HO_18.out⟩, ⟨by (with_reducible repeat (first | apply Kd.V_alloc | apply Kd.V_drewN | apply Kd.V_drew)); exact HO_20.out⟩, ⟨by repeat (first | (with_reducible first | exact HB.out | apply below_alloc | apply pw_below_drewN | apply below_drew1) | exact HB.out)⟩⟩
                        case round => as_aux_lemma =>
                          clear H'
                          try clear c1
                          try clear p1
                          try clear q1
                          try clear hx1
                          try clear c2
                          try clear p2
                          try clear c3
                          try clear c4
                          try clear c5
                          try clear c6
                          try clear p6
                          try clear c9
                          try clear c9b0
                          try clear c10
                          try clear c11
                          try clear c11b0
                          try clear c12
                          try clear c12b0
                          try clear c14
                          try clear p14
                          try clear q14
                          try clear hx14
                          try clear p15
                          try clear q15
                          try clear hx15
                          try clear c16
                          try clear c16b0
                          try clear c17
                          try clear c17b0
                          try clear c20
                          try clear c37
                          try clear c37b0
                          try clear c37b1
                          try clear c38
                          try clear c38b0
                          try clear c38b1
                          try clear c39
                          try clear c39b0
                          try clear c39b1
                          try clear c40
                          try clear c40b0
                          try clear c40b1
                          try clear c41
                          try clear c41b0
                          try clear c41b1
                          try clear c43
                          try clear c43b0
                          try clear c43b1
                          try clear c44
                          try clear c44b0
                          try clear c44b1
                          try clear c45
                          try clear c48
                          try clear c54
                          try clear c54b0
                          try clear c54b1
                          try clear c55
                          try clear c55b0
                          try clear c55b1
                          try clear c63
                          try clear hx145_0
                          try clear hx150_0
                          try clear p1
                          try clear p14
                          try clear p145
                          try clear p15
                          try clear p150
                          try clear p2
                          try clear p6
                          try clear q1
                          try clear q14
                          try clear q145
                          try clear q15
                          try clear q150
                          obtain ⟨x21_5, x23_5, rfl, rfl, HA, HK5, HO_11, HO_14, HO_18, HO_20, HB⟩ := hrel
                          cases gk with
                          | zero => exact absurd HA.out (by simp [w02_SegShared.l1])
                          | succ k5 =>
                            have H := HA.out
                            clear HA
                            simp only [w02_SegShared.l1] at H
                            by_cases c64 : x23_5 < t155
                            · rw [if_pos c64] at H
                              have c64b0 : decide (x23_5 < t155) = true := decide_eq_true c64
                              clear c64
                              have HC65 := Aside0.mk H
                              clear H
                              go_upto_region 22 with (fail)
                              go_cut [192] (fun zv192 wc => ∃ (kq : Nat) (x192_64 : Bool), zv192 = .bool x192_64 ∧ Aside0 (w02_SegShared.j5 kq t155 t157 t164 t168 t170 t175 x21_5 0 x23_5 x192_64 = some r) ∧ Aside0 (kq ≤ k5) ∧ Aside0 (Kd.V (Kd.int .i64) 3 wc w.heap.size (fun _ => True) v158 t157) ∧ Aside0 (Kd.V (Kd.int .i64) 3 wc w.heap.size (fun _ => True) (.slice Ao51 t164.length co51) t164) ∧ Aside0 (Kd.V k52 52 wc w.heap.size (fun _ => True) v171 t170) ∧ Aside0 (Kd.V (Kd.int .i64) 3 wc w.heap.size (fun _ => True) v176 t175) ∧ Aside0 (Below w.heap.size w wc))
                              case first =>
                                have H := HC65.out
                                clear HC65
                                by_cases c66 : 0 ≤ x23_5
                                · rw [if_pos c66] at H
                                  have c66b0 : decide (0 ≤ x23_5) = true := decide_eq_true c66
                                  clear c66
                                  (first | rw [c66b0] | (simp only [i64_w, i32_w]; rw [c66b0]) | skip)
                                  by_cases c67 : x23_5 < (t175.length : Int)
                                  · rw [if_pos c67] at H
                                    have c67b0 : decide (x23_5 < (t175.length : Int)) = true := decide_eq_true c67
                                    clear c67
                                    replace H := Option.bind_eq_some_iff.mp H
                                    obtain ⟨t184, A680, H⟩ := H
                                    replace H : (if t184 = true then (if 0 ≤ (rd t175 x23_5) then (if (rd t175 x23_5) < (t164.length : Int) then (if x23_5 < (t157.length : Int) then (w02_SegShared.j5 k5 t155 t157 t164 t168 t170 t175 x21_5 0 x23_5 ((rd t164 (rd t175 x23_5)) != (rd t157 x23_5))) else (none)) else (none)) else (none)) else (w02_SegShared.j5 k5 t155 t157 t164 t168 t170 t175 x21_5 0 x23_5 true)) = some r := H
                                    have A68 := Aside0.mk A680
                                    clear A680
                                    by_cases c69 : t184 = true
                                    · subst c69
                                      have H1 : (if 0 ≤ (rd t175 x23_5) then (if (rd t175 x23_5) < (t164.length : Int) then (if x23_5 < (t157.length : Int) then (w02_SegShared.j5 k5 t155 t157 t164 t168 t170 t175 x21_5 0 x23_5 ((rd t164 (rd t175 x23_5)) != (rd t157 x23_5))) else (none)) else (none)) else (none)) = some r := by rw [if_pos rfl] at H; exact H
                                      clear H
                                      have H := H1
                                      clear H1
                                      by_cases c70 : 0 ≤ (rd t175 x23_5)
                                      · rw [if_pos c70] at H
                                        have c70b0 : decide (0 ≤ (rd t175 x23_5)) = true := decide_eq_true c70
                                        clear c70
                                        by_cases c71 : (rd t175 x23_5) < (t164.length : Int)
                                        · rw [if_pos c71] at H
                                          have c71b0 : decide ((rd t175 x23_5) < (t164.length : Int)) = true := decide_eq_true c71
                                          clear c71
                                          by_cases c72 : x23_5 < (t157.length : Int)
                                          · rw [if_pos c72] at H
                                            have c72b0 : decide (x23_5 < (t157.length : Int)) = true := decide_eq_true c72
                                            clear c72
                                            have H' := Aside0.mk H
                                            clear H
                                            try go_wp2
                                            have n0_ := Aside0.mk (Kd.V_drew HO_11.out)
                                            have n1_ := Aside0.mk (Kd.V_drew HO_14.out)
                                            have n2_ := Aside0.mk (Kd.V_drew HO_18.out)
                                            have n3_ := Aside0.mk (Kd.V_drew HO_20.out)
                                            have n4_ := Aside0.mk (below_drew1 HB.out)
                                            clear HO_11
                                            clear HO_14
                                            clear HO_18
                                            clear HO_20
                                            clear HB
                                            have HO_11 := n0_
                                            have HO_14 := n1_
                                            have HO_18 := n2_
                                            have HO_20 := n3_
                                            have HB := n4_
                                            clear n0_ n1_ n2_ n3_ n4_
                                            obtain ⟨Ao74, co74, eo74⟩ := Kd.V_slice HO_20.out
                                            (first | subst eo74 | (injection eo74 with f1_ f2_ f3_; have f4_ := f1_.symm; have f5_ := f3_.symm; clear f1_ f2_ f3_; subst f4_; subst f5_))
                                            have p183 : 0 ≤ (x23_5 : Int) := of_decide_eq_true (by first | (with_reducible assumption) | assumption)
                                            have q183 : x23_5 < (t175.length : Int) := of_decide_eq_true (by first | (with_reducible assumption) | assumption)
                                            try (obtain ⟨Ax_, cx_, ex_⟩ := Kd.V_slice HO_20.out; subst ex_)
                                            obtain ⟨ad183, e183, hx183_0⟩ := Kd.at_int (Kd.V_reads' HO_20.out).2.2 x23_5 p183 q183
                                            cases e183
                                            replace p183 := eq_true p183
                                            replace q183 := eq_true q183
                                            have p185 : 0 ≤ (x23_5 : Int) := of_decide_eq_true (by first | (with_reducible assumption) | assumption)
                                            have q185 : x23_5 < (t175.length : Int) := of_decide_eq_true (by first | (with_reducible assumption) | assumption)
                                            try (obtain ⟨Ax_, cx_, ex_⟩ := Kd.V_slice HO_20.out; subst ex_)
                                            obtain ⟨ad185, e185, hx185_0⟩ := Kd.at_int (Kd.V_reads' HO_20.out).2.2 x23_5 p185 q185
                                            obtain rfl : ad183 = ad185 := (by injection e185)
                                            replace p185 := eq_true p185
                                            replace q185 := eq_true q185
                                            have p186 : 0 ≤ ((rd t175 x23_5) : Int) := of_decide_eq_true (by first | (with_reducible assumption) | assumption)
                                            have q186 : (rd t175 x23_5) < (t164.length : Int) := of_decide_eq_true (by first | (with_reducible assumption) | assumption)
                                            try (obtain ⟨Ax_, cx_, ex_⟩ := Kd.V_slice HO_14.out; subst ex_)
                                            obtain ⟨ad186, e186, hx186_0⟩ := Kd.at_int (Kd.V_reads' HO_14.out).2.2 (rd t175 x23_5) p186 q186
                                            cases e186
                                            replace p186 := eq_true p186
                                            replace q186 := eq_true q186
                                            have p187 : 0 ≤ (x23_5 : Int) := of_decide_eq_true (by first | (with_reducible assumption) | assumption)
                                            have q187 : x23_5 < (t157.length : Int) := of_decide_eq_true (by first | (with_reducible assumption) | assumption)
                                            try (obtain ⟨Ax_, cx_, ex_⟩ := Kd.V_slice HO_11.out; subst ex_)
                                            obtain ⟨ad187, e187, hx187_0⟩ := Kd.at_int (Kd.V_reads' HO_11.out).2.2 x23_5 p187 q187
                                            cases e187
                                            replace p187 := eq_true p187
                                            replace q187 := eq_true q187
                                            refine start_ (n := 23) (S := fun w' => w'.cell? (ad183.add (x23_5).toNat) = some (.int .i64 (rd t175 x23_5)) ∧ w'.cell? (ad183.add (x23_5).toNat) = some (.int .i64 (rd t175 x23_5)) ∧ w'.cell? (ad186.add ((rd t175 x23_5)).toNat) = some (.int .i64 (rd t164 (rd t175 x23_5))) ∧ w'.cell? (ad187.add (x23_5).toNat) = some (.int .i64 (rd t157 x23_5))) (ds := []) #[false, false, false, false, false, false, false, false, false, false, false, false, false, false, false, false, false, false, false, false, false, false, false] (by kernel_rfl) rfl rfl ⟨hx183_0, hx185_0, hx186_0, hx187_0⟩ (fun hHeld => ?_); refine with_tabW w02_SegShared.tab22 w02_SegShared.bits22 (fun HT_ HW_ => ?_)
                                            generalize wr.drew = w73 at HO_11 HO_14 HO_18 HO_20 HB hx183_0 hx185_0 hx186_0 hx187_0 hHeld ⊢
                                            refine pure_ (i := 0) (N := some 170) (v := ?_) (a' := ?_) #[true, false, false, false, false, false, false, false, false, false, false, false, false, false, false, false, false, false, false, false, false, false, false] rfl rfl (any_of HT_.out (by kernel_rfl)) (fun _ _ _ h => h) (Or.inl ⟨by rfl, ?_⟩) ?_ ?_
                                            rotate_left
                                            · intro w'
                                              go_simp
                                              with_reducible rfl
                                            rotate_left
                                            · simp only [Act.put, List.setIfInBounds_toArray, List.set_cons_zero, List.set_cons_succ, i64_w, i32_w]
                                              rfl
                                            refine pure_ (i := 1) (N := some 171) (v := ?_) (a' := ?_) #[true, true, false, false, false, false, false, false, false, false, false, false, false, false, false, false, false, false, false, false, false, false, false] rfl rfl (any_of HT_.out (by kernel_rfl)) (fun _ _ _ h => h) (Or.inl ⟨by rfl, ?_⟩) ?_ ?_
                                            rotate_left
                                            · intro w'
                                              go_simp
                                              with_reducible rfl
                                            rotate_left
                                            · simp only [Act.put, List.setIfInBounds_toArray, List.set_cons_zero, List.set_cons_succ, i64_w, i32_w]
                                              rfl
                                            refine pure_ (i := 2) (N := some 172) (v := ?_) (a' := ?_) #[true, true, true, false, false, false, false, false, false, false, false, false, false, false, false, false, false, false, false, false, false, false, false] rfl rfl (any_of HT_.out (by kernel_rfl)) (fun _ _ _ h => h) (Or.inl ⟨by rfl, ?_⟩) ?_ ?_
                                            rotate_left
                                            · intro w'
                                              go_simp
                                              with_reducible rfl
                                            rotate_left
                                            · simp only [Act.put, List.setIfInBounds_toArray, List.set_cons_zero, List.set_cons_succ, i64_w, i32_w]
                                              rfl
                                            refine pure_ (i := 4) (N := some 174) (v := ?_) (a' := ?_) #[true, true, true, false, true, false, false, false, false, false, false, false, false, false, false, false, false, false, false, false, false, false, false] rfl rfl (any_of HT_.out (by kernel_rfl)) (fun _ _ _ h => h) (Or.inl ⟨by rfl, ?_⟩) ?_ ?_
                                            rotate_left
                                            · intro w'
                                              go_simp
                                              with_reducible rfl
                                            rotate_left
                                            · simp only [Act.put, List.setIfInBounds_toArray, List.set_cons_zero, List.set_cons_succ, i64_w, i32_w]
                                              rfl
                                            refine pure_ (i := 5) (N := some 175) (v := ?_) (a' := ?_) #[true, true, true, false, true, true, false, false, false, false, false, false, false, false, false, false, false, false, false, false, false, false, false] rfl rfl (any_of HT_.out (by kernel_rfl)) (fun _ _ _ h => h) (Or.inl ⟨by rfl, ?_⟩) ?_ ?_
                                            rotate_left
                                            · intro w'
                                              go_simp
                                              with_reducible rfl
                                            rotate_left
                                            · simp only [Act.put, List.setIfInBounds_toArray, List.set_cons_zero, List.set_cons_succ, i64_w, i32_w]
                                              rfl
                                            refine pure_ (i := 6) (N := some 176) (v := ?_) (a' := ?_) #[true, true, true, false, true, true, true, false, false, false, false, false, false, false, false, false, false, false, false, false, false, false, false] rfl rfl (any_of HT_.out (by kernel_rfl)) (fun _ _ _ h => h) (Or.inl ⟨by rfl, ?_⟩) ?_ ?_
                                            rotate_left
                                            · intro w'
                                              go_simp
                                              with_reducible rfl
                                            rotate_left
                                            · simp only [Act.put, List.setIfInBounds_toArray, List.set_cons_zero, List.set_cons_succ, i64_w, i32_w]
                                              rfl
                                            refine take_ (i := 3) (N := some 173) (v := ?_) (a' := ?_) #[true, true, true, true, true, true, true, false, false, false, false, false, false, false, false, false, false, false, false, false, false, false, false] rfl rfl (take_ofW HT_.out HW_.out (by kernel_rfl)) (fun _ _ _ h => h) (Or.inl ⟨by rfl, ?_⟩) hHeld ?_ ?_
                                            rotate_left
                                            · rintro w' ⟨s0, s1, s2, s3⟩
                                              go_simp
                                              with_reducible rfl
                                            rotate_left
                                            · simp only [Act.put, List.setIfInBounds_toArray, List.set_cons_zero, List.set_cons_succ, i64_w, i32_w]
                                              rfl
                                            refine one_ (i := 7) (N := some 177) #[true, true, true, true, true, true, true, true, false, false, false, false, false, false, false, false, false, false, false, false, false, false, false] rfl rfl (one_of HT_.out (by kernel_rfl)) (by decide) (fun K hK => ?_)
                                            refine goes_ Try.func23 (by kernel_rfl) rfl #[.int .i64 (rd t175 x23_5), .int .i64 0, .int .i64 (wrap64 ((t164.length : Int) - 1))] (by rfl) rfl rfl (by (try simp only [List.map_toArray, List.map_cons, List.map_nil]); first | done | rfl | (simp only [List.length_drop, List.length_take]; rfl)) ?_
                                            with_reducible refine (r00_Lies.calls (rd t175 x23_5) 0 (wrap64 ((t164.length : Int) - 1)) true _ A68.out).mono ?_
                                            rintro e w' ⟨rfl, ⟨nd, rfl⟩⟩
                                            refine ⟨_, rfl, ?_⟩
                                            obtain ⟨Ao75, co75, eo75⟩ := Kd.V_slice HO_11.out
                                            (first | subst eo75 | (injection eo75 with f1_ f2_ f3_; have f4_ := f1_.symm; have f5_ := f3_.symm; clear f1_ f2_ f3_; subst f4_; subst f5_))
                                            refine hK.out _ _ ⟨hHeld.1, hHeld.2.1, hHeld.2.2.1, hHeld.2.2.2⟩ (fun hHeld => ?_)
                                            clear hK K
                                            refine norm_ (a' := ?_) ?_ ?_
                                            rotate_left
                                            · show Act.put _ (some 177) _ = _
                                              simp only [Act.put, List.setIfInBounds_toArray, List.set_cons_zero, List.set_cons_succ, i64_w, i32_w]
                                              rfl
                                            refine pure_ (i := 8) (N := some 178) (v := ?_) (a' := ?_) #[true, true, true, true, true, true, true, true, true, false, false, false, false, false, false, false, false, false, false, false, false, false, false] rfl rfl (any_of HT_.out (by kernel_rfl)) (fun _ _ _ h => h) (Or.inl ⟨by rfl, ?_⟩) ?_ ?_
                                            rotate_left
                                            · intro w'
                                              go_simp
                                              with_reducible rfl
                                            rotate_left
                                            · simp only [Act.put, List.setIfInBounds_toArray, List.set_cons_zero, List.set_cons_succ, i64_w, i32_w]
                                              rfl
                                            refine pure_ (i := 9) (N := some 179) (v := ?_) (a' := ?_) #[true, true, true, true, true, true, true, true, true, true, false, false, false, false, false, false, false, false, false, false, false, false, false] rfl rfl (any_of HT_.out (by kernel_rfl)) (fun _ _ _ h => h) (Or.inl ⟨by rfl, ?_⟩) ?_ ?_
                                            rotate_left
                                            · intro w'
                                              go_simp
                                              with_reducible rfl
                                            rotate_left
                                            · simp only [Act.put, List.setIfInBounds_toArray, List.set_cons_zero, List.set_cons_succ, i64_w, i32_w]
                                              rfl
                                            refine pure_ (i := 10) (N := some 180) (v := ?_) (a' := ?_) #[true, true, true, true, true, true, true, true, true, true, true, false, false, false, false, false, false, false, false, false, false, false, false] rfl rfl (any_of HT_.out (by kernel_rfl)) (fun _ _ _ h => h) (Or.inl ⟨by rfl, ?_⟩) ?_ ?_
                                            rotate_left
                                            · intro w'
                                              go_simp
                                              with_reducible rfl
                                            rotate_left
                                            · simp only [Act.put, List.setIfInBounds_toArray, List.set_cons_zero, List.set_cons_succ, i64_w, i32_w]
                                              rfl
                                            refine pure_ (i := 11) (N := some 181) (v := ?_) (a' := ?_) #[true, true, true, true, true, true, true, true, true, true, true, true, false, false, false, false, false, false, false, false, false, false, false] rfl rfl (any_of HT_.out (by kernel_rfl)) (fun _ _ _ h => h) (Or.inl ⟨by rfl, ?_⟩) ?_ ?_
                                            rotate_left
                                            · intro w'
                                              go_simp
                                              with_reducible rfl
                                            rotate_left
                                            · simp only [Act.put, List.setIfInBounds_toArray, List.set_cons_zero, List.set_cons_succ, i64_w, i32_w]
                                              rfl
                                            refine pure_ (i := 12) (N := some 182) (v := ?_) (a' := ?_) #[true, true, true, true, true, true, true, true, true, true, true, true, true, false, false, false, false, false, false, false, false, false, false] rfl rfl (any_of HT_.out (by kernel_rfl)) (fun _ _ _ h => h) (Or.inl ⟨by rfl, ?_⟩) ?_ ?_
                                            rotate_left
                                            · intro w'
                                              go_simp
                                              with_reducible rfl
                                            rotate_left
                                            · simp only [Act.put, List.setIfInBounds_toArray, List.set_cons_zero, List.set_cons_succ, i64_w, i32_w]
                                              rfl
                                            refine pure_ (i := 13) (N := some 183) (v := ?_) (a' := ?_) #[true, true, true, true, true, true, true, true, true, true, true, true, true, true, false, false, false, false, false, false, false, false, false] rfl rfl (any_of HT_.out (by kernel_rfl)) (fun _ _ _ h => h) (Or.inl ⟨by rfl, ?_⟩) ?_ ?_
                                            rotate_left
                                            · intro w'
                                              go_simp
                                              with_reducible rfl
                                            rotate_left
                                            · simp only [Act.put, List.setIfInBounds_toArray, List.set_cons_zero, List.set_cons_succ, i64_w, i32_w]
                                              rfl
                                            refine pure_ (i := 17) (N := some 187) (v := ?_) (a' := ?_) #[true, true, true, true, true, true, true, true, true, true, true, true, true, true, false, false, false, true, false, false, false, false, false] rfl rfl (any_of HT_.out (by kernel_rfl)) (fun _ _ _ h => h) (Or.inl ⟨by rfl, ?_⟩) ?_ ?_
                                            rotate_left
                                            · intro w'
                                              go_simp
                                              with_reducible rfl
                                            rotate_left
                                            · simp only [Act.put, List.setIfInBounds_toArray, List.set_cons_zero, List.set_cons_succ, i64_w, i32_w]
                                              rfl
                                            refine pure_ (i := 18) (N := some 188) (v := ?_) (a' := ?_) #[true, true, true, true, true, true, true, true, true, true, true, true, true, true, false, false, false, true, true, false, false, false, false] rfl rfl (any_of HT_.out (by kernel_rfl)) (fun _ _ _ h => h) (Or.inl ⟨by rfl, ?_⟩) ?_ ?_
                                            rotate_left
                                            · intro w'
                                              go_simp
                                              with_reducible rfl
                                            rotate_left
                                            · simp only [Act.put, List.setIfInBounds_toArray, List.set_cons_zero, List.set_cons_succ, i64_w, i32_w]
                                              rfl
                                            refine pure_ (i := 19) (N := some 189) (v := ?_) (a' := ?_) #[true, true, true, true, true, true, true, true, true, true, true, true, true, true, false, false, false, true, true, true, false, false, false] rfl rfl (any_of HT_.out (by kernel_rfl)) (fun _ _ _ h => h) (Or.inl ⟨by rfl, ?_⟩) ?_ ?_
                                            rotate_left
                                            · intro w'
                                              go_simp
                                              with_reducible rfl
                                            rotate_left
                                            · simp only [Act.put, List.setIfInBounds_toArray, List.set_cons_zero, List.set_cons_succ, i64_w, i32_w]
                                              rfl
                                            refine take_ (i := 14) (N := some 184) (v := ?_) (a' := ?_) #[true, true, true, true, true, true, true, true, true, true, true, true, true, true, true, false, false, true, true, true, false, false, false] rfl rfl (take_ofW HT_.out HW_.out (by kernel_rfl)) (fun _ _ _ h => h) (Or.inl ⟨by rfl, ?_⟩) hHeld ?_ ?_
                                            rotate_left
                                            · rintro w' ⟨s0, s1, s2, s3⟩
                                              go_simp
                                              with_reducible rfl
                                            rotate_left
                                            · simp only [Act.put, List.setIfInBounds_toArray, List.set_cons_zero, List.set_cons_succ, i64_w, i32_w]
                                              rfl
                                            refine pure_ (i := 15) (N := some 185) (v := ?_) (a' := ?_) #[true, true, true, true, true, true, true, true, true, true, true, true, true, true, true, true, false, true, true, true, false, false, false] rfl rfl (any_of HT_.out (by kernel_rfl)) (fun _ _ _ h => h) (Or.inl ⟨by rfl, ?_⟩) ?_ ?_
                                            rotate_left
                                            · intro w'
                                              go_simp
                                              with_reducible rfl
                                            rotate_left
                                            · simp only [Act.put, List.setIfInBounds_toArray, List.set_cons_zero, List.set_cons_succ, i64_w, i32_w]
                                              rfl
                                            refine take_ (i := 16) (N := some 186) (v := ?_) (a' := ?_) #[true, true, true, true, true, true, true, true, true, true, true, true, true, true, true, true, true, true, true, true, false, false, false] rfl rfl (take_ofW HT_.out HW_.out (by kernel_rfl)) (fun _ _ _ h => h) (Or.inl ⟨by rfl, ?_⟩) hHeld ?_ ?_
                                            rotate_left
                                            · rintro w' ⟨s0, s1, s2, s3⟩
                                              go_simp
                                              with_reducible rfl
                                            rotate_left
                                            · simp only [Act.put, List.setIfInBounds_toArray, List.set_cons_zero, List.set_cons_succ, i64_w, i32_w]
                                              rfl
                                            refine take_ (i := 20) (N := some 190) (v := ?_) (a' := ?_) #[true, true, true, true, true, true, true, true, true, true, true, true, true, true, true, true, true, true, true, true, true, false, false] rfl rfl (take_ofW HT_.out HW_.out (by kernel_rfl)) (fun _ _ _ h => h) (Or.inl ⟨by rfl, ?_⟩) hHeld ?_ ?_
                                            rotate_left
                                            · rintro w' ⟨s0, s1, s2, s3⟩
                                              go_simp
                                              with_reducible rfl
                                            rotate_left
                                            · simp only [Act.put, List.setIfInBounds_toArray, List.set_cons_zero, List.set_cons_succ, i64_w, i32_w]
                                              rfl
                                            refine pure_ (i := 21) (N := some 191) (v := ?_) (a' := ?_) #[true, true, true, true, true, true, true, true, true, true, true, true, true, true, true, true, true, true, true, true, true, true, false] rfl rfl (any_of HT_.out (by kernel_rfl)) (fun _ _ _ h => h) (Or.inl ⟨by rfl, ?_⟩) ?_ ?_
                                            rotate_left
                                            · intro w'
                                              go_simp
                                              with_reducible rfl
                                            rotate_left
                                            · simp only [Act.put, List.setIfInBounds_toArray, List.set_cons_zero, List.set_cons_succ, i64_w, i32_w]
                                              rfl
                                            refine pure_ (i := 22) (N := some 192) (v := ?_) (a' := ?_) #[true, true, true, true, true, true, true, true, true, true, true, true, true, true, true, true, true, true, true, true, true, true, true] rfl rfl (any_of HT_.out (by kernel_rfl)) (fun _ _ _ h => h) (Or.inl ⟨by rfl, ?_⟩) ?_ ?_
                                            rotate_left
                                            · intro w'
                                              go_simp
                                              with_reducible rfl
                                            rotate_left
                                            · simp only [Act.put, List.setIfInBounds_toArray, List.set_cons_zero, List.set_cons_succ, i64_w, i32_w]
                                              rfl
                                            refine done_ (done_of HT_.out (by kernel_rfl)) ?_
                                            try go_wp2
                                            go_meet
                                            case rel => exact ⟨_, (((rd t164 (rd t175 x23_5)) != (rd t157 x23_5))), (by first | rfl | (simp; done) | (simp [*]; done)), H', ⟨by have := HK1.out; have := HJ7.out; have := HJ28.out; have := HJ49.out; have := HK5.out; first | omega | exact Nat.le_refl _⟩, ⟨by (with_reducible repeat (first | apply Kd.V_alloc | apply Kd.V_drewN | apply Kd.V_drew)); first | exact HO_11.out | exact Kd.R_mono HO_11.out (fun _ hk => ⟨hk.2, hk.1⟩)⟩, ⟨by (with_reducible repeat (first | apply Kd.V_alloc | apply Kd.V_drewN | apply Kd.V_drew)); first | exact HO_14.out | exact Kd.R_mono HO_14.out (fun _ hk => ⟨hk.2, hk.1⟩)⟩, ⟨by (with_reducible repeat (first | apply Kd.V_alloc | apply Kd.V_drewN | apply Kd.V_drew)); first | exact HO_18.out | exact Kd.R_mono HO_18.out (fun _ hk => ⟨hk.2, hk.1⟩)⟩, ⟨by (with_reducible repeat (first | apply Kd.V_alloc | apply Kd.V_drewN | apply Kd.V_drew)); first | exact HO_20.out | exact Kd.R_mono HO_20.out (fun _ hk => ⟨hk.2, hk.1⟩)⟩, ⟨by repeat (first | (with_reducible first | exact HB.out | apply below_alloc | apply pw_below_drewN | apply below_drew1) | exact HB.out)⟩⟩
                                          · rw [if_neg c72] at H
                                            exact absurd H (by simp)
                                        · rw [if_neg c71] at H
                                          exact absurd H (by simp)
                                      · rw [if_neg c70] at H
                                        exact absurd H (by simp)
                                    · replace c69 := Bool.eq_false_iff.mpr c69
                                      subst c69
                                      have H1 : (w02_SegShared.j5 k5 t155 t157 t164 t168 t170 t175 x21_5 0 x23_5 true) = some r := by rw [if_neg (show ¬ (false = true) by decide)] at H; exact H
                                      exact absurd H1 (by first | (rw [w02_SegShared.j5_true]; simp))
                                  · rw [if_neg c67] at H
                                    exact absurd H (by simp)
                                · rw [if_neg c66] at H
                                  exact absurd H (by simp)
                              case rest => as_aux_lemma =>
                                clear HC65
                                try clear c1
                                try clear p1
                                try clear q1
                                try clear hx1
                                try clear c2
                                try clear p2
                                try clear c3
                                try clear c4
                                try clear c5
                                try clear c6
                                try clear p6
                                try clear c7
                                try clear c9
                                try clear c9b0
                                try clear c10
                                try clear c11
                                try clear c11b0
                                try clear c12
                                try clear c12b0
                                try clear c14
                                try clear p14
                                try clear q14
                                try clear hx14
                                try clear p15
                                try clear q15
                                try clear hx15
                                try clear c16
                                try clear c16b0
                                try clear c17
                                try clear c17b0
                                try clear p18
                                try clear q18
                                try clear hx18
                                try clear c20
                                try clear c23
                                try clear c37
                                try clear c37b0
                                try clear c37b1
                                try clear c38
                                try clear c38b0
                                try clear c38b1
                                try clear c39
                                try clear c39b0
                                try clear c39b1
                                try clear c40
                                try clear c40b0
                                try clear c40b1
                                try clear c41
                                try clear c41b0
                                try clear c41b1
                                try clear c43
                                try clear c43b0
                                try clear c43b1
                                try clear c44
                                try clear c44b0
                                try clear c44b1
                                try clear c45
                                try clear c48
                                try clear c54
                                try clear c54b0
                                try clear c54b1
                                try clear c55
                                try clear c55b0
                                try clear c55b1
                                try clear c63
                                try clear c64
                                try clear c64b0
                                try clear p64
                                try clear c66
                                try clear c66b0
                                try clear c67
                                try clear c67b0
                                try clear c69
                                try clear c70
                                try clear c70b0
                                try clear c71
                                try clear c71b0
                                try clear c72
                                try clear c72b0
                                try clear hx145_0
                                try clear hx150_0
                                try clear hx183_0
                                try clear hx185_0
                                try clear hx186_0
                                try clear hx187_0
                                try clear p1
                                try clear p14
                                try clear p145
                                try clear p15
                                try clear p150
                                try clear p183
                                try clear p185
                                try clear p186
                                try clear p187
                                try clear p2
                                try clear p6
                                try clear q1
                                try clear q14
                                try clear q145
                                try clear q15
                                try clear q150
                                try clear q183
                                try clear q185
                                try clear q186
                                try clear q187
                                obtain ⟨kq, x192_64, rfl, HA, HJ64, HO_11, HO_14, HO_18, HO_20, HB⟩ := hcut
                                cases kq with
                                | zero => exact absurd HA.out (by simp [w02_SegShared.j5])
                                | succ kj64 =>
                                  have H := HA.out
                                  clear HA
                                  simp only [w02_SegShared.j5] at H
                                  by_cases c78 : x192_64 = true
                                  · subst c78
                                    have H1 : (none) = some r := by rw [if_pos rfl] at H; exact H
                                    clear H
                                    have H := H1
                                    clear H1
                                    exact absurd H (by simp)
                                  · replace c78 := Bool.eq_false_iff.mpr c78
                                    subst c78
                                    have H1 : (w02_SegShared.l2 kj64 t155 t157 t164 t168 t170 t175 x21_5 0 x23_5 0 0) = some r := by rw [if_neg (show ¬ (false = true) by decide)] at H; exact H
                                    clear H
                                    have H := H1
                                    clear H1
                                    have H' := Aside0.mk H
                                    clear H
                                    go_wp2
                                    go_loopg [24, 25] kj64 (fun kq v24 v25 w' => ∃ (x24_7 : Int) (x25_7 : Int), v24 = .int .i64 x24_7 ∧ v25 = .int .i64 x25_7 ∧ Aside0 (w02_SegShared.l2 kq t155 t157 t164 t168 t170 t175 x21_5 0 x23_5 x24_7 x25_7 = some r) ∧ Aside0 (kq ≤ kj64) ∧ Aside0 (Kd.V (Kd.int .i64) 3 w' w.heap.size (fun _ => True) v158 t157) ∧ Aside0 (Kd.V (Kd.int .i64) 3 w' w.heap.size (fun _ => True) (.slice Ao51 t164.length co51) t164) ∧ Aside0 (Kd.V k52 52 w' w.heap.size (fun _ => True) v171 t170) ∧ Aside0 (Kd.V (Kd.int .i64) 3 w' w.heap.size (fun _ => True) v176 t175) ∧ Aside0 (Below w.heap.size w w'))
                                    case atStart => exact ⟨(0), (0), (by first | rfl | (simp; done) | (simp [*]; done)), (by first | rfl | (simp; done) | (simp [*]; done)), H', ⟨Nat.le_refl _⟩, ⟨by (with_reducible repeat (first | apply Kd.V_alloc | apply Kd.V_drewN | apply Kd.V_drew)); exact HO_11.out⟩, ⟨by (with_reducible repeat (first | apply Kd.V_alloc | apply Kd.V_drewN | apply Kd.V_drew)); exact HO_14.out⟩, ⟨by (with_reducible repeat (first | apply Kd.V_alloc | apply Kd.V_drewN | apply Kd.V_drew)); exact HO_18.out⟩, ⟨by (with_reducible repeat (first | apply Kd.V_alloc | apply Kd.V_drewN | apply Kd.V_drew)); exact HO_20.out⟩, ⟨by repeat (first | (with_reducible first | exact HB.out | apply below_alloc | apply pw_below_drewN | apply below_drew1) | exact HB.out)⟩⟩
                                    case round => as_aux_lemma =>
                                      clear H'
                                      try clear c1
                                      try clear p1
                                      try clear q1
                                      try clear hx1
                                      try clear c2
                                      try clear p2
                                      try clear c3
                                      try clear c4
                                      try clear c5
                                      try clear c6
                                      try clear p6
                                      try clear c7
                                      try clear c9
                                      try clear c9b0
                                      try clear c10
                                      try clear c11
                                      try clear c11b0
                                      try clear c12
                                      try clear c12b0
                                      try clear c14
                                      try clear p14
                                      try clear q14
                                      try clear hx14
                                      try clear p15
                                      try clear q15
                                      try clear hx15
                                      try clear c16
                                      try clear c16b0
                                      try clear c17
                                      try clear c17b0
                                      try clear p18
                                      try clear q18
                                      try clear hx18
                                      try clear c20
                                      try clear c23
                                      try clear c37
                                      try clear c37b0
                                      try clear c37b1
                                      try clear c38
                                      try clear c38b0
                                      try clear c38b1
                                      try clear c39
                                      try clear c39b0
                                      try clear c39b1
                                      try clear c40
                                      try clear c40b0
                                      try clear c40b1
                                      try clear c41
                                      try clear c41b0
                                      try clear c41b1
                                      try clear c43
                                      try clear c43b0
                                      try clear c43b1
                                      try clear c44
                                      try clear c44b0
                                      try clear c44b1
                                      try clear c45
                                      try clear c48
                                      try clear c54
                                      try clear c54b0
                                      try clear c54b1
                                      try clear c55
                                      try clear c55b0
                                      try clear c55b1
                                      try clear c63
                                      try clear c64
                                      try clear c64b0
                                      try clear p64
                                      try clear c66
                                      try clear c66b0
                                      try clear c67
                                      try clear c67b0
                                      try clear c69
                                      try clear c70
                                      try clear c70b0
                                      try clear c71
                                      try clear c71b0
                                      try clear c72
                                      try clear c72b0
                                      try clear c78
                                      try clear hx145_0
                                      try clear hx150_0
                                      try clear hx183_0
                                      try clear hx185_0
                                      try clear hx186_0
                                      try clear hx187_0
                                      try clear p1
                                      try clear p14
                                      try clear p145
                                      try clear p15
                                      try clear p150
                                      try clear p18
                                      try clear p183
                                      try clear p185
                                      try clear p186
                                      try clear p187
                                      try clear p2
                                      try clear p6
                                      try clear p64
                                      try clear q1
                                      try clear q14
                                      try clear q145
                                      try clear q15
                                      try clear q150
                                      try clear q18
                                      try clear q183
                                      try clear q185
                                      try clear q186
                                      try clear q187
                                      obtain ⟨x24_7, x25_7, rfl, rfl, HA, HK7, HO_11, HO_14, HO_18, HO_20, HB⟩ := hrel
                                      cases gk with
                                      | zero => exact absurd HA.out (by simp [w02_SegShared.l2])
                                      | succ k7 =>
                                        have H := HA.out
                                        clear HA
                                        simp only [w02_SegShared.l2] at H
                                        by_cases c79 : x25_7 < t155
                                        · rw [if_pos c79] at H
                                          have c79b0 : decide (x25_7 < t155) = true := decide_eq_true c79
                                          clear c79
                                          by_cases c80 : 0 ≤ x25_7
                                          · rw [if_pos c80] at H
                                            have c80b0 : decide (0 ≤ x25_7) = true := decide_eq_true c80
                                            clear c80
                                            by_cases c81 : x25_7 < (t157.length : Int)
                                            · rw [if_pos c81] at H
                                              have c81b0 : decide (x25_7 < (t157.length : Int)) = true := decide_eq_true c81
                                              clear c81
                                              by_cases c82 : 0 ≤ x23_5
                                              · rw [if_pos c82] at H
                                                have c82b0 : decide (0 ≤ x23_5) = true := decide_eq_true c82
                                                clear c82
                                                by_cases c83 : x23_5 < (t157.length : Int)
                                                · rw [if_pos c83] at H
                                                  have c83b0 : decide (x23_5 < (t157.length : Int)) = true := decide_eq_true c83
                                                  clear c83
                                                  by_cases c84 : (rd t157 x25_7) = (rd t157 x23_5)
                                                  · rw [if_pos c84] at H
                                                    have c84b0 : ((rd t157 x25_7) == (rd t157 x23_5)) = true := beq_iff_eq.mpr c84
                                                    have c84b1 : ((rd t157 x25_7) != (rd t157 x23_5)) = false := bne_eq_false_iff_eq.mpr c84
                                                    clear c84
                                                    have H' := Aside0.mk H
                                                    clear H
                                                    try go_wp2
                                                    have n0_ := Aside0.mk (Kd.V_drew HO_11.out)
                                                    have n1_ := Aside0.mk (Kd.V_drew HO_14.out)
                                                    have n2_ := Aside0.mk (Kd.V_drew HO_18.out)
                                                    have n3_ := Aside0.mk (Kd.V_drew HO_20.out)
                                                    have n4_ := Aside0.mk (below_drew1 HB.out)
                                                    clear HO_11
                                                    clear HO_14
                                                    clear HO_18
                                                    clear HO_20
                                                    clear HB
                                                    have HO_11 := n0_
                                                    have HO_14 := n1_
                                                    have HO_18 := n2_
                                                    have HO_20 := n3_
                                                    have HB := n4_
                                                    clear n0_ n1_ n2_ n3_ n4_
                                                    obtain ⟨Ao86, co86, eo86⟩ := Kd.V_slice HO_11.out
                                                    (first | subst eo86 | (injection eo86 with f1_ f2_ f3_; have f4_ := f1_.symm; have f5_ := f3_.symm; clear f1_ f2_ f3_; subst f4_; subst f5_))
                                                    have p188 : 0 ≤ (x25_7 : Int) := of_decide_eq_true (by first | (with_reducible assumption) | assumption)
                                                    have q188 : x25_7 < (t157.length : Int) := of_decide_eq_true (by first | (with_reducible assumption) | assumption)
                                                    try (obtain ⟨Ax_, cx_, ex_⟩ := Kd.V_slice HO_11.out; subst ex_)
                                                    obtain ⟨ad188, e188, hx188_0⟩ := Kd.at_int (Kd.V_reads' HO_11.out).2.2 x25_7 p188 q188
                                                    cases e188
                                                    replace p188 := eq_true p188
                                                    replace q188 := eq_true q188
                                                    have p189 : 0 ≤ (x23_5 : Int) := of_decide_eq_true (by first | (with_reducible assumption) | assumption)
                                                    have q189 : x23_5 < (t157.length : Int) := of_decide_eq_true (by first | (with_reducible assumption) | assumption)
                                                    try (obtain ⟨Ax_, cx_, ex_⟩ := Kd.V_slice HO_11.out; subst ex_)
                                                    obtain ⟨ad189, e189, hx189_0⟩ := Kd.at_int (Kd.V_reads' HO_11.out).2.2 x23_5 p189 q189
                                                    obtain rfl : ad188 = ad189 := (by injection e189)
                                                    replace p189 := eq_true p189
                                                    replace q189 := eq_true q189
                                                    refine start_ (n := 9) (S := fun w' => w'.cell? (ad188.add (x25_7).toNat) = some (.int .i64 (rd t157 x25_7)) ∧ w'.cell? (ad188.add (x23_5).toNat) = some (.int .i64 (rd t157 x23_5))) (ds := []) #[false, false, false, false, false, false, false, false, false] (by kernel_rfl) rfl rfl ⟨hx188_0, hx189_0⟩ (fun hHeld => ?_); refine with_tabW w02_SegShared.tab28 w02_SegShared.bits28 (fun HT_ HW_ => ?_)
                                                    generalize wr.drew = w85 at HO_11 HO_14 HO_18 HO_20 HB hx188_0 hx189_0 hHeld ⊢
                                                    refine pure_ (i := 0) (N := some 198) (v := ?_) (a' := ?_) #[true, false, false, false, false, false, false, false, false] rfl rfl (any_of HT_.out (by kernel_rfl)) (fun _ _ _ h => h) (Or.inl ⟨by rfl, ?_⟩) ?_ ?_
                                                    rotate_left
                                                    · intro w'
                                                      go_simp
                                                      with_reducible rfl
                                                    rotate_left
                                                    · simp only [Act.put, List.setIfInBounds_toArray, List.set_cons_zero, List.set_cons_succ, i64_w, i32_w]
                                                      rfl
                                                    refine pure_ (i := 1) (N := some 199) (v := ?_) (a' := ?_) #[true, true, false, false, false, false, false, false, false] rfl rfl (any_of HT_.out (by kernel_rfl)) (fun _ _ _ h => h) (Or.inl ⟨by rfl, ?_⟩) ?_ ?_
                                                    rotate_left
                                                    · intro w'
                                                      go_simp
                                                      with_reducible rfl
                                                    rotate_left
                                                    · simp only [Act.put, List.setIfInBounds_toArray, List.set_cons_zero, List.set_cons_succ, i64_w, i32_w]
                                                      rfl
                                                    refine pure_ (i := 2) (N := some 200) (v := ?_) (a' := ?_) #[true, true, true, false, false, false, false, false, false] rfl rfl (any_of HT_.out (by kernel_rfl)) (fun _ _ _ h => h) (Or.inl ⟨by rfl, ?_⟩) ?_ ?_
                                                    rotate_left
                                                    · intro w'
                                                      go_simp
                                                      with_reducible rfl
                                                    rotate_left
                                                    · simp only [Act.put, List.setIfInBounds_toArray, List.set_cons_zero, List.set_cons_succ, i64_w, i32_w]
                                                      rfl
                                                    refine pure_ (i := 4) (N := some 202) (v := ?_) (a' := ?_) #[true, true, true, false, true, false, false, false, false] rfl rfl (any_of HT_.out (by kernel_rfl)) (fun _ _ _ h => h) (Or.inl ⟨by rfl, ?_⟩) ?_ ?_
                                                    rotate_left
                                                    · intro w'
                                                      go_simp
                                                      with_reducible rfl
                                                    rotate_left
                                                    · simp only [Act.put, List.setIfInBounds_toArray, List.set_cons_zero, List.set_cons_succ, i64_w, i32_w]
                                                      rfl
                                                    refine pure_ (i := 5) (N := some 203) (v := ?_) (a' := ?_) #[true, true, true, false, true, true, false, false, false] rfl rfl (any_of HT_.out (by kernel_rfl)) (fun _ _ _ h => h) (Or.inl ⟨by rfl, ?_⟩) ?_ ?_
                                                    rotate_left
                                                    · intro w'
                                                      go_simp
                                                      with_reducible rfl
                                                    rotate_left
                                                    · simp only [Act.put, List.setIfInBounds_toArray, List.set_cons_zero, List.set_cons_succ, i64_w, i32_w]
                                                      rfl
                                                    refine pure_ (i := 6) (N := some 204) (v := ?_) (a' := ?_) #[true, true, true, false, true, true, true, false, false] rfl rfl (any_of HT_.out (by kernel_rfl)) (fun _ _ _ h => h) (Or.inl ⟨by rfl, ?_⟩) ?_ ?_
                                                    rotate_left
                                                    · intro w'
                                                      go_simp
                                                      with_reducible rfl
                                                    rotate_left
                                                    · simp only [Act.put, List.setIfInBounds_toArray, List.set_cons_zero, List.set_cons_succ, i64_w, i32_w]
                                                      rfl
                                                    refine take_ (i := 3) (N := some 201) (v := ?_) (a' := ?_) #[true, true, true, true, true, true, true, false, false] rfl rfl (take_ofW HT_.out HW_.out (by kernel_rfl)) (fun _ _ _ h => h) (Or.inl ⟨by rfl, ?_⟩) hHeld ?_ ?_
                                                    rotate_left
                                                    · rintro w' ⟨s0, s1⟩
                                                      go_simp
                                                      with_reducible rfl
                                                    rotate_left
                                                    · simp only [Act.put, List.setIfInBounds_toArray, List.set_cons_zero, List.set_cons_succ, i64_w, i32_w]
                                                      rfl
                                                    refine take_ (i := 7) (N := some 205) (v := ?_) (a' := ?_) #[true, true, true, true, true, true, true, true, false] rfl rfl (take_ofW HT_.out HW_.out (by kernel_rfl)) (fun _ _ _ h => h) (Or.inl ⟨by rfl, ?_⟩) hHeld ?_ ?_
                                                    rotate_left
                                                    · rintro w' ⟨s0, s1⟩
                                                      go_simp
                                                      with_reducible rfl
                                                    rotate_left
                                                    · simp only [Act.put, List.setIfInBounds_toArray, List.set_cons_zero, List.set_cons_succ, i64_w, i32_w]
                                                      rfl
                                                    refine pure_ (i := 8) (N := some 206) (v := ?_) (a' := ?_) #[true, true, true, true, true, true, true, true, true] rfl rfl (any_of HT_.out (by kernel_rfl)) (fun _ _ _ h => h) (Or.inl ⟨by rfl, ?_⟩) ?_ ?_
                                                    rotate_left
                                                    · intro w'
                                                      go_simp
                                                      with_reducible rfl
                                                    rotate_left
                                                    · simp only [Act.put, List.setIfInBounds_toArray, List.set_cons_zero, List.set_cons_succ, i64_w, i32_w]
                                                      rfl
                                                    refine done_ (done_of HT_.out (by kernel_rfl)) ?_
                                                    try go_wp2
                                                    go_roundg k7
                                                    case measure => have := HK1.out; have := HJ7.out; have := HJ28.out; have := HJ49.out; have := HK5.out; have := HJ64.out; have := HK7.out; omega
                                                    case rel => exact ⟨(wrap64 (x24_7 + 1)), (wrap64 (x25_7 + 1)), (by first | rfl | (simp; done) | (simp [*]; done)), (by first | rfl | (simp; done) | (simp [*]; done)), H', ⟨by have := HK1.out; have := HJ7.out; have := HJ28.out; have := HJ49.out; have := HK5.out; have := HJ64.out; have := HK7.out; omega⟩, ⟨by (with_reducible repeat (first | apply Kd.V_alloc | apply Kd.V_drewN | apply Kd.V_drew)); first | exact HO_11.out | exact Kd.R_mono HO_11.out (fun _ hk => ⟨hk.2, hk.1⟩)⟩, ⟨by (with_reducible repeat (first | apply Kd.V_alloc | apply Kd.V_drewN | apply Kd.V_drew)); first | exact HO_14.out | exact Kd.R_mono HO_14.out (fun _ hk => ⟨hk.2, hk.1⟩)⟩, ⟨by (with_reducible repeat (first | apply Kd.V_alloc | apply Kd.V_drewN | apply Kd.V_drew)); first | exact HO_18.out | exact Kd.R_mono HO_18.out (fun _ hk => ⟨hk.2, hk.1⟩)⟩, ⟨by (with_reducible repeat (first | apply Kd.V_alloc | apply Kd.V_drewN | apply Kd.V_drew)); first | exact HO_20.out | exact Kd.R_mono HO_20.out (fun _ hk => ⟨hk.2, hk.1⟩)⟩, ⟨by repeat (first | (with_reducible first | exact HB.out | apply below_alloc | apply pw_below_drewN | apply below_drew1) | exact HB.out)⟩⟩
                                                  · rw [if_neg c84] at H
                                                    have c84b0 : ((rd t157 x25_7) == (rd t157 x23_5)) = false := beq_eq_false_iff_ne.mpr c84
                                                    have c84b1 : ((rd t157 x25_7) != (rd t157 x23_5)) = true := bne_iff_ne.mpr c84
                                                    have H' := Aside0.mk H
                                                    clear H
                                                    try go_wp2
                                                    have n0_ := Aside0.mk (Kd.V_drew HO_11.out)
                                                    have n1_ := Aside0.mk (Kd.V_drew HO_14.out)
                                                    have n2_ := Aside0.mk (Kd.V_drew HO_18.out)
                                                    have n3_ := Aside0.mk (Kd.V_drew HO_20.out)
                                                    have n4_ := Aside0.mk (below_drew1 HB.out)
                                                    clear HO_11
                                                    clear HO_14
                                                    clear HO_18
                                                    clear HO_20
                                                    clear HB
                                                    have HO_11 := n0_
                                                    have HO_14 := n1_
                                                    have HO_18 := n2_
                                                    have HO_20 := n3_
                                                    have HB := n4_
                                                    clear n0_ n1_ n2_ n3_ n4_
                                                    obtain ⟨Ao88, co88, eo88⟩ := Kd.V_slice HO_11.out
                                                    (first | subst eo88 | (injection eo88 with f1_ f2_ f3_; have f4_ := f1_.symm; have f5_ := f3_.symm; clear f1_ f2_ f3_; subst f4_; subst f5_))
                                                    have p188 : 0 ≤ (x25_7 : Int) := of_decide_eq_true (by first | (with_reducible assumption) | assumption)
                                                    have q188 : x25_7 < (t157.length : Int) := of_decide_eq_true (by first | (with_reducible assumption) | assumption)
                                                    try (obtain ⟨Ax_, cx_, ex_⟩ := Kd.V_slice HO_11.out; subst ex_)
                                                    obtain ⟨ad188, e188, hx188_0⟩ := Kd.at_int (Kd.V_reads' HO_11.out).2.2 x25_7 p188 q188
                                                    cases e188
                                                    replace p188 := eq_true p188
                                                    replace q188 := eq_true q188
                                                    have p189 : 0 ≤ (x23_5 : Int) := of_decide_eq_true (by first | (with_reducible assumption) | assumption)
                                                    have q189 : x23_5 < (t157.length : Int) := of_decide_eq_true (by first | (with_reducible assumption) | assumption)
                                                    try (obtain ⟨Ax_, cx_, ex_⟩ := Kd.V_slice HO_11.out; subst ex_)
                                                    obtain ⟨ad189, e189, hx189_0⟩ := Kd.at_int (Kd.V_reads' HO_11.out).2.2 x23_5 p189 q189
                                                    obtain rfl : ad188 = ad189 := (by injection e189)
                                                    replace p189 := eq_true p189
                                                    replace q189 := eq_true q189
                                                    refine start_ (n := 9) (S := fun w' => w'.cell? (ad188.add (x25_7).toNat) = some (.int .i64 (rd t157 x25_7)) ∧ w'.cell? (ad188.add (x23_5).toNat) = some (.int .i64 (rd t157 x23_5))) (ds := []) #[false, false, false, false, false, false, false, false, false] (by kernel_rfl) rfl rfl ⟨hx188_0, hx189_0⟩ (fun hHeld => ?_); refine with_tabW w02_SegShared.tab28 w02_SegShared.bits28 (fun HT_ HW_ => ?_)
                                                    generalize wr.drew = w87 at HO_11 HO_14 HO_18 HO_20 HB hx188_0 hx189_0 hHeld ⊢
                                                    refine pure_ (i := 0) (N := some 198) (v := ?_) (a' := ?_) #[true, false, false, false, false, false, false, false, false] rfl rfl (any_of HT_.out (by kernel_rfl)) (fun _ _ _ h => h) (Or.inl ⟨by rfl, ?_⟩) ?_ ?_
                                                    rotate_left
                                                    · intro w'
                                                      go_simp
                                                      with_reducible rfl
                                                    rotate_left
                                                    · simp only [Act.put, List.setIfInBounds_toArray, List.set_cons_zero, List.set_cons_succ, i64_w, i32_w]
                                                      rfl
                                                    refine pure_ (i := 1) (N := some 199) (v := ?_) (a' := ?_) #[true, true, false, false, false, false, false, false, false] rfl rfl (any_of HT_.out (by kernel_rfl)) (fun _ _ _ h => h) (Or.inl ⟨by rfl, ?_⟩) ?_ ?_
                                                    rotate_left
                                                    · intro w'
                                                      go_simp
                                                      with_reducible rfl
                                                    rotate_left
                                                    · simp only [Act.put, List.setIfInBounds_toArray, List.set_cons_zero, List.set_cons_succ, i64_w, i32_w]
                                                      rfl
                                                    refine pure_ (i := 2) (N := some 200) (v := ?_) (a' := ?_) #[true, true, true, false, false, false, false, false, false] rfl rfl (any_of HT_.out (by kernel_rfl)) (fun _ _ _ h => h) (Or.inl ⟨by rfl, ?_⟩) ?_ ?_
                                                    rotate_left
                                                    · intro w'
                                                      go_simp
                                                      with_reducible rfl
                                                    rotate_left
                                                    · simp only [Act.put, List.setIfInBounds_toArray, List.set_cons_zero, List.set_cons_succ, i64_w, i32_w]
                                                      rfl
                                                    refine pure_ (i := 4) (N := some 202) (v := ?_) (a' := ?_) #[true, true, true, false, true, false, false, false, false] rfl rfl (any_of HT_.out (by kernel_rfl)) (fun _ _ _ h => h) (Or.inl ⟨by rfl, ?_⟩) ?_ ?_
                                                    rotate_left
                                                    · intro w'
                                                      go_simp
                                                      with_reducible rfl
                                                    rotate_left
                                                    · simp only [Act.put, List.setIfInBounds_toArray, List.set_cons_zero, List.set_cons_succ, i64_w, i32_w]
                                                      rfl
                                                    refine pure_ (i := 5) (N := some 203) (v := ?_) (a' := ?_) #[true, true, true, false, true, true, false, false, false] rfl rfl (any_of HT_.out (by kernel_rfl)) (fun _ _ _ h => h) (Or.inl ⟨by rfl, ?_⟩) ?_ ?_
                                                    rotate_left
                                                    · intro w'
                                                      go_simp
                                                      with_reducible rfl
                                                    rotate_left
                                                    · simp only [Act.put, List.setIfInBounds_toArray, List.set_cons_zero, List.set_cons_succ, i64_w, i32_w]
                                                      rfl
                                                    refine pure_ (i := 6) (N := some 204) (v := ?_) (a' := ?_) #[true, true, true, false, true, true, true, false, false] rfl rfl (any_of HT_.out (by kernel_rfl)) (fun _ _ _ h => h) (Or.inl ⟨by rfl, ?_⟩) ?_ ?_
                                                    rotate_left
                                                    · intro w'
                                                      go_simp
                                                      with_reducible rfl
                                                    rotate_left
                                                    · simp only [Act.put, List.setIfInBounds_toArray, List.set_cons_zero, List.set_cons_succ, i64_w, i32_w]
                                                      rfl
                                                    refine take_ (i := 3) (N := some 201) (v := ?_) (a' := ?_) #[true, true, true, true, true, true, true, false, false] rfl rfl (take_ofW HT_.out HW_.out (by kernel_rfl)) (fun _ _ _ h => h) (Or.inl ⟨by rfl, ?_⟩) hHeld ?_ ?_
                                                    rotate_left
                                                    · rintro w' ⟨s0, s1⟩
                                                      go_simp
                                                      with_reducible rfl
                                                    rotate_left
                                                    · simp only [Act.put, List.setIfInBounds_toArray, List.set_cons_zero, List.set_cons_succ, i64_w, i32_w]
                                                      rfl
                                                    refine take_ (i := 7) (N := some 205) (v := ?_) (a' := ?_) #[true, true, true, true, true, true, true, true, false] rfl rfl (take_ofW HT_.out HW_.out (by kernel_rfl)) (fun _ _ _ h => h) (Or.inl ⟨by rfl, ?_⟩) hHeld ?_ ?_
                                                    rotate_left
                                                    · rintro w' ⟨s0, s1⟩
                                                      go_simp
                                                      with_reducible rfl
                                                    rotate_left
                                                    · simp only [Act.put, List.setIfInBounds_toArray, List.set_cons_zero, List.set_cons_succ, i64_w, i32_w]
                                                      rfl
                                                    refine pure_ (i := 8) (N := some 206) (v := ?_) (a' := ?_) #[true, true, true, true, true, true, true, true, true] rfl rfl (any_of HT_.out (by kernel_rfl)) (fun _ _ _ h => h) (Or.inl ⟨by rfl, ?_⟩) ?_ ?_
                                                    rotate_left
                                                    · intro w'
                                                      go_simp
                                                      with_reducible rfl
                                                    rotate_left
                                                    · simp only [Act.put, List.setIfInBounds_toArray, List.set_cons_zero, List.set_cons_succ, i64_w, i32_w]
                                                      rfl
                                                    refine done_ (done_of HT_.out (by kernel_rfl)) ?_
                                                    try go_wp2
                                                    go_roundg k7
                                                    case measure => have := HK1.out; have := HJ7.out; have := HJ28.out; have := HJ49.out; have := HK5.out; have := HJ64.out; have := HK7.out; omega
                                                    case rel => exact ⟨(x24_7), (wrap64 (x25_7 + 1)), (by first | rfl | (simp; done) | (simp [*]; done)), (by first | rfl | (simp; done) | (simp [*]; done)), H', ⟨by have := HK1.out; have := HJ7.out; have := HJ28.out; have := HJ49.out; have := HK5.out; have := HJ64.out; have := HK7.out; omega⟩, ⟨by (with_reducible repeat (first | apply Kd.V_alloc | apply Kd.V_drewN | apply Kd.V_drew)); first | exact HO_11.out | exact Kd.R_mono HO_11.out (fun _ hk => ⟨hk.2, hk.1⟩)⟩, ⟨by (with_reducible repeat (first | apply Kd.V_alloc | apply Kd.V_drewN | apply Kd.V_drew)); first | exact HO_14.out | exact Kd.R_mono HO_14.out (fun _ hk => ⟨hk.2, hk.1⟩)⟩, ⟨by (with_reducible repeat (first | apply Kd.V_alloc | apply Kd.V_drewN | apply Kd.V_drew)); first | exact HO_18.out | exact Kd.R_mono HO_18.out (fun _ hk => ⟨hk.2, hk.1⟩)⟩, ⟨by (with_reducible repeat (first | apply Kd.V_alloc | apply Kd.V_drewN | apply Kd.V_drew)); first | exact HO_20.out | exact Kd.R_mono HO_20.out (fun _ hk => ⟨hk.2, hk.1⟩)⟩, ⟨by repeat (first | (with_reducible first | exact HB.out | apply below_alloc | apply pw_below_drewN | apply below_drew1) | exact HB.out)⟩⟩
                                                · rw [if_neg c83] at H
                                                  exact absurd H (by simp)
                                              · rw [if_neg c82] at H
                                                exact absurd H (by simp)
                                            · rw [if_neg c81] at H
                                              exact absurd H (by simp)
                                          · rw [if_neg c80] at H
                                            exact absurd H (by simp)
                                        · rw [if_neg c79] at H
                                          have c79b0 : decide (x25_7 < t155) = false := decide_eq_false c79
                                          clear c79
                                          obtain ⟨ji89, hji89⟩ : ∃ j_ : Int, (mx x21_5 x24_7) = j_ := ⟨_, rfl⟩
                                          replace H : (w02_SegShared.l1 k7 t155 t157 t164 t168 t170 t175 ji89 0 (wrap64 (x23_5 + 1))) = some r := by first | (rw [hji89] at H; exact H) | (simp only [hji89] at H ⊢; exact H)
                                          have hji89_ : (if x21_5 < x24_7 then x24_7 else x21_5) = ji89 := hji89
                                          (try (have hji89N := hji89_; simp only [Int.ofNat_lt] at hji89N))
                                          have H' := Aside0.mk H
                                          clear H
                                          go_wp2
                                          go_roundg k7
                                          case measure => have := HK1.out; have := HJ7.out; have := HJ28.out; have := HJ49.out; have := HK5.out; have := HJ64.out; have := HK7.out; omega
                                          case rel => exact ⟨(ji89), (wrap64 (x23_5 + 1)), (by first | rfl | (simp; done) | (simp only [← hji89] <;> (first | rfl | simp)) | (simp [*]; done)), (by first | rfl | (simp; done) | (simp [*]; done)), H', ⟨by have := HK1.out; have := HJ7.out; have := HJ28.out; have := HJ49.out; have := HK5.out; have := HJ64.out; have := HK7.out; omega⟩, ⟨by (with_reducible repeat (first | apply Kd.V_alloc | apply Kd.V_drewN | apply Kd.V_drew)); first | exact HO_11.out | exact Kd.R_mono HO_11.out (fun _ hk => ⟨hk.2, hk.1⟩)⟩, ⟨by (with_reducible repeat (first | apply Kd.V_alloc | apply Kd.V_drewN | apply Kd.V_drew)); first | exact HO_14.out | exact Kd.R_mono HO_14.out (fun _ hk => ⟨hk.2, hk.1⟩)⟩, ⟨by (with_reducible repeat (first | apply Kd.V_alloc | apply Kd.V_drewN | apply Kd.V_drew)); first | exact HO_18.out | exact Kd.R_mono HO_18.out (fun _ hk => ⟨hk.2, hk.1⟩)⟩, ⟨by (with_reducible repeat (first | apply Kd.V_alloc | apply Kd.V_drewN | apply Kd.V_drew)); first | exact HO_20.out | exact Kd.R_mono HO_20.out (fun _ hk => ⟨hk.2, hk.1⟩)⟩, ⟨by repeat (first | (with_reducible first | exact HB.out | apply below_alloc | apply pw_below_drewN | apply below_drew1) | exact HB.out)⟩⟩
                            · rw [if_neg c64] at H
                              have c64b0 : decide (x23_5 < t155) = false := decide_eq_false c64
                              clear c64
                              have H' := Aside0.mk H
                              clear H
                              go_wp2
                              go_loopg [22, 26, 27] k5 (fun kq v22 v26 v27 w' => ∃ (x22_6 : Int) (x26_6 : Int) (x27_6 : Int), v22 = .int .i64 x22_6 ∧ v26 = .int .i64 x26_6 ∧ v27 = .int .i64 x27_6 ∧ Aside0 (w02_SegShared.l3 kq t164 t168 t170 x21_5 x22_6 x26_6 x27_6 = some r) ∧ Aside0 (kq ≤ k5) ∧ Aside0 (Kd.V (Kd.int .i64) 3 w' w.heap.size (fun _ => True) (.slice Ao51 t164.length co51) t164) ∧ Aside0 (Kd.V k52 52 w' w.heap.size (fun _ => True) v171 t170) ∧ Aside0 (Below w.heap.size w w'))
                              case atStart => exact ⟨(0), ((-1)), (0), (by first | rfl | (simp; done) | (simp [*]; done)), (by first | rfl | (simp; done) | (simp [*]; done)), (by first | rfl | (simp; done) | (simp [*]; done)), H', ⟨Nat.le_refl _⟩, ⟨by (with_reducible repeat (first | apply Kd.V_alloc | apply Kd.V_drewN | apply Kd.V_drew)); exact HO_14.out⟩, ⟨by (with_reducible repeat (first | apply Kd.V_alloc | apply Kd.V_drewN | apply Kd.V_drew)); exact HO_18.out⟩, ⟨by repeat (first | (with_reducible first | exact HB.out | apply below_alloc | apply pw_below_drewN | apply below_drew1) | exact HB.out)⟩⟩
                              case round => as_aux_lemma =>
                                clear H'
                                try clear c1
                                try clear p1
                                try clear q1
                                try clear hx1
                                try clear c2
                                try clear p2
                                try clear c3
                                try clear c4
                                try clear c5
                                try clear c6
                                try clear p6
                                try clear c7
                                try clear c8
                                try clear c9
                                try clear c9b0
                                try clear c10
                                try clear c11
                                try clear c11b0
                                try clear c12
                                try clear c12b0
                                try clear c14
                                try clear p14
                                try clear q14
                                try clear hx14
                                try clear p15
                                try clear q15
                                try clear hx15
                                try clear c16
                                try clear c16b0
                                try clear c17
                                try clear c17b0
                                try clear p18
                                try clear q18
                                try clear hx18
                                try clear c20
                                try clear c23
                                try clear c37
                                try clear c37b0
                                try clear c37b1
                                try clear c38
                                try clear c38b0
                                try clear c38b1
                                try clear c39
                                try clear c39b0
                                try clear c39b1
                                try clear c40
                                try clear c40b0
                                try clear c40b1
                                try clear c41
                                try clear c41b0
                                try clear c41b1
                                try clear c43
                                try clear c43b0
                                try clear c43b1
                                try clear c44
                                try clear c44b0
                                try clear c44b1
                                try clear c45
                                try clear c48
                                try clear c54
                                try clear c54b0
                                try clear c54b1
                                try clear c55
                                try clear c55b0
                                try clear c55b1
                                try clear c63
                                try clear c64
                                try clear c64b0
                                try clear p64
                                try clear c66
                                try clear c66b0
                                try clear c67
                                try clear c67b0
                                try clear c69
                                try clear c70
                                try clear c70b0
                                try clear c71
                                try clear c71b0
                                try clear c72
                                try clear c72b0
                                try clear c78
                                try clear c79
                                try clear c79b0
                                try clear c80
                                try clear c80b0
                                try clear c81
                                try clear c81b0
                                try clear c82
                                try clear c82b0
                                try clear c83
                                try clear c83b0
                                try clear c84
                                try clear c84b0
                                try clear c84b1
                                try clear hx145_0
                                try clear hx150_0
                                try clear hx183_0
                                try clear hx185_0
                                try clear hx186_0
                                try clear hx187_0
                                try clear hx188_0
                                try clear hx189_0
                                try clear p1
                                try clear p14
                                try clear p145
                                try clear p15
                                try clear p150
                                try clear p18
                                try clear p183
                                try clear p185
                                try clear p186
                                try clear p187
                                try clear p188
                                try clear p189
                                try clear p2
                                try clear p6
                                try clear p64
                                try clear q1
                                try clear q14
                                try clear q145
                                try clear q15
                                try clear q150
                                try clear q18
                                try clear q183
                                try clear q185
                                try clear q186
                                try clear q187
                                try clear q188
                                try clear q189
                                obtain ⟨x22_6, x26_6, x27_6, rfl, rfl, rfl, HA, HK6, HO_14, HO_18, HB⟩ := hrel
                                cases gk with
                                | zero => exact absurd HA.out (by simp [w02_SegShared.l3])
                                | succ k6 =>
                                  have H := HA.out
                                  clear HA
                                  simp only [w02_SegShared.l3] at H
                                  by_cases c90 : x27_6 < (t170.length : Int)
                                  · rw [if_pos c90] at H
                                    have c90b0 : decide (x27_6 < (t170.length : Int)) = true := decide_eq_true c90
                                    clear c90
                                    have HC91 := Aside0.mk H
                                    clear H
                                    obtain ⟨Ao92, co92, eo92⟩ := Kd.V_slice HO_18.out
                                    subst eo92
                                    go_upto_region 35 with (fail)
                                    go_cut [237] (fun zv237 wc => ∃ (kq : Nat) (x237_90 : Bool), zv237 = .bool x237_90 ∧ Aside0 (w02_SegShared.j8 kq t164 t168 t170 x21_5 x22_6 x27_6 x237_90 = some r) ∧ Aside0 (kq ≤ k6) ∧ Aside0 (Kd.V (Kd.int .i64) 3 wc w.heap.size (fun _ => True) (.slice Ao51 t164.length co51) t164) ∧ Aside0 (Kd.V k52 52 wc w.heap.size (fun _ => True) (.slice Ao92 t170.length co92) t170) ∧ Aside0 (Below w.heap.size w wc))
                                    case first =>
                                      have H := HC91.out
                                      clear HC91
                                      by_cases c93 : 0 ≤ x27_6
                                      · rw [if_pos c93] at H
                                        have c93b0 : decide (0 ≤ x27_6) = true := decide_eq_true c93
                                        clear c93
                                        (first | rw [c93b0] | (simp only [i64_w, i32_w]; rw [c93b0]) | skip)
                                        by_cases c94 : ((rd_T52 t170 x27_6).f0) ≤ x26_6
                                        · rw [if_pos c94] at H
                                          have c94b0 : decide (((rd_T52 t170 x27_6).f0) ≤ x26_6) = true := decide_eq_true c94
                                          clear c94
                                          have H' := Aside0.mk H
                                          clear H
                                          have p191 : 0 ≤ (x27_6 : Int) := of_decide_eq_true (by first | (with_reducible assumption) | assumption)
                                          have q191 : x27_6 < (t170.length : Int) := of_decide_eq_true (by first | (with_reducible assumption) | assumption)
                                          obtain ⟨ad191, e191, hx191_0, hx191_1⟩ := at_T52 (Kd.V_reads' HO_18.out).2.2 x27_6 p191 q191
                                          cases e191
                                          replace p191 := eq_true p191
                                          replace q191 := eq_true q191
                                          go_wp2
                                          go_meet
                                          case rel => exact ⟨_, (true), (by first | rfl | (simp; done) | (simp [*]; done)), H', ⟨by have := HK1.out; have := HJ7.out; have := HJ28.out; have := HJ49.out; have := HK5.out; have := HK6.out; first | omega | exact Nat.le_refl _⟩, ⟨by (with_reducible repeat (first | apply Kd.V_alloc | apply Kd.V_drewN | apply Kd.V_drew)); first | exact HO_14.out | exact Kd.R_mono HO_14.out (fun _ hk => ⟨hk.2, hk.1⟩)⟩, ⟨by (with_reducible repeat (first | apply Kd.V_alloc | apply Kd.V_drewN | apply Kd.V_drew)); first | exact HO_18.out | exact Kd.R_mono HO_18.out (fun _ hk => ⟨hk.2, hk.1⟩)⟩, ⟨by repeat (first | (with_reducible first | exact HB.out | apply below_alloc | apply pw_below_drewN | apply below_drew1) | exact HB.out)⟩⟩
                                        · rw [if_neg c94] at H
                                          have c94b0 : decide (((rd_T52 t170 x27_6).f0) ≤ x26_6) = false := decide_eq_false c94
                                          clear c94
                                          replace H := Option.bind_eq_some_iff.mp H
                                          obtain ⟨t193, A950, H⟩ := H
                                          replace H : (w02_SegShared.j8 k6 t164 t168 t170 x21_5 x22_6 x27_6 (!t193)) = some r := H
                                          have A95 := Aside0.mk A950
                                          clear A950
                                          have H' := Aside0.mk H
                                          clear H
                                          have p191 : 0 ≤ (x27_6 : Int) := of_decide_eq_true (by first | (with_reducible assumption) | assumption)
                                          have q191 : x27_6 < (t170.length : Int) := of_decide_eq_true (by first | (with_reducible assumption) | assumption)
                                          obtain ⟨ad191, e191, hx191_0, hx191_1⟩ := at_T52 (Kd.V_reads' HO_18.out).2.2 x27_6 p191 q191
                                          cases e191
                                          replace p191 := eq_true p191
                                          replace q191 := eq_true q191
                                          have p192 : 0 ≤ (x27_6 : Int) := of_decide_eq_true (by first | (with_reducible assumption) | assumption)
                                          have q192 : x27_6 < (t170.length : Int) := of_decide_eq_true (by first | (with_reducible assumption) | assumption)
                                          obtain ⟨ad192, e192, hx192_0, hx192_1⟩ := at_T52 (Kd.V_reads' HO_18.out).2.2 x27_6 p192 q192
                                          obtain rfl : ad191 = ad192 := (by injection e192)
                                          replace p192 := eq_true p192
                                          replace q192 := eq_true q192
                                          go_wp2_with (first | (go_at_call 23; (try simp only [i64_w]); (with_reducible refine (r00_Lies.calls ((rd_T52 t170 x27_6).f1) 1 (wrap64 ((t164.length : Int) - x22_6)) t193 _ A95.out).mono ?_); rintro e w' ⟨rfl, ⟨nd, rfl⟩⟩))
                                          go_meet
                                          case rel => exact ⟨_, (!t193), (by first | rfl | (simp; done) | (simp [*]; done)), H', ⟨by have := HK1.out; have := HJ7.out; have := HJ28.out; have := HJ49.out; have := HK5.out; have := HK6.out; first | omega | exact Nat.le_refl _⟩, ⟨by (with_reducible repeat (first | apply Kd.V_alloc | apply Kd.V_drewN | apply Kd.V_drew)); first | exact HO_14.out | exact Kd.R_mono HO_14.out (fun _ hk => ⟨hk.2, hk.1⟩)⟩, ⟨by (with_reducible repeat (first | apply Kd.V_alloc | apply Kd.V_drewN | apply Kd.V_drew)); first | exact HO_18.out | exact Kd.R_mono HO_18.out (fun _ hk => ⟨hk.2, hk.1⟩)⟩, ⟨by repeat (first | (with_reducible first | exact HB.out | apply below_alloc | apply pw_below_drewN | apply below_drew1) | exact HB.out)⟩⟩
                                      · rw [if_neg c93] at H
                                        exact absurd H (by simp)
                                    case rest => as_aux_lemma =>
                                      clear HC91
                                      try clear c1
                                      try clear p1
                                      try clear q1
                                      try clear hx1
                                      try clear c2
                                      try clear p2
                                      try clear c3
                                      try clear c4
                                      try clear c5
                                      try clear c6
                                      try clear p6
                                      try clear c7
                                      try clear c8
                                      try clear c9
                                      try clear c9b0
                                      try clear c10
                                      try clear c11
                                      try clear c11b0
                                      try clear c12
                                      try clear c12b0
                                      try clear c14
                                      try clear p14
                                      try clear q14
                                      try clear hx14
                                      try clear p15
                                      try clear q15
                                      try clear hx15
                                      try clear c16
                                      try clear c16b0
                                      try clear c17
                                      try clear c17b0
                                      try clear p18
                                      try clear q18
                                      try clear hx18
                                      try clear p19
                                      try clear q19
                                      try clear hx19
                                      try clear c20
                                      try clear c23
                                      try clear c37
                                      try clear c37b0
                                      try clear c37b1
                                      try clear c38
                                      try clear c38b0
                                      try clear c38b1
                                      try clear c39
                                      try clear c39b0
                                      try clear c39b1
                                      try clear c40
                                      try clear c40b0
                                      try clear c40b1
                                      try clear c41
                                      try clear c41b0
                                      try clear c41b1
                                      try clear c43
                                      try clear c43b0
                                      try clear c43b1
                                      try clear c44
                                      try clear c44b0
                                      try clear c44b1
                                      try clear c45
                                      try clear c48
                                      try clear c54
                                      try clear c54b0
                                      try clear c54b1
                                      try clear c55
                                      try clear c55b0
                                      try clear c55b1
                                      try clear c63
                                      try clear c64
                                      try clear c64b0
                                      try clear p64
                                      try clear c66
                                      try clear c66b0
                                      try clear c67
                                      try clear c67b0
                                      try clear c69
                                      try clear c70
                                      try clear c70b0
                                      try clear c71
                                      try clear c71b0
                                      try clear c72
                                      try clear c72b0
                                      try clear c78
                                      try clear c79
                                      try clear c79b0
                                      try clear c80
                                      try clear c80b0
                                      try clear c81
                                      try clear c81b0
                                      try clear c82
                                      try clear c82b0
                                      try clear c83
                                      try clear c83b0
                                      try clear c84
                                      try clear c84b0
                                      try clear c84b1
                                      try clear c90
                                      try clear c90b0
                                      try clear c93
                                      try clear c93b0
                                      try clear c94
                                      try clear c94b0
                                      try clear hx145_0
                                      try clear hx150_0
                                      try clear hx183_0
                                      try clear hx185_0
                                      try clear hx186_0
                                      try clear hx187_0
                                      try clear hx188_0
                                      try clear hx189_0
                                      try clear hx191_0
                                      try clear hx191_1
                                      try clear hx192_0
                                      try clear hx192_1
                                      try clear p1
                                      try clear p14
                                      try clear p145
                                      try clear p15
                                      try clear p150
                                      try clear p18
                                      try clear p183
                                      try clear p185
                                      try clear p186
                                      try clear p187
                                      try clear p188
                                      try clear p189
                                      try clear p191
                                      try clear p192
                                      try clear p2
                                      try clear p6
                                      try clear p64
                                      try clear q1
                                      try clear q14
                                      try clear q145
                                      try clear q15
                                      try clear q150
                                      try clear q18
                                      try clear q183
                                      try clear q185
                                      try clear q186
                                      try clear q187
                                      try clear q188
                                      try clear q189
                                      try clear q191
                                      try clear q192
                                      obtain ⟨kq, x237_90, rfl, HA, HJ90, HO_14, HO_18, HB⟩ := hcut
                                      cases kq with
                                      | zero => exact absurd HA.out (by simp [w02_SegShared.j8])
                                      | succ kj90 =>
                                        have H := HA.out
                                        clear HA
                                        simp only [w02_SegShared.j8] at H
                                        by_cases c96 : x237_90 = true
                                        · subst c96
                                          have H1 : (none) = some r := by rw [if_pos rfl] at H; exact H
                                          clear H
                                          have H := H1
                                          clear H1
                                          exact absurd H (by simp)
                                        · replace c96 := Bool.eq_false_iff.mpr c96
                                          subst c96
                                          have H1 : (w02_SegShared.l4 kj90 t164 t168 t170 x21_5 x22_6 x27_6 0) = some r := by rw [if_neg (show ¬ (false = true) by decide)] at H; exact H
                                          clear H
                                          have H := H1
                                          clear H1
                                          have H' := Aside0.mk H
                                          clear H
                                          go_wp2
                                          go_loopg [28] kj90 (fun kq v28 w' => ∃ (x28_8 : Int), v28 = .int .i64 x28_8 ∧ Aside0 (w02_SegShared.l4 kq t164 t168 t170 x21_5 x22_6 x27_6 x28_8 = some r) ∧ Aside0 (kq ≤ kj90) ∧ Aside0 (Kd.V (Kd.int .i64) 3 w' w.heap.size (fun _ => True) (.slice Ao51 t164.length co51) t164) ∧ Aside0 (Kd.V k52 52 w' w.heap.size (fun _ => True) (.slice Ao92 t170.length co92) t170) ∧ Aside0 (Below w.heap.size w w'))
                                          case atStart => exact ⟨(0), (by first | rfl | (simp; done) | (simp [*]; done)), H', ⟨Nat.le_refl _⟩, ⟨by (with_reducible repeat (first | apply Kd.V_alloc | apply Kd.V_drewN | apply Kd.V_drew)); exact HO_14.out⟩, ⟨by (with_reducible repeat (first | apply Kd.V_alloc | apply Kd.V_drewN | apply Kd.V_drew)); exact HO_18.out⟩, ⟨by repeat (first | (with_reducible first | exact HB.out | apply below_alloc | apply pw_below_drewN | apply below_drew1) | exact HB.out)⟩⟩
                                          case round => as_aux_lemma =>
                                            clear H'
                                            try clear c1
                                            try clear p1
                                            try clear q1
                                            try clear hx1
                                            try clear c2
                                            try clear p2
                                            try clear c3
                                            try clear c4
                                            try clear c5
                                            try clear c6
                                            try clear p6
                                            try clear c7
                                            try clear c8
                                            try clear c9
                                            try clear c9b0
                                            try clear c10
                                            try clear c11
                                            try clear c11b0
                                            try clear c12
                                            try clear c12b0
                                            try clear c14
                                            try clear p14
                                            try clear q14
                                            try clear hx14
                                            try clear p15
                                            try clear q15
                                            try clear hx15
                                            try clear c16
                                            try clear c16b0
                                            try clear c17
                                            try clear c17b0
                                            try clear p18
                                            try clear q18
                                            try clear hx18
                                            try clear p19
                                            try clear q19
                                            try clear hx19
                                            try clear c20
                                            try clear c23
                                            try clear c37
                                            try clear c37b0
                                            try clear c37b1
                                            try clear c38
                                            try clear c38b0
                                            try clear c38b1
                                            try clear c39
                                            try clear c39b0
                                            try clear c39b1
                                            try clear c40
                                            try clear c40b0
                                            try clear c40b1
                                            try clear c41
                                            try clear c41b0
                                            try clear c41b1
                                            try clear c43
                                            try clear c43b0
                                            try clear c43b1
                                            try clear c44
                                            try clear c44b0
                                            try clear c44b1
                                            try clear c45
                                            try clear c48
                                            try clear c54
                                            try clear c54b0
                                            try clear c54b1
                                            try clear c55
                                            try clear c55b0
                                            try clear c55b1
                                            try clear c63
                                            try clear c64
                                            try clear c64b0
                                            try clear p64
                                            try clear c66
                                            try clear c66b0
                                            try clear c67
                                            try clear c67b0
                                            try clear c69
                                            try clear c70
                                            try clear c70b0
                                            try clear c71
                                            try clear c71b0
                                            try clear c72
                                            try clear c72b0
                                            try clear c78
                                            try clear c79
                                            try clear c79b0
                                            try clear c80
                                            try clear c80b0
                                            try clear c81
                                            try clear c81b0
                                            try clear c82
                                            try clear c82b0
                                            try clear c83
                                            try clear c83b0
                                            try clear c84
                                            try clear c84b0
                                            try clear c84b1
                                            try clear c90
                                            try clear c90b0
                                            try clear c93
                                            try clear c93b0
                                            try clear c94
                                            try clear c94b0
                                            try clear c96
                                            try clear hx145_0
                                            try clear hx150_0
                                            try clear hx183_0
                                            try clear hx185_0
                                            try clear hx186_0
                                            try clear hx187_0
                                            try clear hx188_0
                                            try clear hx189_0
                                            try clear hx191_0
                                            try clear hx191_1
                                            try clear hx192_0
                                            try clear hx192_1
                                            try clear p1
                                            try clear p14
                                            try clear p145
                                            try clear p15
                                            try clear p150
                                            try clear p18
                                            try clear p183
                                            try clear p185
                                            try clear p186
                                            try clear p187
                                            try clear p188
                                            try clear p189
                                            try clear p19
                                            try clear p191
                                            try clear p192
                                            try clear p2
                                            try clear p6
                                            try clear p64
                                            try clear q1
                                            try clear q14
                                            try clear q145
                                            try clear q15
                                            try clear q150
                                            try clear q18
                                            try clear q183
                                            try clear q185
                                            try clear q186
                                            try clear q187
                                            try clear q188
                                            try clear q189
                                            try clear q19
                                            try clear q191
                                            try clear q192
                                            obtain ⟨x28_8, rfl, HA, HK8, HO_14, HO_18, HB⟩ := hrel
                                            cases gk with
                                            | zero => exact absurd HA.out (by simp [w02_SegShared.l4])
                                            | succ k8 =>
                                              have H := HA.out
                                              clear HA
                                              simp only [w02_SegShared.l4] at H
                                              by_cases c97 : 0 ≤ x27_6
                                              · rw [if_pos c97] at H
                                                have c97b0 : decide (0 ≤ x27_6) = true := decide_eq_true c97
                                                clear c97
                                                by_cases c98 : x27_6 < (t170.length : Int)
                                                · rw [if_pos c98] at H
                                                  have c98b0 : decide (x27_6 < (t170.length : Int)) = true := decide_eq_true c98
                                                  clear c98
                                                  by_cases c99 : x28_8 < ((rd_T52 t170 x27_6).f1)
                                                  · rw [if_pos c99] at H
                                                    have c99b0 : decide (x28_8 < ((rd_T52 t170 x27_6).f1)) = true := decide_eq_true c99
                                                    clear c99
                                                    obtain ⟨ji100, hji100⟩ : ∃ j_ : Int, (wrap64 (x22_6 + x28_8)) = j_ := ⟨_, rfl⟩
                                                    replace H : (if 0 ≤ (ji100) then (if (ji100) < (t164.length : Int) then (if (rd t164 (ji100)) = (wrap64 (((rd_T52 t170 x27_6).f0) + x28_8)) then (w02_SegShared.l4 k8 t164 t168 t170 x21_5 x22_6 x27_6 (wrap64 (x28_8 + 1))) else (none)) else (none)) else (none)) = some r := by first | (rw [hji100] at H; exact H) | (simp only [hji100] at H ⊢; exact H)
                                                    have hji100w : (IntKind.i64.wrap (x22_6 + x28_8)) = ji100 := (i64_w _).trans hji100
                                                    by_cases c101 : 0 ≤ (ji100)
                                                    · rw [if_pos c101] at H
                                                      have c101b0 : decide (0 ≤ (ji100)) = true := decide_eq_true c101
                                                      clear c101
                                                      by_cases c102 : (ji100) < (t164.length : Int)
                                                      · rw [if_pos c102] at H
                                                        have c102b0 : decide ((ji100) < (t164.length : Int)) = true := decide_eq_true c102
                                                        clear c102
                                                        by_cases c103 : (rd t164 (ji100)) = (wrap64 (((rd_T52 t170 x27_6).f0) + x28_8))
                                                        · rw [if_pos c103] at H
                                                          have c103b0 : ((rd t164 (ji100)) == (wrap64 (((rd_T52 t170 x27_6).f0) + x28_8))) = true := beq_iff_eq.mpr c103
                                                          have c103b1 : ((rd t164 (ji100)) != (wrap64 (((rd_T52 t170 x27_6).f0) + x28_8))) = false := bne_eq_false_iff_eq.mpr c103
                                                          clear c103
                                                          have H' := Aside0.mk H
                                                          clear H
                                                          have p194 : 0 ≤ (x27_6 : Int) := of_decide_eq_true (by first | (with_reducible assumption) | assumption)
                                                          have q194 : x27_6 < (t170.length : Int) := of_decide_eq_true (by first | (with_reducible assumption) | assumption)
                                                          obtain ⟨ad194, e194, hx194_0, hx194_1⟩ := at_T52 (Kd.V_reads' HO_18.out).2.2 x27_6 p194 q194
                                                          cases e194
                                                          replace p194 := eq_true p194
                                                          replace q194 := eq_true q194
                                                          try go_wp2
                                                          have n0_ := Aside0.mk (Kd.V_drew HO_14.out)
                                                          have n1_ := Aside0.mk (Kd.V_drew HO_18.out)
                                                          have n2_ := Aside0.mk (below_drew1 HB.out)
                                                          clear HO_14
                                                          clear HO_18
                                                          clear HB
                                                          have HO_14 := n0_
                                                          have HO_18 := n1_
                                                          have HB := n2_
                                                          clear n0_ n1_ n2_
                                                          have p195 : 0 ≤ ((ji100) : Int) := of_decide_eq_true (by first | (with_reducible assumption) | assumption)
                                                          have q195 : (ji100) < (t164.length : Int) := of_decide_eq_true (by first | (with_reducible assumption) | assumption)
                                                          try (obtain ⟨Ax_, cx_, ex_⟩ := Kd.V_slice HO_14.out; subst ex_)
                                                          obtain ⟨ad195, e195, hx195_0⟩ := Kd.at_int (Kd.V_reads' HO_14.out).2.2 (ji100) p195 q195
                                                          cases e195
                                                          replace p195 := eq_true p195
                                                          replace q195 := eq_true q195
                                                          have p196 : 0 ≤ (x27_6 : Int) := of_decide_eq_true (by first | (with_reducible assumption) | assumption)
                                                          have q196 : x27_6 < (t170.length : Int) := of_decide_eq_true (by first | (with_reducible assumption) | assumption)
                                                          obtain ⟨ad196, e196, hx196_0, hx196_1⟩ := at_T52 (Kd.V_reads' HO_18.out).2.2 x27_6 p196 q196
                                                          obtain rfl : ad194 = ad196 := (by injection e196)
                                                          replace p196 := eq_true p196
                                                          replace q196 := eq_true q196
                                                          refine start_ (n := 14) (S := fun w' => w'.cell? (ad195.add ((ji100)).toNat) = some (.int .i64 (rd t164 (ji100))) ∧ w'.cell? (ad194.add ((x27_6).toNat * 2)) = some (.int .i64 ((rd_T52 t170 x27_6).f0)) ∧ w'.cell? ⟨(ad194.add ((x27_6).toNat * 2)).block, (ad194.add ((x27_6).toNat * 2)).off + 1, none⟩ = some (.int .i64 ((rd_T52 t170 x27_6).f1))) (ds := []) #[false, false, false, false, false, false, false, false, false, false, false, false, false, false] (by kernel_rfl) rfl rfl ⟨hx195_0, hx196_0, hx196_1⟩ (fun hHeld => ?_); refine with_tabW w02_SegShared.tab40 w02_SegShared.bits40 (fun HT_ HW_ => ?_)
                                                          generalize wr.drew = w104 at HO_14 HO_18 HB hx195_0 hx196_0 hx196_1 hHeld ⊢
                                                          refine pure_ (i := 0) (N := some 247) (v := ?_) (a' := ?_) #[true, false, false, false, false, false, false, false, false, false, false, false, false, false] rfl rfl (any_of HT_.out (by kernel_rfl)) (fun _ _ _ h => h) (Or.inl ⟨by rfl, ?_⟩) ?_ ?_
                                                          rotate_left
                                                          · intro w'
                                                            go_simp
                                                            with_reducible rfl
                                                          rotate_left
                                                          · simp only [Act.put, List.setIfInBounds_toArray, List.set_cons_zero, List.set_cons_succ, i64_w, i32_w]
                                                            rfl
                                                          refine pure_ (i := 1) (N := some 248) (v := ?_) (a' := ?_) #[true, true, false, false, false, false, false, false, false, false, false, false, false, false] rfl rfl (any_of HT_.out (by kernel_rfl)) (fun _ _ _ h => h) (Or.inl ⟨by rfl, ?_⟩) ?_ ?_
                                                          rotate_left
                                                          · intro w'
                                                            go_simp
                                                            with_reducible rfl
                                                          rotate_left
                                                          · simp only [Act.put, List.setIfInBounds_toArray, List.set_cons_zero, List.set_cons_succ, i64_w, i32_w]
                                                            rfl
                                                          refine pure_ (i := 2) (N := some 249) (v := ?_) (a' := ?_) #[true, true, true, false, false, false, false, false, false, false, false, false, false, false] rfl rfl (any_of HT_.out (by kernel_rfl)) (fun _ _ _ h => h) (Or.inl ⟨by rfl, ?_⟩) ?_ ?_
                                                          rotate_left
                                                          · intro w'
                                                            go_simp
                                                            with_reducible rfl
                                                          rotate_left
                                                          · simp only [Act.put, List.setIfInBounds_toArray, List.set_cons_zero, List.set_cons_succ, i64_w, i32_w]
                                                            rfl
                                                          refine pure_ (i := 3) (N := some 250) (v := ?_) (a' := ?_) #[true, true, true, true, false, false, false, false, false, false, false, false, false, false] rfl rfl (any_of HT_.out (by kernel_rfl)) (fun _ _ _ h => h) (Or.inl ⟨by rfl, ?_⟩) ?_ ?_
                                                          rotate_left
                                                          · intro w'
                                                            go_simp
                                                            with_reducible rfl
                                                          rotate_left
                                                          · simp only [Act.put, List.setIfInBounds_toArray, List.set_cons_zero, List.set_cons_succ, i64_w, i32_w]
                                                            rfl
                                                          refine pure_ (i := 4) (N := some 251) (v := ?_) (a' := ?_) #[true, true, true, true, true, false, false, false, false, false, false, false, false, false] rfl rfl (any_of HT_.out (by kernel_rfl)) (fun _ _ _ h => h) (Or.inl ⟨by rfl, ?_⟩) ?_ ?_
                                                          rotate_left
                                                          · intro w'
                                                            go_simp
                                                            with_reducible rfl
                                                          rotate_left
                                                          · simp only [Act.put, List.setIfInBounds_toArray, List.set_cons_zero, List.set_cons_succ, i64_w, i32_w]
                                                            rfl
                                                          refine pure_ (i := 6) (N := some 253) (v := ?_) (a' := ?_) #[true, true, true, true, true, false, true, false, false, false, false, false, false, false] rfl rfl (any_of HT_.out (by kernel_rfl)) (fun _ _ _ h => h) (Or.inl ⟨by rfl, ?_⟩) ?_ ?_
                                                          rotate_left
                                                          · intro w'
                                                            go_simp
                                                            with_reducible rfl
                                                          rotate_left
                                                          · simp only [Act.put, List.setIfInBounds_toArray, List.set_cons_zero, List.set_cons_succ, i64_w, i32_w]
                                                            rfl
                                                          refine pure_ (i := 7) (N := some 254) (v := ?_) (a' := ?_) #[true, true, true, true, true, false, true, true, false, false, false, false, false, false] rfl rfl (any_of HT_.out (by kernel_rfl)) (fun _ _ _ h => h) (Or.inl ⟨by rfl, ?_⟩) ?_ ?_
                                                          rotate_left
                                                          · intro w'
                                                            go_simp
                                                            with_reducible rfl
                                                          rotate_left
                                                          · simp only [Act.put, List.setIfInBounds_toArray, List.set_cons_zero, List.set_cons_succ, i64_w, i32_w]
                                                            rfl
                                                          refine pure_ (i := 8) (N := some 255) (v := ?_) (a' := ?_) #[true, true, true, true, true, false, true, true, true, false, false, false, false, false] rfl rfl (any_of HT_.out (by kernel_rfl)) (fun _ _ _ h => h) (Or.inl ⟨by rfl, ?_⟩) ?_ ?_
                                                          rotate_left
                                                          · intro w'
                                                            go_simp
                                                            with_reducible rfl
                                                          rotate_left
                                                          · simp only [Act.put, List.setIfInBounds_toArray, List.set_cons_zero, List.set_cons_succ, i64_w, i32_w]
                                                            rfl
                                                          refine pure_ (i := 9) (N := some 256) (v := ?_) (a' := ?_) #[true, true, true, true, true, false, true, true, true, true, false, false, false, false] rfl rfl (any_of HT_.out (by kernel_rfl)) (fun _ _ _ h => h) (Or.inl ⟨by rfl, ?_⟩) ?_ ?_
                                                          rotate_left
                                                          · intro w'
                                                            go_simp
                                                            with_reducible rfl
                                                          rotate_left
                                                          · simp only [Act.put, List.setIfInBounds_toArray, List.set_cons_zero, List.set_cons_succ, i64_w, i32_w]
                                                            rfl
                                                          refine pure_ (i := 11) (N := some 258) (v := ?_) (a' := ?_) #[true, true, true, true, true, false, true, true, true, true, false, true, false, false] rfl rfl (any_of HT_.out (by kernel_rfl)) (fun _ _ _ h => h) (Or.inl ⟨by rfl, ?_⟩) ?_ ?_
                                                          rotate_left
                                                          · intro w'
                                                            go_simp
                                                            with_reducible rfl
                                                          rotate_left
                                                          · simp only [Act.put, List.setIfInBounds_toArray, List.set_cons_zero, List.set_cons_succ, i64_w, i32_w]
                                                            rfl
                                                          refine take_ (i := 5) (N := some 252) (v := ?_) (a' := ?_) #[true, true, true, true, true, true, true, true, true, true, false, true, false, false] rfl rfl (take_ofW HT_.out HW_.out (by kernel_rfl)) (fun _ _ _ h => h) (Or.inl ⟨by rfl, ?_⟩) hHeld ?_ ?_
                                                          rotate_left
                                                          · rintro w' ⟨s0, s1, s2⟩
                                                            go_simp
                                                            with_reducible rfl
                                                          rotate_left
                                                          · simp only [Act.put, List.setIfInBounds_toArray, List.set_cons_zero, List.set_cons_succ, i64_w, i32_w]
                                                            rfl
                                                          refine take_ (i := 10) (N := some 257) (v := ?_) (a' := ?_) #[true, true, true, true, true, true, true, true, true, true, true, true, false, false] rfl rfl (take_ofW HT_.out HW_.out (by kernel_rfl)) (fun _ _ _ h => h) (Or.inl ⟨by rfl, ?_⟩) hHeld ?_ ?_
                                                          rotate_left
                                                          · rintro w' ⟨s0, s1, s2⟩
                                                            go_simp
                                                            with_reducible rfl
                                                          rotate_left
                                                          · simp only [Act.put, List.setIfInBounds_toArray, List.set_cons_zero, List.set_cons_succ, i64_w, i32_w]
                                                            rfl
                                                          refine pure_ (i := 12) (N := some 259) (v := ?_) (a' := ?_) #[true, true, true, true, true, true, true, true, true, true, true, true, true, false] rfl rfl (any_of HT_.out (by kernel_rfl)) (fun _ _ _ h => h) (Or.inl ⟨by rfl, ?_⟩) ?_ ?_
                                                          rotate_left
                                                          · intro w'
                                                            go_simp
                                                            with_reducible rfl
                                                          rotate_left
                                                          · simp only [Act.put, List.setIfInBounds_toArray, List.set_cons_zero, List.set_cons_succ, i64_w, i32_w]
                                                            rfl
                                                          refine pure_ (i := 13) (N := some 260) (v := ?_) (a' := ?_) #[true, true, true, true, true, true, true, true, true, true, true, true, true, true] rfl rfl (any_of HT_.out (by kernel_rfl)) (fun _ _ _ h => h) (Or.inl ⟨by rfl, ?_⟩) ?_ ?_
                                                          rotate_left
                                                          · intro w'
                                                            go_simp
                                                            with_reducible rfl
                                                          rotate_left
                                                          · simp only [Act.put, List.setIfInBounds_toArray, List.set_cons_zero, List.set_cons_succ, i64_w, i32_w]
                                                            rfl
                                                          refine done_ (done_of HT_.out (by kernel_rfl)) ?_
                                                          try go_wp2
                                                          go_roundg k8
                                                          case measure => have := HK1.out; have := HJ7.out; have := HJ28.out; have := HJ49.out; have := HK5.out; have := HK6.out; have := HJ90.out; have := HK8.out; omega
                                                          case rel => exact ⟨(wrap64 (x28_8 + 1)), (by first | rfl | (simp; done) | (simp [*]; done)), H', ⟨by have := HK1.out; have := HJ7.out; have := HJ28.out; have := HJ49.out; have := HK5.out; have := HK6.out; have := HJ90.out; have := HK8.out; omega⟩, ⟨by (with_reducible repeat (first | apply Kd.V_alloc | apply Kd.V_drewN | apply Kd.V_drew)); first | exact HO_14.out | exact Kd.R_mono HO_14.out (fun _ hk => ⟨hk.2, hk.1⟩)⟩, ⟨by (with_reducible repeat (first | apply Kd.V_alloc | apply Kd.V_drewN | apply Kd.V_drew)); first | exact HO_18.out | exact Kd.R_mono HO_18.out (fun _ hk => ⟨hk.2, hk.1⟩)⟩, ⟨by repeat (first | (with_reducible first | exact HB.out | apply below_alloc | apply pw_below_drewN | apply below_drew1) | exact HB.out)⟩⟩
                                                        · rw [if_neg c103] at H
                                                          exact absurd H (by simp)
                                                      · rw [if_neg c102] at H
                                                        exact absurd H (by simp)
                                                    · rw [if_neg c101] at H
                                                      exact absurd H (by simp)
                                                  · rw [if_neg c99] at H
                                                    have c99b0 : decide (x28_8 < ((rd_T52 t170 x27_6).f1)) = false := decide_eq_false c99
                                                    clear c99
                                                    have H' := Aside0.mk H
                                                    clear H
                                                    have p194 : 0 ≤ (x27_6 : Int) := of_decide_eq_true (by first | (with_reducible assumption) | assumption)
                                                    have q194 : x27_6 < (t170.length : Int) := of_decide_eq_true (by first | (with_reducible assumption) | assumption)
                                                    obtain ⟨ad194, e194, hx194_0, hx194_1⟩ := at_T52 (Kd.V_reads' HO_18.out).2.2 x27_6 p194 q194
                                                    cases e194
                                                    replace p194 := eq_true p194
                                                    replace q194 := eq_true q194
                                                    try go_wp2
                                                    have n0_ := Aside0.mk (Kd.V_drew HO_14.out)
                                                    have n1_ := Aside0.mk (Kd.V_drew HO_18.out)
                                                    have n2_ := Aside0.mk (below_drew1 HB.out)
                                                    clear HO_14
                                                    clear HO_18
                                                    clear HB
                                                    have HO_14 := n0_
                                                    have HO_18 := n1_
                                                    have HB := n2_
                                                    clear n0_ n1_ n2_
                                                    have p197 : 0 ≤ (x27_6 : Int) := of_decide_eq_true (by first | (with_reducible assumption) | assumption)
                                                    have q197 : x27_6 < (t170.length : Int) := of_decide_eq_true (by first | (with_reducible assumption) | assumption)
                                                    obtain ⟨ad197, e197, hx197_0, hx197_1⟩ := at_T52 (Kd.V_reads' HO_18.out).2.2 x27_6 p197 q197
                                                    obtain rfl : ad194 = ad197 := (by injection e197)
                                                    replace p197 := eq_true p197
                                                    replace q197 := eq_true q197
                                                    have p198 : 0 ≤ (x27_6 : Int) := of_decide_eq_true (by first | (with_reducible assumption) | assumption)
                                                    have q198 : x27_6 < (t170.length : Int) := of_decide_eq_true (by first | (with_reducible assumption) | assumption)
                                                    obtain ⟨ad198, e198, hx198_0, hx198_1⟩ := at_T52 (Kd.V_reads' HO_18.out).2.2 x27_6 p198 q198
                                                    obtain rfl : ad194 = ad198 := (by injection e198)
                                                    replace p198 := eq_true p198
                                                    replace q198 := eq_true q198
                                                    have p199 : 0 ≤ (x27_6 : Int) := of_decide_eq_true (by first | (with_reducible assumption) | assumption)
                                                    have q199 : x27_6 < (t170.length : Int) := of_decide_eq_true (by first | (with_reducible assumption) | assumption)
                                                    obtain ⟨ad199, e199, hx199_0, hx199_1⟩ := at_T52 (Kd.V_reads' HO_18.out).2.2 x27_6 p199 q199
                                                    obtain rfl : ad194 = ad199 := (by injection e199)
                                                    replace p199 := eq_true p199
                                                    replace q199 := eq_true q199
                                                    refine start_ (n := 20) (S := fun w' => w'.cell? (ad194.add ((x27_6).toNat * 2)) = some (.int .i64 ((rd_T52 t170 x27_6).f0)) ∧ w'.cell? ⟨(ad194.add ((x27_6).toNat * 2)).block, (ad194.add ((x27_6).toNat * 2)).off + 1, none⟩ = some (.int .i64 ((rd_T52 t170 x27_6).f1)) ∧ w'.cell? (ad194.add ((x27_6).toNat * 2)) = some (.int .i64 ((rd_T52 t170 x27_6).f0)) ∧ w'.cell? ⟨(ad194.add ((x27_6).toNat * 2)).block, (ad194.add ((x27_6).toNat * 2)).off + 1, none⟩ = some (.int .i64 ((rd_T52 t170 x27_6).f1)) ∧ w'.cell? (ad194.add ((x27_6).toNat * 2)) = some (.int .i64 ((rd_T52 t170 x27_6).f0)) ∧ w'.cell? ⟨(ad194.add ((x27_6).toNat * 2)).block, (ad194.add ((x27_6).toNat * 2)).off + 1, none⟩ = some (.int .i64 ((rd_T52 t170 x27_6).f1))) (ds := []) #[false, false, false, false, false, false, false, false, false, false, false, false, false, false, false, false, false, false, false, false] (by kernel_rfl) rfl rfl ⟨hx197_0, hx197_1, hx198_0, hx198_1, hx199_0, hx199_1⟩ (fun hHeld => ?_); refine with_tabW w02_SegShared.tab42 w02_SegShared.bits42 (fun HT_ HW_ => ?_)
                                                    generalize wr.drew = w105 at HO_14 HO_18 HB hx197_0 hx197_1 hx198_0 hx198_1 hx199_0 hx199_1 hHeld ⊢
                                                    refine pure_ (i := 0) (N := some 261) (v := ?_) (a' := ?_) #[true, false, false, false, false, false, false, false, false, false, false, false, false, false, false, false, false, false, false, false] rfl rfl (any_of HT_.out (by kernel_rfl)) (fun _ _ _ h => h) (Or.inl ⟨by rfl, ?_⟩) ?_ ?_
                                                    rotate_left
                                                    · intro w'
                                                      go_simp
                                                      with_reducible rfl
                                                    rotate_left
                                                    · simp only [Act.put, List.setIfInBounds_toArray, List.set_cons_zero, List.set_cons_succ, i64_w, i32_w]
                                                      rfl
                                                    refine pure_ (i := 1) (N := some 262) (v := ?_) (a' := ?_) #[true, true, false, false, false, false, false, false, false, false, false, false, false, false, false, false, false, false, false, false] rfl rfl (any_of HT_.out (by kernel_rfl)) (fun _ _ _ h => h) (Or.inl ⟨by rfl, ?_⟩) ?_ ?_
                                                    rotate_left
                                                    · intro w'
                                                      go_simp
                                                      with_reducible rfl
                                                    rotate_left
                                                    · simp only [Act.put, List.setIfInBounds_toArray, List.set_cons_zero, List.set_cons_succ, i64_w, i32_w]
                                                      rfl
                                                    refine pure_ (i := 2) (N := some 263) (v := ?_) (a' := ?_) #[true, true, true, false, false, false, false, false, false, false, false, false, false, false, false, false, false, false, false, false] rfl rfl (any_of HT_.out (by kernel_rfl)) (fun _ _ _ h => h) (Or.inl ⟨by rfl, ?_⟩) ?_ ?_
                                                    rotate_left
                                                    · intro w'
                                                      go_simp
                                                      with_reducible rfl
                                                    rotate_left
                                                    · simp only [Act.put, List.setIfInBounds_toArray, List.set_cons_zero, List.set_cons_succ, i64_w, i32_w]
                                                      rfl
                                                    refine pure_ (i := 3) (N := some 264) (v := ?_) (a' := ?_) #[true, true, true, true, false, false, false, false, false, false, false, false, false, false, false, false, false, false, false, false] rfl rfl (any_of HT_.out (by kernel_rfl)) (fun _ _ _ h => h) (Or.inl ⟨by rfl, ?_⟩) ?_ ?_
                                                    rotate_left
                                                    · intro w'
                                                      go_simp
                                                      with_reducible rfl
                                                    rotate_left
                                                    · simp only [Act.put, List.setIfInBounds_toArray, List.set_cons_zero, List.set_cons_succ, i64_w, i32_w]
                                                      rfl
                                                    refine pure_ (i := 4) (N := some 265) (v := ?_) (a' := ?_) #[true, true, true, true, true, false, false, false, false, false, false, false, false, false, false, false, false, false, false, false] rfl rfl (any_of HT_.out (by kernel_rfl)) (fun _ _ _ h => h) (Or.inl ⟨by rfl, ?_⟩) ?_ ?_
                                                    rotate_left
                                                    · intro w'
                                                      go_simp
                                                      with_reducible rfl
                                                    rotate_left
                                                    · simp only [Act.put, List.setIfInBounds_toArray, List.set_cons_zero, List.set_cons_succ, i64_w, i32_w]
                                                      rfl
                                                    refine pure_ (i := 7) (N := some 268) (v := ?_) (a' := ?_) #[true, true, true, true, true, false, false, true, false, false, false, false, false, false, false, false, false, false, false, false] rfl rfl (any_of HT_.out (by kernel_rfl)) (fun _ _ _ h => h) (Or.inl ⟨by rfl, ?_⟩) ?_ ?_
                                                    rotate_left
                                                    · intro w'
                                                      go_simp
                                                      with_reducible rfl
                                                    rotate_left
                                                    · simp only [Act.put, List.setIfInBounds_toArray, List.set_cons_zero, List.set_cons_succ, i64_w, i32_w]
                                                      rfl
                                                    refine pure_ (i := 8) (N := some 269) (v := ?_) (a' := ?_) #[true, true, true, true, true, false, false, true, true, false, false, false, false, false, false, false, false, false, false, false] rfl rfl (any_of HT_.out (by kernel_rfl)) (fun _ _ _ h => h) (Or.inl ⟨by rfl, ?_⟩) ?_ ?_
                                                    rotate_left
                                                    · intro w'
                                                      go_simp
                                                      with_reducible rfl
                                                    rotate_left
                                                    · simp only [Act.put, List.setIfInBounds_toArray, List.set_cons_zero, List.set_cons_succ, i64_w, i32_w]
                                                      rfl
                                                    refine pure_ (i := 9) (N := some 270) (v := ?_) (a' := ?_) #[true, true, true, true, true, false, false, true, true, true, false, false, false, false, false, false, false, false, false, false] rfl rfl (any_of HT_.out (by kernel_rfl)) (fun _ _ _ h => h) (Or.inl ⟨by rfl, ?_⟩) ?_ ?_
                                                    rotate_left
                                                    · intro w'
                                                      go_simp
                                                      with_reducible rfl
                                                    rotate_left
                                                    · simp only [Act.put, List.setIfInBounds_toArray, List.set_cons_zero, List.set_cons_succ, i64_w, i32_w]
                                                      rfl
                                                    refine pure_ (i := 10) (N := some 271) (v := ?_) (a' := ?_) #[true, true, true, true, true, false, false, true, true, true, true, false, false, false, false, false, false, false, false, false] rfl rfl (any_of HT_.out (by kernel_rfl)) (fun _ _ _ h => h) (Or.inl ⟨by rfl, ?_⟩) ?_ ?_
                                                    rotate_left
                                                    · intro w'
                                                      go_simp
                                                      with_reducible rfl
                                                    rotate_left
                                                    · simp only [Act.put, List.setIfInBounds_toArray, List.set_cons_zero, List.set_cons_succ, i64_w, i32_w]
                                                      rfl
                                                    refine pure_ (i := 12) (N := some 273) (v := ?_) (a' := ?_) #[true, true, true, true, true, false, false, true, true, true, true, false, true, false, false, false, false, false, false, false] rfl rfl (any_of HT_.out (by kernel_rfl)) (fun _ _ _ h => h) (Or.inl ⟨by rfl, ?_⟩) ?_ ?_
                                                    rotate_left
                                                    · intro w'
                                                      go_simp
                                                      with_reducible rfl
                                                    rotate_left
                                                    · simp only [Act.put, List.setIfInBounds_toArray, List.set_cons_zero, List.set_cons_succ, i64_w, i32_w]
                                                      rfl
                                                    refine pure_ (i := 13) (N := some 274) (v := ?_) (a' := ?_) #[true, true, true, true, true, false, false, true, true, true, true, false, true, true, false, false, false, false, false, false] rfl rfl (any_of HT_.out (by kernel_rfl)) (fun _ _ _ h => h) (Or.inl ⟨by rfl, ?_⟩) ?_ ?_
                                                    rotate_left
                                                    · intro w'
                                                      go_simp
                                                      with_reducible rfl
                                                    rotate_left
                                                    · simp only [Act.put, List.setIfInBounds_toArray, List.set_cons_zero, List.set_cons_succ, i64_w, i32_w]
                                                      rfl
                                                    refine pure_ (i := 14) (N := some 275) (v := ?_) (a' := ?_) #[true, true, true, true, true, false, false, true, true, true, true, false, true, true, true, false, false, false, false, false] rfl rfl (any_of HT_.out (by kernel_rfl)) (fun _ _ _ h => h) (Or.inl ⟨by rfl, ?_⟩) ?_ ?_
                                                    rotate_left
                                                    · intro w'
                                                      go_simp
                                                      with_reducible rfl
                                                    rotate_left
                                                    · simp only [Act.put, List.setIfInBounds_toArray, List.set_cons_zero, List.set_cons_succ, i64_w, i32_w]
                                                      rfl
                                                    refine pure_ (i := 15) (N := some 276) (v := ?_) (a' := ?_) #[true, true, true, true, true, false, false, true, true, true, true, false, true, true, true, true, false, false, false, false] rfl rfl (any_of HT_.out (by kernel_rfl)) (fun _ _ _ h => h) (Or.inl ⟨by rfl, ?_⟩) ?_ ?_
                                                    rotate_left
                                                    · intro w'
                                                      go_simp
                                                      with_reducible rfl
                                                    rotate_left
                                                    · simp only [Act.put, List.setIfInBounds_toArray, List.set_cons_zero, List.set_cons_succ, i64_w, i32_w]
                                                      rfl
                                                    refine take_ (i := 5) (N := some 266) (v := ?_) (a' := ?_) #[true, true, true, true, true, true, false, true, true, true, true, false, true, true, true, true, false, false, false, false] rfl rfl (take_ofW HT_.out HW_.out (by kernel_rfl)) (fun _ _ _ h => h) (Or.inl ⟨by rfl, ?_⟩) hHeld ?_ ?_
                                                    rotate_left
                                                    · rintro w' ⟨s0, s1, s2, s3, s4, s5⟩
                                                      go_simp
                                                      with_reducible rfl
                                                    rotate_left
                                                    · simp only [Act.put, List.setIfInBounds_toArray, List.set_cons_zero, List.set_cons_succ, i64_w, i32_w]
                                                      rfl
                                                    refine pure_ (i := 6) (N := some 267) (v := ?_) (a' := ?_) #[true, true, true, true, true, true, true, true, true, true, true, false, true, true, true, true, false, false, false, false] rfl rfl (any_of HT_.out (by kernel_rfl)) (fun _ _ _ h => h) (Or.inl ⟨by rfl, ?_⟩) ?_ ?_
                                                    rotate_left
                                                    · intro w'
                                                      go_simp
                                                      with_reducible rfl
                                                    rotate_left
                                                    · simp only [Act.put, List.setIfInBounds_toArray, List.set_cons_zero, List.set_cons_succ, i64_w, i32_w]
                                                      rfl
                                                    refine pure_ (i := 18) (N := some 22) (v := ?_) (a' := ?_) #[true, true, true, true, true, true, true, true, true, true, true, false, true, true, true, true, false, false, true, false] rfl rfl (any_of HT_.out (by kernel_rfl)) (fun _ _ _ h => h) (Or.inl ⟨by rfl, ?_⟩) ?_ ?_
                                                    rotate_left
                                                    · intro w'
                                                      go_simp
                                                      with_reducible rfl
                                                    rotate_left
                                                    · simp only [Act.put, List.setIfInBounds_toArray, List.set_cons_zero, List.set_cons_succ, i64_w, i32_w]
                                                      rfl
                                                    refine take_ (i := 11) (N := some 272) (v := ?_) (a' := ?_) #[true, true, true, true, true, true, true, true, true, true, true, true, true, true, true, true, false, false, true, false] rfl rfl (take_ofW HT_.out HW_.out (by kernel_rfl)) (fun _ _ _ h => h) (Or.inl ⟨by rfl, ?_⟩) hHeld ?_ ?_
                                                    rotate_left
                                                    · rintro w' ⟨s0, s1, s2, s3, s4, s5⟩
                                                      go_simp
                                                      with_reducible rfl
                                                    rotate_left
                                                    · simp only [Act.put, List.setIfInBounds_toArray, List.set_cons_zero, List.set_cons_succ, i64_w, i32_w]
                                                      rfl
                                                    refine take_ (i := 16) (N := some 277) (v := ?_) (a' := ?_) #[true, true, true, true, true, true, true, true, true, true, true, true, true, true, true, true, true, false, true, false] rfl rfl (take_ofW HT_.out HW_.out (by kernel_rfl)) (fun _ _ _ h => h) (Or.inl ⟨by rfl, ?_⟩) hHeld ?_ ?_
                                                    rotate_left
                                                    · rintro w' ⟨s0, s1, s2, s3, s4, s5⟩
                                                      go_simp
                                                      with_reducible rfl
                                                    rotate_left
                                                    · simp only [Act.put, List.setIfInBounds_toArray, List.set_cons_zero, List.set_cons_succ, i64_w, i32_w]
                                                      rfl
                                                    refine pure_ (i := 17) (N := some 278) (v := ?_) (a' := ?_) #[true, true, true, true, true, true, true, true, true, true, true, true, true, true, true, true, true, true, true, false] rfl rfl (any_of HT_.out (by kernel_rfl)) (fun _ _ _ h => h) (Or.inl ⟨by rfl, ?_⟩) ?_ ?_
                                                    rotate_left
                                                    · intro w'
                                                      go_simp
                                                      with_reducible rfl
                                                    rotate_left
                                                    · simp only [Act.put, List.setIfInBounds_toArray, List.set_cons_zero, List.set_cons_succ, i64_w, i32_w]
                                                      rfl
                                                    refine pure_ (i := 19) (N := some 26) (v := ?_) (a' := ?_) #[true, true, true, true, true, true, true, true, true, true, true, true, true, true, true, true, true, true, true, true] rfl rfl (any_of HT_.out (by kernel_rfl)) (fun _ _ _ h => h) (Or.inl ⟨by rfl, ?_⟩) ?_ ?_
                                                    rotate_left
                                                    · intro w'
                                                      go_simp
                                                      with_reducible rfl
                                                    rotate_left
                                                    · simp only [Act.put, List.setIfInBounds_toArray, List.set_cons_zero, List.set_cons_succ, i64_w, i32_w]
                                                      rfl
                                                    refine done_ (done_of HT_.out (by kernel_rfl)) ?_
                                                    try go_wp2
                                                    go_roundg k8
                                                    case measure => have := HK1.out; have := HJ7.out; have := HJ28.out; have := HJ49.out; have := HK5.out; have := HK6.out; have := HJ90.out; have := HK8.out; omega
                                                    case rel => exact ⟨(wrap64 (x22_6 + ((rd_T52 t170 x27_6).f1))), (wrap64 (((rd_T52 t170 x27_6).f0) + ((rd_T52 t170 x27_6).f1))), (wrap64 (x27_6 + 1)), (by first | rfl | (simp; done) | (simp [*]; done)), (by first | rfl | (simp; done) | (simp [*]; done)), (by first | rfl | (simp; done) | (simp [*]; done)), H', ⟨by have := HK1.out; have := HJ7.out; have := HJ28.out; have := HJ49.out; have := HK5.out; have := HK6.out; have := HJ90.out; have := HK8.out; omega⟩, ⟨by (with_reducible repeat (first | apply Kd.V_alloc | apply Kd.V_drewN | apply Kd.V_drew)); first | exact HO_14.out | exact Kd.R_mono HO_14.out (fun _ hk => ⟨hk.2, hk.1⟩)⟩, ⟨by (with_reducible repeat (first | apply Kd.V_alloc | apply Kd.V_drewN | apply Kd.V_drew)); first | exact HO_18.out | exact Kd.R_mono HO_18.out (fun _ hk => ⟨hk.2, hk.1⟩)⟩, ⟨by repeat (first | (with_reducible first | exact HB.out | apply below_alloc | apply pw_below_drewN | apply below_drew1) | exact HB.out)⟩⟩
                                                · rw [if_neg c98] at H
                                                  exact absurd H (by simp)
                                              · rw [if_neg c97] at H
                                                exact absurd H (by simp)
                                  · rw [if_neg c90] at H
                                    have c90b0 : decide (x27_6 < (t170.length : Int)) = false := decide_eq_false c90
                                    clear c90
                                    by_cases c106 : x22_6 = (t164.length : Int)
                                    · rw [if_pos c106] at H
                                      have c106b0 : (x22_6 == (t164.length : Int)) = true := beq_iff_eq.mpr c106
                                      have c106b1 : (x22_6 != (t164.length : Int)) = false := bne_eq_false_iff_eq.mpr c106
                                      clear c106
                                      by_cases c107 : t168 = x21_5
                                      · rw [if_pos c107] at H
                                        have c107b0 : (t168 == x21_5) = true := beq_iff_eq.mpr c107
                                        have c107b1 : (t168 != x21_5) = false := bne_eq_false_iff_eq.mpr c107
                                        clear c107
                                        replace H := Option.bind_eq_some_iff.mp H
                                        obtain ⟨t190, A1080, H⟩ := H
                                        replace H : (some t190) = some r := H
                                        have A108 := Aside0.mk A1080
                                        clear A1080
                                        obtain rfl := Option.some.inj H
                                        obtain ⟨Ao109, co109, eo109⟩ := Kd.V_slice HO_18.out
                                        subst eo109
                                        go_wp2_with (first | (go_at_call 13; (try simp only [i64_w]); (with_reducible refine (Hand.law_cut.calls  t190 _ A108.out).mono ?_); rintro e w110 ⟨rfl, hb⟩; have n0_ := Aside0.mk (Kd.V_below (by (with_reducible repeat (first | apply Kd.V_alloc | apply Kd.V_drewN | apply Kd.V_drew)); exact HO_14.out) hb); have n1_ := Aside0.mk (Kd.V_below (by (with_reducible repeat (first | apply Kd.V_alloc | apply Kd.V_drewN | apply Kd.V_drew)); exact HO_18.out) hb); have n2_ := Aside0.mk (below_step (by repeat (first | (with_reducible first | exact HB.out | apply below_alloc | apply pw_below_drewN | apply below_drew1) | exact HB.out)) hb); clear HO_14; clear HO_18; clear HB; have HO_14 := n0_; have HO_18 := n1_; have HB := n2_; clear n0_ n1_ n2_; (try clear hb); (try clear hb2); (try clear hk); (try clear hi)))
                                        go_ret
                                        exact ⟨by first | rfl | (simp [errW_none, errW_some] <;> rfl) | (simp [*, errW_none, errW_some] <;> rfl), by repeat (first | (with_reducible first | exact HB.out | apply below_alloc | apply pw_below_drewN | apply below_drew1) | exact HB.out)⟩
                                      · rw [if_neg c107] at H
                                        exact absurd H (by simp)
                                    · rw [if_neg c106] at H
                                      exact absurd H (by simp)

/-- THE ONE PURE STATEMENT of w02_SegShared: yours. -/
def w02_SegShared.Pure : Prop := ∀ (l0 : List Int) (a1 : Int), l0.length ≤ maxLen → l0.length * 8 ≤ 140737488351232 → (∀ x ∈ l0, (Lit.int .i64 x).wf = true) → (Lit.int .i64 a1).wf = true → ∃ k, w02_SegShared.f k l0 a1 = some true
theorem w02_SegShared.walk (P : w02_SegShared.Pure) (a0 : Option Addr) (len0 cap0 : Nat) (z0 : List Int) (a1 : Int) (w : World) (w0 : (a0 = none ∧ len0 = 0 ∧ cap0 = 0 ∧ z0 = []) ∨ ∃ x, a0 = some x ∧ len0 ≤ cap0 ∧ cap0 ≤ maxLen ∧ z0.length = cap0 ∧ (∀ i, i < z0.length → w.cell? (x.add i) = some (.int .i64 (z0.getD i 0))) ∧ ∀ n ∈ z0, (Lit.int .i64 n).wf = true) (y0 : len0 * 8 ≤ 140737488351232) (w1 : (Lit.int .i64 a1).wf = true) :
    Calls Try.prog 9 #[.slice a0 len0 cap0, .int .i64 a1] w fun e w' => e = .returned (.bool true) ∧ Below w.heap.size w w' := by
  obtain ⟨l0, rfl, hr0, hm0, hw0, hc0⟩ := ReadsInt.ofRowC w0
  obtain ⟨k, h⟩ := P l0 a1 hm0 y0 hw0 w1
  refine (w02_SegShared.calls k _ _ l0 a1 true w (Kd.C_of_reads (d := (0 : Int)) (h1 := fun _ => rfl) hr0) hc0 h).mono ?_
  rintro e w' ⟨rfl, hd⟩
  exact ⟨rfl, hd⟩

end Go.Proofs.Ythalgcpohnknbaa.PSegShared
