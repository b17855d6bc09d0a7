-- Text of this session's own program (wip/tools: mkprint.py, pr.py) over hand-proved contracts. Not trusted: Lean checks it.
import Derived.Test.YthalgcpohnknbaaPSegTherex0
import Derived.Test.YthalgcpohnknbaaPSegTherex1
namespace Go.Proofs.Ythalgcpohnknbaa.PSegThere
open Go.RowKit Go.Proofs.YthalgcpohnknbaaW.PrintWords Go.Proofs.YthalgcpohnknbaaW.PrintLast Go.Proofs.YthalgcpohnknbaaW.PrintMore
attribute [local go_sem] max2_int min2_int max_two min_two max_three min_three max_four min_four   -- for this text's walks alone
set_option linter.unusedVariables false
set_option linter.unusedSimpArgs false

/-! ### w02_SegThere: function 7 -/
mutual
def w02_SegThere.j0 : Nat → List Int → Int → List Int → List Int → List Int → Bool → Option (Bool)
  | 0, _, _, _, _, _, _ => none
  | k + 1, x3, x4, x6, x8, x10, x80 => if x80 = true then (none) else ((Hand.rLengths.f x6 x4).bind fun bt128 => ((Hand.rOfHeads.f x8).bind fun bt132 => ((Hand.rOfOwners.f x10 (x3.length : Int)).bind fun bt136 => (if bt128.2 = 0 then (if bt132.2 = 0 then (if bt136.2 = 0 then ((Hand.Eq_.f bt128.1 x3).bind fun t140 => (if t140 = true then ((Hand.Eq_.f bt132.1 x3).bind fun t141 => (if t141 = true then ((Hand.Eq_.f bt136.1 x3).bind fun t142 => (w02_SegThere.j1 k x3 x4 x6 x8 x10 (!t142))) else (w02_SegThere.j1 k x3 x4 x6 x8 x10 true))) else (w02_SegThere.j1 k x3 x4 x6 x8 x10 true))) else (w02_SegThere.j1 k x3 x4 x6 x8 x10 true)) else (w02_SegThere.j1 k x3 x4 x6 x8 x10 true)) else (w02_SegThere.j1 k x3 x4 x6 x8 x10 true)))))
def w02_SegThere.j1 : Nat → List Int → Int → List Int → List Int → List Int → Bool → Option (Bool)
  | 0, _, _, _, _, _, _ => none
  | k + 1, x3, x4, x6, x8, x10, x126 => if x126 = true then (none) else (if 0 ≤ (wrap64 (x4 + 1)) then (if (wrap64 (x4 + 1) : Int).toNat ≤ 35184372088832 then (w02_SegThere.l0 k x3 x4 x6 x8 x10 (List.replicate (wrap64 (x4 + 1) : Int).toNat 0) 0) else (none)) else (none))
def w02_SegThere.l0 : Nat → List Int → Int → List Int → List Int → List Int → List Int → Int → Option (Bool)
  | 0, _, _, _, _, _, _, _ => none
  | k + 1, x3, x4, x6, x8, x10, x15, x16 => if x16 < (x6.length : Int) then (if 0 ≤ x16 then ((r00_Lies.f (rd x6 x16) 0 x4).bind fun t147 => (if t147 = true then (if 0 ≤ (rd x6 x16) then (if (rd x6 x16) < (x15.length : Int) then (w02_SegThere.l0 k x3 x4 x6 x8 x10 (x15.set ((rd x6 x16) : Int).toNat (wrap64 ((rd x15 (rd x6 x16)) + 1))) (wrap64 (x16 + 1))) else (none)) else (none)) else (none))) else (none)) else (w02_SegThere.l1 k x3 x4 x6 x8 x10 x15 0)
def w02_SegThere.l1 : Nat → List Int → Int → List Int → List Int → List Int → List Int → Int → Option (Bool)
  | 0, _, _, _, _, _, _, _ => none
  | k + 1, x3, x4, x6, x8, x10, x15, x17 => if x17 < x4 then (if 0 ≤ x17 then (if x17 < (x10.length : Int) then ((r00_Lies.f (rd x10 x17) 0 (wrap64 ((x3.length : Int) - 1))).bind fun t154 => (if t154 = true then (if 0 ≤ (rd x10 x17) then (if (rd x10 x17) < (x6.length : Int) then (if (rd x10 x17) < (x3.length : Int) then ((r00_Lies.f x17 (rd x6 (rd x10 x17)) (wrap64 ((wrap64 ((rd x6 (rd x10 x17)) + (rd x3 (rd x10 x17)))) - 1))).bind fun t158 => (if t158 = true then (w02_SegThere.l1 k x3 x4 x6 x8 x10 x15 (wrap64 (x17 + 1))) else (none))) else (none)) else (none)) else (none)) else (none))) else (none)) else (none)) else ((Hand.Eq_.f x15 x8).bind fun t151 => (if t151 = true then ((Hand.law_cut.f).bind fun t152 => (some t152)) else (none)))
end
def w02_SegThere.f (k : Nat) (l0 : List Int) : Option (Bool) := (w02_some.f k l0).bind fun t110 => ((Hand.rCheck.f t110).bind fun bt113 => ((Hand.rStarts.f t110).bind fun bt115 => ((Hand.rHeads.f t110).bind fun bt119 => ((Hand.rOwners.f t110).bind fun bt123 => (if bt113.2 = 0 then (if bt115.2 = 0 then (if bt119.2 = 0 then (if bt123.2 = 0 then ((r00_Sum.f k t110).bind fun t127 => (if bt113.1 = t127 then (if (bt115.1.length : Int) = (t110.length : Int) then (if (bt119.1.length : Int) = (wrap64 (bt113.1 + 1)) then (w02_SegThere.j0 k t110 bt113.1 bt115.1 bt119.1 bt123.1 ((bt123.1.length : Int) != bt113.1)) else (w02_SegThere.j0 k t110 bt113.1 bt115.1 bt119.1 bt123.1 true)) else (w02_SegThere.j0 k t110 bt113.1 bt115.1 bt119.1 bt123.1 true)) else (w02_SegThere.j0 k t110 bt113.1 bt115.1 bt119.1 bt123.1 true))) else (w02_SegThere.j0 k t110 bt113.1 bt115.1 bt119.1 bt123.1 true)) else (w02_SegThere.j0 k t110 bt113.1 bt115.1 bt119.1 bt123.1 true)) else (w02_SegThere.j0 k t110 bt113.1 bt115.1 bt119.1 bt123.1 true)) else (w02_SegThere.j0 k t110 bt113.1 bt115.1 bt119.1 bt123.1 true))))))
theorem w02_SegThere.j0_true : ∀ (k : Nat) (y0 : List Int) (y1 : Int) (y2 : List Int) (y3 : List Int) (y4 : List Int), w02_SegThere.j0 k y0 y1 y2 y3 y4 true = none := by
  intro k y0 y1 y2 y3 y4
  cases k <;> rfl
theorem w02_SegThere.j1_true : ∀ (k : Nat) (y0 : List Int) (y1 : Int) (y2 : List Int) (y3 : List Int) (y4 : List Int), w02_SegThere.j1 k y0 y1 y2 y3 y4 true = none := by
  intro k y0 y1 y2 y3 y4
  cases k <;> rfl
theorem w02_SegThere.mono_l : ∀ k, (∀ y0 y1 y2 y3 y4 y5, LeO (w02_SegThere.j0 k y0 y1 y2 y3 y4 y5) (w02_SegThere.j0 (k + 1) y0 y1 y2 y3 y4 y5)) ∧ (∀ y0 y1 y2 y3 y4 y5, LeO (w02_SegThere.j1 k y0 y1 y2 y3 y4 y5) (w02_SegThere.j1 (k + 1) y0 y1 y2 y3 y4 y5)) ∧ (∀ y0 y1 y2 y3 y4 y5 y6, LeO (w02_SegThere.l0 k y0 y1 y2 y3 y4 y5 y6) (w02_SegThere.l0 (k + 1) y0 y1 y2 y3 y4 y5 y6)) ∧ (∀ y0 y1 y2 y3 y4 y5 y6, LeO (w02_SegThere.l1 k y0 y1 y2 y3 y4 y5 y6) (w02_SegThere.l1 (k + 1) y0 y1 y2 y3 y4 y5 y6))
  | 0 => ⟨fun _ _ _ _ _ _ r h => by simp [w02_SegThere.j0] at h, fun _ _ _ _ _ _ r h => by simp [w02_SegThere.j1] at h, fun _ _ _ _ _ _ _ r h => by simp [w02_SegThere.l0] at h, fun _ _ _ _ _ _ _ r h => by simp [w02_SegThere.l1] at h⟩
  | k + 1 => by
    obtain ⟨ih0, ih1, ih2, ih3⟩ := w02_SegThere.mono_l k
    refine ⟨?_, ?_, ?_, ?_⟩
    · intro y0 y1 y2 y3 y4 y5
      unfold w02_SegThere.j0
      repeat' first
      | (with_reducible exact ih0 _ _ _ _ _ _)
      | (with_reducible exact ih1 _ _ _ _ _ _)
      | (with_reducible exact ih2 _ _ _ _ _ _ _)
      | (with_reducible exact ih3 _ _ _ _ _ _ _)
      | (with_reducible exact r00_Sum.mono _ _)
      | (with_reducible exact w02_some.mono _ _)
      | (with_reducible exact LeO.refl _)
      | (with_reducible exact LeO.none _)
      | (with_reducible refine LeO.ite ?_ ?_)
      | (with_reducible refine LeO.bind ?_ (fun _ => ?_))
      | exact ih0 _ _ _ _ _ _
      | exact ih1 _ _ _ _ _ _
      | exact ih2 _ _ _ _ _ _ _
      | exact ih3 _ _ _ _ _ _ _
      | exact r00_Sum.mono _ _
      | exact w02_some.mono _ _
      | exact LeO.none _
      | refine LeO.ite ?_ ?_
      | refine LeO.bind ?_ (fun _ => ?_)
    · intro y0 y1 y2 y3 y4 y5
      unfold w02_SegThere.j1
      repeat' first
      | (with_reducible exact ih0 _ _ _ _ _ _)
      | (with_reducible exact ih1 _ _ _ _ _ _)
      | (with_reducible exact ih2 _ _ _ _ _ _ _)
      | (with_reducible exact ih3 _ _ _ _ _ _ _)
      | (with_reducible exact r00_Sum.mono _ _)
      | (with_reducible exact w02_some.mono _ _)
      | (with_reducible exact LeO.refl _)
      | (with_reducible exact LeO.none _)
      | (with_reducible refine LeO.ite ?_ ?_)
      | (with_reducible refine LeO.bind ?_ (fun _ => ?_))
      | exact ih0 _ _ _ _ _ _
      | exact ih1 _ _ _ _ _ _
      | exact ih2 _ _ _ _ _ _ _
      | exact ih3 _ _ _ _ _ _ _
      | exact r00_Sum.mono _ _
      | exact w02_some.mono _ _
      | exact LeO.none _
      | refine LeO.ite ?_ ?_
      | refine LeO.bind ?_ (fun _ => ?_)
    · intro y0 y1 y2 y3 y4 y5 y6
      unfold w02_SegThere.l0
      repeat' first
      | (with_reducible exact ih0 _ _ _ _ _ _)
      | (with_reducible exact ih1 _ _ _ _ _ _)
      | (with_reducible exact ih2 _ _ _ _ _ _ _)
      | (with_reducible exact ih3 _ _ _ _ _ _ _)
      | (with_reducible exact r00_Sum.mono _ _)
      | (with_reducible exact w02_some.mono _ _)
      | (with_reducible exact LeO.refl _)
      | (with_reducible exact LeO.none _)
      | (with_reducible refine LeO.ite ?_ ?_)
      | (with_reducible refine LeO.bind ?_ (fun _ => ?_))
      | exact ih0 _ _ _ _ _ _
      | exact ih1 _ _ _ _ _ _
      | exact ih2 _ _ _ _ _ _ _
      | exact ih3 _ _ _ _ _ _ _
      | exact r00_Sum.mono _ _
      | exact w02_some.mono _ _
      | exact LeO.none _
      | refine LeO.ite ?_ ?_
      | refine LeO.bind ?_ (fun _ => ?_)
    · intro y0 y1 y2 y3 y4 y5 y6
      unfold w02_SegThere.l1
      repeat' first
      | (with_reducible exact ih0 _ _ _ _ _ _)
      | (with_reducible exact ih1 _ _ _ _ _ _)
      | (with_reducible exact ih2 _ _ _ _ _ _ _)
      | (with_reducible exact ih3 _ _ _ _ _ _ _)
      | (with_reducible exact r00_Sum.mono _ _)
      | (with_reducible exact w02_some.mono _ _)
      | (with_reducible exact LeO.refl _)
      | (with_reducible exact LeO.none _)
      | (with_reducible refine LeO.ite ?_ ?_)
      | (with_reducible refine LeO.bind ?_ (fun _ => ?_))
      | exact ih0 _ _ _ _ _ _
      | exact ih1 _ _ _ _ _ _
      | exact ih2 _ _ _ _ _ _ _
      | exact ih3 _ _ _ _ _ _ _
      | exact r00_Sum.mono _ _
      | exact w02_some.mono _ _
      | exact LeO.none _
      | refine LeO.ite ?_ ?_
      | refine LeO.bind ?_ (fun _ => ?_)
theorem w02_SegThere.mono : ∀ a0 k, LeO (w02_SegThere.f k a0) (w02_SegThere.f (k + 1) a0) := by
  intro a0 k
  obtain ⟨ih0, ih1, ih2, ih3⟩ := w02_SegThere.mono_l k
  unfold w02_SegThere.f
  repeat' first
      | (with_reducible exact ih0 _ _ _ _ _ _)
      | (with_reducible exact ih1 _ _ _ _ _ _)
      | (with_reducible exact ih2 _ _ _ _ _ _ _)
      | (with_reducible exact ih3 _ _ _ _ _ _ _)
      | (with_reducible exact r00_Sum.mono _ _)
      | (with_reducible exact w02_some.mono _ _)
      | (with_reducible exact LeO.refl _)
      | (with_reducible exact LeO.none _)
      | (with_reducible refine LeO.ite ?_ ?_)
      | (with_reducible refine LeO.bind ?_ (fun _ => ?_))
      | exact ih0 _ _ _ _ _ _
      | exact ih1 _ _ _ _ _ _
      | exact ih2 _ _ _ _ _ _ _
      | exact ih3 _ _ _ _ _ _ _
      | exact r00_Sum.mono _ _
      | exact w02_some.mono _ _
      | exact LeO.none _
      | refine LeO.ite ?_ ?_
      | refine LeO.bind ?_ (fun _ => ?_)
def w02_SegThere.T24 : Bool × List (List Nat × List Nat) := (true, [([], []), ([], []), ([1], [1]), ([2], [2]), ([0, 3], [0, 3]), ([4], [4]), ([5, 4], [5]), ([6], [6]), ([6], [6]), ([6], [6]), ([8, 9, 6], [6, 8, 9]), ([10, 6], [6, 10]), ([6], [6]), ([6], [6]), ([12, 13, 6], [6, 12, 13]), ([14, 6], [6, 14]), ([6], [6]), ([6], [6]), ([16, 17, 6], [6, 16, 17]), ([18, 6], [6, 18]), ([15, 19, 6], [6, 15, 19]), ([20, 6], [6, 20]), ([7, 11, 21, 6, 6], [6, 7, 11, 21]), ([22, 6], [6, 22]), ([6, 23], [6, 23])])
def w02_SegThere.B24 : List Nat := [0, 0, 2, 6, 15, 31, 63, 127, 127, 127, 895, 1919, 127, 127, 12415, 28799, 127, 127, 196735, 458879, 1044607, 2093183, 4194303, 8388607, 16777215]
theorem w02_SegThere.tab24 : rtab .any (opsOf Try.f7 24) = w02_SegThere.T24 := by kernel_rfl
theorem w02_SegThere.bits24 : waitsOk w02_SegThere.T24.2 w02_SegThere.B24 = true := by kernel_rfl
set_option maxHeartbeats 8000000 in
set_option maxRecDepth 100000 in
theorem w02_SegThere.calls (k : Nat) (A0 : Option Addr) (c0 : Nat) (l0 : List Int) (r : Bool) (w : World) (hr0 : Kd.C (Kd.int .i64) w A0 l0.length l0) (hc0 : l0.length ≤ c0) (h : w02_SegThere.f k l0 = some r) :
    Calls Try.prog 7 #[.slice A0 l0.length c0] w fun e w' => e = .returned (.bool r) ∧ Below w.heap.size w w' := by
  have HR0 := Aside0.mk hr0
  have HC0 := Aside0.mk hc0
  clear hr0 hc0
  have HB := Aside0.mk (Below.refl w.heap.size w)
  have H : ((w02_some.f k l0).bind fun t110 => ((Hand.rCheck.f t110).bind fun bt113 => ((Hand.rStarts.f t110).bind fun bt115 => ((Hand.rHeads.f t110).bind fun bt119 => ((Hand.rOwners.f t110).bind fun bt123 => (if bt113.2 = 0 then (if bt115.2 = 0 then (if bt119.2 = 0 then (if bt123.2 = 0 then ((r00_Sum.f k t110).bind fun t127 => (if bt113.1 = t127 then (if (bt115.1.length : Int) = (t110.length : Int) then (if (bt119.1.length : Int) = (wrap64 (bt113.1 + 1)) then (w02_SegThere.j0 k t110 bt113.1 bt115.1 bt119.1 bt123.1 ((bt123.1.length : Int) != bt113.1)) else (w02_SegThere.j0 k t110 bt113.1 bt115.1 bt119.1 bt123.1 true)) else (w02_SegThere.j0 k t110 bt113.1 bt115.1 bt119.1 bt123.1 true)) else (w02_SegThere.j0 k t110 bt113.1 bt115.1 bt119.1 bt123.1 true))) else (w02_SegThere.j0 k t110 bt113.1 bt115.1 bt119.1 bt123.1 true)) else (w02_SegThere.j0 k t110 bt113.1 bt115.1 bt119.1 bt123.1 true)) else (w02_SegThere.j0 k t110 bt113.1 bt115.1 bt119.1 bt123.1 true)) else (w02_SegThere.j0 k t110 bt113.1 bt115.1 bt119.1 bt123.1 true))))))) = some r := h
  clear h
  replace H := Option.bind_eq_some_iff.mp H
  obtain ⟨t110, A20, H⟩ := H
  replace H : ((Hand.rCheck.f t110).bind fun bt113 => ((Hand.rStarts.f t110).bind fun bt115 => ((Hand.rHeads.f t110).bind fun bt119 => ((Hand.rOwners.f t110).bind fun bt123 => (if bt113.2 = 0 then (if bt115.2 = 0 then (if bt119.2 = 0 then (if bt123.2 = 0 then ((r00_Sum.f k t110).bind fun t127 => (if bt113.1 = t127 then (if (bt115.1.length : Int) = (t110.length : Int) then (if (bt119.1.length : Int) = (wrap64 (bt113.1 + 1)) then (w02_SegThere.j0 k t110 bt113.1 bt115.1 bt119.1 bt123.1 ((bt123.1.length : Int) != bt113.1)) else (w02_SegThere.j0 k t110 bt113.1 bt115.1 bt119.1 bt123.1 true)) else (w02_SegThere.j0 k t110 bt113.1 bt115.1 bt119.1 bt123.1 true)) else (w02_SegThere.j0 k t110 bt113.1 bt115.1 bt119.1 bt123.1 true))) else (w02_SegThere.j0 k t110 bt113.1 bt115.1 bt119.1 bt123.1 true)) else (w02_SegThere.j0 k t110 bt113.1 bt115.1 bt119.1 bt123.1 true)) else (w02_SegThere.j0 k t110 bt113.1 bt115.1 bt119.1 bt123.1 true)) else (w02_SegThere.j0 k t110 bt113.1 bt115.1 bt119.1 bt123.1 true)))))) = some r := H
  have A2 := Aside0.mk A20
  clear A20
  replace H := Option.bind_eq_some_iff.mp H
  obtain ⟨⟨t113, t114⟩, A30, H⟩ := H
  replace H : ((Hand.rStarts.f t110).bind fun bt115 => ((Hand.rHeads.f t110).bind fun bt119 => ((Hand.rOwners.f t110).bind fun bt123 => (if t114 = 0 then (if bt115.2 = 0 then (if bt119.2 = 0 then (if bt123.2 = 0 then ((r00_Sum.f k t110).bind fun t127 => (if t113 = t127 then (if (bt115.1.length : Int) = (t110.length : Int) then (if (bt119.1.length : Int) = (wrap64 (t113 + 1)) then (w02_SegThere.j0 k t110 t113 bt115.1 bt119.1 bt123.1 ((bt123.1.length : Int) != t113)) else (w02_SegThere.j0 k t110 t113 bt115.1 bt119.1 bt123.1 true)) else (w02_SegThere.j0 k t110 t113 bt115.1 bt119.1 bt123.1 true)) else (w02_SegThere.j0 k t110 t113 bt115.1 bt119.1 bt123.1 true))) else (w02_SegThere.j0 k t110 t113 bt115.1 bt119.1 bt123.1 true)) else (w02_SegThere.j0 k t110 t113 bt115.1 bt119.1 bt123.1 true)) else (w02_SegThere.j0 k t110 t113 bt115.1 bt119.1 bt123.1 true)) else (w02_SegThere.j0 k t110 t113 bt115.1 bt119.1 bt123.1 true))))) = some r := H
  have A3 := Aside0.mk A30
  clear A30
  replace H := Option.bind_eq_some_iff.mp H
  obtain ⟨⟨t115, t118⟩, A40, H⟩ := H
  replace H : ((Hand.rHeads.f t110).bind fun bt119 => ((Hand.rOwners.f t110).bind fun bt123 => (if t114 = 0 then (if t118 = 0 then (if bt119.2 = 0 then (if bt123.2 = 0 then ((r00_Sum.f k t110).bind fun t127 => (if t113 = t127 then (if (t115.length : Int) = (t110.length : Int) then (if (bt119.1.length : Int) = (wrap64 (t113 + 1)) then (w02_SegThere.j0 k t110 t113 t115 bt119.1 bt123.1 ((bt123.1.length : Int) != t113)) else (w02_SegThere.j0 k t110 t113 t115 bt119.1 bt123.1 true)) else (w02_SegThere.j0 k t110 t113 t115 bt119.1 bt123.1 true)) else (w02_SegThere.j0 k t110 t113 t115 bt119.1 bt123.1 true))) else (w02_SegThere.j0 k t110 t113 t115 bt119.1 bt123.1 true)) else (w02_SegThere.j0 k t110 t113 t115 bt119.1 bt123.1 true)) else (w02_SegThere.j0 k t110 t113 t115 bt119.1 bt123.1 true)) else (w02_SegThere.j0 k t110 t113 t115 bt119.1 bt123.1 true)))) = some r := H
  have A4 := Aside0.mk A40
  clear A40
  replace H := Option.bind_eq_some_iff.mp H
  obtain ⟨⟨t119, t122⟩, A50, H⟩ := H
  replace H : ((Hand.rOwners.f t110).bind fun bt123 => (if t114 = 0 then (if t118 = 0 then (if t122 = 0 then (if bt123.2 = 0 then ((r00_Sum.f k t110).bind fun t127 => (if t113 = t127 then (if (t115.length : Int) = (t110.length : Int) then (if (t119.length : Int) = (wrap64 (t113 + 1)) then (w02_SegThere.j0 k t110 t113 t115 t119 bt123.1 ((bt123.1.length : Int) != t113)) else (w02_SegThere.j0 k t110 t113 t115 t119 bt123.1 true)) else (w02_SegThere.j0 k t110 t113 t115 t119 bt123.1 true)) else (w02_SegThere.j0 k t110 t113 t115 t119 bt123.1 true))) else (w02_SegThere.j0 k t110 t113 t115 t119 bt123.1 true)) else (w02_SegThere.j0 k t110 t113 t115 t119 bt123.1 true)) else (w02_SegThere.j0 k t110 t113 t115 t119 bt123.1 true)) else (w02_SegThere.j0 k t110 t113 t115 t119 bt123.1 true))) = some r := H
  have A5 := Aside0.mk A50
  clear A50
  replace H := Option.bind_eq_some_iff.mp H
  obtain ⟨⟨t123, t126⟩, A60, H⟩ := H
  replace H : (if t114 = 0 then (if t118 = 0 then (if t122 = 0 then (if t126 = 0 then ((r00_Sum.f k t110).bind fun t127 => (if t113 = t127 then (if (t115.length : Int) = (t110.length : Int) then (if (t119.length : Int) = (wrap64 (t113 + 1)) then (w02_SegThere.j0 k t110 t113 t115 t119 t123 ((t123.length : Int) != t113)) else (w02_SegThere.j0 k t110 t113 t115 t119 t123 true)) else (w02_SegThere.j0 k t110 t113 t115 t119 t123 true)) else (w02_SegThere.j0 k t110 t113 t115 t119 t123 true))) else (w02_SegThere.j0 k t110 t113 t115 t119 t123 true)) else (w02_SegThere.j0 k t110 t113 t115 t119 t123 true)) else (w02_SegThere.j0 k t110 t113 t115 t119 t123 true)) else (w02_SegThere.j0 k t110 t113 t115 t119 t123 true)) = some r := H
  have A6 := Aside0.mk A60
  clear A60
  have HC7 := Aside0.mk H
  clear H
  go_enter Try.func7, Try.ntmps7
  go_upto_region 6 with (first | ((with_reducible refine gate_callee (f := 47) rfl ?_); refine goesL_ (some 20) rfl rfl Try.func47 (by kernel_rfl) rfl #[.slice A0 l0.length c0] rfl (by (try simp only [List.map_toArray, List.map_cons, List.map_nil]); first | done | rfl | (simp only [List.length_drop, List.length_take]; rfl)) ?_; (with_reducible refine (w02_some.calls k _ _ l0 t110 _ ?side1 ?side2 A2.out).mono ?_); (case side1 => repeat (first | exact HR0.out | (with_reducible refine Kd.C_alloc ?_ _) | (with_reducible refine Kd.C_drewN ?_ _) | (with_reducible refine Kd.C_drew ?_))); (case side2 => exact HC0.out); rintro e w8 ⟨v111, rfl, ho0, hb⟩; refine ⟨_, rfl, ?_⟩; have n0_ := Aside0.mk (Kd.R_lower ho0 (below_size (by repeat (first | (with_reducible first | exact HB.out | apply below_alloc | apply pw_below_drewN | apply below_drew1) | exact HB.out)))); have n1_ := Aside0.mk (below_step (by repeat (first | (with_reducible first | exact HB.out | apply below_alloc | apply pw_below_drewN | apply below_drew1) | exact HB.out)) hb); clear HB; have HO112 := n0_; have HB := n1_; clear n0_ n1_; (try clear hb); (try clear hb2); (try clear hk); (try clear hi); (try clear ho0); obtain ⟨Ao9, co9, eo9⟩ := Kd.R_slice HO112.out; subst eo9) | ((with_reducible refine gate_callee (f := 14) rfl ?_); refine goesL_ (some 23) rfl rfl Try.func14 (by kernel_rfl) rfl #[.slice Ao9 t110.length co9] rfl (by (try simp only [List.map_toArray, List.map_cons, List.map_nil]); first | done | rfl | (simp only [List.length_drop, List.length_take]; rfl)) ?_; (with_reducible refine (Hand.rCheck.calls _ _ t110 t113 t114 _ ?side1 ?side2 A3.out).mono ?_); (case side1 => repeat (first | exact (Kd.R_reads' HO112.out).2.2 | (with_reducible refine Kd.C_alloc ?_ _) | (with_reducible refine Kd.C_drewN ?_ _) | (with_reducible refine Kd.C_drew ?_))); (case side2 => exact (Kd.R_reads' HO112.out).2.1); rintro e w10 ⟨rfl, hb⟩; refine ⟨_, rfl, ?_⟩; have n0_ := Aside0.mk (Kd.R_below (by (with_reducible repeat (first | apply Kd.R_alloc | apply Kd.R_drewN | apply Kd.R_drew)); exact HO112.out) hb); have n1_ := Aside0.mk (below_step (by repeat (first | (with_reducible first | exact HB.out | apply below_alloc | apply pw_below_drewN | apply below_drew1) | exact HB.out)) hb); clear HO112; clear HB; have HO112 := n0_; have HB := n1_; clear n0_ n1_; (try clear hb); (try clear hb2); (try clear hk); (try clear hi)) | ((with_reducible refine gate_callee (f := 16) rfl ?_); refine goesL_ (some 28) rfl rfl Try.func16 (by kernel_rfl) rfl #[.slice Ao9 t110.length co9] rfl (by (try simp only [List.map_toArray, List.map_cons, List.map_nil]); first | done | rfl | (simp only [List.length_drop, List.length_take]; rfl)) ?_; (with_reducible refine (Hand.rStarts.calls _ _ t110 t115 t118 _ ?side1 ?side2 A4.out).mono ?_); (case side1 => repeat (first | exact (Kd.R_reads' HO112.out).2.2 | (with_reducible refine Kd.C_alloc ?_ _) | (with_reducible refine Kd.C_drewN ?_ _) | (with_reducible refine Kd.C_drew ?_))); (case side2 => exact (Kd.R_reads' HO112.out).2.1); rintro e w11 ⟨v116, rfl, ho0, hb⟩; refine ⟨_, rfl, ?_⟩; have n0_ := Aside0.mk (Kd.R_below (by (with_reducible repeat (first | apply Kd.R_alloc | apply Kd.R_drewN | apply Kd.R_drew)); exact HO112.out) hb); have n1_ := Aside0.mk (Kd.V_lower (Kd.V_mono (ok' := fun k_ => some k_ ≠ (.slice Ao9 t110.length co9 : Value).ownBlock) ho0 (fun k_ hk_ => (Kd.fresh' (Kd.R_lt (by (with_reducible repeat (first | apply Kd.R_alloc | apply Kd.R_drewN | apply Kd.R_drew)); exact HO112.out)) k_ hk_))) (below_size (by repeat (first | (with_reducible first | exact HB.out | apply below_alloc | apply pw_below_drewN | apply below_drew1) | exact HB.out)))); have n2_ := Aside0.mk (below_step (by repeat (first | (with_reducible first | exact HB.out | apply below_alloc | apply pw_below_drewN | apply below_drew1) | exact HB.out)) hb); clear HO112; clear HB; have HO112 := n0_; have HO117 := n1_; have HB := n2_; clear n0_ n1_ n2_; (try clear hb); (try clear hb2); (try clear hk); (try clear hi); (try clear ho0)) | ((with_reducible refine gate_callee (f := 18) rfl ?_); refine goesL_ (some 33) rfl rfl Try.func18 (by kernel_rfl) rfl #[.slice Ao9 t110.length co9] rfl (by (try simp only [List.map_toArray, List.map_cons, List.map_nil]); first | done | rfl | (simp only [List.length_drop, List.length_take]; rfl)) ?_; (with_reducible refine (Hand.rHeads.calls _ _ t110 t119 t122 _ ?side1 ?side2 A5.out).mono ?_); (case side1 => repeat (first | exact (Kd.R_reads' HO112.out).2.2 | (with_reducible refine Kd.C_alloc ?_ _) | (with_reducible refine Kd.C_drewN ?_ _) | (with_reducible refine Kd.C_drew ?_))); (case side2 => exact (Kd.R_reads' HO112.out).2.1); rintro e w12 ⟨v120, rfl, ho0, hb⟩; refine ⟨_, rfl, ?_⟩; have n0_ := Aside0.mk (Kd.R_below (by (with_reducible repeat (first | apply Kd.R_alloc | apply Kd.R_drewN | apply Kd.R_drew)); exact HO112.out) hb); have n1_ := Aside0.mk (Kd.V_below (by (with_reducible repeat (first | apply Kd.V_alloc | apply Kd.V_drewN | apply Kd.V_drew)); exact HO117.out) hb); have n2_ := Aside0.mk (Kd.V_lower (Kd.V_mono (ok' := fun k_ => some k_ ≠ (.slice Ao9 t110.length co9 : Value).ownBlock) ho0 (fun k_ hk_ => (Kd.fresh' (Kd.R_lt (by (with_reducible repeat (first | apply Kd.R_alloc | apply Kd.R_drewN | apply Kd.R_drew)); exact HO112.out)) k_ hk_))) (below_size (by repeat (first | (with_reducible first | exact HB.out | apply below_alloc | apply pw_below_drewN | apply below_drew1) | exact HB.out)))); have n3_ := Aside0.mk (below_step (by repeat (first | (with_reducible first | exact HB.out | apply below_alloc | apply pw_below_drewN | apply below_drew1) | exact HB.out)) hb); clear HO112; clear HO117; clear HB; have HO112 := n0_; have HO117 := n1_; have HO121 := n2_; have HB := n3_; clear n0_ n1_ n2_ n3_; (try clear hb); (try clear hb2); (try clear hk); (try clear hi); (try clear ho0)) | ((with_reducible refine gate_callee (f := 20) rfl ?_); refine goesL_ (some 38) rfl rfl Try.func20 (by kernel_rfl) rfl #[.slice Ao9 t110.length co9] rfl (by (try simp only [List.map_toArray, List.map_cons, List.map_nil]); first | done | rfl | (simp only [List.length_drop, List.length_take]; rfl)) ?_; (with_reducible refine (Hand.rOwners.calls _ _ t110 t123 t126 _ ?side1 ?side2 A6.out).mono ?_); (case side1 => repeat (first | exact (Kd.R_reads' HO112.out).2.2 | (with_reducible refine Kd.C_alloc ?_ _) | (with_reducible refine Kd.C_drewN ?_ _) | (with_reducible refine Kd.C_drew ?_))); (case side2 => exact (Kd.R_reads' HO112.out).2.1); rintro e w13 ⟨v124, rfl, ho0, hb⟩; refine ⟨_, rfl, ?_⟩; have n0_ := Aside0.mk (Kd.R_below (by (with_reducible repeat (first | apply Kd.R_alloc | apply Kd.R_drewN | apply Kd.R_drew)); exact HO112.out) hb); have n1_ := Aside0.mk (Kd.V_below (by (with_reducible repeat (first | apply Kd.V_alloc | apply Kd.V_drewN | apply Kd.V_drew)); exact HO117.out) hb); have n2_ := Aside0.mk (Kd.V_below (by (with_reducible repeat (first | apply Kd.V_alloc | apply Kd.V_drewN | apply Kd.V_drew)); exact HO121.out) hb); have n3_ := Aside0.mk (Kd.V_lower (Kd.V_mono (ok' := fun k_ => some k_ ≠ (.slice Ao9 t110.length co9 : Value).ownBlock) ho0 (fun k_ hk_ => (Kd.fresh' (Kd.R_lt (by (with_reducible repeat (first | apply Kd.R_alloc | apply Kd.R_drewN | apply Kd.R_drew)); exact HO112.out)) k_ hk_))) (below_size (by repeat (first | (with_reducible first | exact HB.out | apply below_alloc | apply pw_below_drewN | apply below_drew1) | exact HB.out)))); have n4_ := Aside0.mk (below_step (by repeat (first | (with_reducible first | exact HB.out | apply below_alloc | apply pw_below_drewN | apply below_drew1) | exact HB.out)) hb); clear HO112; clear HO117; clear HO121; clear HB; have HO112 := n0_; have HO117 := n1_; have HO121 := n2_; have HO125 := n3_; have HB := n4_; clear n0_ n1_ n2_ n3_ n4_; (try clear hb); (try clear hb2); (try clear hk); (try clear hi); (try clear ho0)))
  (try simp only [Act.put, List.setIfInBounds_toArray, List.set_cons_zero, List.set_cons_succ])
  go_cut [80] (fun zv80 wc => ∃ (kq : Nat) (x80_6 : Bool), zv80 = .bool x80_6 ∧ Aside0 (w02_SegThere.j0 kq t110 t113 t115 t119 t123 x80_6 = some r) ∧ Aside0 (kq ≤ k) ∧ Aside0 (Kd.R (Kd.int .i64) 3 wc w.heap.size (fun _ => True) (.slice Ao9 t110.length co9) t110) ∧ Aside0 (Kd.V (Kd.int .i64) 3 wc w.heap.size (fun k_ => some k_ ≠ ((.slice Ao9 t110.length co9) : Value).ownBlock) v116 t115) ∧ Aside0 (Kd.V (Kd.int .i64) 3 wc w.heap.size (fun k_ => some k_ ≠ ((.slice Ao9 t110.length co9) : Value).ownBlock) v120 t119) ∧ Aside0 (Kd.V (Kd.int .i64) 3 wc w.heap.size (fun k_ => some k_ ≠ ((.slice Ao9 t110.length co9) : Value).ownBlock) v124 t123) ∧ Aside0 (Below w.heap.size w wc))
  case first =>
    have H := HC7.out
    clear HC7
    by_cases c14 : t114 = 0
    · rw [if_pos c14] at H
      have c14b0 : (t114 == 0) = true := beq_iff_eq.mpr c14
      have c14b1 : (t114 != 0) = false := bne_eq_false_iff_eq.mpr c14
      clear c14
      (first | rw [c14b0] | (simp only [i64_w, i32_w]; rw [c14b0]) | skip)
      by_cases c15 : t118 = 0
      · rw [if_pos c15] at H
        have c15b0 : (t118 == 0) = true := beq_iff_eq.mpr c15
        have c15b1 : (t118 != 0) = false := bne_eq_false_iff_eq.mpr c15
        clear c15
        by_cases c16 : t122 = 0
        · rw [if_pos c16] at H
          have c16b0 : (t122 == 0) = true := beq_iff_eq.mpr c16
          have c16b1 : (t122 != 0) = false := bne_eq_false_iff_eq.mpr c16
          clear c16
          by_cases c17 : t126 = 0
          · rw [if_pos c17] at H
            have c17b0 : (t126 == 0) = true := beq_iff_eq.mpr c17
            have c17b1 : (t126 != 0) = false := bne_eq_false_iff_eq.mpr c17
            clear c17
            replace H := Option.bind_eq_some_iff.mp H
            obtain ⟨t127, A180, H⟩ := H
            replace H : (if t113 = t127 then (if (t115.length : Int) = (t110.length : Int) then (if (t119.length : Int) = (wrap64 (t113 + 1)) then (w02_SegThere.j0 k t110 t113 t115 t119 t123 ((t123.length : Int) != t113)) else (w02_SegThere.j0 k t110 t113 t115 t119 t123 true)) else (w02_SegThere.j0 k t110 t113 t115 t119 t123 true)) else (w02_SegThere.j0 k t110 t113 t115 t119 t123 true)) = some r := H
            have A18 := Aside0.mk A180
            clear A180
            by_cases c19 : t113 = t127
            · rw [if_pos c19] at H
              have c19b0 : (t113 == t127) = true := beq_iff_eq.mpr c19
              have c19b1 : (t113 != t127) = false := bne_eq_false_iff_eq.mpr c19
              clear c19
              by_cases c20 : (t115.length : Int) = (t110.length : Int)
              · rw [if_pos c20] at H
                have c20b0 : ((t115.length : Int) == (t110.length : Int)) = true := beq_iff_eq.mpr c20
                have c20b1 : ((t115.length : Int) != (t110.length : Int)) = false := bne_eq_false_iff_eq.mpr c20
                have c20b2 : (t115.length == t110.length) = true := by first | simpa using c20 | (simp at c20 ⊢; omega)
                clear c20
                by_cases c21 : (t119.length : Int) = (wrap64 (t113 + 1))
                · rw [if_pos c21] at H
                  have c21b0 : ((t119.length : Int) == (wrap64 (t113 + 1))) = true := beq_iff_eq.mpr c21
                  have c21b1 : ((t119.length : Int) != (wrap64 (t113 + 1))) = false := bne_eq_false_iff_eq.mpr c21
                  clear c21
                  have H' := Aside0.mk H
                  clear H
                  go_wp2_with (first | (go_at_call 25; (with_reducible refine (r00_Sum.calls k _ _ t110 t127 _ ?side1 ?side2 A18.out).mono ?_); (case side1 => repeat (first | exact (Kd.R_reads' HO112.out).2.2 | (with_reducible refine Kd.C_alloc ?_ _) | (with_reducible refine Kd.C_drewN ?_ _) | (with_reducible refine Kd.C_drew ?_))); (case side2 => exact (Kd.R_reads' HO112.out).2.1); rintro e w' ⟨rfl, ⟨nd, rfl⟩⟩; obtain ⟨Ao22, co22, eo22⟩ := Kd.V_slice HO117.out; subst eo22; obtain ⟨Ao23, co23, eo23⟩ := Kd.V_slice HO121.out; subst eo23; obtain ⟨Ao24, co24, eo24⟩ := Kd.V_slice HO125.out; subst eo24))
                  go_meet
                  case rel => exact ⟨_, (((t123.length : Int) != t113)), (by first | rfl | (simp; done) | (simp [*]; done)), H', ⟨by first | omega | exact Nat.le_refl _⟩, ⟨by (with_reducible repeat (first | apply Kd.R_alloc | apply Kd.R_drewN | apply Kd.R_drew)); exact HO112.out⟩, ⟨by (with_reducible repeat (first | apply Kd.V_alloc | apply Kd.V_drewN | apply Kd.V_drew)); exact HO117.out⟩, ⟨by (with_reducible repeat (first | apply Kd.V_alloc | apply Kd.V_drewN | apply Kd.V_drew)); exact HO121.out⟩, ⟨by (with_reducible repeat (first | apply Kd.V_alloc | apply Kd.V_drewN | apply Kd.V_drew)); exact HO125.out⟩, ⟨by repeat (first | (with_reducible first | exact HB.out | apply below_alloc | apply pw_below_drewN | apply below_drew1) | exact HB.out)⟩⟩
                · rw [if_neg c21] at H
                  exact absurd H (by first | (rw [w02_SegThere.j0_true]; simp) | (rw [w02_SegThere.j1_true]; simp))
              · rw [if_neg c20] at H
                exact absurd H (by first | (rw [w02_SegThere.j0_true]; simp) | (rw [w02_SegThere.j1_true]; simp))
            · rw [if_neg c19] at H
              exact absurd H (by first | (rw [w02_SegThere.j0_true]; simp) | (rw [w02_SegThere.j1_true]; simp))
          · rw [if_neg c17] at H
            exact absurd H (by first | (rw [w02_SegThere.j0_true]; simp) | (rw [w02_SegThere.j1_true]; simp))
        · rw [if_neg c16] at H
          exact absurd H (by first | (rw [w02_SegThere.j0_true]; simp) | (rw [w02_SegThere.j1_true]; simp))
      · rw [if_neg c15] at H
        exact absurd H (by first | (rw [w02_SegThere.j0_true]; simp) | (rw [w02_SegThere.j1_true]; simp))
    · rw [if_neg c14] at H
      exact absurd H (by first | (rw [w02_SegThere.j0_true]; simp) | (rw [w02_SegThere.j1_true]; simp))
  case rest =>
    clear HC7
    try clear c1
    try clear c2
    try clear p2
    try clear c4
    try clear p6
    try clear c7
    try clear c14
    try clear c14b0
    try clear c14b1
    try clear c15
    try clear c15b0
    try clear c15b1
    try clear c16
    try clear c16b0
    try clear c16b1
    try clear c17
    try clear c17b0
    try clear c17b1
    try clear c18
    try clear c19
    try clear c19b0
    try clear c19b1
    try clear c20
    try clear c20b0
    try clear c20b1
    try clear c20b2
    try clear c21
    try clear c21b0
    try clear c21b1
    obtain ⟨kq, x80_6, rfl, HA, HJ6, HO_3, HO_6, HO_8, HO_10, HB⟩ := hcut
    cases kq with
    | zero => exact absurd HA.out (by simp [w02_SegThere.j0])
    | succ kj6 =>
      have H := HA.out
      clear HA
      simp only [w02_SegThere.j0] at H
      by_cases c28 : x80_6 = true
      · subst c28
        have H1 : (none) = some r := by rw [if_pos rfl] at H; exact H
        clear H
        have H := H1
        clear H1
        exact absurd H (by simp)
      · replace c28 := Bool.eq_false_iff.mpr c28
        subst c28
        have H1 : ((Hand.rLengths.f t115 t113).bind fun bt128 => ((Hand.rOfHeads.f t119).bind fun bt132 => ((Hand.rOfOwners.f t123 (t110.length : Int)).bind fun bt136 => (if bt128.2 = 0 then (if bt132.2 = 0 then (if bt136.2 = 0 then ((Hand.Eq_.f bt128.1 t110).bind fun t140 => (if t140 = true then ((Hand.Eq_.f bt132.1 t110).bind fun t141 => (if t141 = true then ((Hand.Eq_.f bt136.1 t110).bind fun t142 => (w02_SegThere.j1 kj6 t110 t113 t115 t119 t123 (!t142))) else (w02_SegThere.j1 kj6 t110 t113 t115 t119 t123 true))) else (w02_SegThere.j1 kj6 t110 t113 t115 t119 t123 true))) else (w02_SegThere.j1 kj6 t110 t113 t115 t119 t123 true)) else (w02_SegThere.j1 kj6 t110 t113 t115 t119 t123 true)) else (w02_SegThere.j1 kj6 t110 t113 t115 t119 t123 true))))) = some r := by rw [if_neg (show ¬ (false = true) by decide)] at H; exact H
        clear H
        have H := H1
        clear H1
        replace H := Option.bind_eq_some_iff.mp H
        obtain ⟨⟨t128, t131⟩, A290, H⟩ := H
        replace H : ((Hand.rOfHeads.f t119).bind fun bt132 => ((Hand.rOfOwners.f t123 (t110.length : Int)).bind fun bt136 => (if t131 = 0 then (if bt132.2 = 0 then (if bt136.2 = 0 then ((Hand.Eq_.f t128 t110).bind fun t140 => (if t140 = true then ((Hand.Eq_.f bt132.1 t110).bind fun t141 => (if t141 = true then ((Hand.Eq_.f bt136.1 t110).bind fun t142 => (w02_SegThere.j1 kj6 t110 t113 t115 t119 t123 (!t142))) else (w02_SegThere.j1 kj6 t110 t113 t115 t119 t123 true))) else (w02_SegThere.j1 kj6 t110 t113 t115 t119 t123 true))) else (w02_SegThere.j1 kj6 t110 t113 t115 t119 t123 true)) else (w02_SegThere.j1 kj6 t110 t113 t115 t119 t123 true)) else (w02_SegThere.j1 kj6 t110 t113 t115 t119 t123 true)))) = some r := H
        have A29 := Aside0.mk A290
        clear A290
        replace H := Option.bind_eq_some_iff.mp H
        obtain ⟨⟨t132, t135⟩, A300, H⟩ := H
        replace H : ((Hand.rOfOwners.f t123 (t110.length : Int)).bind fun bt136 => (if t131 = 0 then (if t135 = 0 then (if bt136.2 = 0 then ((Hand.Eq_.f t128 t110).bind fun t140 => (if t140 = true then ((Hand.Eq_.f t132 t110).bind fun t141 => (if t141 = true then ((Hand.Eq_.f bt136.1 t110).bind fun t142 => (w02_SegThere.j1 kj6 t110 t113 t115 t119 t123 (!t142))) else (w02_SegThere.j1 kj6 t110 t113 t115 t119 t123 true))) else (w02_SegThere.j1 kj6 t110 t113 t115 t119 t123 true))) else (w02_SegThere.j1 kj6 t110 t113 t115 t119 t123 true)) else (w02_SegThere.j1 kj6 t110 t113 t115 t119 t123 true)) else (w02_SegThere.j1 kj6 t110 t113 t115 t119 t123 true))) = some r := H
        have A30 := Aside0.mk A300
        clear A300
        replace H := Option.bind_eq_some_iff.mp H
        obtain ⟨⟨t136, t139⟩, A310, H⟩ := H
        replace H : (if t131 = 0 then (if t135 = 0 then (if t139 = 0 then ((Hand.Eq_.f t128 t110).bind fun t140 => (if t140 = true then ((Hand.Eq_.f t132 t110).bind fun t141 => (if t141 = true then ((Hand.Eq_.f t136 t110).bind fun t142 => (w02_SegThere.j1 kj6 t110 t113 t115 t119 t123 (!t142))) else (w02_SegThere.j1 kj6 t110 t113 t115 t119 t123 true))) else (w02_SegThere.j1 kj6 t110 t113 t115 t119 t123 true))) else (w02_SegThere.j1 kj6 t110 t113 t115 t119 t123 true)) else (w02_SegThere.j1 kj6 t110 t113 t115 t119 t123 true)) else (w02_SegThere.j1 kj6 t110 t113 t115 t119 t123 true)) = some r := H
        have A31 := Aside0.mk A310
        clear A310
        have HC32 := Aside0.mk H
        clear H
        obtain ⟨Ao33, co33, eo33⟩ := Kd.V_slice HO_6.out
        subst eo33
        go_upto_region 11 with (first | ((with_reducible refine gate_callee (f := 26) rfl ?_); refine goesL_ (some 84) rfl rfl Try.func26 (by kernel_rfl) rfl #[.slice Ao33 t115.length co33, .int .i64 t113] rfl (by (try simp only [List.map_toArray, List.map_cons, List.map_nil]); first | done | rfl | (simp only [List.length_drop, List.length_take]; rfl)) ?_; (with_reducible refine (Hand.rLengths.calls _ _ t115 t113 t128 t131 _ ?side1 ?side2 A29.out).mono ?_); (case side1 => repeat (first | exact (Kd.V_reads' HO_6.out).2.2 | (with_reducible refine Kd.C_alloc ?_ _) | (with_reducible refine Kd.C_drewN ?_ _) | (with_reducible refine Kd.C_drew ?_))); (case side2 => exact (Kd.V_reads' HO_6.out).2.1); rintro e w34 ⟨v129, rfl, ho0, hb⟩; refine ⟨_, rfl, ?_⟩; have n0_ := Aside0.mk (Kd.R_below (by (with_reducible repeat (first | apply Kd.R_alloc | apply Kd.R_drewN | apply Kd.R_drew)); exact HO_3.out) hb); have n1_ := Aside0.mk (Kd.V_below (by (with_reducible repeat (first | apply Kd.V_alloc | apply Kd.V_drewN | apply Kd.V_drew)); exact HO_6.out) hb); have n2_ := Aside0.mk (Kd.V_below (by (with_reducible repeat (first | apply Kd.V_alloc | apply Kd.V_drewN | apply Kd.V_drew)); exact HO_8.out) hb); have n3_ := Aside0.mk (Kd.V_below (by (with_reducible repeat (first | apply Kd.V_alloc | apply Kd.V_drewN | apply Kd.V_drew)); exact HO_10.out) hb); have n4_ := Aside0.mk (Kd.V_lower (Kd.V_mono (ok' := fun k_ => some k_ ≠ (.slice Ao9 t110.length co9 : Value).ownBlock) ho0 (fun k_ hk_ => (Kd.fresh' (Kd.R_lt (by (with_reducible repeat (first | apply Kd.R_alloc | apply Kd.R_drewN | apply Kd.R_drew)); exact HO_3.out)) k_ hk_))) (below_size (by repeat (first | (with_reducible first | exact HB.out | apply below_alloc | apply pw_below_drewN | apply below_drew1) | exact HB.out)))); have n5_ := Aside0.mk (below_step (by repeat (first | (with_reducible first | exact HB.out | apply below_alloc | apply pw_below_drewN | apply below_drew1) | exact HB.out)) hb); clear HO_3; clear HO_6; clear HO_8; clear HO_10; clear HB; have HO_3 := n0_; have HO_6 := n1_; have HO_8 := n2_; have HO_10 := n3_; have HO130 := n4_; have HB := n5_; clear n0_ n1_ n2_ n3_ n4_ n5_; (try clear hb); (try clear hb2); (try clear hk); (try clear hi); (try clear ho0); obtain ⟨Ao35, co35, eo35⟩ := Kd.V_slice HO_8.out; subst eo35) | ((with_reducible refine gate_callee (f := 28) rfl ?_); refine goesL_ (some 89) rfl rfl Try.func28 (by kernel_rfl) rfl #[.slice Ao35 t119.length co35] rfl (by (try simp only [List.map_toArray, List.map_cons, List.map_nil]); first | done | rfl | (simp only [List.length_drop, List.length_take]; rfl)) ?_; (with_reducible refine (Hand.rOfHeads.calls _ _ t119 t132 t135 _ ?side1 ?side2 A30.out).mono ?_); (case side1 => repeat (first | exact (Kd.V_reads' HO_8.out).2.2 | (with_reducible refine Kd.C_alloc ?_ _) | (with_reducible refine Kd.C_drewN ?_ _) | (with_reducible refine Kd.C_drew ?_))); (case side2 => exact (Kd.V_reads' HO_8.out).2.1); rintro e w36 ⟨v133, rfl, ho0, hb⟩; refine ⟨_, rfl, ?_⟩; have n0_ := Aside0.mk (Kd.R_below (by (with_reducible repeat (first | apply Kd.R_alloc | apply Kd.R_drewN | apply Kd.R_drew)); exact HO_3.out) hb); have n1_ := Aside0.mk (Kd.V_below (by (with_reducible repeat (first | apply Kd.V_alloc | apply Kd.V_drewN | apply Kd.V_drew)); exact HO_6.out) hb); have n2_ := Aside0.mk (Kd.V_below (by (with_reducible repeat (first | apply Kd.V_alloc | apply Kd.V_drewN | apply Kd.V_drew)); exact HO_8.out) hb); have n3_ := Aside0.mk (Kd.V_below (by (with_reducible repeat (first | apply Kd.V_alloc | apply Kd.V_drewN | apply Kd.V_drew)); exact HO_10.out) hb); have n4_ := Aside0.mk (Kd.V_below (by (with_reducible repeat (first | apply Kd.V_alloc | apply Kd.V_drewN | apply Kd.V_drew)); exact HO130.out) hb); have n5_ := Aside0.mk (Kd.V_lower (Kd.V_mono (ok' := fun k_ => some k_ ≠ (.slice Ao9 t110.length co9 : Value).ownBlock) ho0 (fun k_ hk_ => (Kd.fresh' (Kd.R_lt (by (with_reducible repeat (first | apply Kd.R_alloc | apply Kd.R_drewN | apply Kd.R_drew)); exact HO_3.out)) k_ hk_))) (below_size (by repeat (first | (with_reducible first | exact HB.out | apply below_alloc | apply pw_below_drewN | apply below_drew1) | exact HB.out)))); have n6_ := Aside0.mk (below_step (by repeat (first | (with_reducible first | exact HB.out | apply below_alloc | apply pw_below_drewN | apply below_drew1) | exact HB.out)) hb); clear HO_3; clear HO_6; clear HO_8; clear HO_10; clear HO130; clear HB; have HO_3 := n0_; have HO_6 := n1_; have HO_8 := n2_; have HO_10 := n3_; have HO130 := n4_; have HO134 := n5_; have HB := n6_; clear n0_ n1_ n2_ n3_ n4_ n5_ n6_; (try clear hb); (try clear hb2); (try clear hk); (try clear hi); (try clear ho0); obtain ⟨Ao37, co37, eo37⟩ := Kd.V_slice HO_10.out; subst eo37) | ((with_reducible refine gate_callee (f := 30) rfl ?_); refine goesL_ (some 96) rfl rfl Try.func30 (by kernel_rfl) rfl #[.slice Ao37 t123.length co37, .int .i64 (t110.length : Int)] rfl (by (try simp only [List.map_toArray, List.map_cons, List.map_nil]); first | done | rfl | (simp only [List.length_drop, List.length_take]; rfl)) ?_; (with_reducible refine (Hand.rOfOwners.calls _ _ t123 (t110.length : Int) t136 t139 _ ?side1 ?side2 A31.out).mono ?_); (case side1 => repeat (first | exact (Kd.V_reads' HO_10.out).2.2 | (with_reducible refine Kd.C_alloc ?_ _) | (with_reducible refine Kd.C_drewN ?_ _) | (with_reducible refine Kd.C_drew ?_))); (case side2 => exact (Kd.V_reads' HO_10.out).2.1); rintro e w38 ⟨v137, rfl, ho0, hb⟩; refine ⟨_, rfl, ?_⟩; have n0_ := Aside0.mk (Kd.R_below (by (with_reducible repeat (first | apply Kd.R_alloc | apply Kd.R_drewN | apply Kd.R_drew)); exact HO_3.out) hb); have n1_ := Aside0.mk (Kd.V_below (by (with_reducible repeat (first | apply Kd.V_alloc | apply Kd.V_drewN | apply Kd.V_drew)); exact HO_6.out) hb); have n2_ := Aside0.mk (Kd.V_below (by (with_reducible repeat (first | apply Kd.V_alloc | apply Kd.V_drewN | apply Kd.V_drew)); exact HO_8.out) hb); have n3_ := Aside0.mk (Kd.V_below (by (with_reducible repeat (first | apply Kd.V_alloc | apply Kd.V_drewN | apply Kd.V_drew)); exact HO_10.out) hb); have n4_ := Aside0.mk (Kd.V_below (by (with_reducible repeat (first | apply Kd.V_alloc | apply Kd.V_drewN | apply Kd.V_drew)); exact HO130.out) hb); have n5_ := Aside0.mk (Kd.V_below (by (with_reducible repeat (first | apply Kd.V_alloc | apply Kd.V_drewN | apply Kd.V_drew)); exact HO134.out) hb); have n6_ := Aside0.mk (Kd.V_lower (Kd.V_mono (ok' := fun k_ => some k_ ≠ (.slice Ao9 t110.length co9 : Value).ownBlock) ho0 (fun k_ hk_ => (Kd.fresh' (Kd.R_lt (by (with_reducible repeat (first | apply Kd.R_alloc | apply Kd.R_drewN | apply Kd.R_drew)); exact HO_3.out)) k_ hk_))) (below_size (by repeat (first | (with_reducible first | exact HB.out | apply below_alloc | apply pw_below_drewN | apply below_drew1) | exact HB.out)))); have n7_ := Aside0.mk (below_step (by repeat (first | (with_reducible first | exact HB.out | apply below_alloc | apply pw_below_drewN | apply below_drew1) | exact HB.out)) hb); clear HO_3; clear HO_6; clear HO_8; clear HO_10; clear HO130; clear HO134; clear HB; have HO_3 := n0_; have HO_6 := n1_; have HO_8 := n2_; have HO_10 := n3_; have HO130 := n4_; have HO134 := n5_; have HO138 := n6_; have HB := n7_; clear n0_ n1_ n2_ n3_ n4_ n5_ n6_ n7_; (try clear hb); (try clear hb2); (try clear hk); (try clear hi); (try clear ho0)))
        (try simp only [Act.put, List.setIfInBounds_toArray, List.set_cons_zero, List.set_cons_succ])
        go_cut [126] (fun zv126 wc => ∃ (kq : Nat) (x126_31 : Bool), zv126 = .bool x126_31 ∧ Aside0 (w02_SegThere.j1 kq t110 t113 t115 t119 t123 x126_31 = some r) ∧ Aside0 (kq ≤ kj6) ∧ Aside0 (Kd.R (Kd.int .i64) 3 wc w.heap.size (fun _ => True) (.slice Ao9 t110.length co9) t110) ∧ Aside0 (Kd.V (Kd.int .i64) 3 wc w.heap.size (fun k_ => some k_ ≠ ((.slice Ao9 t110.length co9) : Value).ownBlock) (.slice Ao33 t115.length co33) t115) ∧ Aside0 (Kd.V (Kd.int .i64) 3 wc w.heap.size (fun k_ => some k_ ≠ ((.slice Ao9 t110.length co9) : Value).ownBlock) (.slice Ao35 t119.length co35) t119) ∧ Aside0 (Kd.V (Kd.int .i64) 3 wc w.heap.size (fun k_ => some k_ ≠ ((.slice Ao9 t110.length co9) : Value).ownBlock) (.slice Ao37 t123.length co37) t123) ∧ Aside0 (Below w.heap.size w wc))
        case first =>
          have H := HC32.out
          clear HC32
          by_cases c39 : t131 = 0
          · rw [if_pos c39] at H
            have c39b0 : (t131 == 0) = true := beq_iff_eq.mpr c39
            have c39b1 : (t131 != 0) = false := bne_eq_false_iff_eq.mpr c39
            clear c39
            (first | rw [c39b0] | (simp only [i64_w, i32_w]; rw [c39b0]) | skip)
            by_cases c40 : t135 = 0
            · rw [if_pos c40] at H
              have c40b0 : (t135 == 0) = true := beq_iff_eq.mpr c40
              have c40b1 : (t135 != 0) = false := bne_eq_false_iff_eq.mpr c40
              clear c40
              by_cases c41 : t139 = 0
              · rw [if_pos c41] at H
                have c41b0 : (t139 == 0) = true := beq_iff_eq.mpr c41
                have c41b1 : (t139 != 0) = false := bne_eq_false_iff_eq.mpr c41
                clear c41
                replace H := Option.bind_eq_some_iff.mp H
                obtain ⟨t140, A420, H⟩ := H
                replace H : (if t140 = true then ((Hand.Eq_.f t132 t110).bind fun t141 => (if t141 = true then ((Hand.Eq_.f t136 t110).bind fun t142 => (w02_SegThere.j1 kj6 t110 t113 t115 t119 t123 (!t142))) else (w02_SegThere.j1 kj6 t110 t113 t115 t119 t123 true))) else (w02_SegThere.j1 kj6 t110 t113 t115 t119 t123 true)) = some r := H
                have A42 := Aside0.mk A420
                clear A420
                by_cases c43 : t140 = true
                · subst c43
                  have H1 : ((Hand.Eq_.f t132 t110).bind fun t141 => (if t141 = true then ((Hand.Eq_.f t136 t110).bind fun t142 => (w02_SegThere.j1 kj6 t110 t113 t115 t119 t123 (!t142))) else (w02_SegThere.j1 kj6 t110 t113 t115 t119 t123 true))) = some r := by rw [if_pos rfl] at H; exact H
                  clear H
                  have H := H1
                  clear H1
                  replace H := Option.bind_eq_some_iff.mp H
                  obtain ⟨t141, A440, H⟩ := H
                  replace H : (if t141 = true then ((Hand.Eq_.f t136 t110).bind fun t142 => (w02_SegThere.j1 kj6 t110 t113 t115 t119 t123 (!t142))) else (w02_SegThere.j1 kj6 t110 t113 t115 t119 t123 true)) = some r := H
                  have A44 := Aside0.mk A440
                  clear A440
                  by_cases c45 : t141 = true
                  · subst c45
                    have H1 : ((Hand.Eq_.f t136 t110).bind fun t142 => (w02_SegThere.j1 kj6 t110 t113 t115 t119 t123 (!t142))) = some r := by rw [if_pos rfl] at H; exact H
                    clear H
                    have H := H1
                    clear H1
                    replace H := Option.bind_eq_some_iff.mp H
                    obtain ⟨t142, A460, H⟩ := H
                    replace H : (w02_SegThere.j1 kj6 t110 t113 t115 t119 t123 (!t142)) = some r := H
                    have A46 := Aside0.mk A460
                    clear A460
                    have H' := Aside0.mk H
                    clear H
                    obtain ⟨Ao47, co47, eo47⟩ := Kd.V_slice HO130.out
                    subst eo47
                    go_wp2_with (first | (go_at_call 22; (with_reducible refine (Hand.Eq_.calls _ _ t128 _ _ t110 true _ ?side1 ?side2 ?side3 ?side4 A42.out).mono ?_); (case side1 => repeat (first | exact (Kd.V_reads' HO130.out).2.2 | (with_reducible refine Kd.C_alloc ?_ _) | (with_reducible refine Kd.C_drewN ?_ _) | (with_reducible refine Kd.C_drew ?_))); (case side2 => exact (Kd.V_reads' HO130.out).2.1); (case side3 => repeat (first | exact (Kd.R_reads' HO_3.out).2.2 | (with_reducible refine Kd.C_alloc ?_ _) | (with_reducible refine Kd.C_drewN ?_ _) | (with_reducible refine Kd.C_drew ?_))); (case side4 => exact (Kd.R_reads' HO_3.out).2.1); rintro e w' ⟨rfl, ⟨nd, rfl⟩⟩; obtain ⟨Ao48, co48, eo48⟩ := Kd.V_slice HO134.out; subst eo48) | (go_at_call 22; (with_reducible refine (Hand.Eq_.calls _ _ t132 _ _ t110 true _ ?side1 ?side2 ?side3 ?side4 A44.out).mono ?_); (case side1 => repeat (first | exact (Kd.V_reads' HO134.out).2.2 | (with_reducible refine Kd.C_alloc ?_ _) | (with_reducible refine Kd.C_drewN ?_ _) | (with_reducible refine Kd.C_drew ?_))); (case side2 => exact (Kd.V_reads' HO134.out).2.1); (case side3 => repeat (first | exact (Kd.R_reads' HO_3.out).2.2 | (with_reducible refine Kd.C_alloc ?_ _) | (with_reducible refine Kd.C_drewN ?_ _) | (with_reducible refine Kd.C_drew ?_))); (case side4 => exact (Kd.R_reads' HO_3.out).2.1); rintro e w' ⟨rfl, ⟨nd, rfl⟩⟩; obtain ⟨Ao49, co49, eo49⟩ := Kd.V_slice HO138.out; subst eo49) | (go_at_call 22; (with_reducible refine (Hand.Eq_.calls _ _ t136 _ _ t110 t142 _ ?side1 ?side2 ?side3 ?side4 A46.out).mono ?_); (case side1 => repeat (first | exact (Kd.V_reads' HO138.out).2.2 | (with_reducible refine Kd.C_alloc ?_ _) | (with_reducible refine Kd.C_drewN ?_ _) | (with_reducible refine Kd.C_drew ?_))); (case side2 => exact (Kd.V_reads' HO138.out).2.1); (case side3 => repeat (first | exact (Kd.R_reads' HO_3.out).2.2 | (with_reducible refine Kd.C_alloc ?_ _) | (with_reducible refine Kd.C_drewN ?_ _) | (with_reducible refine Kd.C_drew ?_))); (case side4 => exact (Kd.R_reads' HO_3.out).2.1); rintro e w' ⟨rfl, ⟨nd, rfl⟩⟩))
                    go_meet
                    case rel => exact ⟨_, (!t142), (by first | rfl | (simp; done) | (simp [*]; done)), H', ⟨by have := HJ6.out; first | omega | exact Nat.le_refl _⟩, ⟨by (with_reducible repeat (first | apply Kd.R_alloc | apply Kd.R_drewN | apply Kd.R_drew)); exact HO_3.out⟩, ⟨by (with_reducible repeat (first | apply Kd.V_alloc | apply Kd.V_drewN | apply Kd.V_drew)); exact HO_6.out⟩, ⟨by (with_reducible repeat (first | apply Kd.V_alloc | apply Kd.V_drewN | apply Kd.V_drew)); exact HO_8.out⟩, ⟨by (with_reducible repeat (first | apply Kd.V_alloc | apply Kd.V_drewN | apply Kd.V_drew)); exact HO_10.out⟩, ⟨by repeat (first | (with_reducible first | exact HB.out | apply below_alloc | apply pw_below_drewN | apply below_drew1) | exact HB.out)⟩⟩
                  · replace c45 := Bool.eq_false_iff.mpr c45
                    subst c45
                    have H1 : (w02_SegThere.j1 kj6 t110 t113 t115 t119 t123 true) = some r := by rw [if_neg (show ¬ (false = true) by decide)] at H; exact H
                    exact absurd H1 (by first | (rw [w02_SegThere.j1_true]; simp))
                · replace c43 := Bool.eq_false_iff.mpr c43
                  subst c43
                  have H1 : (w02_SegThere.j1 kj6 t110 t113 t115 t119 t123 true) = some r := by rw [if_neg (show ¬ (false = true) by decide)] at H; exact H
                  exact absurd H1 (by first | (rw [w02_SegThere.j1_true]; simp))
              · rw [if_neg c41] at H
                exact absurd H (by first | (rw [w02_SegThere.j0_true]; simp) | (rw [w02_SegThere.j1_true]; simp))
            · rw [if_neg c40] at H
              exact absurd H (by first | (rw [w02_SegThere.j0_true]; simp) | (rw [w02_SegThere.j1_true]; simp))
          · rw [if_neg c39] at H
            exact absurd H (by first | (rw [w02_SegThere.j0_true]; simp) | (rw [w02_SegThere.j1_true]; simp))
        case rest =>
          clear HC32
          try clear c1
          try clear c2
          try clear p2
          try clear c3
          try clear c4
          try clear p6
          try clear c7
          try clear c14
          try clear c14b0
          try clear c14b1
          try clear c15
          try clear c15b0
          try clear c15b1
          try clear c16
          try clear c16b0
          try clear c16b1
          try clear c17
          try clear c17b0
          try clear c17b1
          try clear c18
          try clear c19
          try clear c19b0
          try clear c19b1
          try clear c20
          try clear c20b0
          try clear c20b1
          try clear c20b2
          try clear c21
          try clear c21b0
          try clear c21b1
          try clear c26
          try clear c28
          try clear c30
          try clear c39
          try clear c39b0
          try clear c39b1
          try clear c40
          try clear c40b0
          try clear c40b1
          try clear c41
          try clear c41b0
          try clear c41b1
          try clear c43
          try clear c45
          try clear c47
          try clear p2
          try clear p6
          obtain ⟨kq, x126_31, rfl, HA, HJ31, HO_3, HO_6, HO_8, HO_10, HB⟩ := hcut
          cases kq with
          | zero => exact absurd HA.out (by simp [w02_SegThere.j1])
          | succ kj31 =>
            have H := HA.out
            clear HA
            simp only [w02_SegThere.j1] at H
            by_cases c53 : x126_31 = true
            · subst c53
              have H1 : (none) = some r := by rw [if_pos rfl] at H; exact H
              clear H
              have H := H1
              clear H1
              exact absurd H (by simp)
            · replace c53 := Bool.eq_false_iff.mpr c53
              subst c53
              have H1 : (if 0 ≤ (wrap64 (t113 + 1)) then (if (wrap64 (t113 + 1) : Int).toNat ≤ 35184372088832 then (w02_SegThere.l0 kj31 t110 t113 t115 t119 t123 (List.replicate (wrap64 (t113 + 1) : Int).toNat 0) 0) else (none)) else (none)) = some r := by rw [if_neg (show ¬ (false = true) by decide)] at H; exact H
              clear H
              have H := H1
              clear H1
              obtain ⟨ji54, hji54⟩ : ∃ j_ : Int, (wrap64 (t113 + 1)) = j_ := ⟨_, rfl⟩
              replace H : (if 0 ≤ (ji54) then (if (ji54 : Int).toNat ≤ 35184372088832 then (w02_SegThere.l0 kj31 t110 t113 t115 t119 t123 (List.replicate (ji54 : Int).toNat 0) 0) else (none)) else (none)) = some r := by first | (rw [hji54] at H; exact H) | (simp only [hji54] at H ⊢; exact H)
              have hji54w : (IntKind.i64.wrap (t113 + 1)) = ji54 := (i64_w _).trans hji54
              by_cases c55 : 0 ≤ (ji54)
              · rw [if_pos c55] at H
                have c55b0 := eq_true c55
                have c55b1 : decide (0 ≤ (ji54)) = true := decide_eq_true c55
                clear c55
                by_cases c56 : (ji54 : Int).toNat ≤ 35184372088832
                · rw [if_pos c56] at H
                  have c56b0 := eq_true c56
                  have c56b1 : decide ((ji54 : Int).toNat ≤ 35184372088832) = true := decide_eq_true c56
                  clear c56
                  obtain ⟨y143, hy143⟩ : ∃ y_ : List Int, y_ = (List.replicate (ji54 : Int).toNat 0) := ⟨_, rfl⟩
                  replace H : (w02_SegThere.l0 kj31 t110 t113 t115 t119 t123 y143 0) = some r := by first | (rw [hy143]; with_reducible exact H) | (have H2_ := (Option.bind_some _ _).symm.trans H; rw [hy143]; with_reducible exact H2_) | (have H2_ := (Option.bind_some _ _).symm.trans H; with_reducible exact H2_) | with_reducible exact H | (rw [hy143]; exact H) | exact H
                  have Ny143 := Aside0.mk hy143
                  clear hy143
                  have H' := Aside0.mk H
                  clear H
                  go_wp2_with (first | ((with_reducible refine gate_dst (N := 129) rfl ?_); (try (refine gate_guard (by rfl) ?_; dsimp only)); refine Kd.R_make (Kd.int .i64) _ 3 rfl (N := 129) rfl 22 _ _ rfl ji54 rfl rfl Try.underlying22 (.int .i64 0) 8 info3 rfl (by decide) (by omega) 0 (ok := fun _ => True) (okp := fun _ => True) rfl (fun _ hk => hk) trivial (of_decide_eq_true (by first | (with_reducible assumption) | assumption)) (Nat.le_trans (Nat.mul_le_mul_right _ (of_decide_eq_true (by first | (with_reducible assumption) | assumption) : ji54.toNat ≤ 35184372088832)) (by omega)) (Below.refl _ _) (Nat.le_refl _) ?_; intro v144 w57 ho58 hb hg_ hnew_; clear hg_ hnew_; (first | rw [← Ny143.out] at ho58 | (simp only [Int.reduceToNat] at ho58; rw [← Ny143.out] at ho58)); have n0_ := Aside0.mk (Kd.R_elder' (by (with_reducible repeat (first | apply Kd.R_alloc | apply Kd.R_drewN | apply Kd.R_drew)); exact HO_3.out) (Kd.R_base ho58) hb); have n1_ := Aside0.mk (Kd.V_elder' (by (with_reducible repeat (first | apply Kd.V_alloc | apply Kd.V_drewN | apply Kd.V_drew)); exact HO_6.out) (Kd.R_base ho58) hb); have n2_ := Aside0.mk (Kd.V_elder' (by (with_reducible repeat (first | apply Kd.V_alloc | apply Kd.V_drewN | apply Kd.V_drew)); exact HO_8.out) (Kd.R_base ho58) hb); have n3_ := Aside0.mk (Kd.V_elder' (by (with_reducible repeat (first | apply Kd.V_alloc | apply Kd.V_drewN | apply Kd.V_drew)); exact HO_10.out) (Kd.R_base ho58) hb); have n4_ := Aside0.mk (Kd.R_lower (Kd.R_new' ho58 (Kd.R_lt (by (with_reducible repeat (first | apply Kd.R_alloc | apply Kd.R_drewN | apply Kd.R_drew)); exact HO_3.out))) (below_size (by repeat (first | (with_reducible first | exact HB.out | apply below_alloc | apply pw_below_drewN | apply below_drew1) | exact HB.out)))); have n5_ := Aside0.mk (below_step (by repeat (first | (with_reducible first | exact HB.out | apply below_alloc | apply pw_below_drewN | apply below_drew1) | exact HB.out)) hb); clear HO_3; clear HO_6; clear HO_8; clear HO_10; clear HB; have HO_3 := n0_; have HO_6 := n1_; have HO_8 := n2_; have HO_10 := n3_; have HO145 := n4_; have HB := n5_; clear n0_ n1_ n2_ n3_ n4_ n5_; clear hb ho58))
                  go_loopg [16] kj31 (fun kq v16 w' => ∃ (x15_3 : List Int) (x16_3 : Int), v16 = .int .i64 x16_3 ∧ Aside0 (w02_SegThere.l0 kq t110 t113 t115 t119 t123 x15_3 x16_3 = some r) ∧ Aside0 (kq ≤ kj31) ∧ Aside0 (Kd.R (Kd.int .i64) 3 w' w.heap.size (fun k_ => some k_ ≠ (v144 : Value).ownBlock) (.slice Ao9 t110.length co9) t110) ∧ Aside0 (Kd.V (Kd.int .i64) 3 w' w.heap.size (fun k_ => some k_ ≠ ((.slice Ao9 t110.length co9) : Value).ownBlock ∧ some k_ ≠ (v144 : Value).ownBlock) (.slice Ao33 t115.length co33) t115) ∧ Aside0 (Kd.V (Kd.int .i64) 3 w' w.heap.size (fun k_ => some k_ ≠ ((.slice Ao9 t110.length co9) : Value).ownBlock ∧ some k_ ≠ (v144 : Value).ownBlock) (.slice Ao35 t119.length co35) t119) ∧ Aside0 (Kd.V (Kd.int .i64) 3 w' w.heap.size (fun k_ => some k_ ≠ ((.slice Ao9 t110.length co9) : Value).ownBlock ∧ some k_ ≠ (v144 : Value).ownBlock) (.slice Ao37 t123.length co37) t123) ∧ Aside0 (Kd.R (Kd.int .i64) 3 w' w.heap.size (fun k_ => some k_ ≠ ((.slice Ao9 t110.length co9) : Value).ownBlock) v144 x15_3) ∧ Aside0 (Below w.heap.size w w'))
                  case atStart => exact ⟨(y143), (0), (by first | rfl | (simp; done) | (simp [*]; done)), H', ⟨Nat.le_refl _⟩, ⟨by (with_reducible repeat (first | apply Kd.R_alloc | apply Kd.R_drewN | apply Kd.R_drew)); exact Kd.R_mono HO_3.out (fun _ hk => hk.2)⟩, ⟨by (with_reducible repeat (first | apply Kd.V_alloc | apply Kd.V_drewN | apply Kd.V_drew)); exact HO_6.out⟩, ⟨by (with_reducible repeat (first | apply Kd.V_alloc | apply Kd.V_drewN | apply Kd.V_drew)); exact HO_8.out⟩, ⟨by (with_reducible repeat (first | apply Kd.V_alloc | apply Kd.V_drewN | apply Kd.V_drew)); exact HO_10.out⟩, ⟨by (with_reducible repeat (first | apply Kd.R_alloc | apply Kd.R_drewN | apply Kd.R_drew)); exact Kd.R_mono HO145.out (fun _ hk => hk.2)⟩, ⟨by repeat (first | (with_reducible first | exact HB.out | apply below_alloc | apply pw_below_drewN | apply below_drew1) | exact HB.out)⟩⟩
                  case round =>
                    clear H'
                    try clear c1
                    try clear c2
                    try clear p2
                    try clear c3
                    try clear c4
                    try clear c5
                    try clear p6
                    try clear c7
                    try clear c14
                    try clear c14b0
                    try clear c14b1
                    try clear c15
                    try clear c15b0
                    try clear c15b1
                    try clear c16
                    try clear c16b0
                    try clear c16b1
                    try clear c17
                    try clear c17b0
                    try clear c17b1
                    try clear c18
                    try clear c19
                    try clear c19b0
                    try clear c19b1
                    try clear c20
                    try clear c20b0
                    try clear c20b1
                    try clear c20b2
                    try clear c21
                    try clear c21b0
                    try clear c21b1
                    try clear c26
                    try clear c28
                    try clear c30
                    try clear c39
                    try clear c39b0
                    try clear c39b1
                    try clear c40
                    try clear c40b0
                    try clear c40b1
                    try clear c41
                    try clear c41b0
                    try clear c41b1
                    try clear c43
                    try clear c45
                    try clear c47
                    try clear c53
                    try clear c55
                    try clear c55b0
                    try clear c55b1
                    try clear c56
                    try clear c56b0
                    try clear c56b1
                    try clear p2
                    try clear p6
                    obtain ⟨x15_3, x16_3, rfl, HA, HK3, HO_3, HO_6, HO_8, HO_10, HO_15, HB⟩ := hrel
                    cases gk with
                    | zero => exact absurd HA.out (by simp [w02_SegThere.l0])
                    | succ k3 =>
                      have H := HA.out
                      clear HA
                      simp only [w02_SegThere.l0] at H
                      by_cases c59 : x16_3 < (t115.length : Int)
                      · rw [if_pos c59] at H
                        have c59b0 : decide (x16_3 < (t115.length : Int)) = true := decide_eq_true c59
                        clear c59
                        by_cases c60 : 0 ≤ x16_3
                        · rw [if_pos c60] at H
                          have c60b0 : decide (0 ≤ x16_3) = true := decide_eq_true c60
                          clear c60
                          replace H := Option.bind_eq_some_iff.mp H
                          obtain ⟨t147, A610, H⟩ := H
                          replace H : (if t147 = true then (if 0 ≤ (rd t115 x16_3) then (if (rd t115 x16_3) < (x15_3.length : Int) then (w02_SegThere.l0 k3 t110 t113 t115 t119 t123 (x15_3.set ((rd t115 x16_3) : Int).toNat (wrap64 ((rd x15_3 (rd t115 x16_3)) + 1))) (wrap64 (x16_3 + 1))) else (none)) else (none)) else (none)) = some r := H
                          have A61 := Aside0.mk A610
                          clear A610
                          by_cases c62 : t147 = true
                          · subst c62
                            have H1 : (if 0 ≤ (rd t115 x16_3) then (if (rd t115 x16_3) < (x15_3.length : Int) then (w02_SegThere.l0 k3 t110 t113 t115 t119 t123 (x15_3.set ((rd t115 x16_3) : Int).toNat (wrap64 ((rd x15_3 (rd t115 x16_3)) + 1))) (wrap64 (x16_3 + 1))) else (none)) else (none)) = some r := by rw [if_pos rfl] at H; exact H
                            clear H
                            have H := H1
                            clear H1
                            by_cases c63 : 0 ≤ (rd t115 x16_3)
                            · rw [if_pos c63] at H
                              have c63b0 : decide (0 ≤ (rd t115 x16_3)) = true := decide_eq_true c63
                              clear c63
                              by_cases c64 : (rd t115 x16_3) < (x15_3.length : Int)
                              · rw [if_pos c64] at H
                                have c64b0 : decide ((rd t115 x16_3) < (x15_3.length : Int)) = true := decide_eq_true c64
                                clear c64
                                obtain ⟨y150, hy150⟩ : ∃ y_ : List Int, y_ = (x15_3.set ((rd t115 x16_3) : Int).toNat (wrap64 ((rd x15_3 (rd t115 x16_3)) + 1))) := ⟨_, rfl⟩
                                replace H : (w02_SegThere.l0 k3 t110 t113 t115 t119 t123 y150 (wrap64 (x16_3 + 1))) = some r := by first | (rw [hy150]; with_reducible exact H) | (have H2_ := (Option.bind_some _ _).symm.trans H; rw [hy150]; with_reducible exact H2_) | (have H2_ := (Option.bind_some _ _).symm.trans H; with_reducible exact H2_) | with_reducible exact H | (rw [hy150]; exact H) | exact H
                                have Ny150 := Aside0.mk hy150
                                clear hy150
                                have H' := Aside0.mk H
                                clear H
                                have p146 : 0 ≤ (x16_3 : Int) := of_decide_eq_true (by first | (with_reducible assumption) | assumption)
                                have q146 : x16_3 < (t115.length : Int) := of_decide_eq_true (by first | (with_reducible assumption) | assumption)
                                obtain ⟨ad146, e146, hx146_0⟩ := Kd.at_int (Kd.V_reads' HO_6.out).2.2 x16_3 p146 q146
                                cases e146
                                replace p146 := eq_true p146
                                replace q146 := eq_true q146
                                go_wp2_with (first | ((with_reducible refine gate_callee (f := 23) rfl ?_); refine goesL_ (some 141) rfl rfl Try.func23 (by kernel_rfl) rfl #[.int .i64 (rd t115 x16_3), .int .i64 0, .int .i64 t113] rfl (by (try simp only [List.map_toArray, List.map_cons, List.map_nil]); first | done | rfl | (simp only [List.length_drop, List.length_take]; rfl)) ?_; (with_reducible refine (r00_Lies.calls (rd t115 x16_3) 0 t113 true _ A61.out).mono ?_); rintro e w' ⟨rfl, ⟨nd, rfl⟩⟩; refine ⟨_, rfl, ?_⟩; (try (rw [drewN_self wr]; generalize hq_ : World.drewN wr _ = wr; have n0_ : Aside0 (Kd.V (Kd.int .i64) 3 wr w.heap.size (fun k_ => some k_ ≠ (v144 : Value).ownBlock ∧ some k_ ≠ (.slice Ao9 t110.length co9 : Value).ownBlock) (.slice Ao37 t123.length co37) t123) := ⟨by rw [← hq_]; exact (by (with_reducible repeat (first | apply Kd.V_alloc | apply Kd.V_drewN | apply Kd.V_drew)); exact Kd.V_mono HO_10.out (fun _ hk => ⟨hk.2, hk.1⟩))⟩; have n1_ : Aside0 (Kd.R (Kd.int .i64) 3 wr w.heap.size (fun k_ => some k_ ≠ (.slice Ao9 t110.length co9 : Value).ownBlock) v144 x15_3) := ⟨by rw [← hq_]; exact (by (with_reducible repeat (first | apply Kd.R_alloc | apply Kd.R_drewN | apply Kd.R_drew)); exact HO_15.out)⟩; have n2_ : Aside0 (Kd.R (Kd.int .i64) 3 wr w.heap.size (fun k_ => some k_ ≠ (v144 : Value).ownBlock) (.slice Ao9 t110.length co9) t110) := ⟨by rw [← hq_]; exact (by (with_reducible repeat (first | apply Kd.R_alloc | apply Kd.R_drewN | apply Kd.R_drew)); exact HO_3.out)⟩; have n3_ : Aside0 (Kd.V (Kd.int .i64) 3 wr w.heap.size (fun k_ => some k_ ≠ (v144 : Value).ownBlock ∧ some k_ ≠ (.slice Ao9 t110.length co9 : Value).ownBlock) (.slice (some ad146) t115.length co33) t115) := ⟨by rw [← hq_]; exact (by (with_reducible repeat (first | apply Kd.V_alloc | apply Kd.V_drewN | apply Kd.V_drew)); exact Kd.V_mono HO_6.out (fun _ hk => ⟨hk.2, hk.1⟩))⟩; have n4_ : Aside0 (Kd.V (Kd.int .i64) 3 wr w.heap.size (fun k_ => some k_ ≠ (v144 : Value).ownBlock ∧ some k_ ≠ (.slice Ao9 t110.length co9 : Value).ownBlock) (.slice Ao35 t119.length co35) t119) := ⟨by rw [← hq_]; exact (by (with_reducible repeat (first | apply Kd.V_alloc | apply Kd.V_drewN | apply Kd.V_drew)); exact Kd.V_mono HO_8.out (fun _ hk => ⟨hk.2, hk.1⟩))⟩; have n5_ : Aside0 (Below w.heap.size w wr) := ⟨by rw [← hq_]; exact (by repeat (first | (with_reducible first | exact HB.out | apply below_alloc | apply pw_below_drewN | apply below_drew1) | exact HB.out))⟩; clear HO_10 HO_15 HO_3 HO_6 HO_8 HB hq_; have HO_10 := n0_; have HO_15 := n1_; have HO_3 := n2_; have HO_6 := n3_; have HO_8 := n4_; have HB := n5_; clear n0_ n1_ n2_ n3_ n4_ n5_)); have p148 : 0 ≤ (x16_3 : Int) := of_decide_eq_true (by first | (with_reducible assumption) | assumption); have q148 : x16_3 < (t115.length : Int) := of_decide_eq_true (by first | (with_reducible assumption) | assumption); obtain ⟨ad148, e148, hx148_0⟩ := Kd.at_int (Kd.V_reads' HO_6.out).2.2 x16_3 p148 q148; obtain rfl : ad146 = ad148 := (by injection e148); replace p148 := eq_true p148; replace q148 := eq_true q148; obtain ⟨Ao66, co66, eo66⟩ := Kd.R_slice HO_15.out; subst eo66; have p149 : 0 ≤ ((rd t115 x16_3) : Int) := of_decide_eq_true (by first | (with_reducible assumption) | assumption); have q149 : (rd t115 x16_3) < (x15_3.length : Int) := of_decide_eq_true (by first | (with_reducible assumption) | assumption); obtain ⟨ad149, e149, hx149_0⟩ := Kd.at_int (Kd.R_reads' HO_15.out).2.2 (rd t115 x16_3) p149 q149; cases e149; replace p149 := eq_true p149; replace q149 := eq_true q149; have p65 : 0 ≤ ((rd t115 x16_3) : Int) := of_decide_eq_true (by first | (with_reducible assumption) | assumption); have q65 : ((rd t115 x16_3) : Int) < ((x15_3.length : Int) : Int) := of_decide_eq_true (by first | (with_reducible assumption) | assumption); obtain ⟨go65, co65, eo65, gb65, gl65, cl65, HG65⟩ := Kd.R_form HO_15.out (by omega); (first | cases eo65 | (injection eo65 with ea_ en_ ec_; (first | subst ea_ | (injection ea_ with ea_; subst ea_)); subst ec_; clear en_)); have GB65 := Aside0.mk gb65; have GG65 := Aside0.mk HG65; clear gb65 gl65 HG65; (first | simp only [add_plain] at hx149_0 | skip); obtain ⟨hx65_0, hf65_0⟩ := Kd.R_celln 0 HO_15.out ((rd t115 x16_3) : Int) p65 q65; replace p65 := eq_true p65; replace q65 := eq_true q65; obtain ⟨hy67_, hz67_⟩ := Kd.R_celln 0 HO_15.out ((rd t115 x16_3) : Int) (of_decide_eq_true (by first | (with_reducible assumption) | assumption)) (of_decide_eq_true (by first | (with_reducible assumption) | assumption)); have HP67 := Kd.R_putg HO_15.out ((rd t115 x16_3) : Int) (wrap64 ((rd x15_3 (rd t115 x16_3)) + 1))) | ((with_reducible refine gate_store (t := 3) (p := 151) rfl ?_); refine store_event (t := 3) (p := 151) (v := ?vo_w68) (w1 := (wr.setCell ⟨go65, ((rd t115 x16_3) : Int).toNat, none⟩ (.int .i64 (wrap64 ((rd x15_3 (rd t115 x16_3)) + 1))))) ?hg ?ho ?hn ?hr ?_; (case ho => rfl); (case hg => rfl); (case hn => rfl); (case hr => first | (go_simp; done) | (go_simp; rfl)); intro w68 hw; have hg : wr.grownBy w68 (some go65) := (by rw [hw]; exact HP67.2); have hp_ : Kd.R (Kd.int .i64) 3 w68 w.heap.size (fun k_ => some k_ ≠ (.slice Ao9 t110.length co9 : Value).ownBlock) (.slice (some ⟨go65, 0, none⟩) x15_3.length co66) y150 := (by rw [hw, Ny150.out]; exact HP67.1); clear HP67; have n0_ := Aside0.mk (Kd.R_after (v := (.slice (some ⟨go65, 0, none⟩) x15_3.length co66)) (v1 := (.slice (some ⟨go65, 0, none⟩) x15_3.length co66)) (ok := (fun _ => True)) (by (with_reducible repeat (first | apply Kd.R_alloc | apply Kd.R_drewN | apply Kd.R_drew)); exact Kd.R_mono HO_3.out (fun _ hk => ⟨trivial, hk⟩)) hg (.inl rfl)); have n1_ := Aside0.mk (Kd.V_afterv (v := (.slice (some ⟨go65, 0, none⟩) x15_3.length co66)) (v1 := (.slice (some ⟨go65, 0, none⟩) x15_3.length co66)) (ok := (fun k_ => some k_ ≠ (.slice Ao9 t110.length co9 : Value).ownBlock)) (by (with_reducible repeat (first | apply Kd.V_alloc | apply Kd.V_drewN | apply Kd.V_drew)); first | exact HO_6.out | exact Kd.V_mono HO_6.out (fun _ hk => ⟨hk.2, hk.1⟩)) hg (.inl rfl)); have n2_ := Aside0.mk (Kd.V_afterv (v := (.slice (some ⟨go65, 0, none⟩) x15_3.length co66)) (v1 := (.slice (some ⟨go65, 0, none⟩) x15_3.length co66)) (ok := (fun k_ => some k_ ≠ (.slice Ao9 t110.length co9 : Value).ownBlock)) (by (with_reducible repeat (first | apply Kd.V_alloc | apply Kd.V_drewN | apply Kd.V_drew)); first | exact HO_8.out | exact Kd.V_mono HO_8.out (fun _ hk => ⟨hk.2, hk.1⟩)) hg (.inl rfl)); have n3_ := Aside0.mk (Kd.V_afterv (v := (.slice (some ⟨go65, 0, none⟩) x15_3.length co66)) (v1 := (.slice (some ⟨go65, 0, none⟩) x15_3.length co66)) (ok := (fun k_ => some k_ ≠ (.slice Ao9 t110.length co9 : Value).ownBlock)) (by (with_reducible repeat (first | apply Kd.V_alloc | apply Kd.V_drewN | apply Kd.V_drew)); first | exact HO_10.out | exact Kd.V_mono HO_10.out (fun _ hk => ⟨hk.2, hk.1⟩)) hg (.inl rfl)); have n4_ := Aside0.mk (hp_); have n5_ := Aside0.mk ((by rw [hw]; exact below_set (HB.out) GB65.out : Below w.heap.size w w68)); clear HO_3; clear HO_6; clear HO_8; clear HO_10; clear HO_15; clear HB; have HO_3 := n0_; have HO_6 := n1_; have HO_8 := n2_; have HO_10 := n3_; have HO_15 := n4_; have HB := n5_; clear n0_ n1_ n2_ n3_ n4_ n5_; clear hg hw hp_))
                                go_roundg k3
                                case measure => have := HJ6.out; have := HJ31.out; have := HK3.out; omega
                                case rel => exact ⟨(y150), (wrap64 (x16_3 + 1)), (by first | rfl | (simp; done) | (simp [*]; done)), H', ⟨by have := HJ6.out; have := HJ31.out; have := HK3.out; omega⟩, ⟨by (with_reducible repeat (first | apply Kd.R_alloc | apply Kd.R_drewN | apply Kd.R_drew)); exact Kd.R_mono HO_3.out (fun _ hk => hk.2)⟩, ⟨by (with_reducible repeat (first | apply Kd.V_alloc | apply Kd.V_drewN | apply Kd.V_drew)); exact HO_6.out⟩, ⟨by (with_reducible repeat (first | apply Kd.V_alloc | apply Kd.V_drewN | apply Kd.V_drew)); exact HO_8.out⟩, ⟨by (with_reducible repeat (first | apply Kd.V_alloc | apply Kd.V_drewN | apply Kd.V_drew)); exact HO_10.out⟩, ⟨by (with_reducible repeat (first | apply Kd.R_alloc | apply Kd.R_drewN | apply Kd.R_drew)); exact HO_15.out⟩, ⟨by repeat (first | (with_reducible first | exact HB.out | apply below_alloc | apply pw_below_drewN | apply below_drew1) | exact HB.out)⟩⟩
                              · rw [if_neg c64] at H
                                exact absurd H (by simp)
                            · rw [if_neg c63] at H
                              exact absurd H (by simp)
                          · replace c62 := Bool.eq_false_iff.mpr c62
                            subst c62
                            have H1 : (none) = some r := by rw [if_neg (show ¬ (false = true) by decide)] at H; exact H
                            clear H
                            have H := H1
                            clear H1
                            exact absurd H (by simp)
                        · rw [if_neg c60] at H
                          exact absurd H (by simp)
                      · rw [if_neg c59] at H
                        have c59b0 : decide (x16_3 < (t115.length : Int)) = false := decide_eq_false c59
                        clear c59
                        have H' := Aside0.mk H
                        clear H
                        go_wp2
                        go_loopg [17] k3 (fun kq v17 w' => ∃ (x17_4 : Int), v17 = .int .i64 x17_4 ∧ Aside0 (w02_SegThere.l1 kq t110 t113 t115 t119 t123 x15_3 x17_4 = some r) ∧ Aside0 (kq ≤ k3) ∧ Aside0 (Kd.R (Kd.int .i64) 3 w' w.heap.size (fun k_ => some k_ ≠ (v144 : Value).ownBlock) (.slice Ao9 t110.length co9) t110) ∧ Aside0 (Kd.V (Kd.int .i64) 3 w' w.heap.size (fun k_ => some k_ ≠ ((.slice Ao9 t110.length co9) : Value).ownBlock ∧ some k_ ≠ (v144 : Value).ownBlock) (.slice Ao33 t115.length co33) t115) ∧ Aside0 (Kd.V (Kd.int .i64) 3 w' w.heap.size (fun k_ => some k_ ≠ ((.slice Ao9 t110.length co9) : Value).ownBlock ∧ some k_ ≠ (v144 : Value).ownBlock) (.slice Ao35 t119.length co35) t119) ∧ Aside0 (Kd.V (Kd.int .i64) 3 w' w.heap.size (fun k_ => some k_ ≠ ((.slice Ao9 t110.length co9) : Value).ownBlock ∧ some k_ ≠ (v144 : Value).ownBlock) (.slice Ao37 t123.length co37) t123) ∧ Aside0 (Kd.R (Kd.int .i64) 3 w' w.heap.size (fun k_ => some k_ ≠ ((.slice Ao9 t110.length co9) : Value).ownBlock) v144 x15_3) ∧ Aside0 (Below w.heap.size w w'))
                        case atStart => exact ⟨(0), (by first | rfl | (simp; done) | (simp [*]; done)), H', ⟨Nat.le_refl _⟩, ⟨by (with_reducible repeat (first | apply Kd.R_alloc | apply Kd.R_drewN | apply Kd.R_drew)); exact HO_3.out⟩, ⟨by (with_reducible repeat (first | apply Kd.V_alloc | apply Kd.V_drewN | apply Kd.V_drew)); exact HO_6.out⟩, ⟨by (with_reducible repeat (first | apply Kd.V_alloc | apply Kd.V_drewN | apply Kd.V_drew)); exact HO_8.out⟩, ⟨by (with_reducible repeat (first | apply Kd.V_alloc | apply Kd.V_drewN | apply Kd.V_drew)); exact HO_10.out⟩, ⟨by (with_reducible repeat (first | apply Kd.R_alloc | apply Kd.R_drewN | apply Kd.R_drew)); exact HO_15.out⟩, ⟨by repeat (first | (with_reducible first | exact HB.out | apply below_alloc | apply pw_below_drewN | apply below_drew1) | exact HB.out)⟩⟩
                        case round =>
                          clear H'
                          try clear c1
                          try clear p1
                          try clear q1
                          try clear hx1
                          try clear c2
                          try clear p2
                          try clear c3
                          try clear c4
                          try clear c5
                          try clear c6
                          try clear p6
                          try clear q6
                          try clear hx6
                          try clear hf6
                          try clear c7
                          try clear c14
                          try clear c14b0
                          try clear c14b1
                          try clear p14
                          try clear q14
                          try clear hx14
                          try clear c15
                          try clear c15b0
                          try clear c15b1
                          try clear c16
                          try clear c16b0
                          try clear c16b1
                          try clear c17
                          try clear c17b0
                          try clear c17b1
                          try clear c18
                          try clear c19
                          try clear c19b0
                          try clear c19b1
                          try clear c20
                          try clear c20b0
                          try clear c20b1
                          try clear c20b2
                          try clear c21
                          try clear c21b0
                          try clear c21b1
                          try clear c23
                          try clear c26
                          try clear c28
                          try clear c30
                          try clear c39
                          try clear c39b0
                          try clear c39b1
                          try clear c40
                          try clear c40b0
                          try clear c40b1
                          try clear c41
                          try clear c41b0
                          try clear c41b1
                          try clear c43
                          try clear c45
                          try clear c47
                          try clear c53
                          try clear c55
                          try clear c55b0
                          try clear c55b1
                          try clear c56
                          try clear c56b0
                          try clear c56b1
                          try clear c59
                          try clear c59b0
                          try clear c60
                          try clear c60b0
                          try clear c62
                          try clear c63
                          try clear c63b0
                          try clear c64
                          try clear c64b0
                          try clear p64
                          try clear p65
                          try clear q65
                          try clear hx65
                          try clear hf65
                          try clear hx146_0
                          try clear hx148_0
                          try clear hx149_0
                          try clear hx65_0
                          try clear p146
                          try clear p148
                          try clear p149
                          try clear p2
                          try clear p6
                          try clear p65
                          try clear q146
                          try clear q148
                          try clear q149
                          try clear q65
                          obtain ⟨x17_4, rfl, HA, HK4, HO_3, HO_6, HO_8, HO_10, HO_15, HB⟩ := hrel
                          cases gk with
                          | zero => exact absurd HA.out (by simp [w02_SegThere.l1])
                          | succ k4 =>
                            have H := HA.out
                            clear HA
                            simp only [w02_SegThere.l1] at H
                            by_cases c69 : x17_4 < t113
                            · rw [if_pos c69] at H
                              have c69b0 : decide (x17_4 < t113) = true := decide_eq_true c69
                              clear c69
                              by_cases c70 : 0 ≤ x17_4
                              · rw [if_pos c70] at H
                                have c70b0 : decide (0 ≤ x17_4) = true := decide_eq_true c70
                                clear c70
                                by_cases c71 : x17_4 < (t123.length : Int)
                                · rw [if_pos c71] at H
                                  have c71b0 : decide (x17_4 < (t123.length : Int)) = true := decide_eq_true c71
                                  clear c71
                                  replace H := Option.bind_eq_some_iff.mp H
                                  obtain ⟨t154, A720, H⟩ := H
                                  replace H : (if t154 = true then (if 0 ≤ (rd t123 x17_4) then (if (rd t123 x17_4) < (t115.length : Int) then (if (rd t123 x17_4) < (t110.length : Int) then ((r00_Lies.f x17_4 (rd t115 (rd t123 x17_4)) (wrap64 ((wrap64 ((rd t115 (rd t123 x17_4)) + (rd t110 (rd t123 x17_4)))) - 1))).bind fun t158 => (if t158 = true then (w02_SegThere.l1 k4 t110 t113 t115 t119 t123 x15_3 (wrap64 (x17_4 + 1))) else (none))) else (none)) else (none)) else (none)) else (none)) = some r := H
                                  have A72 := Aside0.mk A720
                                  clear A720
                                  by_cases c73 : t154 = true
                                  · subst c73
                                    have H1 : (if 0 ≤ (rd t123 x17_4) then (if (rd t123 x17_4) < (t115.length : Int) then (if (rd t123 x17_4) < (t110.length : Int) then ((r00_Lies.f x17_4 (rd t115 (rd t123 x17_4)) (wrap64 ((wrap64 ((rd t115 (rd t123 x17_4)) + (rd t110 (rd t123 x17_4)))) - 1))).bind fun t158 => (if t158 = true then (w02_SegThere.l1 k4 t110 t113 t115 t119 t123 x15_3 (wrap64 (x17_4 + 1))) else (none))) else (none)) else (none)) else (none)) = some r := by rw [if_pos rfl] at H; exact H
                                    clear H
                                    have H := H1
                                    clear H1
                                    by_cases c74 : 0 ≤ (rd t123 x17_4)
                                    · rw [if_pos c74] at H
                                      have c74b0 : decide (0 ≤ (rd t123 x17_4)) = true := decide_eq_true c74
                                      clear c74
                                      by_cases c75 : (rd t123 x17_4) < (t115.length : Int)
                                      · rw [if_pos c75] at H
                                        have c75b0 : decide ((rd t123 x17_4) < (t115.length : Int)) = true := decide_eq_true c75
                                        clear c75
                                        by_cases c76 : (rd t123 x17_4) < (t110.length : Int)
                                        · rw [if_pos c76] at H
                                          have c76b0 : decide ((rd t123 x17_4) < (t110.length : Int)) = true := decide_eq_true c76
                                          clear c76
                                          replace H := Option.bind_eq_some_iff.mp H
                                          obtain ⟨t158, A770, H⟩ := H
                                          replace H : (if t158 = true then (w02_SegThere.l1 k4 t110 t113 t115 t119 t123 x15_3 (wrap64 (x17_4 + 1))) else (none)) = some r := H
                                          have A77 := Aside0.mk A770
                                          clear A770
                                          by_cases c78 : t158 = true
                                          · subst c78
                                            have H1 : (w02_SegThere.l1 k4 t110 t113 t115 t119 t123 x15_3 (wrap64 (x17_4 + 1))) = some r := by rw [if_pos rfl] at H; exact H
                                            clear H
                                            have H := H1
                                            clear H1
                                            have H' := Aside0.mk H
                                            clear H
                                            have p153 : 0 ≤ (x17_4 : Int) := of_decide_eq_true (by first | (with_reducible assumption) | assumption)
                                            have q153 : x17_4 < (t123.length : Int) := of_decide_eq_true (by first | (with_reducible assumption) | assumption)
                                            obtain ⟨ad153, e153, hx153_0⟩ := Kd.at_int (Kd.V_reads' HO_10.out).2.2 x17_4 p153 q153
                                            cases e153
                                            replace p153 := eq_true p153
                                            replace q153 := eq_true q153
                                            try go_wp2
                                            have n0_ := Aside0.mk (Kd.R_drew HO_3.out)
                                            have n1_ := Aside0.mk (Kd.V_drew HO_6.out)
                                            have n2_ := Aside0.mk (Kd.V_drew HO_8.out)
                                            have n3_ := Aside0.mk (Kd.V_drew HO_10.out)
                                            have n4_ := Aside0.mk (Kd.R_drew HO_15.out)
                                            have n5_ := Aside0.mk (below_drew1 HB.out)
                                            clear HO_3
                                            clear HO_6
                                            clear HO_8
                                            clear HO_10
                                            clear HO_15
                                            clear HB
                                            have HO_3 := n0_
                                            have HO_6 := n1_
                                            have HO_8 := n2_
                                            have HO_10 := n3_
                                            have HO_15 := n4_
                                            have HB := n5_
                                            clear n0_ n1_ n2_ n3_ n4_ n5_
                                            have p155 : 0 ≤ ((rd t123 x17_4) : Int) := of_decide_eq_true (by first | (with_reducible assumption) | assumption)
                                            have q155 : (rd t123 x17_4) < (t115.length : Int) := of_decide_eq_true (by first | (with_reducible assumption) | assumption)
                                            obtain ⟨ad155, e155, hx155_0⟩ := Kd.at_int (Kd.V_reads' HO_6.out).2.2 (rd t123 x17_4) p155 q155
                                            cases e155
                                            replace p155 := eq_true p155
                                            replace q155 := eq_true q155
                                            have p156 : 0 ≤ ((rd t123 x17_4) : Int) := of_decide_eq_true (by first | (with_reducible assumption) | assumption)
                                            have q156 : (rd t123 x17_4) < (t115.length : Int) := of_decide_eq_true (by first | (with_reducible assumption) | assumption)
                                            obtain ⟨ad156, e156, hx156_0⟩ := Kd.at_int (Kd.V_reads' HO_6.out).2.2 (rd t123 x17_4) p156 q156
                                            obtain rfl : ad155 = ad156 := (by injection e156)
                                            replace p156 := eq_true p156
                                            replace q156 := eq_true q156
                                            have p157 : 0 ≤ ((rd t123 x17_4) : Int) := of_decide_eq_true (by first | (with_reducible assumption) | assumption)
                                            have q157 : (rd t123 x17_4) < (t110.length : Int) := of_decide_eq_true (by first | (with_reducible assumption) | assumption)
                                            obtain ⟨ad157, e157, hx157_0⟩ := Kd.at_int (Kd.R_reads' HO_3.out).2.2 (rd t123 x17_4) p157 q157
                                            cases e157
                                            replace p157 := eq_true p157
                                            replace q157 := eq_true q157
                                            refine start_ (n := 25) (S := fun w' => w'.cell? (ad155.add ((rd t123 x17_4)).toNat) = some (.int .i64 (rd t115 (rd t123 x17_4))) ∧ w'.cell? (ad155.add ((rd t123 x17_4)).toNat) = some (.int .i64 (rd t115 (rd t123 x17_4))) ∧ w'.cell? (ad157.add ((rd t123 x17_4)).toNat) = some (.int .i64 (rd t110 (rd t123 x17_4)))) (ds := []) #[false, false, false, false, false, false, false, false, false, false, false, false, false, false, false, false, false, false, false, false, false, false, false, false, false] (by kernel_rfl) rfl rfl ⟨hx155_0, hx156_0, hx157_0⟩ (fun hHeld => ?_); refine with_tabW w02_SegThere.tab24 w02_SegThere.bits24 (fun HT_ HW_ => ?_)
                                            generalize wr.drew = w79 at HO_3 HO_6 HO_8 HO_10 HO_15 HB hx155_0 hx156_0 hx157_0 hHeld ⊢
                                            refine pure_ (i := 0) (N := some 161) (v := ?_) (a' := ?_) #[true, false, false, false, false, false, false, false, false, false, false, false, false, false, false, false, false, false, false, false, false, false, false, false, false] rfl rfl (any_of HT_.out (by kernel_rfl)) (fun _ _ _ h => h) (Or.inl ⟨by rfl, ?_⟩) ?_ ?_
                                            rotate_left
                                            · intro w'
                                              go_simp
                                              with_reducible rfl
                                            rotate_left
                                            · simp only [Act.put, List.setIfInBounds_toArray, List.set_cons_zero, List.set_cons_succ, i64_w, i32_w]
                                              rfl
                                            refine pure_ (i := 1) (N := some 162) (v := ?_) (a' := ?_) #[true, true, false, false, false, false, false, false, false, false, false, false, false, false, false, false, false, false, false, false, false, false, false, false, false] rfl rfl (any_of HT_.out (by kernel_rfl)) (fun _ _ _ h => h) (Or.inl ⟨by rfl, ?_⟩) ?_ ?_
                                            rotate_left
                                            · intro w'
                                              go_simp
                                              with_reducible rfl
                                            rotate_left
                                            · simp only [Act.put, List.setIfInBounds_toArray, List.set_cons_zero, List.set_cons_succ, i64_w, i32_w]
                                              rfl
                                            refine pure_ (i := 2) (N := some 163) (v := ?_) (a' := ?_) #[true, true, true, false, false, false, false, false, false, false, false, false, false, false, false, false, false, false, false, false, false, false, false, false, false] rfl rfl (any_of HT_.out (by kernel_rfl)) (fun _ _ _ h => h) (Or.inl ⟨by rfl, ?_⟩) ?_ ?_
                                            rotate_left
                                            · intro w'
                                              go_simp
                                              with_reducible rfl
                                            rotate_left
                                            · simp only [Act.put, List.setIfInBounds_toArray, List.set_cons_zero, List.set_cons_succ, i64_w, i32_w]
                                              rfl
                                            refine pure_ (i := 3) (N := some 164) (v := ?_) (a' := ?_) #[true, true, true, true, false, false, false, false, false, false, false, false, false, false, false, false, false, false, false, false, false, false, false, false, false] rfl rfl (any_of HT_.out (by kernel_rfl)) (fun _ _ _ h => h) (Or.inl ⟨by rfl, ?_⟩) ?_ ?_
                                            rotate_left
                                            · intro w'
                                              go_simp
                                              with_reducible rfl
                                            rotate_left
                                            · simp only [Act.put, List.setIfInBounds_toArray, List.set_cons_zero, List.set_cons_succ, i64_w, i32_w]
                                              rfl
                                            refine one_ (i := 4) (N := some 165) #[true, true, true, true, true, false, false, false, false, false, false, false, false, false, false, false, false, false, false, false, false, false, false, false, false] rfl rfl (one_of HT_.out (by kernel_rfl)) (by decide) (fun K hK => ?_)
                                            refine goes_ Try.func23 (by kernel_rfl) rfl #[.int .i64 (rd t123 x17_4), .int .i64 0, .int .i64 (wrap64 ((t110.length : Int) - 1))] (by rfl) rfl rfl (by (try simp only [List.map_toArray, List.map_cons, List.map_nil]); first | done | rfl | (simp only [List.length_drop, List.length_take]; rfl)) ?_
                                            with_reducible refine (r00_Lies.calls (rd t123 x17_4) 0 (wrap64 ((t110.length : Int) - 1)) true _ A72.out).mono ?_
                                            rintro e w' ⟨rfl, ⟨nd, rfl⟩⟩
                                            refine ⟨_, rfl, ?_⟩
                                            refine hK.out _ _ ⟨hHeld.1, hHeld.2.1, hHeld.2.2⟩ (fun hHeld => ?_)
                                            clear hK K
                                            refine norm_ (a' := ?_) ?_ ?_
                                            rotate_left
                                            · show Act.put _ (some 165) _ = _
                                              simp only [Act.put, List.setIfInBounds_toArray, List.set_cons_zero, List.set_cons_succ, i64_w, i32_w]
                                              rfl
                                            refine pure_ (i := 5) (N := some 166) (v := ?_) (a' := ?_) #[true, true, true, true, true, true, false, false, false, false, false, false, false, false, false, false, false, false, false, false, false, false, false, false, false] rfl rfl (any_of HT_.out (by kernel_rfl)) (fun _ _ _ h => h) (Or.inl ⟨by rfl, ?_⟩) ?_ ?_
                                            rotate_left
                                            · intro w'
                                              go_simp
                                              with_reducible rfl
                                            rotate_left
                                            · simp only [Act.put, List.setIfInBounds_toArray, List.set_cons_zero, List.set_cons_succ, i64_w, i32_w]
                                              rfl
                                            refine pure_ (i := 6) (N := some 167) (v := ?_) (a' := ?_) #[true, true, true, true, true, true, true, false, false, false, false, false, false, false, false, false, false, false, false, false, false, false, false, false, false] rfl rfl (any_of HT_.out (by kernel_rfl)) (fun _ _ _ h => h) (Or.inl ⟨by rfl, ?_⟩) ?_ ?_
                                            rotate_left
                                            · intro w'
                                              go_simp
                                              with_reducible rfl
                                            rotate_left
                                            · simp only [Act.put, List.setIfInBounds_toArray, List.set_cons_zero, List.set_cons_succ, i64_w, i32_w]
                                              rfl
                                            refine pure_ (i := 7) (N := some 168) (v := ?_) (a' := ?_) #[true, true, true, true, true, true, true, true, false, false, false, false, false, false, false, false, false, false, false, false, false, false, false, false, false] rfl rfl (any_of HT_.out (by kernel_rfl)) (fun _ _ _ h => h) (Or.inl ⟨by rfl, ?_⟩) ?_ ?_
                                            rotate_left
                                            · intro w'
                                              go_simp
                                              with_reducible rfl
                                            rotate_left
                                            · simp only [Act.put, List.setIfInBounds_toArray, List.set_cons_zero, List.set_cons_succ, i64_w, i32_w]
                                              rfl
                                            refine pure_ (i := 8) (N := some 169) (v := ?_) (a' := ?_) #[true, true, true, true, true, true, true, true, true, false, false, false, false, false, false, false, false, false, false, false, false, false, false, false, false] rfl rfl (any_of HT_.out (by kernel_rfl)) (fun _ _ _ h => h) (Or.inl ⟨by rfl, ?_⟩) ?_ ?_
                                            rotate_left
                                            · intro w'
                                              go_simp
                                              with_reducible rfl
                                            rotate_left
                                            · simp only [Act.put, List.setIfInBounds_toArray, List.set_cons_zero, List.set_cons_succ, i64_w, i32_w]
                                              rfl
                                            refine pure_ (i := 9) (N := some 170) (v := ?_) (a' := ?_) #[true, true, true, true, true, true, true, true, true, true, false, false, false, false, false, false, false, false, false, false, false, false, false, false, false] rfl rfl (any_of HT_.out (by kernel_rfl)) (fun _ _ _ h => h) (Or.inl ⟨by rfl, ?_⟩) ?_ ?_
                                            rotate_left
                                            · intro w'
                                              go_simp
                                              with_reducible rfl
                                            rotate_left
                                            · simp only [Act.put, List.setIfInBounds_toArray, List.set_cons_zero, List.set_cons_succ, i64_w, i32_w]
                                              rfl
                                            refine pure_ (i := 10) (N := some 171) (v := ?_) (a' := ?_) #[true, true, true, true, true, true, true, true, true, true, true, false, false, false, false, false, false, false, false, false, false, false, false, false, false] rfl rfl (any_of HT_.out (by kernel_rfl)) (fun _ _ _ h => h) (Or.inl ⟨by rfl, ?_⟩) ?_ ?_
                                            rotate_left
                                            · intro w'
                                              go_simp
                                              with_reducible rfl
                                            rotate_left
                                            · simp only [Act.put, List.setIfInBounds_toArray, List.set_cons_zero, List.set_cons_succ, i64_w, i32_w]
                                              rfl
                                            refine pure_ (i := 12) (N := some 173) (v := ?_) (a' := ?_) #[true, true, true, true, true, true, true, true, true, true, true, false, true, false, false, false, false, false, false, false, false, false, false, false, false] rfl rfl (any_of HT_.out (by kernel_rfl)) (fun _ _ _ h => h) (Or.inl ⟨by rfl, ?_⟩) ?_ ?_
                                            rotate_left
                                            · intro w'
                                              go_simp
                                              with_reducible rfl
                                            rotate_left
                                            · simp only [Act.put, List.setIfInBounds_toArray, List.set_cons_zero, List.set_cons_succ, i64_w, i32_w]
                                              rfl
                                            refine pure_ (i := 13) (N := some 174) (v := ?_) (a' := ?_) #[true, true, true, true, true, true, true, true, true, true, true, false, true, true, false, false, false, false, false, false, false, false, false, false, false] rfl rfl (any_of HT_.out (by kernel_rfl)) (fun _ _ _ h => h) (Or.inl ⟨by rfl, ?_⟩) ?_ ?_
                                            rotate_left
                                            · intro w'
                                              go_simp
                                              with_reducible rfl
                                            rotate_left
                                            · simp only [Act.put, List.setIfInBounds_toArray, List.set_cons_zero, List.set_cons_succ, i64_w, i32_w]
                                              rfl
                                            refine pure_ (i := 14) (N := some 175) (v := ?_) (a' := ?_) #[true, true, true, true, true, true, true, true, true, true, true, false, true, true, true, false, false, false, false, false, false, false, false, false, false] rfl rfl (any_of HT_.out (by kernel_rfl)) (fun _ _ _ h => h) (Or.inl ⟨by rfl, ?_⟩) ?_ ?_
                                            rotate_left
                                            · intro w'
                                              go_simp
                                              with_reducible rfl
                                            rotate_left
                                            · simp only [Act.put, List.setIfInBounds_toArray, List.set_cons_zero, List.set_cons_succ, i64_w, i32_w]
                                              rfl
                                            refine pure_ (i := 16) (N := some 177) (v := ?_) (a' := ?_) #[true, true, true, true, true, true, true, true, true, true, true, false, true, true, true, false, true, false, false, false, false, false, false, false, false] rfl rfl (any_of HT_.out (by kernel_rfl)) (fun _ _ _ h => h) (Or.inl ⟨by rfl, ?_⟩) ?_ ?_
                                            rotate_left
                                            · intro w'
                                              go_simp
                                              with_reducible rfl
                                            rotate_left
                                            · simp only [Act.put, List.setIfInBounds_toArray, List.set_cons_zero, List.set_cons_succ, i64_w, i32_w]
                                              rfl
                                            refine pure_ (i := 17) (N := some 178) (v := ?_) (a' := ?_) #[true, true, true, true, true, true, true, true, true, true, true, false, true, true, true, false, true, true, false, false, false, false, false, false, false] rfl rfl (any_of HT_.out (by kernel_rfl)) (fun _ _ _ h => h) (Or.inl ⟨by rfl, ?_⟩) ?_ ?_
                                            rotate_left
                                            · intro w'
                                              go_simp
                                              with_reducible rfl
                                            rotate_left
                                            · simp only [Act.put, List.setIfInBounds_toArray, List.set_cons_zero, List.set_cons_succ, i64_w, i32_w]
                                              rfl
                                            refine pure_ (i := 18) (N := some 179) (v := ?_) (a' := ?_) #[true, true, true, true, true, true, true, true, true, true, true, false, true, true, true, false, true, true, true, false, false, false, false, false, false] rfl rfl (any_of HT_.out (by kernel_rfl)) (fun _ _ _ h => h) (Or.inl ⟨by rfl, ?_⟩) ?_ ?_
                                            rotate_left
                                            · intro w'
                                              go_simp
                                              with_reducible rfl
                                            rotate_left
                                            · simp only [Act.put, List.setIfInBounds_toArray, List.set_cons_zero, List.set_cons_succ, i64_w, i32_w]
                                              rfl
                                            refine take_ (i := 11) (N := some 172) (v := ?_) (a' := ?_) #[true, true, true, true, true, true, true, true, true, true, true, true, true, true, true, false, true, true, true, false, false, false, false, false, false] rfl rfl (take_ofW HT_.out HW_.out (by kernel_rfl)) (fun _ _ _ h => h) (Or.inl ⟨by rfl, ?_⟩) hHeld ?_ ?_
                                            rotate_left
                                            · rintro w' ⟨s0, s1, s2⟩
                                              go_simp
                                              with_reducible rfl
                                            rotate_left
                                            · simp only [Act.put, List.setIfInBounds_toArray, List.set_cons_zero, List.set_cons_succ, i64_w, i32_w]
                                              rfl
                                            refine take_ (i := 15) (N := some 176) (v := ?_) (a' := ?_) #[true, true, true, true, true, true, true, true, true, true, true, true, true, true, true, true, true, true, true, false, false, false, false, false, false] rfl rfl (take_ofW HT_.out HW_.out (by kernel_rfl)) (fun _ _ _ h => h) (Or.inl ⟨by rfl, ?_⟩) hHeld ?_ ?_
                                            rotate_left
                                            · rintro w' ⟨s0, s1, s2⟩
                                              go_simp
                                              with_reducible rfl
                                            rotate_left
                                            · simp only [Act.put, List.setIfInBounds_toArray, List.set_cons_zero, List.set_cons_succ, i64_w, i32_w]
                                              rfl
                                            refine take_ (i := 19) (N := some 180) (v := ?_) (a' := ?_) #[true, true, true, true, true, true, true, true, true, true, true, true, true, true, true, true, true, true, true, true, false, false, false, false, false] rfl rfl (take_ofW HT_.out HW_.out (by kernel_rfl)) (fun _ _ _ h => h) (Or.inl ⟨by rfl, ?_⟩) hHeld ?_ ?_
                                            rotate_left
                                            · rintro w' ⟨s0, s1, s2⟩
                                              go_simp
                                              with_reducible rfl
                                            rotate_left
                                            · simp only [Act.put, List.setIfInBounds_toArray, List.set_cons_zero, List.set_cons_succ, i64_w, i32_w]
                                              rfl
                                            refine pure_ (i := 20) (N := some 181) (v := ?_) (a' := ?_) #[true, true, true, true, true, true, true, true, true, true, true, true, true, true, true, true, true, true, true, true, true, false, false, false, false] rfl rfl (any_of HT_.out (by kernel_rfl)) (fun _ _ _ h => h) (Or.inl ⟨by rfl, ?_⟩) ?_ ?_
                                            rotate_left
                                            · intro w'
                                              go_simp
                                              with_reducible rfl
                                            rotate_left
                                            · simp only [Act.put, List.setIfInBounds_toArray, List.set_cons_zero, List.set_cons_succ, i64_w, i32_w]
                                              rfl
                                            refine pure_ (i := 21) (N := some 182) (v := ?_) (a' := ?_) #[true, true, true, true, true, true, true, true, true, true, true, true, true, true, true, true, true, true, true, true, true, true, false, false, false] rfl rfl (any_of HT_.out (by kernel_rfl)) (fun _ _ _ h => h) (Or.inl ⟨by rfl, ?_⟩) ?_ ?_
                                            rotate_left
                                            · intro w'
                                              go_simp
                                              with_reducible rfl
                                            rotate_left
                                            · simp only [Act.put, List.setIfInBounds_toArray, List.set_cons_zero, List.set_cons_succ, i64_w, i32_w]
                                              rfl
                                            refine one_ (i := 22) (N := some 183) #[true, true, true, true, true, true, true, true, true, true, true, true, true, true, true, true, true, true, true, true, true, true, true, false, false] rfl rfl (one_of HT_.out (by kernel_rfl)) (by decide) (fun K hK => ?_)
                                            refine goes_ Try.func23 (by kernel_rfl) rfl #[.int .i64 x17_4, .int .i64 (rd t115 (rd t123 x17_4)), .int .i64 (wrap64 ((wrap64 ((rd t115 (rd t123 x17_4)) + (rd t110 (rd t123 x17_4)))) - 1))] (by rfl) rfl rfl (by (try simp only [List.map_toArray, List.map_cons, List.map_nil]); first | done | rfl | (simp only [List.length_drop, List.length_take]; rfl)) ?_
                                            with_reducible refine (r00_Lies.calls x17_4 (rd t115 (rd t123 x17_4)) (wrap64 ((wrap64 ((rd t115 (rd t123 x17_4)) + (rd t110 (rd t123 x17_4)))) - 1)) true _ A77.out).mono ?_
                                            rintro e w' ⟨rfl, ⟨nd, rfl⟩⟩
                                            refine ⟨_, rfl, ?_⟩
                                            refine hK.out _ _ ⟨hHeld.1, hHeld.2.1, hHeld.2.2⟩ (fun hHeld => ?_)
                                            clear hK K
                                            refine norm_ (a' := ?_) ?_ ?_
                                            rotate_left
                                            · show Act.put _ (some 183) _ = _
                                              simp only [Act.put, List.setIfInBounds_toArray, List.set_cons_zero, List.set_cons_succ, i64_w, i32_w]
                                              rfl
                                            refine pure_ (i := 23) (N := some 184) (v := ?_) (a' := ?_) #[true, true, true, true, true, true, true, true, true, true, true, true, true, true, true, true, true, true, true, true, true, true, true, true, false] rfl rfl (any_of HT_.out (by kernel_rfl)) (fun _ _ _ h => h) (Or.inl ⟨by rfl, ?_⟩) ?_ ?_
                                            rotate_left
                                            · intro w'
                                              go_simp
                                              with_reducible rfl
                                            rotate_left
                                            · simp only [Act.put, List.setIfInBounds_toArray, List.set_cons_zero, List.set_cons_succ, i64_w, i32_w]
                                              rfl
                                            refine pure_ (i := 24) (N := some 185) (v := ?_) (a' := ?_) #[true, true, true, true, true, true, true, true, true, true, true, true, true, true, true, true, true, true, true, true, true, true, true, true, true] rfl rfl (any_of HT_.out (by kernel_rfl)) (fun _ _ _ h => h) (Or.inl ⟨by rfl, ?_⟩) ?_ ?_
                                            rotate_left
                                            · intro w'
                                              go_simp
                                              with_reducible rfl
                                            rotate_left
                                            · simp only [Act.put, List.setIfInBounds_toArray, List.set_cons_zero, List.set_cons_succ, i64_w, i32_w]
                                              rfl
                                            refine done_ (done_of HT_.out (by kernel_rfl)) ?_
                                            try go_wp2
                                            go_roundg k4
                                            case measure => have := HJ6.out; have := HJ31.out; have := HK3.out; have := HK4.out; omega
                                            case rel => exact ⟨(wrap64 (x17_4 + 1)), (by first | rfl | (simp; done) | (simp [*]; done)), H', ⟨by have := HJ6.out; have := HJ31.out; have := HK3.out; have := HK4.out; omega⟩, ⟨by (with_reducible repeat (first | apply Kd.R_alloc | apply Kd.R_drewN | apply Kd.R_drew)); exact HO_3.out⟩, ⟨by (with_reducible repeat (first | apply Kd.V_alloc | apply Kd.V_drewN | apply Kd.V_drew)); exact HO_6.out⟩, ⟨by (with_reducible repeat (first | apply Kd.V_alloc | apply Kd.V_drewN | apply Kd.V_drew)); exact HO_8.out⟩, ⟨by (with_reducible repeat (first | apply Kd.V_alloc | apply Kd.V_drewN | apply Kd.V_drew)); exact HO_10.out⟩, ⟨by (with_reducible repeat (first | apply Kd.R_alloc | apply Kd.R_drewN | apply Kd.R_drew)); exact HO_15.out⟩, ⟨by repeat (first | (with_reducible first | exact HB.out | apply below_alloc | apply pw_below_drewN | apply below_drew1) | exact HB.out)⟩⟩
                                          · replace c78 := Bool.eq_false_iff.mpr c78
                                            subst c78
                                            have H1 : (none) = some r := by rw [if_neg (show ¬ (false = true) by decide)] at H; exact H
                                            clear H
                                            have H := H1
                                            clear H1
                                            exact absurd H (by simp)
                                        · rw [if_neg c76] at H
                                          exact absurd H (by simp)
                                      · rw [if_neg c75] at H
                                        exact absurd H (by simp)
                                    · rw [if_neg c74] at H
                                      exact absurd H (by simp)
                                  · replace c73 := Bool.eq_false_iff.mpr c73
                                    subst c73
                                    have H1 : (none) = some r := by rw [if_neg (show ¬ (false = true) by decide)] at H; exact H
                                    clear H
                                    have H := H1
                                    clear H1
                                    exact absurd H (by simp)
                                · rw [if_neg c71] at H
                                  exact absurd H (by simp)
                              · rw [if_neg c70] at H
                                exact absurd H (by simp)
                            · rw [if_neg c69] at H
                              have c69b0 : decide (x17_4 < t113) = false := decide_eq_false c69
                              clear c69
                              replace H := Option.bind_eq_some_iff.mp H
                              obtain ⟨t151, A800, H⟩ := H
                              replace H : (if t151 = true then ((Hand.law_cut.f).bind fun t152 => (some t152)) else (none)) = some r := H
                              have A80 := Aside0.mk A800
                              clear A800
                              by_cases c81 : t151 = true
                              · subst c81
                                have H1 : ((Hand.law_cut.f).bind fun t152 => (some t152)) = some r := by rw [if_pos rfl] at H; exact H
                                clear H
                                have H := H1
                                clear H1
                                replace H := Option.bind_eq_some_iff.mp H
                                obtain ⟨t152, A820, H⟩ := H
                                replace H : (some t152) = some r := H
                                have A82 := Aside0.mk A820
                                clear A820
                                obtain rfl := Option.some.inj H
                                obtain ⟨Ao83, co83, eo83⟩ := Kd.R_slice HO_15.out
                                subst eo83
                                go_wp2_with (first | ((with_reducible refine gate_callee (f := 22) rfl ?_); refine goesL_ (some 188) rfl rfl Try.func22 (by kernel_rfl) rfl #[.slice Ao83 x15_3.length co83, .slice Ao35 t119.length co35] rfl (by (try simp only [List.map_toArray, List.map_cons, List.map_nil]); first | done | rfl | (simp only [List.length_drop, List.length_take]; rfl)) ?_; (with_reducible refine (Hand.Eq_.calls _ _ x15_3 _ _ t119 true _ ?side1 ?side2 ?side3 ?side4 A80.out).mono ?_); (case side1 => repeat (first | exact (Kd.R_reads' HO_15.out).2.2 | (with_reducible refine Kd.C_alloc ?_ _) | (with_reducible refine Kd.C_drewN ?_ _) | (with_reducible refine Kd.C_drew ?_))); (case side2 => exact (Kd.R_reads' HO_15.out).2.1); (case side3 => repeat (first | exact (Kd.V_reads' HO_8.out).2.2 | (with_reducible refine Kd.C_alloc ?_ _) | (with_reducible refine Kd.C_drewN ?_ _) | (with_reducible refine Kd.C_drew ?_))); (case side4 => exact (Kd.V_reads' HO_8.out).2.1); rintro e w' ⟨rfl, ⟨nd, rfl⟩⟩; refine ⟨_, rfl, ?_⟩) | (go_at_call 13; (with_reducible refine (Hand.law_cut.calls  t152 _ A82.out).mono ?_); rintro e w84 ⟨rfl, hb⟩; have n0_ := Aside0.mk (Kd.R_below (by (with_reducible repeat (first | apply Kd.R_alloc | apply Kd.R_drewN | apply Kd.R_drew)); exact HO_3.out) hb); have n1_ := Aside0.mk (Kd.V_below (by (with_reducible repeat (first | apply Kd.V_alloc | apply Kd.V_drewN | apply Kd.V_drew)); exact HO_6.out) hb); have n2_ := Aside0.mk (Kd.V_below (by (with_reducible repeat (first | apply Kd.V_alloc | apply Kd.V_drewN | apply Kd.V_drew)); exact HO_8.out) hb); have n3_ := Aside0.mk (Kd.V_below (by (with_reducible repeat (first | apply Kd.V_alloc | apply Kd.V_drewN | apply Kd.V_drew)); exact HO_10.out) hb); have n4_ := Aside0.mk (Kd.R_below (by (with_reducible repeat (first | apply Kd.R_alloc | apply Kd.R_drewN | apply Kd.R_drew)); exact HO_15.out) hb); have n5_ := Aside0.mk (below_step (by repeat (first | (with_reducible first | exact HB.out | apply below_alloc | apply pw_below_drewN | apply below_drew1) | exact HB.out)) hb); clear HO_3; clear HO_6; clear HO_8; clear HO_10; clear HO_15; clear HB; have HO_3 := n0_; have HO_6 := n1_; have HO_8 := n2_; have HO_10 := n3_; have HO_15 := n4_; have HB := n5_; clear n0_ n1_ n2_ n3_ n4_ n5_; (try clear hb); (try clear hb2); (try clear hk); (try clear hi)))
                                go_ret
                                exact ⟨by first | rfl | (simp [errW_none, errW_some] <;> rfl) | (simp only [← hji54]; first | rfl | (simp [errW_none, errW_some] <;> rfl)) | (simp [*, errW_none, errW_some] <;> rfl), by repeat (first | (with_reducible first | exact HB.out | apply below_alloc | apply pw_below_drewN | apply below_drew1) | exact HB.out)⟩
                              · replace c81 := Bool.eq_false_iff.mpr c81
                                subst c81
                                have H1 : (none) = some r := by rw [if_neg (show ¬ (false = true) by decide)] at H; exact H
                                clear H
                                have H := H1
                                clear H1
                                exact absurd H (by simp)
                · rw [if_neg c56] at H
                  exact absurd H (by simp)
              · rw [if_neg c55] at H
                exact absurd H (by simp)

/-- THE ONE PURE STATEMENT of w02_SegThere: yours. -/
def w02_SegThere.Pure : Prop := ∀ (l0 : List Int), l0.length ≤ maxLen → l0.length * 8 ≤ 140737488351232 → (∀ x ∈ l0, (Lit.int .i64 x).wf = true) → ∃ k, w02_SegThere.f k l0 = some true
theorem w02_SegThere.walk (P : w02_SegThere.Pure) (a0 : Option Addr) (len0 cap0 : Nat) (z0 : List Int) (w : World) (w0 : (a0 = none ∧ len0 = 0 ∧ cap0 = 0 ∧ z0 = []) ∨ ∃ x, a0 = some x ∧ len0 ≤ cap0 ∧ cap0 ≤ maxLen ∧ z0.length = cap0 ∧ (∀ i, i < z0.length → w.cell? (x.add i) = some (.int .i64 (z0.getD i 0))) ∧ ∀ n ∈ z0, (Lit.int .i64 n).wf = true) (y0 : len0 * 8 ≤ 140737488351232) :
    Calls Try.prog 7 #[.slice a0 len0 cap0] w fun e w' => e = .returned (.bool true) ∧ Below w.heap.size w w' := by
  obtain ⟨l0, rfl, hr0, hm0, hw0, hc0⟩ := ReadsInt.ofRowC w0
  obtain ⟨k, h⟩ := P l0 hm0 y0 hw0
  refine (w02_SegThere.calls k _ _ l0 true w (Kd.C_of_reads (d := (0 : Int)) (h1 := fun _ => rfl) hr0) hc0 h).mono ?_
  rintro e w' ⟨rfl, hd⟩
  exact ⟨rfl, hd⟩

end Go.Proofs.Ythalgcpohnknbaa.PSegThere
