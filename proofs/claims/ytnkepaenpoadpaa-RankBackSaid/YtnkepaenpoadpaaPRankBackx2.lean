-- Text of this session's own program (wip/tools: mkprint.py, pr.py) over hand-proved contracts. Not trusted: Lean checks it.
import Derived.Test.YtnkepaenpoadpaaPRankBackx0
import Derived.Test.YtnkepaenpoadpaaPRankBackx1
namespace Go.Proofs.Ytnkepaenpoadpaa.PRankBack
open Go.RowKit Go.Proofs.YtnkepaenpoadpaaW.PrintWords Go.Proofs.YtnkepaenpoadpaaW.PrintLast Go.Proofs.YtnkepaenpoadpaaW.PrintMore
attribute [local go_sem] max2_int min2_int max_two min_two max_three min_three max_four min_four   -- for this text's walks alone
set_option linter.unusedVariables false
set_option linter.unusedSimpArgs false

/-! ### w07_RankBack: function 7 -/
def w07_RankBack.j0 : Nat → List Int → List Int → List Int → Bool → Option (Bool)
  | 0, _, _, _, _ => none
  | k + 1, x10, x11, x12, x90 => if x90 = true then (none) else ((Hand.rCompose.f x10 x11).bind fun bt173 => ((Hand.rCompose.f x11 x12).bind fun bt177 => ((Hand.rCompose.f bt173.1 x12).bind fun bt181 => ((Hand.rCompose.f x10 bt177.1).bind fun bt185 => (if bt173.2 = 0 then (if bt177.2 = 0 then (if bt181.2 = 0 then (if bt185.2 = 0 then ((Hand.Eq_.f bt181.1 bt185.1).bind fun t189 => (if t189 = true then ((Hand.rCheck.f bt173.1).bind fun t190 => (if t190 = 0 then ((Hand.law_ranked.f).bind fun t191 => (some t191)) else (none))) else (none))) else (none)) else (none)) else (none)) else (none))))))
def w07_RankBack.f (k : Nat) (a0 : Int) (l1 : List Int) (l2 : List Int) (l3 : List Int) : Option (Bool) := (r00_Turn.f a0 41).bind fun t141 => ((w07_orderOf.f k l1 t141).bind fun t142 => ((w07_orderOf.f k l2 t141).bind fun t145 => ((w07_orderOf.f k l3 t141).bind fun t148 => ((Hand.rInverse.f t142).bind fun bt151 => ((Hand.rInverse.f bt151.1).bind fun bt155 => ((Hand.rCompose.f t142 bt151.1).bind fun bt159 => ((Hand.rCompose.f bt151.1 t142).bind fun bt163 => (if bt151.2 = 0 then (if bt155.2 = 0 then (if bt159.2 = 0 then (if bt163.2 = 0 then ((Hand.Eq_.f bt155.1 t142).bind fun t167 => (if t167 = true then ((r00_Upto.f k t141).bind fun t168 => ((Hand.Eq_.f bt159.1 t168).bind fun t171 => (if t171 = true then ((Hand.Eq_.f bt163.1 bt159.1).bind fun t172 => (w07_RankBack.j0 k t142 t145 t148 (!t172))) else (w07_RankBack.j0 k t142 t145 t148 true)))) else (w07_RankBack.j0 k t142 t145 t148 true))) else (w07_RankBack.j0 k t142 t145 t148 true)) else (w07_RankBack.j0 k t142 t145 t148 true)) else (w07_RankBack.j0 k t142 t145 t148 true)) else (w07_RankBack.j0 k t142 t145 t148 true)))))))))
theorem w07_RankBack.j0_true : ∀ (k : Nat) (y0 : List Int) (y1 : List Int) (y2 : List Int), w07_RankBack.j0 k y0 y1 y2 true = none := by
  intro k y0 y1 y2
  cases k <;> rfl
theorem w07_RankBack.mono_l : ∀ k, (∀ y0 y1 y2 y3, LeO (w07_RankBack.j0 k y0 y1 y2 y3) (w07_RankBack.j0 (k + 1) y0 y1 y2 y3))
  | 0 => fun _ _ _ _ r h => by simp [w07_RankBack.j0] at h
  | k + 1 => by
    have ih0 := w07_RankBack.mono_l k
    · intro y0 y1 y2 y3
      unfold w07_RankBack.j0
      repeat' first
      | (with_reducible exact ih0 _ _ _ _)
      | (with_reducible exact r00_Upto.mono _ _)
      | (with_reducible exact w07_orderOf.mono _ _ _)
      | (with_reducible exact LeO.refl _)
      | (with_reducible exact LeO.none _)
      | (with_reducible refine LeO.ite ?_ ?_)
      | (with_reducible refine LeO.bind ?_ (fun _ => ?_))
      | exact ih0 _ _ _ _
      | exact r00_Upto.mono _ _
      | exact w07_orderOf.mono _ _ _
      | exact LeO.none _
      | refine LeO.ite ?_ ?_
      | refine LeO.bind ?_ (fun _ => ?_)
theorem w07_RankBack.mono : ∀ a0 a1 a2 a3 k, LeO (w07_RankBack.f k a0 a1 a2 a3) (w07_RankBack.f (k + 1) a0 a1 a2 a3) := by
  intro a0 a1 a2 a3 k
  have ih0 := w07_RankBack.mono_l k
  unfold w07_RankBack.f
  repeat' first
      | (with_reducible exact ih0 _ _ _ _)
      | (with_reducible exact r00_Upto.mono _ _)
      | (with_reducible exact w07_orderOf.mono _ _ _)
      | (with_reducible exact LeO.refl _)
      | (with_reducible exact LeO.none _)
      | (with_reducible refine LeO.ite ?_ ?_)
      | (with_reducible refine LeO.bind ?_ (fun _ => ?_))
      | exact ih0 _ _ _ _
      | exact r00_Upto.mono _ _
      | exact w07_orderOf.mono _ _ _
      | exact LeO.none _
      | refine LeO.ite ?_ ?_
      | refine LeO.bind ?_ (fun _ => ?_)
set_option maxHeartbeats 8000000 in
set_option maxRecDepth 100000 in
theorem w07_RankBack.calls (k : Nat) (a0 : Int) (A1 : Option Addr) (c1 : Nat) (l1 : List Int) (A2 : Option Addr) (c2 : Nat) (l2 : List Int) (A3 : Option Addr) (c3 : Nat) (l3 : List Int) (r : Bool) (w : World) (hr1 : Kd.C (Kd.int .i64) w A1 l1.length l1) (hc1 : l1.length ≤ c1) (hr2 : Kd.C (Kd.int .i64) w A2 l2.length l2) (hc2 : l2.length ≤ c2) (hr3 : Kd.C (Kd.int .i64) w A3 l3.length l3) (hc3 : l3.length ≤ c3) (h : w07_RankBack.f k a0 l1 l2 l3 = some r) :
    Calls Try.prog 7 #[.int .i64 a0, .slice A1 l1.length c1, .slice A2 l2.length c2, .slice A3 l3.length c3] w fun e w' => e = .returned (.bool r) ∧ Below w.heap.size w w' := by
  have HR1 := Aside0.mk hr1
  have HC1 := Aside0.mk hc1
  clear hr1 hc1
  have HR2 := Aside0.mk hr2
  have HC2 := Aside0.mk hc2
  clear hr2 hc2
  have HR3 := Aside0.mk hr3
  have HC3 := Aside0.mk hc3
  clear hr3 hc3
  have HB := Aside0.mk (Below.refl w.heap.size w)
  have H : ((r00_Turn.f a0 41).bind fun t141 => ((w07_orderOf.f k l1 t141).bind fun t142 => ((w07_orderOf.f k l2 t141).bind fun t145 => ((w07_orderOf.f k l3 t141).bind fun t148 => ((Hand.rInverse.f t142).bind fun bt151 => ((Hand.rInverse.f bt151.1).bind fun bt155 => ((Hand.rCompose.f t142 bt151.1).bind fun bt159 => ((Hand.rCompose.f bt151.1 t142).bind fun bt163 => (if bt151.2 = 0 then (if bt155.2 = 0 then (if bt159.2 = 0 then (if bt163.2 = 0 then ((Hand.Eq_.f bt155.1 t142).bind fun t167 => (if t167 = true then ((r00_Upto.f k t141).bind fun t168 => ((Hand.Eq_.f bt159.1 t168).bind fun t171 => (if t171 = true then ((Hand.Eq_.f bt163.1 bt159.1).bind fun t172 => (w07_RankBack.j0 k t142 t145 t148 (!t172))) else (w07_RankBack.j0 k t142 t145 t148 true)))) else (w07_RankBack.j0 k t142 t145 t148 true))) else (w07_RankBack.j0 k t142 t145 t148 true)) else (w07_RankBack.j0 k t142 t145 t148 true)) else (w07_RankBack.j0 k t142 t145 t148 true)) else (w07_RankBack.j0 k t142 t145 t148 true)))))))))) = some r := h
  clear h
  replace H := Option.bind_eq_some_iff.mp H
  obtain ⟨t141, A50, H⟩ := H
  replace H : ((w07_orderOf.f k l1 t141).bind fun t142 => ((w07_orderOf.f k l2 t141).bind fun t145 => ((w07_orderOf.f k l3 t141).bind fun t148 => ((Hand.rInverse.f t142).bind fun bt151 => ((Hand.rInverse.f bt151.1).bind fun bt155 => ((Hand.rCompose.f t142 bt151.1).bind fun bt159 => ((Hand.rCompose.f bt151.1 t142).bind fun bt163 => (if bt151.2 = 0 then (if bt155.2 = 0 then (if bt159.2 = 0 then (if bt163.2 = 0 then ((Hand.Eq_.f bt155.1 t142).bind fun t167 => (if t167 = true then ((r00_Upto.f k t141).bind fun t168 => ((Hand.Eq_.f bt159.1 t168).bind fun t171 => (if t171 = true then ((Hand.Eq_.f bt163.1 bt159.1).bind fun t172 => (w07_RankBack.j0 k t142 t145 t148 (!t172))) else (w07_RankBack.j0 k t142 t145 t148 true)))) else (w07_RankBack.j0 k t142 t145 t148 true))) else (w07_RankBack.j0 k t142 t145 t148 true)) else (w07_RankBack.j0 k t142 t145 t148 true)) else (w07_RankBack.j0 k t142 t145 t148 true)) else (w07_RankBack.j0 k t142 t145 t148 true))))))))) = some r := H
  have A5 := Aside0.mk A50
  clear A50
  replace H := Option.bind_eq_some_iff.mp H
  obtain ⟨t142, A60, H⟩ := H
  replace H : ((w07_orderOf.f k l2 t141).bind fun t145 => ((w07_orderOf.f k l3 t141).bind fun t148 => ((Hand.rInverse.f t142).bind fun bt151 => ((Hand.rInverse.f bt151.1).bind fun bt155 => ((Hand.rCompose.f t142 bt151.1).bind fun bt159 => ((Hand.rCompose.f bt151.1 t142).bind fun bt163 => (if bt151.2 = 0 then (if bt155.2 = 0 then (if bt159.2 = 0 then (if bt163.2 = 0 then ((Hand.Eq_.f bt155.1 t142).bind fun t167 => (if t167 = true then ((r00_Upto.f k t141).bind fun t168 => ((Hand.Eq_.f bt159.1 t168).bind fun t171 => (if t171 = true then ((Hand.Eq_.f bt163.1 bt159.1).bind fun t172 => (w07_RankBack.j0 k t142 t145 t148 (!t172))) else (w07_RankBack.j0 k t142 t145 t148 true)))) else (w07_RankBack.j0 k t142 t145 t148 true))) else (w07_RankBack.j0 k t142 t145 t148 true)) else (w07_RankBack.j0 k t142 t145 t148 true)) else (w07_RankBack.j0 k t142 t145 t148 true)) else (w07_RankBack.j0 k t142 t145 t148 true)))))))) = some r := H
  have A6 := Aside0.mk A60
  clear A60
  replace H := Option.bind_eq_some_iff.mp H
  obtain ⟨t145, A70, H⟩ := H
  replace H : ((w07_orderOf.f k l3 t141).bind fun t148 => ((Hand.rInverse.f t142).bind fun bt151 => ((Hand.rInverse.f bt151.1).bind fun bt155 => ((Hand.rCompose.f t142 bt151.1).bind fun bt159 => ((Hand.rCompose.f bt151.1 t142).bind fun bt163 => (if bt151.2 = 0 then (if bt155.2 = 0 then (if bt159.2 = 0 then (if bt163.2 = 0 then ((Hand.Eq_.f bt155.1 t142).bind fun t167 => (if t167 = true then ((r00_Upto.f k t141).bind fun t168 => ((Hand.Eq_.f bt159.1 t168).bind fun t171 => (if t171 = true then ((Hand.Eq_.f bt163.1 bt159.1).bind fun t172 => (w07_RankBack.j0 k t142 t145 t148 (!t172))) else (w07_RankBack.j0 k t142 t145 t148 true)))) else (w07_RankBack.j0 k t142 t145 t148 true))) else (w07_RankBack.j0 k t142 t145 t148 true)) else (w07_RankBack.j0 k t142 t145 t148 true)) else (w07_RankBack.j0 k t142 t145 t148 true)) else (w07_RankBack.j0 k t142 t145 t148 true))))))) = some r := H
  have A7 := Aside0.mk A70
  clear A70
  replace H := Option.bind_eq_some_iff.mp H
  obtain ⟨t148, A80, H⟩ := H
  replace H : ((Hand.rInverse.f t142).bind fun bt151 => ((Hand.rInverse.f bt151.1).bind fun bt155 => ((Hand.rCompose.f t142 bt151.1).bind fun bt159 => ((Hand.rCompose.f bt151.1 t142).bind fun bt163 => (if bt151.2 = 0 then (if bt155.2 = 0 then (if bt159.2 = 0 then (if bt163.2 = 0 then ((Hand.Eq_.f bt155.1 t142).bind fun t167 => (if t167 = true then ((r00_Upto.f k t141).bind fun t168 => ((Hand.Eq_.f bt159.1 t168).bind fun t171 => (if t171 = true then ((Hand.Eq_.f bt163.1 bt159.1).bind fun t172 => (w07_RankBack.j0 k t142 t145 t148 (!t172))) else (w07_RankBack.j0 k t142 t145 t148 true)))) else (w07_RankBack.j0 k t142 t145 t148 true))) else (w07_RankBack.j0 k t142 t145 t148 true)) else (w07_RankBack.j0 k t142 t145 t148 true)) else (w07_RankBack.j0 k t142 t145 t148 true)) else (w07_RankBack.j0 k t142 t145 t148 true)))))) = some r := H
  have A8 := Aside0.mk A80
  clear A80
  replace H := Option.bind_eq_some_iff.mp H
  obtain ⟨⟨t151, t154⟩, A90, H⟩ := H
  replace H : ((Hand.rInverse.f t151).bind fun bt155 => ((Hand.rCompose.f t142 t151).bind fun bt159 => ((Hand.rCompose.f t151 t142).bind fun bt163 => (if t154 = 0 then (if bt155.2 = 0 then (if bt159.2 = 0 then (if bt163.2 = 0 then ((Hand.Eq_.f bt155.1 t142).bind fun t167 => (if t167 = true then ((r00_Upto.f k t141).bind fun t168 => ((Hand.Eq_.f bt159.1 t168).bind fun t171 => (if t171 = true then ((Hand.Eq_.f bt163.1 bt159.1).bind fun t172 => (w07_RankBack.j0 k t142 t145 t148 (!t172))) else (w07_RankBack.j0 k t142 t145 t148 true)))) else (w07_RankBack.j0 k t142 t145 t148 true))) else (w07_RankBack.j0 k t142 t145 t148 true)) else (w07_RankBack.j0 k t142 t145 t148 true)) else (w07_RankBack.j0 k t142 t145 t148 true)) else (w07_RankBack.j0 k t142 t145 t148 true))))) = some r := H
  have A9 := Aside0.mk A90
  clear A90
  replace H := Option.bind_eq_some_iff.mp H
  obtain ⟨⟨t155, t158⟩, A100, H⟩ := H
  replace H : ((Hand.rCompose.f t142 t151).bind fun bt159 => ((Hand.rCompose.f t151 t142).bind fun bt163 => (if t154 = 0 then (if t158 = 0 then (if bt159.2 = 0 then (if bt163.2 = 0 then ((Hand.Eq_.f t155 t142).bind fun t167 => (if t167 = true then ((r00_Upto.f k t141).bind fun t168 => ((Hand.Eq_.f bt159.1 t168).bind fun t171 => (if t171 = true then ((Hand.Eq_.f bt163.1 bt159.1).bind fun t172 => (w07_RankBack.j0 k t142 t145 t148 (!t172))) else (w07_RankBack.j0 k t142 t145 t148 true)))) else (w07_RankBack.j0 k t142 t145 t148 true))) else (w07_RankBack.j0 k t142 t145 t148 true)) else (w07_RankBack.j0 k t142 t145 t148 true)) else (w07_RankBack.j0 k t142 t145 t148 true)) else (w07_RankBack.j0 k t142 t145 t148 true)))) = some r := H
  have A10 := Aside0.mk A100
  clear A100
  replace H := Option.bind_eq_some_iff.mp H
  obtain ⟨⟨t159, t162⟩, A110, H⟩ := H
  replace H : ((Hand.rCompose.f t151 t142).bind fun bt163 => (if t154 = 0 then (if t158 = 0 then (if t162 = 0 then (if bt163.2 = 0 then ((Hand.Eq_.f t155 t142).bind fun t167 => (if t167 = true then ((r00_Upto.f k t141).bind fun t168 => ((Hand.Eq_.f t159 t168).bind fun t171 => (if t171 = true then ((Hand.Eq_.f bt163.1 t159).bind fun t172 => (w07_RankBack.j0 k t142 t145 t148 (!t172))) else (w07_RankBack.j0 k t142 t145 t148 true)))) else (w07_RankBack.j0 k t142 t145 t148 true))) else (w07_RankBack.j0 k t142 t145 t148 true)) else (w07_RankBack.j0 k t142 t145 t148 true)) else (w07_RankBack.j0 k t142 t145 t148 true)) else (w07_RankBack.j0 k t142 t145 t148 true))) = some r := H
  have A11 := Aside0.mk A110
  clear A110
  replace H := Option.bind_eq_some_iff.mp H
  obtain ⟨⟨t163, t166⟩, A120, H⟩ := H
  replace H : (if t154 = 0 then (if t158 = 0 then (if t162 = 0 then (if t166 = 0 then ((Hand.Eq_.f t155 t142).bind fun t167 => (if t167 = true then ((r00_Upto.f k t141).bind fun t168 => ((Hand.Eq_.f t159 t168).bind fun t171 => (if t171 = true then ((Hand.Eq_.f t163 t159).bind fun t172 => (w07_RankBack.j0 k t142 t145 t148 (!t172))) else (w07_RankBack.j0 k t142 t145 t148 true)))) else (w07_RankBack.j0 k t142 t145 t148 true))) else (w07_RankBack.j0 k t142 t145 t148 true)) else (w07_RankBack.j0 k t142 t145 t148 true)) else (w07_RankBack.j0 k t142 t145 t148 true)) else (w07_RankBack.j0 k t142 t145 t148 true)) = some r := H
  have A12 := Aside0.mk A120
  clear A120
  have HC13 := Aside0.mk H
  clear H
  go_enter Try.func7, Try.ntmps7
  go_upto_region 7 with (first | ((with_reducible refine gate_callee (f := 33) rfl ?_); refine goesL_ (some 26) rfl rfl Try.func33 (by kernel_rfl) rfl #[.int .i64 a0, .int .i64 41] rfl (by (try simp only [List.map_toArray, List.map_cons, List.map_nil]); first | done | rfl | (simp only [List.length_drop, List.length_take]; rfl)) ?_; (with_reducible refine (r00_Turn.calls a0 41 t141 _ A5.out).mono ?_); rintro e w' ⟨rfl, ⟨nd, rfl⟩⟩; refine ⟨_, rfl, ?_⟩) | ((with_reducible refine gate_callee (f := 34) rfl ?_); refine goesL_ (some 29) rfl rfl Try.func34 (by kernel_rfl) rfl #[.slice A1 l1.length c1, .int .i64 t141] rfl (by (try simp only [List.map_toArray, List.map_cons, List.map_nil]); first | done | rfl | (simp only [List.length_drop, List.length_take]; rfl)) ?_; (with_reducible refine (w07_orderOf.calls k _ _ l1 t141 t142 _ ?side1 ?side2 A6.out).mono ?_); (case side1 => repeat (first | exact HR1.out | (with_reducible refine Kd.C_alloc ?_ _) | (with_reducible refine Kd.C_drewN ?_ _) | (with_reducible refine Kd.C_drew ?_))); (case side2 => exact HC1.out); rintro e w14 ⟨v143, rfl, ho0, hb⟩; refine ⟨_, rfl, ?_⟩; have n0_ := Aside0.mk (Kd.R_lower ho0 (below_size (by repeat (first | (with_reducible first | exact HB.out | apply below_alloc | apply pw_below_drewN | apply below_drew1) | exact HB.out)))); have n1_ := Aside0.mk (below_step (by repeat (first | (with_reducible first | exact HB.out | apply below_alloc | apply pw_below_drewN | apply below_drew1) | exact HB.out)) hb); clear HB; have HO144 := n0_; have HB := n1_; clear n0_ n1_; (try clear hb); (try clear hb2); (try clear hk); (try clear hi); (try clear ho0)) | ((with_reducible refine gate_callee (f := 34) rfl ?_); refine goesL_ (some 32) rfl rfl Try.func34 (by kernel_rfl) rfl #[.slice A2 l2.length c2, .int .i64 t141] rfl (by (try simp only [List.map_toArray, List.map_cons, List.map_nil]); first | done | rfl | (simp only [List.length_drop, List.length_take]; rfl)) ?_; (with_reducible refine (w07_orderOf.calls k _ _ l2 t141 t145 _ ?side1 ?side2 A7.out).mono ?_); (case side1 => repeat (first | exact (Kd.C_below HR2.out HB.out) | (with_reducible refine Kd.C_alloc ?_ _) | (with_reducible refine Kd.C_drewN ?_ _) | (with_reducible refine Kd.C_drew ?_))); (case side2 => exact HC2.out); rintro e w15 ⟨v146, rfl, ho0, hb⟩; refine ⟨_, rfl, ?_⟩; have n0_ := Aside0.mk (Kd.R_elder' (by (with_reducible repeat (first | apply Kd.R_alloc | apply Kd.R_drewN | apply Kd.R_drew)); exact HO144.out) (Kd.R_base ho0) hb); have n1_ := Aside0.mk (Kd.R_lower (Kd.R_new' ho0 (Kd.R_lt (by (with_reducible repeat (first | apply Kd.R_alloc | apply Kd.R_drewN | apply Kd.R_drew)); exact HO144.out))) (below_size (by repeat (first | (with_reducible first | exact HB.out | apply below_alloc | apply pw_below_drewN | apply below_drew1) | exact HB.out)))); have n2_ := Aside0.mk (below_step (by repeat (first | (with_reducible first | exact HB.out | apply below_alloc | apply pw_below_drewN | apply below_drew1) | exact HB.out)) hb); clear HO144; clear HB; have HO144 := n0_; have HO147 := n1_; have HB := n2_; clear n0_ n1_ n2_; (try clear hb); (try clear hb2); (try clear hk); (try clear hi); (try clear ho0)) | ((with_reducible refine gate_callee (f := 34) rfl ?_); refine goesL_ (some 35) rfl rfl Try.func34 (by kernel_rfl) rfl #[.slice A3 l3.length c3, .int .i64 t141] rfl (by (try simp only [List.map_toArray, List.map_cons, List.map_nil]); first | done | rfl | (simp only [List.length_drop, List.length_take]; rfl)) ?_; (with_reducible refine (w07_orderOf.calls k _ _ l3 t141 t148 _ ?side1 ?side2 A8.out).mono ?_); (case side1 => repeat (first | exact (Kd.C_below HR3.out HB.out) | (with_reducible refine Kd.C_alloc ?_ _) | (with_reducible refine Kd.C_drewN ?_ _) | (with_reducible refine Kd.C_drew ?_))); (case side2 => exact HC3.out); rintro e w16 ⟨v149, rfl, ho0, hb⟩; refine ⟨_, rfl, ?_⟩; have n0_ := Aside0.mk (Kd.R_elder' (by (with_reducible repeat (first | apply Kd.R_alloc | apply Kd.R_drewN | apply Kd.R_drew)); exact HO144.out) (Kd.R_base ho0) hb); have n1_ := Aside0.mk (Kd.R_elder' (by (with_reducible repeat (first | apply Kd.R_alloc | apply Kd.R_drewN | apply Kd.R_drew)); exact HO147.out) (Kd.R_base ho0) hb); have n2_ := Aside0.mk (Kd.R_lower (Kd.R_new' (Kd.R_new' ho0 (Kd.R_lt (by (with_reducible repeat (first | apply Kd.R_alloc | apply Kd.R_drewN | apply Kd.R_drew)); exact HO144.out))) (Kd.R_lt (by (with_reducible repeat (first | apply Kd.R_alloc | apply Kd.R_drewN | apply Kd.R_drew)); exact HO147.out))) (below_size (by repeat (first | (with_reducible first | exact HB.out | apply below_alloc | apply pw_below_drewN | apply below_drew1) | exact HB.out)))); have n3_ := Aside0.mk (below_step (by repeat (first | (with_reducible first | exact HB.out | apply below_alloc | apply pw_below_drewN | apply below_drew1) | exact HB.out)) hb); clear HO144; clear HO147; clear HB; have HO144 := n0_; have HO147 := n1_; have HO150 := n2_; have HB := n3_; clear n0_ n1_ n2_ n3_; (try clear hb); (try clear hb2); (try clear hk); (try clear hi); (try clear ho0); obtain ⟨Ao17, co17, eo17⟩ := Kd.R_slice HO144.out; subst eo17) | ((with_reducible refine gate_callee (f := 13) rfl ?_); refine goesL_ (some 38) rfl rfl Try.func13 (by kernel_rfl) rfl #[.slice Ao17 t142.length co17] rfl (by (try simp only [List.map_toArray, List.map_cons, List.map_nil]); first | done | rfl | (simp only [List.length_drop, List.length_take]; rfl)) ?_; (with_reducible refine (Hand.rInverse.calls _ _ t142 t151 t154 _ ?side1 ?side2 A9.out).mono ?_); (case side1 => repeat (first | exact (Kd.R_reads' HO144.out).2.2 | (with_reducible refine Kd.C_alloc ?_ _) | (with_reducible refine Kd.C_drewN ?_ _) | (with_reducible refine Kd.C_drew ?_))); (case side2 => exact (Kd.R_reads' HO144.out).2.1); rintro e w18 ⟨v152, rfl, ho0, hb⟩; refine ⟨_, rfl, ?_⟩; have n0_ := Aside0.mk (Kd.R_below (by (with_reducible repeat (first | apply Kd.R_alloc | apply Kd.R_drewN | apply Kd.R_drew)); exact HO144.out) hb); have n1_ := Aside0.mk (Kd.R_below (by (with_reducible repeat (first | apply Kd.R_alloc | apply Kd.R_drewN | apply Kd.R_drew)); exact HO147.out) hb); have n2_ := Aside0.mk (Kd.R_below (by (with_reducible repeat (first | apply Kd.R_alloc | apply Kd.R_drewN | apply Kd.R_drew)); exact HO150.out) hb); have n3_ := Aside0.mk (Kd.V_lower (Kd.V_mono (ok' := fun k_ => some k_ ≠ (.slice Ao17 t142.length co17 : Value).ownBlock ∧ some k_ ≠ (v146 : Value).ownBlock ∧ some k_ ≠ (v149 : Value).ownBlock) ho0 (fun k_ hk_ => ⟨(Kd.fresh' (Kd.R_lt (by (with_reducible repeat (first | apply Kd.R_alloc | apply Kd.R_drewN | apply Kd.R_drew)); exact HO144.out)) k_ hk_), (Kd.fresh' (Kd.R_lt (by (with_reducible repeat (first | apply Kd.R_alloc | apply Kd.R_drewN | apply Kd.R_drew)); exact HO147.out)) k_ hk_), (Kd.fresh' (Kd.R_lt (by (with_reducible repeat (first | apply Kd.R_alloc | apply Kd.R_drewN | apply Kd.R_drew)); exact HO150.out)) k_ hk_)⟩)) (below_size (by repeat (first | (with_reducible first | exact HB.out | apply below_alloc | apply pw_below_drewN | apply below_drew1) | exact HB.out)))); have n4_ := Aside0.mk (below_step (by repeat (first | (with_reducible first | exact HB.out | apply below_alloc | apply pw_below_drewN | apply below_drew1) | exact HB.out)) hb); clear HO144; clear HO147; clear HO150; clear HB; have HO144 := n0_; have HO147 := n1_; have HO150 := n2_; have HO153 := n3_; have HB := n4_; clear n0_ n1_ n2_ n3_ n4_; (try clear hb); (try clear hb2); (try clear hk); (try clear hi); (try clear ho0); obtain ⟨Ao19, co19, eo19⟩ := Kd.V_slice HO153.out; subst eo19) | ((with_reducible refine gate_callee (f := 13) rfl ?_); refine goesL_ (some 43) rfl rfl Try.func13 (by kernel_rfl) rfl #[.slice Ao19 t151.length co19] rfl (by (try simp only [List.map_toArray, List.map_cons, List.map_nil]); first | done | rfl | (simp only [List.length_drop, List.length_take]; rfl)) ?_; (with_reducible refine (Hand.rInverse.calls _ _ t151 t155 t158 _ ?side1 ?side2 A10.out).mono ?_); (case side1 => repeat (first | exact (Kd.V_reads' HO153.out).2.2 | (with_reducible refine Kd.C_alloc ?_ _) | (with_reducible refine Kd.C_drewN ?_ _) | (with_reducible refine Kd.C_drew ?_))); (case side2 => exact (Kd.V_reads' HO153.out).2.1); rintro e w20 ⟨v156, rfl, ho0, hb⟩; refine ⟨_, rfl, ?_⟩; have n0_ := Aside0.mk (Kd.R_below (by (with_reducible repeat (first | apply Kd.R_alloc | apply Kd.R_drewN | apply Kd.R_drew)); exact HO144.out) hb); have n1_ := Aside0.mk (Kd.R_below (by (with_reducible repeat (first | apply Kd.R_alloc | apply Kd.R_drewN | apply Kd.R_drew)); exact HO147.out) hb); have n2_ := Aside0.mk (Kd.R_below (by (with_reducible repeat (first | apply Kd.R_alloc | apply Kd.R_drewN | apply Kd.R_drew)); exact HO150.out) hb); have n3_ := Aside0.mk (Kd.V_below (by (with_reducible repeat (first | apply Kd.V_alloc | apply Kd.V_drewN | apply Kd.V_drew)); exact HO153.out) hb); have n4_ := Aside0.mk (Kd.V_lower (Kd.V_mono (ok' := fun k_ => some k_ ≠ (.slice Ao17 t142.length co17 : Value).ownBlock ∧ some k_ ≠ (v146 : Value).ownBlock ∧ some k_ ≠ (v149 : Value).ownBlock) ho0 (fun k_ hk_ => ⟨(Kd.fresh' (Kd.R_lt (by (with_reducible repeat (first | apply Kd.R_alloc | apply Kd.R_drewN | apply Kd.R_drew)); exact HO144.out)) k_ hk_), (Kd.fresh' (Kd.R_lt (by (with_reducible repeat (first | apply Kd.R_alloc | apply Kd.R_drewN | apply Kd.R_drew)); exact HO147.out)) k_ hk_), (Kd.fresh' (Kd.R_lt (by (with_reducible repeat (first | apply Kd.R_alloc | apply Kd.R_drewN | apply Kd.R_drew)); exact HO150.out)) k_ hk_)⟩)) (below_size (by repeat (first | (with_reducible first | exact HB.out | apply below_alloc | apply pw_below_drewN | apply below_drew1) | exact HB.out)))); have n5_ := Aside0.mk (below_step (by repeat (first | (with_reducible first | exact HB.out | apply below_alloc | apply pw_below_drewN | apply below_drew1) | exact HB.out)) hb); clear HO144; clear HO147; clear HO150; clear HO153; clear HB; have HO144 := n0_; have HO147 := n1_; have HO150 := n2_; have HO153 := n3_; have HO157 := n4_; have HB := n5_; clear n0_ n1_ n2_ n3_ n4_ n5_; (try clear hb); (try clear hb2); (try clear hk); (try clear hi); (try clear ho0)) | ((with_reducible refine gate_callee (f := 15) rfl ?_); refine goesL_ (some 49) rfl rfl Try.func15 (by kernel_rfl) rfl #[.slice Ao17 t142.length co17, .slice Ao19 t151.length co19] rfl (by (try simp only [List.map_toArray, List.map_cons, List.map_nil]); first | done | rfl | (simp only [List.length_drop, List.length_take]; rfl)) ?_; (with_reducible refine (Hand.rCompose.calls _ _ t142 _ _ t151 t159 t162 _ ?side1 ?side2 ?side3 ?side4 A11.out).mono ?_); (case side1 => repeat (first | exact (Kd.R_reads' HO144.out).2.2 | (with_reducible refine Kd.C_alloc ?_ _) | (with_reducible refine Kd.C_drewN ?_ _) | (with_reducible refine Kd.C_drew ?_))); (case side2 => exact (Kd.R_reads' HO144.out).2.1); (case side3 => repeat (first | exact (Kd.V_reads' HO153.out).2.2 | (with_reducible refine Kd.C_alloc ?_ _) | (with_reducible refine Kd.C_drewN ?_ _) | (with_reducible refine Kd.C_drew ?_))); (case side4 => exact (Kd.V_reads' HO153.out).2.1); rintro e w21 ⟨v160, rfl, ho0, hb⟩; refine ⟨_, rfl, ?_⟩; have n0_ := Aside0.mk (Kd.R_below (by (with_reducible repeat (first | apply Kd.R_alloc | apply Kd.R_drewN | apply Kd.R_drew)); exact HO144.out) hb); have n1_ := Aside0.mk (Kd.R_below (by (with_reducible repeat (first | apply Kd.R_alloc | apply Kd.R_drewN | apply Kd.R_drew)); exact HO147.out) hb); have n2_ := Aside0.mk (Kd.R_below (by (with_reducible repeat (first | apply Kd.R_alloc | apply Kd.R_drewN | apply Kd.R_drew)); exact HO150.out) hb); have n3_ := Aside0.mk (Kd.V_below (by (with_reducible repeat (first | apply Kd.V_alloc | apply Kd.V_drewN | apply Kd.V_drew)); exact HO153.out) hb); have n4_ := Aside0.mk (Kd.V_below (by (with_reducible repeat (first | apply Kd.V_alloc | apply Kd.V_drewN | apply Kd.V_drew)); exact HO157.out) hb); have n5_ := Aside0.mk (Kd.V_lower (Kd.V_mono (ok' := fun k_ => some k_ ≠ (.slice Ao17 t142.length co17 : Value).ownBlock ∧ some k_ ≠ (v146 : Value).ownBlock ∧ some k_ ≠ (v149 : Value).ownBlock) ho0 (fun k_ hk_ => ⟨(Kd.fresh' (Kd.R_lt (by (with_reducible repeat (first | apply Kd.R_alloc | apply Kd.R_drewN | apply Kd.R_drew)); exact HO144.out)) k_ hk_), (Kd.fresh' (Kd.R_lt (by (with_reducible repeat (first | apply Kd.R_alloc | apply Kd.R_drewN | apply Kd.R_drew)); exact HO147.out)) k_ hk_), (Kd.fresh' (Kd.R_lt (by (with_reducible repeat (first | apply Kd.R_alloc | apply Kd.R_drewN | apply Kd.R_drew)); exact HO150.out)) k_ hk_)⟩)) (below_size (by repeat (first | (with_reducible first | exact HB.out | apply below_alloc | apply pw_below_drewN | apply below_drew1) | exact HB.out)))); have n6_ := Aside0.mk (below_step (by repeat (first | (with_reducible first | exact HB.out | apply below_alloc | apply pw_below_drewN | apply below_drew1) | exact HB.out)) hb); clear HO144; clear HO147; clear HO150; clear HO153; clear HO157; clear HB; have HO144 := n0_; have HO147 := n1_; have HO150 := n2_; have HO153 := n3_; have HO157 := n4_; have HO161 := n5_; have HB := n6_; clear n0_ n1_ n2_ n3_ n4_ n5_ n6_; (try clear hb); (try clear hb2); (try clear hk); (try clear hi); (try clear ho0)) | ((with_reducible refine gate_callee (f := 15) rfl ?_); refine goesL_ (some 55) rfl rfl Try.func15 (by kernel_rfl) rfl #[.slice Ao19 t151.length co19, .slice Ao17 t142.length co17] rfl (by (try simp only [List.map_toArray, List.map_cons, List.map_nil]); first | done | rfl | (simp only [List.length_drop, List.length_take]; rfl)) ?_; (with_reducible refine (Hand.rCompose.calls _ _ t151 _ _ t142 t163 t166 _ ?side1 ?side2 ?side3 ?side4 A12.out).mono ?_); (case side1 => repeat (first | exact (Kd.V_reads' HO153.out).2.2 | (with_reducible refine Kd.C_alloc ?_ _) | (with_reducible refine Kd.C_drewN ?_ _) | (with_reducible refine Kd.C_drew ?_))); (case side2 => exact (Kd.V_reads' HO153.out).2.1); (case side3 => repeat (first | exact (Kd.R_reads' HO144.out).2.2 | (with_reducible refine Kd.C_alloc ?_ _) | (with_reducible refine Kd.C_drewN ?_ _) | (with_reducible refine Kd.C_drew ?_))); (case side4 => exact (Kd.R_reads' HO144.out).2.1); rintro e w22 ⟨v164, rfl, ho0, hb⟩; refine ⟨_, rfl, ?_⟩; have n0_ := Aside0.mk (Kd.R_below (by (with_reducible repeat (first | apply Kd.R_alloc | apply Kd.R_drewN | apply Kd.R_drew)); exact HO144.out) hb); have n1_ := Aside0.mk (Kd.R_below (by (with_reducible repeat (first | apply Kd.R_alloc | apply Kd.R_drewN | apply Kd.R_drew)); exact HO147.out) hb); have n2_ := Aside0.mk (Kd.R_below (by (with_reducible repeat (first | apply Kd.R_alloc | apply Kd.R_drewN | apply Kd.R_drew)); exact HO150.out) hb); have n3_ := Aside0.mk (Kd.V_below (by (with_reducible repeat (first | apply Kd.V_alloc | apply Kd.V_drewN | apply Kd.V_drew)); exact HO153.out) hb); have n4_ := Aside0.mk (Kd.V_below (by (with_reducible repeat (first | apply Kd.V_alloc | apply Kd.V_drewN | apply Kd.V_drew)); exact HO157.out) hb); have n5_ := Aside0.mk (Kd.V_below (by (with_reducible repeat (first | apply Kd.V_alloc | apply Kd.V_drewN | apply Kd.V_drew)); exact HO161.out) hb); have n6_ := Aside0.mk (Kd.V_lower (Kd.V_mono (ok' := fun k_ => some k_ ≠ (.slice Ao17 t142.length co17 : Value).ownBlock ∧ some k_ ≠ (v146 : Value).ownBlock ∧ some k_ ≠ (v149 : Value).ownBlock) ho0 (fun k_ hk_ => ⟨(Kd.fresh' (Kd.R_lt (by (with_reducible repeat (first | apply Kd.R_alloc | apply Kd.R_drewN | apply Kd.R_drew)); exact HO144.out)) k_ hk_), (Kd.fresh' (Kd.R_lt (by (with_reducible repeat (first | apply Kd.R_alloc | apply Kd.R_drewN | apply Kd.R_drew)); exact HO147.out)) k_ hk_), (Kd.fresh' (Kd.R_lt (by (with_reducible repeat (first | apply Kd.R_alloc | apply Kd.R_drewN | apply Kd.R_drew)); exact HO150.out)) k_ hk_)⟩)) (below_size (by repeat (first | (with_reducible first | exact HB.out | apply below_alloc | apply pw_below_drewN | apply below_drew1) | exact HB.out)))); have n7_ := Aside0.mk (below_step (by repeat (first | (with_reducible first | exact HB.out | apply below_alloc | apply pw_below_drewN | apply below_drew1) | exact HB.out)) hb); clear HO144; clear HO147; clear HO150; clear HO153; clear HO157; clear HO161; clear HB; have HO144 := n0_; have HO147 := n1_; have HO150 := n2_; have HO153 := n3_; have HO157 := n4_; have HO161 := n5_; have HO165 := n6_; have HB := n7_; clear n0_ n1_ n2_ n3_ n4_ n5_ n6_ n7_; (try clear hb); (try clear hb2); (try clear hk); (try clear hi); (try clear ho0)))
  (try simp only [Act.put, List.setIfInBounds_toArray, List.set_cons_zero, List.set_cons_succ])
  go_cut [90] (fun v90 wc => ∃ (kq : Nat) (x90_12 : Bool), v90 = .bool x90_12 ∧ Aside0 (w07_RankBack.j0 kq t142 t145 t148 x90_12 = some r) ∧ Aside0 (kq ≤ k) ∧ Aside0 (Kd.R (Kd.int .i64) 3 wc w.heap.size (fun k_ => some k_ ≠ (v146 : Value).ownBlock ∧ some k_ ≠ (v149 : Value).ownBlock) (.slice Ao17 t142.length co17) t142) ∧ Aside0 (Kd.R (Kd.int .i64) 3 wc w.heap.size (fun k_ => some k_ ≠ ((.slice Ao17 t142.length co17) : Value).ownBlock ∧ some k_ ≠ (v149 : Value).ownBlock) v146 t145) ∧ Aside0 (Kd.R (Kd.int .i64) 3 wc w.heap.size (fun k_ => some k_ ≠ ((.slice Ao17 t142.length co17) : Value).ownBlock ∧ some k_ ≠ (v146 : Value).ownBlock) v149 t148) ∧ Aside0 (Below w.heap.size w wc))
  case first =>
    have H := HC13.out
    clear HC13
    by_cases c23 : t154 = 0
    · rw [if_pos c23] at H
      have c23b0 : (t154 == 0) = true := beq_iff_eq.mpr c23
      have c23b1 : (t154 != 0) = false := bne_eq_false_iff_eq.mpr c23
      clear c23
      (first | rw [c23b0] | (simp only [i64_w, i32_w]; rw [c23b0]) | skip)
      by_cases c24 : t158 = 0
      · rw [if_pos c24] at H
        have c24b0 : (t158 == 0) = true := beq_iff_eq.mpr c24
        have c24b1 : (t158 != 0) = false := bne_eq_false_iff_eq.mpr c24
        clear c24
        by_cases c25 : t162 = 0
        · rw [if_pos c25] at H
          have c25b0 : (t162 == 0) = true := beq_iff_eq.mpr c25
          have c25b1 : (t162 != 0) = false := bne_eq_false_iff_eq.mpr c25
          clear c25
          by_cases c26 : t166 = 0
          · rw [if_pos c26] at H
            have c26b0 : (t166 == 0) = true := beq_iff_eq.mpr c26
            have c26b1 : (t166 != 0) = false := bne_eq_false_iff_eq.mpr c26
            clear c26
            replace H := Option.bind_eq_some_iff.mp H
            obtain ⟨t167, A270, H⟩ := H
            replace H : (if t167 = true then ((r00_Upto.f k t141).bind fun t168 => ((Hand.Eq_.f t159 t168).bind fun t171 => (if t171 = true then ((Hand.Eq_.f t163 t159).bind fun t172 => (w07_RankBack.j0 k t142 t145 t148 (!t172))) else (w07_RankBack.j0 k t142 t145 t148 true)))) else (w07_RankBack.j0 k t142 t145 t148 true)) = some r := H
            have A27 := Aside0.mk A270
            clear A270
            by_cases c28 : t167 = true
            · subst c28
              have H1 : ((r00_Upto.f k t141).bind fun t168 => ((Hand.Eq_.f t159 t168).bind fun t171 => (if t171 = true then ((Hand.Eq_.f t163 t159).bind fun t172 => (w07_RankBack.j0 k t142 t145 t148 (!t172))) else (w07_RankBack.j0 k t142 t145 t148 true)))) = some r := by rw [if_pos rfl] at H; exact H
              clear H
              have H := H1
              clear H1
              replace H := Option.bind_eq_some_iff.mp H
              obtain ⟨t168, A290, H⟩ := H
              replace H : ((Hand.Eq_.f t159 t168).bind fun t171 => (if t171 = true then ((Hand.Eq_.f t163 t159).bind fun t172 => (w07_RankBack.j0 k t142 t145 t148 (!t172))) else (w07_RankBack.j0 k t142 t145 t148 true))) = some r := H
              have A29 := Aside0.mk A290
              clear A290
              replace H := Option.bind_eq_some_iff.mp H
              obtain ⟨t171, A300, H⟩ := H
              replace H : (if t171 = true then ((Hand.Eq_.f t163 t159).bind fun t172 => (w07_RankBack.j0 k t142 t145 t148 (!t172))) else (w07_RankBack.j0 k t142 t145 t148 true)) = some r := H
              have A30 := Aside0.mk A300
              clear A300
              by_cases c31 : t171 = true
              · subst c31
                have H1 : ((Hand.Eq_.f t163 t159).bind fun t172 => (w07_RankBack.j0 k t142 t145 t148 (!t172))) = some r := by rw [if_pos rfl] at H; exact H
                clear H
                have H := H1
                clear H1
                replace H := Option.bind_eq_some_iff.mp H
                obtain ⟨t172, A320, H⟩ := H
                replace H : (w07_RankBack.j0 k t142 t145 t148 (!t172)) = some r := H
                have A32 := Aside0.mk A320
                clear A320
                have H' := Aside0.mk H
                clear H
                obtain ⟨Ao33, co33, eo33⟩ := Kd.V_slice HO157.out
                subst eo33
                go_wp2_with (first | (go_at_call 19; (with_reducible refine (Hand.Eq_.calls _ _ t155 _ _ t142 true _ ?side1 ?side2 ?side3 ?side4 A27.out).mono ?_); (case side1 => repeat (first | exact (Kd.V_reads' HO157.out).2.2 | (with_reducible refine Kd.C_alloc ?_ _) | (with_reducible refine Kd.C_drewN ?_ _) | (with_reducible refine Kd.C_drew ?_))); (case side2 => exact (Kd.V_reads' HO157.out).2.1); (case side3 => repeat (first | exact (Kd.R_reads' HO144.out).2.2 | (with_reducible refine Kd.C_alloc ?_ _) | (with_reducible refine Kd.C_drewN ?_ _) | (with_reducible refine Kd.C_drew ?_))); (case side4 => exact (Kd.R_reads' HO144.out).2.1); rintro e w' ⟨rfl, ⟨nd, rfl⟩⟩) | (go_at_call 35; (with_reducible refine (r00_Upto.calls k t141 t168 _ A29.out).mono ?_); rintro e w34 ⟨v169, rfl, ho0, hb⟩; have n0_ := Aside0.mk (Kd.R_elder' (by (with_reducible repeat (first | apply Kd.R_alloc | apply Kd.R_drewN | apply Kd.R_drew)); exact HO144.out) (Kd.R_base ho0) hb); have n1_ := Aside0.mk (Kd.R_elder' (by (with_reducible repeat (first | apply Kd.R_alloc | apply Kd.R_drewN | apply Kd.R_drew)); exact HO147.out) (Kd.R_base ho0) hb); have n2_ := Aside0.mk (Kd.R_elder' (by (with_reducible repeat (first | apply Kd.R_alloc | apply Kd.R_drewN | apply Kd.R_drew)); exact HO150.out) (Kd.R_base ho0) hb); have n3_ := Aside0.mk (Kd.V_elder' (by (with_reducible repeat (first | apply Kd.V_alloc | apply Kd.V_drewN | apply Kd.V_drew)); exact HO153.out) (Kd.R_base ho0) hb); have n4_ := Aside0.mk (Kd.V_elder' (by (with_reducible repeat (first | apply Kd.V_alloc | apply Kd.V_drewN | apply Kd.V_drew)); exact HO157.out) (Kd.R_base ho0) hb); have n5_ := Aside0.mk (Kd.V_elder' (by (with_reducible repeat (first | apply Kd.V_alloc | apply Kd.V_drewN | apply Kd.V_drew)); exact HO161.out) (Kd.R_base ho0) hb); have n6_ := Aside0.mk (Kd.V_elder' (by (with_reducible repeat (first | apply Kd.V_alloc | apply Kd.V_drewN | apply Kd.V_drew)); exact HO165.out) (Kd.R_base ho0) hb); have n7_ := Aside0.mk (Kd.R_lower (Kd.R_new' (Kd.R_new' (Kd.R_new' ho0 (Kd.R_lt (by (with_reducible repeat (first | apply Kd.R_alloc | apply Kd.R_drewN | apply Kd.R_drew)); exact HO144.out))) (Kd.R_lt (by (with_reducible repeat (first | apply Kd.R_alloc | apply Kd.R_drewN | apply Kd.R_drew)); exact HO147.out))) (Kd.R_lt (by (with_reducible repeat (first | apply Kd.R_alloc | apply Kd.R_drewN | apply Kd.R_drew)); exact HO150.out))) (below_size (by repeat (first | (with_reducible first | exact HB.out | apply below_alloc | apply pw_below_drewN | apply below_drew1) | exact HB.out)))); have n8_ := Aside0.mk (below_step (by repeat (first | (with_reducible first | exact HB.out | apply below_alloc | apply pw_below_drewN | apply below_drew1) | exact HB.out)) hb); clear HO144; clear HO147; clear HO150; clear HO153; clear HO157; clear HO161; clear HO165; clear HB; have HO144 := n0_; have HO147 := n1_; have HO150 := n2_; have HO153 := n3_; have HO157 := n4_; have HO161 := n5_; have HO165 := n6_; have HO170 := n7_; have HB := n8_; clear n0_ n1_ n2_ n3_ n4_ n5_ n6_ n7_ n8_; (try clear hb); (try clear hb2); (try clear hk); (try clear hi); (try clear ho0); obtain ⟨Ao35, co35, eo35⟩ := Kd.V_slice HO161.out; subst eo35; obtain ⟨Ao36, co36, eo36⟩ := Kd.R_slice HO170.out; subst eo36) | (go_at_call 19; (with_reducible refine (Hand.Eq_.calls _ _ t159 _ _ t168 true _ ?side1 ?side2 ?side3 ?side4 A30.out).mono ?_); (case side1 => repeat (first | exact (Kd.V_reads' HO161.out).2.2 | (with_reducible refine Kd.C_alloc ?_ _) | (with_reducible refine Kd.C_drewN ?_ _) | (with_reducible refine Kd.C_drew ?_))); (case side2 => exact (Kd.V_reads' HO161.out).2.1); (case side3 => repeat (first | exact (Kd.R_reads' HO170.out).2.2 | (with_reducible refine Kd.C_alloc ?_ _) | (with_reducible refine Kd.C_drewN ?_ _) | (with_reducible refine Kd.C_drew ?_))); (case side4 => exact (Kd.R_reads' HO170.out).2.1); rintro e w' ⟨rfl, ⟨nd, rfl⟩⟩; obtain ⟨Ao37, co37, eo37⟩ := Kd.V_slice HO165.out; subst eo37) | (go_at_call 19; (with_reducible refine (Hand.Eq_.calls _ _ t163 _ _ t159 t172 _ ?side1 ?side2 ?side3 ?side4 A32.out).mono ?_); (case side1 => repeat (first | exact (Kd.V_reads' HO165.out).2.2 | (with_reducible refine Kd.C_alloc ?_ _) | (with_reducible refine Kd.C_drewN ?_ _) | (with_reducible refine Kd.C_drew ?_))); (case side2 => exact (Kd.V_reads' HO165.out).2.1); (case side3 => repeat (first | exact (Kd.V_reads' HO161.out).2.2 | (with_reducible refine Kd.C_alloc ?_ _) | (with_reducible refine Kd.C_drewN ?_ _) | (with_reducible refine Kd.C_drew ?_))); (case side4 => exact (Kd.V_reads' HO161.out).2.1); rintro e w' ⟨rfl, ⟨nd, rfl⟩⟩))
                go_meet
                case rel => exact ⟨_, (!t172), (by first | rfl | (simp; done) | (simp [*]; done)), H', ⟨by first | omega | exact Nat.le_refl _⟩, ⟨by (with_reducible repeat (first | apply Kd.R_alloc | apply Kd.R_drewN | apply Kd.R_drew)); exact Kd.R_mono HO144.out (fun _ hk => ⟨hk.1.1.2, hk.1.2⟩)⟩, ⟨by (with_reducible repeat (first | apply Kd.R_alloc | apply Kd.R_drewN | apply Kd.R_drew)); exact Kd.R_mono HO147.out (fun _ hk => ⟨hk.1.1.2, hk.1.2⟩)⟩, ⟨by (with_reducible repeat (first | apply Kd.R_alloc | apply Kd.R_drewN | apply Kd.R_drew)); exact Kd.R_mono HO150.out (fun _ hk => ⟨hk.1.1.2, hk.1.2⟩)⟩, ⟨by repeat (first | (with_reducible first | exact HB.out | apply below_alloc | apply pw_below_drewN | apply below_drew1) | exact HB.out)⟩⟩
              · replace c31 := Bool.eq_false_iff.mpr c31
                subst c31
                have H1 : (w07_RankBack.j0 k t142 t145 t148 true) = some r := by rw [if_neg (show ¬ (false = true) by decide)] at H; exact H
                exact absurd H1 (by first | (rw [w07_RankBack.j0_true]; simp))
            · replace c28 := Bool.eq_false_iff.mpr c28
              subst c28
              have H1 : (w07_RankBack.j0 k t142 t145 t148 true) = some r := by rw [if_neg (show ¬ (false = true) by decide)] at H; exact H
              exact absurd H1 (by first | (rw [w07_RankBack.j0_true]; simp))
          · rw [if_neg c26] at H
            exact absurd H (by first | (rw [w07_RankBack.j0_true]; simp))
        · rw [if_neg c25] at H
          exact absurd H (by first | (rw [w07_RankBack.j0_true]; simp))
      · rw [if_neg c24] at H
        exact absurd H (by first | (rw [w07_RankBack.j0_true]; simp))
    · rw [if_neg c23] at H
      exact absurd H (by first | (rw [w07_RankBack.j0_true]; simp))
  case rest =>
    clear HC13
    try clear c1
    try clear c2
    try clear p2
    try clear c3
    try clear c7
    try clear c13
    try clear c15
    try clear c23
    try clear c23b0
    try clear c23b1
    try clear c24
    try clear c24b0
    try clear c24b1
    try clear c25
    try clear c25b0
    try clear c25b1
    try clear c26
    try clear c26b0
    try clear c26b1
    try clear c28
    try clear c31
    try clear c33
    try clear c34
    obtain ⟨kq, x90_12, rfl, HA, HJ12, HO_10, HO_11, HO_12, HB⟩ := hcut
    cases kq with
    | zero => exact absurd HA.out (by simp [w07_RankBack.j0])
    | succ kj12 =>
      have H := HA.out
      clear HA
      simp only [w07_RankBack.j0] at H
      by_cases c43 : x90_12 = true
      · subst c43
        have H1 : (none) = some r := by rw [if_pos rfl] at H; exact H
        clear H
        have H := H1
        clear H1
        exact absurd H (by simp)
      · replace c43 := Bool.eq_false_iff.mpr c43
        subst c43
        have H1 : ((Hand.rCompose.f t142 t145).bind fun bt173 => ((Hand.rCompose.f t145 t148).bind fun bt177 => ((Hand.rCompose.f bt173.1 t148).bind fun bt181 => ((Hand.rCompose.f t142 bt177.1).bind fun bt185 => (if bt173.2 = 0 then (if bt177.2 = 0 then (if bt181.2 = 0 then (if bt185.2 = 0 then ((Hand.Eq_.f bt181.1 bt185.1).bind fun t189 => (if t189 = true then ((Hand.rCheck.f bt173.1).bind fun t190 => (if t190 = 0 then ((Hand.law_ranked.f).bind fun t191 => (some t191)) else (none))) else (none))) else (none)) else (none)) else (none)) else (none)))))) = some r := by rw [if_neg (show ¬ (false = true) by decide)] at H; exact H
        clear H
        have H := H1
        clear H1
        replace H := Option.bind_eq_some_iff.mp H
        obtain ⟨⟨t173, t176⟩, A440, H⟩ := H
        replace H : ((Hand.rCompose.f t145 t148).bind fun bt177 => ((Hand.rCompose.f t173 t148).bind fun bt181 => ((Hand.rCompose.f t142 bt177.1).bind fun bt185 => (if t176 = 0 then (if bt177.2 = 0 then (if bt181.2 = 0 then (if bt185.2 = 0 then ((Hand.Eq_.f bt181.1 bt185.1).bind fun t189 => (if t189 = true then ((Hand.rCheck.f t173).bind fun t190 => (if t190 = 0 then ((Hand.law_ranked.f).bind fun t191 => (some t191)) else (none))) else (none))) else (none)) else (none)) else (none)) else (none))))) = some r := H
        have A44 := Aside0.mk A440
        clear A440
        replace H := Option.bind_eq_some_iff.mp H
        obtain ⟨⟨t177, t180⟩, A450, H⟩ := H
        replace H : ((Hand.rCompose.f t173 t148).bind fun bt181 => ((Hand.rCompose.f t142 t177).bind fun bt185 => (if t176 = 0 then (if t180 = 0 then (if bt181.2 = 0 then (if bt185.2 = 0 then ((Hand.Eq_.f bt181.1 bt185.1).bind fun t189 => (if t189 = true then ((Hand.rCheck.f t173).bind fun t190 => (if t190 = 0 then ((Hand.law_ranked.f).bind fun t191 => (some t191)) else (none))) else (none))) else (none)) else (none)) else (none)) else (none)))) = some r := H
        have A45 := Aside0.mk A450
        clear A450
        replace H := Option.bind_eq_some_iff.mp H
        obtain ⟨⟨t181, t184⟩, A460, H⟩ := H
        replace H : ((Hand.rCompose.f t142 t177).bind fun bt185 => (if t176 = 0 then (if t180 = 0 then (if t184 = 0 then (if bt185.2 = 0 then ((Hand.Eq_.f t181 bt185.1).bind fun t189 => (if t189 = true then ((Hand.rCheck.f t173).bind fun t190 => (if t190 = 0 then ((Hand.law_ranked.f).bind fun t191 => (some t191)) else (none))) else (none))) else (none)) else (none)) else (none)) else (none))) = some r := H
        have A46 := Aside0.mk A460
        clear A460
        replace H := Option.bind_eq_some_iff.mp H
        obtain ⟨⟨t185, t188⟩, A470, H⟩ := H
        replace H : (if t176 = 0 then (if t180 = 0 then (if t184 = 0 then (if t188 = 0 then ((Hand.Eq_.f t181 t185).bind fun t189 => (if t189 = true then ((Hand.rCheck.f t173).bind fun t190 => (if t190 = 0 then ((Hand.law_ranked.f).bind fun t191 => (some t191)) else (none))) else (none))) else (none)) else (none)) else (none)) else (none)) = some r := H
        have A47 := Aside0.mk A470
        clear A470
        by_cases c48 : t176 = 0
        · rw [if_pos c48] at H
          have c48b0 : (t176 == 0) = true := beq_iff_eq.mpr c48
          have c48b1 : (t176 != 0) = false := bne_eq_false_iff_eq.mpr c48
          clear c48
          by_cases c49 : t180 = 0
          · rw [if_pos c49] at H
            have c49b0 : (t180 == 0) = true := beq_iff_eq.mpr c49
            have c49b1 : (t180 != 0) = false := bne_eq_false_iff_eq.mpr c49
            clear c49
            by_cases c50 : t184 = 0
            · rw [if_pos c50] at H
              have c50b0 : (t184 == 0) = true := beq_iff_eq.mpr c50
              have c50b1 : (t184 != 0) = false := bne_eq_false_iff_eq.mpr c50
              clear c50
              by_cases c51 : t188 = 0
              · rw [if_pos c51] at H
                have c51b0 : (t188 == 0) = true := beq_iff_eq.mpr c51
                have c51b1 : (t188 != 0) = false := bne_eq_false_iff_eq.mpr c51
                clear c51
                replace H := Option.bind_eq_some_iff.mp H
                obtain ⟨t189, A520, H⟩ := H
                replace H : (if t189 = true then ((Hand.rCheck.f t173).bind fun t190 => (if t190 = 0 then ((Hand.law_ranked.f).bind fun t191 => (some t191)) else (none))) else (none)) = some r := H
                have A52 := Aside0.mk A520
                clear A520
                by_cases c53 : t189 = true
                · subst c53
                  have H1 : ((Hand.rCheck.f t173).bind fun t190 => (if t190 = 0 then ((Hand.law_ranked.f).bind fun t191 => (some t191)) else (none))) = some r := by rw [if_pos rfl] at H; exact H
                  clear H
                  have H := H1
                  clear H1
                  replace H := Option.bind_eq_some_iff.mp H
                  obtain ⟨t190, A540, H⟩ := H
                  replace H : (if t190 = 0 then ((Hand.law_ranked.f).bind fun t191 => (some t191)) else (none)) = some r := H
                  have A54 := Aside0.mk A540
                  clear A540
                  by_cases c55 : t190 = 0
                  · rw [if_pos c55] at H
                    have c55b0 : (t190 == 0) = true := beq_iff_eq.mpr c55
                    have c55b1 : (t190 != 0) = false := bne_eq_false_iff_eq.mpr c55
                    clear c55
                    replace H := Option.bind_eq_some_iff.mp H
                    obtain ⟨t191, A560, H⟩ := H
                    replace H : (some t191) = some r := H
                    have A56 := Aside0.mk A560
                    clear A560
                    obtain rfl := Option.some.inj H
                    obtain ⟨Ao57, co57, eo57⟩ := Kd.R_slice HO_11.out
                    subst eo57
                    go_wp2_with (first | ((with_reducible refine gate_callee (f := 15) rfl ?_); refine goesL_ (some 94) rfl rfl Try.func15 (by kernel_rfl) rfl #[.slice Ao17 t142.length co17, .slice Ao57 t145.length co57] rfl (by (try simp only [List.map_toArray, List.map_cons, List.map_nil]); first | done | rfl | (simp only [List.length_drop, List.length_take]; rfl)) ?_; (with_reducible refine (Hand.rCompose.calls _ _ t142 _ _ t145 t173 t176 _ ?side1 ?side2 ?side3 ?side4 A44.out).mono ?_); (case side1 => repeat (first | exact (Kd.R_reads' HO_10.out).2.2 | (with_reducible refine Kd.C_alloc ?_ _) | (with_reducible refine Kd.C_drewN ?_ _) | (with_reducible refine Kd.C_drew ?_))); (case side2 => exact (Kd.R_reads' HO_10.out).2.1); (case side3 => repeat (first | exact (Kd.R_reads' HO_11.out).2.2 | (with_reducible refine Kd.C_alloc ?_ _) | (with_reducible refine Kd.C_drewN ?_ _) | (with_reducible refine Kd.C_drew ?_))); (case side4 => exact (Kd.R_reads' HO_11.out).2.1); rintro e w58 ⟨v174, rfl, ho0, hb⟩; refine ⟨_, rfl, ?_⟩; have n0_ := Aside0.mk (Kd.R_below (by (with_reducible repeat (first | apply Kd.R_alloc | apply Kd.R_drewN | apply Kd.R_drew)); exact HO_10.out) hb); have n1_ := Aside0.mk (Kd.R_below (by (with_reducible repeat (first | apply Kd.R_alloc | apply Kd.R_drewN | apply Kd.R_drew)); exact HO_11.out) hb); have n2_ := Aside0.mk (Kd.R_below (by (with_reducible repeat (first | apply Kd.R_alloc | apply Kd.R_drewN | apply Kd.R_drew)); exact HO_12.out) hb); have n3_ := Aside0.mk (Kd.V_lower (Kd.V_mono (ok' := fun k_ => some k_ ≠ (.slice Ao17 t142.length co17 : Value).ownBlock ∧ some k_ ≠ (.slice Ao57 t145.length co57 : Value).ownBlock ∧ some k_ ≠ (v149 : Value).ownBlock) ho0 (fun k_ hk_ => ⟨(Kd.fresh' (Kd.R_lt (by (with_reducible repeat (first | apply Kd.R_alloc | apply Kd.R_drewN | apply Kd.R_drew)); exact HO_10.out)) k_ hk_), (Kd.fresh' (Kd.R_lt (by (with_reducible repeat (first | apply Kd.R_alloc | apply Kd.R_drewN | apply Kd.R_drew)); exact HO_11.out)) k_ hk_), (Kd.fresh' (Kd.R_lt (by (with_reducible repeat (first | apply Kd.R_alloc | apply Kd.R_drewN | apply Kd.R_drew)); exact HO_12.out)) k_ hk_)⟩)) (below_size (by repeat (first | (with_reducible first | exact HB.out | apply below_alloc | apply pw_below_drewN | apply below_drew1) | exact HB.out)))); have n4_ := Aside0.mk (below_step (by repeat (first | (with_reducible first | exact HB.out | apply below_alloc | apply pw_below_drewN | apply below_drew1) | exact HB.out)) hb); clear HO_10; clear HO_11; clear HO_12; clear HB; have HO_10 := n0_; have HO_11 := n1_; have HO_12 := n2_; have HO175 := n3_; have HB := n4_; clear n0_ n1_ n2_ n3_ n4_; (try clear hb); (try clear hb2); (try clear hk); (try clear hi); (try clear ho0); obtain ⟨Ao59, co59, eo59⟩ := Kd.R_slice HO_12.out; subst eo59) | ((with_reducible refine gate_callee (f := 15) rfl ?_); refine goesL_ (some 100) rfl rfl Try.func15 (by kernel_rfl) rfl #[.slice Ao57 t145.length co57, .slice Ao59 t148.length co59] rfl (by (try simp only [List.map_toArray, List.map_cons, List.map_nil]); first | done | rfl | (simp only [List.length_drop, List.length_take]; rfl)) ?_; (with_reducible refine (Hand.rCompose.calls _ _ t145 _ _ t148 t177 t180 _ ?side1 ?side2 ?side3 ?side4 A45.out).mono ?_); (case side1 => repeat (first | exact (Kd.R_reads' HO_11.out).2.2 | (with_reducible refine Kd.C_alloc ?_ _) | (with_reducible refine Kd.C_drewN ?_ _) | (with_reducible refine Kd.C_drew ?_))); (case side2 => exact (Kd.R_reads' HO_11.out).2.1); (case side3 => repeat (first | exact (Kd.R_reads' HO_12.out).2.2 | (with_reducible refine Kd.C_alloc ?_ _) | (with_reducible refine Kd.C_drewN ?_ _) | (with_reducible refine Kd.C_drew ?_))); (case side4 => exact (Kd.R_reads' HO_12.out).2.1); rintro e w60 ⟨v178, rfl, ho0, hb⟩; refine ⟨_, rfl, ?_⟩; have n0_ := Aside0.mk (Kd.R_below (by (with_reducible repeat (first | apply Kd.R_alloc | apply Kd.R_drewN | apply Kd.R_drew)); exact HO_10.out) hb); have n1_ := Aside0.mk (Kd.R_below (by (with_reducible repeat (first | apply Kd.R_alloc | apply Kd.R_drewN | apply Kd.R_drew)); exact HO_11.out) hb); have n2_ := Aside0.mk (Kd.R_below (by (with_reducible repeat (first | apply Kd.R_alloc | apply Kd.R_drewN | apply Kd.R_drew)); exact HO_12.out) hb); have n3_ := Aside0.mk (Kd.V_below (by (with_reducible repeat (first | apply Kd.V_alloc | apply Kd.V_drewN | apply Kd.V_drew)); exact HO175.out) hb); have n4_ := Aside0.mk (Kd.V_lower (Kd.V_mono (ok' := fun k_ => some k_ ≠ (.slice Ao17 t142.length co17 : Value).ownBlock ∧ some k_ ≠ (.slice Ao57 t145.length co57 : Value).ownBlock ∧ some k_ ≠ (.slice Ao59 t148.length co59 : Value).ownBlock) ho0 (fun k_ hk_ => ⟨(Kd.fresh' (Kd.R_lt (by (with_reducible repeat (first | apply Kd.R_alloc | apply Kd.R_drewN | apply Kd.R_drew)); exact HO_10.out)) k_ hk_), (Kd.fresh' (Kd.R_lt (by (with_reducible repeat (first | apply Kd.R_alloc | apply Kd.R_drewN | apply Kd.R_drew)); exact HO_11.out)) k_ hk_), (Kd.fresh' (Kd.R_lt (by (with_reducible repeat (first | apply Kd.R_alloc | apply Kd.R_drewN | apply Kd.R_drew)); exact HO_12.out)) k_ hk_)⟩)) (below_size (by repeat (first | (with_reducible first | exact HB.out | apply below_alloc | apply pw_below_drewN | apply below_drew1) | exact HB.out)))); have n5_ := Aside0.mk (below_step (by repeat (first | (with_reducible first | exact HB.out | apply below_alloc | apply pw_below_drewN | apply below_drew1) | exact HB.out)) hb); clear HO_10; clear HO_11; clear HO_12; clear HO175; clear HB; have HO_10 := n0_; have HO_11 := n1_; have HO_12 := n2_; have HO175 := n3_; have HO179 := n4_; have HB := n5_; clear n0_ n1_ n2_ n3_ n4_ n5_; (try clear hb); (try clear hb2); (try clear hk); (try clear hi); (try clear ho0); obtain ⟨Ao61, co61, eo61⟩ := Kd.V_slice HO175.out; subst eo61) | ((with_reducible refine gate_callee (f := 15) rfl ?_); refine goesL_ (some 106) rfl rfl Try.func15 (by kernel_rfl) rfl #[.slice Ao61 t173.length co61, .slice Ao59 t148.length co59] rfl (by (try simp only [List.map_toArray, List.map_cons, List.map_nil]); first | done | rfl | (simp only [List.length_drop, List.length_take]; rfl)) ?_; (with_reducible refine (Hand.rCompose.calls _ _ t173 _ _ t148 t181 t184 _ ?side1 ?side2 ?side3 ?side4 A46.out).mono ?_); (case side1 => repeat (first | exact (Kd.V_reads' HO175.out).2.2 | (with_reducible refine Kd.C_alloc ?_ _) | (with_reducible refine Kd.C_drewN ?_ _) | (with_reducible refine Kd.C_drew ?_))); (case side2 => exact (Kd.V_reads' HO175.out).2.1); (case side3 => repeat (first | exact (Kd.R_reads' HO_12.out).2.2 | (with_reducible refine Kd.C_alloc ?_ _) | (with_reducible refine Kd.C_drewN ?_ _) | (with_reducible refine Kd.C_drew ?_))); (case side4 => exact (Kd.R_reads' HO_12.out).2.1); rintro e w62 ⟨v182, rfl, ho0, hb⟩; refine ⟨_, rfl, ?_⟩; have n0_ := Aside0.mk (Kd.R_below (by (with_reducible repeat (first | apply Kd.R_alloc | apply Kd.R_drewN | apply Kd.R_drew)); exact HO_10.out) hb); have n1_ := Aside0.mk (Kd.R_below (by (with_reducible repeat (first | apply Kd.R_alloc | apply Kd.R_drewN | apply Kd.R_drew)); exact HO_11.out) hb); have n2_ := Aside0.mk (Kd.R_below (by (with_reducible repeat (first | apply Kd.R_alloc | apply Kd.R_drewN | apply Kd.R_drew)); exact HO_12.out) hb); have n3_ := Aside0.mk (Kd.V_below (by (with_reducible repeat (first | apply Kd.V_alloc | apply Kd.V_drewN | apply Kd.V_drew)); exact HO175.out) hb); have n4_ := Aside0.mk (Kd.V_below (by (with_reducible repeat (first | apply Kd.V_alloc | apply Kd.V_drewN | apply Kd.V_drew)); exact HO179.out) hb); have n5_ := Aside0.mk (Kd.V_lower (Kd.V_mono (ok' := fun k_ => some k_ ≠ (.slice Ao17 t142.length co17 : Value).ownBlock ∧ some k_ ≠ (.slice Ao57 t145.length co57 : Value).ownBlock ∧ some k_ ≠ (.slice Ao59 t148.length co59 : Value).ownBlock) ho0 (fun k_ hk_ => ⟨(Kd.fresh' (Kd.R_lt (by (with_reducible repeat (first | apply Kd.R_alloc | apply Kd.R_drewN | apply Kd.R_drew)); exact HO_10.out)) k_ hk_), (Kd.fresh' (Kd.R_lt (by (with_reducible repeat (first | apply Kd.R_alloc | apply Kd.R_drewN | apply Kd.R_drew)); exact HO_11.out)) k_ hk_), (Kd.fresh' (Kd.R_lt (by (with_reducible repeat (first | apply Kd.R_alloc | apply Kd.R_drewN | apply Kd.R_drew)); exact HO_12.out)) k_ hk_)⟩)) (below_size (by repeat (first | (with_reducible first | exact HB.out | apply below_alloc | apply pw_below_drewN | apply below_drew1) | exact HB.out)))); have n6_ := Aside0.mk (below_step (by repeat (first | (with_reducible first | exact HB.out | apply below_alloc | apply pw_below_drewN | apply below_drew1) | exact HB.out)) hb); clear HO_10; clear HO_11; clear HO_12; clear HO175; clear HO179; clear HB; have HO_10 := n0_; have HO_11 := n1_; have HO_12 := n2_; have HO175 := n3_; have HO179 := n4_; have HO183 := n5_; have HB := n6_; clear n0_ n1_ n2_ n3_ n4_ n5_ n6_; (try clear hb); (try clear hb2); (try clear hk); (try clear hi); (try clear ho0); obtain ⟨Ao63, co63, eo63⟩ := Kd.V_slice HO179.out; subst eo63) | ((with_reducible refine gate_callee (f := 15) rfl ?_); refine goesL_ (some 112) rfl rfl Try.func15 (by kernel_rfl) rfl #[.slice Ao17 t142.length co17, .slice Ao63 t177.length co63] rfl (by (try simp only [List.map_toArray, List.map_cons, List.map_nil]); first | done | rfl | (simp only [List.length_drop, List.length_take]; rfl)) ?_; (with_reducible refine (Hand.rCompose.calls _ _ t142 _ _ t177 t185 t188 _ ?side1 ?side2 ?side3 ?side4 A47.out).mono ?_); (case side1 => repeat (first | exact (Kd.R_reads' HO_10.out).2.2 | (with_reducible refine Kd.C_alloc ?_ _) | (with_reducible refine Kd.C_drewN ?_ _) | (with_reducible refine Kd.C_drew ?_))); (case side2 => exact (Kd.R_reads' HO_10.out).2.1); (case side3 => repeat (first | exact (Kd.V_reads' HO179.out).2.2 | (with_reducible refine Kd.C_alloc ?_ _) | (with_reducible refine Kd.C_drewN ?_ _) | (with_reducible refine Kd.C_drew ?_))); (case side4 => exact (Kd.V_reads' HO179.out).2.1); rintro e w64 ⟨v186, rfl, ho0, hb⟩; refine ⟨_, rfl, ?_⟩; have n0_ := Aside0.mk (Kd.R_below (by (with_reducible repeat (first | apply Kd.R_alloc | apply Kd.R_drewN | apply Kd.R_drew)); exact HO_10.out) hb); have n1_ := Aside0.mk (Kd.R_below (by (with_reducible repeat (first | apply Kd.R_alloc | apply Kd.R_drewN | apply Kd.R_drew)); exact HO_11.out) hb); have n2_ := Aside0.mk (Kd.R_below (by (with_reducible repeat (first | apply Kd.R_alloc | apply Kd.R_drewN | apply Kd.R_drew)); exact HO_12.out) hb); have n3_ := Aside0.mk (Kd.V_below (by (with_reducible repeat (first | apply Kd.V_alloc | apply Kd.V_drewN | apply Kd.V_drew)); exact HO175.out) hb); have n4_ := Aside0.mk (Kd.V_below (by (with_reducible repeat (first | apply Kd.V_alloc | apply Kd.V_drewN | apply Kd.V_drew)); exact HO179.out) hb); have n5_ := Aside0.mk (Kd.V_below (by (with_reducible repeat (first | apply Kd.V_alloc | apply Kd.V_drewN | apply Kd.V_drew)); exact HO183.out) hb); have n6_ := Aside0.mk (Kd.V_lower (Kd.V_mono (ok' := fun k_ => some k_ ≠ (.slice Ao17 t142.length co17 : Value).ownBlock ∧ some k_ ≠ (.slice Ao57 t145.length co57 : Value).ownBlock ∧ some k_ ≠ (.slice Ao59 t148.length co59 : Value).ownBlock) ho0 (fun k_ hk_ => ⟨(Kd.fresh' (Kd.R_lt (by (with_reducible repeat (first | apply Kd.R_alloc | apply Kd.R_drewN | apply Kd.R_drew)); exact HO_10.out)) k_ hk_), (Kd.fresh' (Kd.R_lt (by (with_reducible repeat (first | apply Kd.R_alloc | apply Kd.R_drewN | apply Kd.R_drew)); exact HO_11.out)) k_ hk_), (Kd.fresh' (Kd.R_lt (by (with_reducible repeat (first | apply Kd.R_alloc | apply Kd.R_drewN | apply Kd.R_drew)); exact HO_12.out)) k_ hk_)⟩)) (below_size (by repeat (first | (with_reducible first | exact HB.out | apply below_alloc | apply pw_below_drewN | apply below_drew1) | exact HB.out)))); have n7_ := Aside0.mk (below_step (by repeat (first | (with_reducible first | exact HB.out | apply below_alloc | apply pw_below_drewN | apply below_drew1) | exact HB.out)) hb); clear HO_10; clear HO_11; clear HO_12; clear HO175; clear HO179; clear HO183; clear HB; have HO_10 := n0_; have HO_11 := n1_; have HO_12 := n2_; have HO175 := n3_; have HO179 := n4_; have HO183 := n5_; have HO187 := n6_; have HB := n7_; clear n0_ n1_ n2_ n3_ n4_ n5_ n6_ n7_; (try clear hb); (try clear hb2); (try clear hk); (try clear hi); (try clear ho0); obtain ⟨Ao65, co65, eo65⟩ := Kd.V_slice HO183.out; subst eo65; obtain ⟨Ao66, co66, eo66⟩ := Kd.V_slice HO187.out; subst eo66) | (go_at_call 19; (with_reducible refine (Hand.Eq_.calls _ _ t181 _ _ t185 true _ ?side1 ?side2 ?side3 ?side4 A52.out).mono ?_); (case side1 => repeat (first | exact (Kd.V_reads' HO183.out).2.2 | (with_reducible refine Kd.C_alloc ?_ _) | (with_reducible refine Kd.C_drewN ?_ _) | (with_reducible refine Kd.C_drew ?_))); (case side2 => exact (Kd.V_reads' HO183.out).2.1); (case side3 => repeat (first | exact (Kd.V_reads' HO187.out).2.2 | (with_reducible refine Kd.C_alloc ?_ _) | (with_reducible refine Kd.C_drewN ?_ _) | (with_reducible refine Kd.C_drew ?_))); (case side4 => exact (Kd.V_reads' HO187.out).2.1); rintro e w' ⟨rfl, ⟨nd, rfl⟩⟩) | (go_at_call 17; (with_reducible refine (Hand.rCheck.calls _ _ t173 t190 _ ?side1 ?side2 A54.out).mono ?_); (case side1 => repeat (first | exact (Kd.V_reads' HO175.out).2.2 | (with_reducible refine Kd.C_alloc ?_ _) | (with_reducible refine Kd.C_drewN ?_ _) | (with_reducible refine Kd.C_drew ?_))); (case side2 => exact (Kd.V_reads' HO175.out).2.1); rintro e w67 ⟨rfl, hb⟩; have n0_ := Aside0.mk (Kd.R_below (by (with_reducible repeat (first | apply Kd.R_alloc | apply Kd.R_drewN | apply Kd.R_drew)); exact HO_10.out) hb); have n1_ := Aside0.mk (Kd.R_below (by (with_reducible repeat (first | apply Kd.R_alloc | apply Kd.R_drewN | apply Kd.R_drew)); exact HO_11.out) hb); have n2_ := Aside0.mk (Kd.R_below (by (with_reducible repeat (first | apply Kd.R_alloc | apply Kd.R_drewN | apply Kd.R_drew)); exact HO_12.out) hb); have n3_ := Aside0.mk (Kd.V_below (by (with_reducible repeat (first | apply Kd.V_alloc | apply Kd.V_drewN | apply Kd.V_drew)); exact HO175.out) hb); have n4_ := Aside0.mk (Kd.V_below (by (with_reducible repeat (first | apply Kd.V_alloc | apply Kd.V_drewN | apply Kd.V_drew)); exact HO179.out) hb); have n5_ := Aside0.mk (Kd.V_below (by (with_reducible repeat (first | apply Kd.V_alloc | apply Kd.V_drewN | apply Kd.V_drew)); exact HO183.out) hb); have n6_ := Aside0.mk (Kd.V_below (by (with_reducible repeat (first | apply Kd.V_alloc | apply Kd.V_drewN | apply Kd.V_drew)); exact HO187.out) hb); have n7_ := Aside0.mk (below_step (by repeat (first | (with_reducible first | exact HB.out | apply below_alloc | apply pw_below_drewN | apply below_drew1) | exact HB.out)) hb); clear HO_10; clear HO_11; clear HO_12; clear HO175; clear HO179; clear HO183; clear HO187; clear HB; have HO_10 := n0_; have HO_11 := n1_; have HO_12 := n2_; have HO175 := n3_; have HO179 := n4_; have HO183 := n5_; have HO187 := n6_; have HB := n7_; clear n0_ n1_ n2_ n3_ n4_ n5_ n6_ n7_; (try clear hb); (try clear hb2); (try clear hk); (try clear hi)) | (go_at_call 20; (with_reducible refine (Hand.law_ranked.calls  t191 _ A56.out).mono ?_); rintro e w68 ⟨rfl, hb⟩; have n0_ := Aside0.mk (Kd.R_below (by (with_reducible repeat (first | apply Kd.R_alloc | apply Kd.R_drewN | apply Kd.R_drew)); exact HO_10.out) hb); have n1_ := Aside0.mk (Kd.R_below (by (with_reducible repeat (first | apply Kd.R_alloc | apply Kd.R_drewN | apply Kd.R_drew)); exact HO_11.out) hb); have n2_ := Aside0.mk (Kd.R_below (by (with_reducible repeat (first | apply Kd.R_alloc | apply Kd.R_drewN | apply Kd.R_drew)); exact HO_12.out) hb); have n3_ := Aside0.mk (Kd.V_below (by (with_reducible repeat (first | apply Kd.V_alloc | apply Kd.V_drewN | apply Kd.V_drew)); exact HO175.out) hb); have n4_ := Aside0.mk (Kd.V_below (by (with_reducible repeat (first | apply Kd.V_alloc | apply Kd.V_drewN | apply Kd.V_drew)); exact HO179.out) hb); have n5_ := Aside0.mk (Kd.V_below (by (with_reducible repeat (first | apply Kd.V_alloc | apply Kd.V_drewN | apply Kd.V_drew)); exact HO183.out) hb); have n6_ := Aside0.mk (Kd.V_below (by (with_reducible repeat (first | apply Kd.V_alloc | apply Kd.V_drewN | apply Kd.V_drew)); exact HO187.out) hb); have n7_ := Aside0.mk (below_step (by repeat (first | (with_reducible first | exact HB.out | apply below_alloc | apply pw_below_drewN | apply below_drew1) | exact HB.out)) hb); clear HO_10; clear HO_11; clear HO_12; clear HO175; clear HO179; clear HO183; clear HO187; clear HB; have HO_10 := n0_; have HO_11 := n1_; have HO_12 := n2_; have HO175 := n3_; have HO179 := n4_; have HO183 := n5_; have HO187 := n6_; have HB := n7_; clear n0_ n1_ n2_ n3_ n4_ n5_ n6_ n7_; (try clear hb); (try clear hb2); (try clear hk); (try clear hi)))
                    go_ret
                    exact ⟨by first | rfl | (simp [errW_none, errW_some] <;> rfl) | (simp [*, errW_none, errW_some] <;> rfl), by repeat (first | (with_reducible first | exact HB.out | apply below_alloc | apply pw_below_drewN | apply below_drew1) | exact HB.out)⟩
                  · rw [if_neg c55] at H
                    exact absurd H (by simp)
                · replace c53 := Bool.eq_false_iff.mpr c53
                  subst c53
                  have H1 : (none) = some r := by rw [if_neg (show ¬ (false = true) by decide)] at H; exact H
                  clear H
                  have H := H1
                  clear H1
                  exact absurd H (by simp)
              · rw [if_neg c51] at H
                exact absurd H (by simp)
            · rw [if_neg c50] at H
              exact absurd H (by simp)
          · rw [if_neg c49] at H
            exact absurd H (by simp)
        · rw [if_neg c48] at H
          exact absurd H (by simp)

/-- THE ONE PURE STATEMENT of w07_RankBack: yours. -/
def w07_RankBack.Pure : Prop := ∀ (a0 : Int) (l1 : List Int) (l2 : List Int) (l3 : List Int), (Lit.int .i64 a0).wf = true → l1.length ≤ maxLen → l1.length * 8 ≤ 140737488351232 → (∀ x ∈ l1, (Lit.int .i64 x).wf = true) → l2.length ≤ maxLen → l2.length * 8 ≤ 140737488351232 → (∀ x ∈ l2, (Lit.int .i64 x).wf = true) → l3.length ≤ maxLen → l3.length * 8 ≤ 140737488351232 → (∀ x ∈ l3, (Lit.int .i64 x).wf = true) → ∃ k, w07_RankBack.f k a0 l1 l2 l3 = some true
theorem w07_RankBack.walk (P : w07_RankBack.Pure) (a0 : Int) (a1 : Option Addr) (len1 cap1 : Nat) (z1 : List Int) (a2 : Option Addr) (len2 cap2 : Nat) (z2 : List Int) (a3 : Option Addr) (len3 cap3 : Nat) (z3 : List Int) (w : World) (w0 : (Lit.int .i64 a0).wf = true) (w1 : (a1 = none ∧ len1 = 0 ∧ cap1 = 0 ∧ z1 = []) ∨ ∃ x, a1 = some x ∧ len1 ≤ cap1 ∧ cap1 ≤ maxLen ∧ z1.length = cap1 ∧ (∀ i, i < z1.length → w.cell? (x.add i) = some (.int .i64 (z1.getD i 0))) ∧ ∀ n ∈ z1, (Lit.int .i64 n).wf = true) (y1 : len1 * 8 ≤ 140737488351232) (w2 : (a2 = none ∧ len2 = 0 ∧ cap2 = 0 ∧ z2 = []) ∨ ∃ x, a2 = some x ∧ len2 ≤ cap2 ∧ cap2 ≤ maxLen ∧ z2.length = cap2 ∧ (∀ i, i < z2.length → w.cell? (x.add i) = some (.int .i64 (z2.getD i 0))) ∧ ∀ n ∈ z2, (Lit.int .i64 n).wf = true) (y2 : len2 * 8 ≤ 140737488351232) (w3 : (a3 = none ∧ len3 = 0 ∧ cap3 = 0 ∧ z3 = []) ∨ ∃ x, a3 = some x ∧ len3 ≤ cap3 ∧ cap3 ≤ maxLen ∧ z3.length = cap3 ∧ (∀ i, i < z3.length → w.cell? (x.add i) = some (.int .i64 (z3.getD i 0))) ∧ ∀ n ∈ z3, (Lit.int .i64 n).wf = true) (y3 : len3 * 8 ≤ 140737488351232) :
    Calls Try.prog 7 #[.int .i64 a0, .slice a1 len1 cap1, .slice a2 len2 cap2, .slice a3 len3 cap3] w fun e w' => e = .returned (.bool true) ∧ Below w.heap.size w w' := by
  obtain ⟨l1, rfl, hr1, hm1, hw1, hc1⟩ := ReadsInt.ofRowC w1
  obtain ⟨l2, rfl, hr2, hm2, hw2, hc2⟩ := ReadsInt.ofRowC w2
  obtain ⟨l3, rfl, hr3, hm3, hw3, hc3⟩ := ReadsInt.ofRowC w3
  obtain ⟨k, h⟩ := P a0 l1 l2 l3 w0 hm1 y1 hw1 hm2 y2 hw2 hm3 y3 hw3
  refine (w07_RankBack.calls k a0 _ _ l1 _ _ l2 _ _ l3 true w (Kd.C_of_reads (d := (0 : Int)) (h1 := fun _ => rfl) hr1) hc1 (Kd.C_of_reads (d := (0 : Int)) (h1 := fun _ => rfl) hr2) hc2 (Kd.C_of_reads (d := (0 : Int)) (h1 := fun _ => rfl) hr3) hc3 h).mono ?_
  rintro e w' ⟨rfl, hd⟩
  exact ⟨rfl, hd⟩

end Go.Proofs.Ytnkepaenpoadpaa.PRankBack
