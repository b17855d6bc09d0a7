/- sheafworksref07.less, walked. -/
import Derived.Test.YtnkepaenpoadpaaK5
namespace Go.Proofs.Ytnkepaenpoadpaa.Hand
open Go.RowKit Go.Proofs.YtnkepaenpoadpaaW.PrintWords Go.Proofs.YtnkepaenpoadpaaW.PrintLast Go.Proofs.YtnkepaenpoadpaaW.PrintMore
set_option linter.unusedVariables false
set_option linter.unusedSimpArgs false
def keyB (x b : Int) : Int := Go.bits .and .i64 (wrap64 (x + 2147483648)) (wrap64 ((shl .i64 1 b) - 1))
def lessB (l : List Int) (i k b : Int) : Bool := if keyB (rd l i) b < keyB (rd l k) b then true else if keyB (rd l i) b = keyB (rd l k) b then decide (i < k) else false
def refLess.f (l0 : List Int) (a1 : Int) (a2 : Int) (a3 : Int) : Option (Bool) := if 0 ≤ a1 then (if a1 < (l0.length : Int) then (if 0 ≤ a3 then (if 0 ≤ a2 then (if a2 < (l0.length : Int) then some (lessB l0 a1 a2 a3) else none) else none) else none) else none) else none
set_option maxHeartbeats 8000000 in
set_option maxRecDepth 100000 in
theorem refLess.calls (A0 : Option Addr) (c0 : Nat) (l0 : List Int) (a1 : Int) (a2 : Int) (a3 : Int) (r : Bool) (w : World) (hr0 : Kd.C (Kd.int .i64) w A0 l0.length l0) (hc0 : l0.length ≤ c0) (h : refLess.f l0 a1 a2 a3 = some r) :
    Calls Try.prog 68 #[.slice A0 l0.length c0, .int .i64 a1, .int .i64 a2, .int .i64 a3] w fun e w' => e = .returned (.bool r) ∧ Drawn0 w w' := by
  have HR0 := Aside0.mk hr0
  have HC0 := Aside0.mk hc0
  clear hr0 hc0
  unfold refLess.f at h
  by_cases c5 : 0 ≤ a1
  · rw [if_pos c5] at h
    by_cases c6 : a1 < (l0.length : Int)
    · rw [if_pos c6] at h
      by_cases c7 : 0 ≤ a3
      · rw [if_pos c7] at h
        by_cases c8 : 0 ≤ a2
        · rw [if_pos c8] at h
          by_cases c9 : a2 < (l0.length : Int)
          · rw [if_pos c9] at h
            injection h with h
            unfold lessB keyB at h
            obtain ⟨ad110, e110, hx110_0⟩ := Kd.at_int HR0.out a1 c5 c6
            cases e110
            obtain ⟨ad111, e111, hx111_0⟩ := Kd.at_int HR0.out a2 c8 c9
            obtain rfl : ad110 = ad111 := (by injection e111)
            obtain ⟨x, hx⟩ : ∃ x, rd l0 a1 = x := ⟨_, rfl⟩
            obtain ⟨y, hy⟩ : ∃ x, rd l0 a2 = x := ⟨_, rfl⟩
            rw [hx] at hx110_0 h
            rw [hy] at hx111_0 h
            obtain ⟨ji8, hji8⟩ : ∃ j_ : Int, (shl .i64 1 a3) = j_ := ⟨_, rfl⟩
            rw [hji8] at h
            have hji8_ : (IntKind.i64.wrap (1 * 2 ^ min a3.toNat 64)) = ji8 := hji8
            have hji8z : a3 ≤ 64 → (IntKind.i64.wrap (1 * 2 ^ a3.toNat)) = ji8 := shl_small hji8
            have hji8u : (IntKind.i64.wrap (2 ^ min a3.toNat 64)) = ji8 := by have h_ := hji8_; rw [Int.one_mul] at h_; exact h_
            have hji8v : a3 ≤ 64 → (IntKind.i64.wrap (2 ^ a3.toNat)) = ji8 := fun hle_ => by have h_ := hji8z hle_; rw [Int.one_mul] at h_; exact h_
            have hji8y : (wrap64 (1 * 2 ^ min a3.toNat 64)) = ji8 := (i64_w _).symm.trans hji8_
            have hji8x : a3 ≤ 64 → (wrap64 (1 * 2 ^ a3.toNat)) = ji8 := fun h_ => (i64_w _).symm.trans (hji8z h_)
            obtain ⟨kx, hkx⟩ : ∃ j_ : Int, Go.bits .and .i64 (wrap64 (x + 2147483648)) (wrap64 (ji8 - 1)) = j_ := ⟨_, rfl⟩
            obtain ⟨ky, hky⟩ : ∃ j_ : Int, Go.bits .and .i64 (wrap64 (y + 2147483648)) (wrap64 (ji8 - 1)) = j_ := ⟨_, rfl⟩
            rw [hkx, hky] at h
            have hkx2 : Go.bits .and .i64 (wrap64 (x - (-2147483648))) (wrap64 (ji8 - 1)) = kx := hkx
            have hky2 : Go.bits .and .i64 (wrap64 (y - (-2147483648))) (wrap64 (ji8 - 1)) = ky := hky
            have HE := Aside0.mk (And.intro hx hy)
            clear hx hy hji8
            by_cases c13 : kx < ky
            · rw [if_pos c13] at h
              subst h
              go_enter Try.func68, Try.ntmps68
              go_wp2
              repeat (go_quiet (fail); try go_wp2)
              go_ret
              exact ⟨by first | rfl | (simp; done) | (simp [*]; done), by repeat (first | exact Drawn0.refl _ | apply Drawn0.step)⟩
            · rw [if_neg c13] at h
              have c13b := Int.not_lt.1 c13
              by_cases c14 : kx = ky
              · rw [if_pos c14] at h
                subst h
                go_enter Try.func68, Try.ntmps68
                go_wp2
                repeat (go_quiet (fail); try go_wp2)
                go_ret
                exact ⟨by first | rfl | (simp; done) | (simp [*]; done), by repeat (first | exact Drawn0.refl _ | apply Drawn0.step)⟩
              · rw [if_neg c14] at h
                have c14b0 : (kx == ky) = false := beq_eq_false_iff_ne.mpr c14
                subst h
                go_enter Try.func68, Try.ntmps68
                go_wp2
                repeat (go_quiet (fail); try go_wp2)
                go_ret
                exact ⟨by first | rfl | (simp; done) | (simp [*]; done), by repeat (first | exact Drawn0.refl _ | apply Drawn0.step)⟩
          · rw [if_neg c9] at h; cases h
        · rw [if_neg c8] at h; cases h
      · rw [if_neg c7] at h; cases h
    · rw [if_neg c6] at h; cases h
  · rw [if_neg c5] at h; cases h
end Go.Proofs.Ytnkepaenpoadpaa.Hand
