/- slices.IndexFunc and slices.ContainsFunc over whole numbers, for any function value whose calls only read: the first place at which it says yes; whether there is one. -/
import Derived.Test.YtpimackoadfcmaaDoorH0
namespace Go.Proofs.YtpimackoadfcmaaDoor.Hand
open Go.RowKit Go.Proofs.YtpimackoadfcmaaDoorW.PrintWords Go.Proofs.YtpimackoadfcmaaDoorW.PrintLast Go.Proofs.YtpimackoadfcmaaDoorW.PrintMore
set_option linter.unusedVariables false
set_option linter.unusedSimpArgs false

set_option maxHeartbeats 4000000 in
set_option maxRecDepth 100000 in
theorem slices_IndexFunc (g : Nat) (fst cap : Array Value) (A : Option Addr) (c : Nat) (l : List Int) (p : Int → Bool) (w : World) (hg : ∀ args W, Sem.run Tryd.prog (callFunc g args) W = .ok (.enter g args) W) (hr : Kd.C (Kd.int .i64) w A l.length l)
    (hp : ∀ x ∈ l, ∀ W, Drawn0 w W → Calls Tryd.prog g (fst.push (.int .i64 x) ++ cap) W fun e W' => e = .returned (.bool (p x)) ∧ Drawn0 w W') :
    Calls Tryd.prog 94 #[.slice A l.length c, .func (.func g) fst cap] w fun e w' => e = .returned (.int .i64 (findI l p)) ∧ Drawn0 w w' := by
  have HR := Aside0.mk hr
  have HP := Aside0.mk hp
  have hm : l.length ≤ 9223372036854775807 := HR.out.2.1
  clear hr hp
  go_enter Tryd.func94, Tryd.ntmps94
  go_wp2
  go_loopw [5, 8] (fun _ i W => ∃ x : Int, i = .int .i64 x ∧ 0 ≤ x ∧ x ≤ l.length ∧ Aside0 (∀ j, 0 ≤ j → j < x → p (l.getD j.toNat 0) = false) ∧ Drawn0 w W) (fun _ i _ => l.length - (intOf i).toNat)
  case atStart => exact ⟨0, rfl, by omega, by omega, ⟨by omega⟩, ⟨0, rfl⟩⟩
  case round =>
    obtain ⟨x, rfl, p0, p1, H0, HD⟩ := hrel
    obtain ⟨m, rfl⟩ := HD
    by_cases hlt : x < l.length
    · obtain ⟨ad, e1, hx⟩ := Kd.at_int HR.out x p0 hlt
      cases e1
      have HPk := Aside0.mk (HP.out _ (rd_mem l x p0 hlt) _ ⟨m, rfl⟩)
      cases hb : p (rd l x)
      · have Hb := Aside0.mk hb
        go_wp2_with ((with_reducible refine (HPk.out).mono ?_); rintro e w2 ⟨rfl, m, rfl⟩)
        go_roundw
        case rel => exact ⟨x + 1, rfl, by omega, by omega, ⟨fun j h0 h1 => by
          by_cases hj : j < x
          · exact H0.out j h0 hj
          · obtain rfl : j = x := by omega
            exact Hb.out⟩, ⟨_, rfl⟩⟩
        case measure => simp [intOf]; omega
      · have Hb := Aside0.mk hb
        go_wp2_with ((with_reducible refine (HPk.out).mono ?_); rintro e w2 ⟨rfl, m, rfl⟩)
        go_ret
        exact ⟨by rw [findI_hit 0 l p x p0 hlt H0.out Hb.out]; rfl, ⟨_, rfl⟩⟩
    · go_wp2
      go_ret
      exact ⟨by rw [findI_none 0 l p (fun j h0 h1 => H0.out j h0 (by omega))]; rfl, ⟨_, rfl⟩⟩

set_option maxHeartbeats 4000000 in
set_option maxRecDepth 100000 in
theorem slices_ContainsFunc (g : Nat) (fst cap : Array Value) (A : Option Addr) (c : Nat) (l : List Int) (p : Int → Bool) (w : World) (hg : ∀ args W, Sem.run Tryd.prog (callFunc g args) W = .ok (.enter g args) W) (hr : Kd.C (Kd.int .i64) w A l.length l)
    (hp : ∀ x ∈ l, ∀ W, Drawn0 w W → Calls Tryd.prog g (fst.push (.int .i64 x) ++ cap) W fun e W' => e = .returned (.bool (p x)) ∧ Drawn0 w W') :
    Calls Tryd.prog 82 #[.slice A l.length c, .func (.func g) fst cap] w fun e w' => e = .returned (.bool (l.any p)) ∧ Drawn0 w w' := by
  have H := Aside0.mk (slices_IndexFunc g fst cap A c l p w hg hr hp)
  clear hg hr hp
  have hf := Aside0.mk (findI_any l p)
  go_enter Tryd.func82, Tryd.ntmps82
  go_wp2_with ((with_reducible refine (H.out).mono ?_); rintro e w2 ⟨rfl, m, rfl⟩)
  go_ret
  exact ⟨by rw [← hf.out]; rfl, ⟨_, rfl⟩⟩
end Go.Proofs.YtpimackoadfcmaaDoor.Hand
