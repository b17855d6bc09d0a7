/- slices.IndexFunc and slices.ContainsFunc over lists of whole numbers, for any function value whose calls only read. -/
import Derived.Test.YtpimackoadfcmaaDoorH0
namespace Go.Proofs.YtpimackoadfcmaaDoor.Hand
open Go.RowKit Go.Proofs.YtpimackoadfcmaaDoorW.PrintWords Go.Proofs.YtpimackoadfcmaaDoorW.PrintLast Go.Proofs.YtpimackoadfcmaaDoorW.PrintMore
set_option linter.unusedVariables false
set_option linter.unusedSimpArgs false

theorem getD_mem_rows (l : List (List Int)) (x : Int) (h0 : 0 ≤ x) (h1 : x < l.length) : l.getD x.toNat [] ∈ l := by
  rw [List.getD_eq_getElem?_getD, List.getElem?_eq_getElem (by omega)]
  exact List.getElem_mem _

set_option maxHeartbeats 4000000 in
set_option maxRecDepth 100000 in
theorem slices_IndexFunc2 (g : Nat) (fst cap : Array Value) (A : Option Addr) (c : Nat) (l : List (List Int)) (p : List Int → Bool) (w : World) (hg : ∀ args W, Sem.run Tryd.prog (callFunc g args) W = .ok (.enter g args) W) (hr : Kd.C (Kd.slice 3 (Kd.int .i64)) w A l.length l)
    (hp : ∀ x ∈ l, ∀ W, Drawn0 w W → ∀ A c, (Kd.int .i64).C W A x.length x → x.length ≤ c → Calls Tryd.prog g (fst.push (.slice A x.length c) ++ cap) W fun e W' => e = .returned (.bool (p x)) ∧ Drawn0 w W') :
    Calls Tryd.prog 92 #[.slice A l.length c, .func (.func g) fst cap] w fun e w' => e = .returned (.int .i64 (findI l p)) ∧ Drawn0 w w' := by
  have HR := Aside0.mk hr
  have HP := Aside0.mk hp
  have hm : l.length ≤ 9223372036854775807 := HR.out.2.1
  clear hr hp
  go_enter Tryd.func92, Tryd.ntmps92
  go_wp2
  go_loopw [5, 8] (fun _ i W => ∃ x : Int, i = .int .i64 x ∧ 0 ≤ x ∧ x ≤ l.length ∧ Aside0 (∀ j, 0 ≤ j → j < x → p (l.getD j.toNat []) = false) ∧ Drawn0 w W) (fun _ i _ => l.length - (intOf i).toNat)
  case atStart => exact ⟨0, rfl, by omega, by omega, ⟨by omega⟩, ⟨0, rfl⟩⟩
  case round =>
    obtain ⟨x, rfl, p0, p1, H0, HD⟩ := hrel
    obtain ⟨m, rfl⟩ := HD
    by_cases hlt : x < l.length
    · obtain ⟨ad, A0, c0, e1, hx, hcc, hrr⟩ := rows_at HR.out x p0 hlt
      cases e1
      have HPk := Aside0.mk (HP.out _ (getD_mem_rows l x p0 hlt) _ ⟨m, rfl⟩ A0 c0 (kdC_drawn hrr ⟨m, rfl⟩) hcc)
      clear hcc
      replace hrr := Aside0.mk hrr
      obtain ⟨y, hy⟩ : ∃ y, y = l.getD x.toNat [] := ⟨_, rfl⟩
      rw [← hy] at hx HPk
      cases hb : p y
      · have Hb := Aside0.mk hb
        replace hy := Aside0.mk hy
        go_wp2_with ((with_reducible refine (HPk.out).mono ?_); rintro e w2 ⟨rfl, m, rfl⟩)
        go_roundw
        case rel => exact ⟨x + 1, rfl, by omega, by omega, ⟨fun j h0 h1 => by
          by_cases hj : j < x
          · exact H0.out j h0 hj
          · obtain rfl : j = x := by omega
            rw [← hy.out]
            exact Hb.out⟩, ⟨_, rfl⟩⟩
        case measure => simp [intOf]; omega
      · have Hb := Aside0.mk hb
        replace hy := Aside0.mk hy
        go_wp2_with ((with_reducible refine (HPk.out).mono ?_); rintro e w2 ⟨rfl, m, rfl⟩)
        go_ret
        exact ⟨by rw [findI_hit [] l p x p0 hlt H0.out (by rw [← hy.out]; exact Hb.out)]; rfl, ⟨_, rfl⟩⟩
    · go_wp2
      go_ret
      exact ⟨by rw [findI_none [] l p (fun j h0 h1 => H0.out j h0 (by omega))]; rfl, ⟨_, rfl⟩⟩

set_option maxHeartbeats 4000000 in
set_option maxRecDepth 100000 in
theorem slices_ContainsFunc2 (g : Nat) (fst cap : Array Value) (A : Option Addr) (c : Nat) (l : List (List Int)) (p : List Int → Bool) (w : World) (hg : ∀ args W, Sem.run Tryd.prog (callFunc g args) W = .ok (.enter g args) W) (hr : Kd.C (Kd.slice 3 (Kd.int .i64)) w A l.length l)
    (hp : ∀ x ∈ l, ∀ W, Drawn0 w W → ∀ A c, (Kd.int .i64).C W A x.length x → x.length ≤ c → Calls Tryd.prog g (fst.push (.slice A x.length c) ++ cap) W fun e W' => e = .returned (.bool (p x)) ∧ Drawn0 w W') :
    Calls Tryd.prog 67 #[.slice A l.length c, .func (.func g) fst cap] w fun e w' => e = .returned (.bool (l.any p)) ∧ Drawn0 w w' := by
  have H := Aside0.mk (slices_IndexFunc2 g fst cap A c l p w hg hr hp)
  clear hg hr hp
  have hf := Aside0.mk (findI_any l p)
  go_enter Tryd.func67, Tryd.ntmps67
  go_wp2_with ((with_reducible refine (H.out).mono ?_); rintro e w2 ⟨rfl, m, rfl⟩)
  go_ret
  exact ⟨by rw [← hf.out]; rfl, ⟨_, rfl⟩⟩
end Go.Proofs.YtpimackoadfcmaaDoor.Hand
