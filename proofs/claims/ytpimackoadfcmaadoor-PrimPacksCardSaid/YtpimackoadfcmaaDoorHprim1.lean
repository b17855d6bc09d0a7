/- prim: the small functions and closures: word.Is, unless, first, words, below0. What each returns, for any input; nothing that was there is written. -/
import Derived.Test.YtpimackoadfcmaaDoorHsl1
import Derived.Test.YtpimackoadfcmaaDoorHsl2
namespace Go.Proofs.YtpimackoadfcmaaDoor.Hand
open Go.RowKit Go.Proofs.YtpimackoadfcmaaDoorW.PrintWords Go.Proofs.YtpimackoadfcmaaDoorW.PrintLast Go.Proofs.YtpimackoadfcmaaDoorW.PrintMore
set_option linter.unusedVariables false
set_option linter.unusedSimpArgs false

theorem word_Is (n : Int) (w : World) : Calls Tryd.prog 84 #[.int .i64 n] w fun e w' => e = .returned (.bool (isWordB n)) ∧ Drawn0 w w' := by
  go_enter Tryd.func84, Tryd.ntmps84
  go_wp2
  all_goals
    go_ret
    exact ⟨by simp [isWordB, *] <;> omega, ⟨0, rfl⟩⟩

theorem prim_unless (b : Bool) (n : Int) (w : World) : Calls Tryd.prog 76 #[.bool b, .int .i64 n] w fun e w' => e = .returned (.int .i64 (if b then 0 else n)) ∧ Drawn0 w w' := by
  cases b <;>
  · go_enter Tryd.func76, Tryd.ntmps76
    go_wp2
    go_ret
    exact ⟨rfl, ⟨0, rfl⟩⟩

/-- The first one that is not 0; 0 if there is none. -/
def firstOf (l : List Int) : Int := (l.find? (fun n => n != 0)).getD 0
theorem rd_zero (a : Int) (l : List Int) : rd (a :: l) 0 = a := rfl
theorem rd_succ (a : Int) (l : List Int) (x : Int) (hx : 0 < x) : rd (a :: l) x = rd l (x - 1) := by
  have e1 : x.toNat = (x - 1).toNat + 1 := by omega
  unfold rd
  rw [e1, List.getD_cons_succ]
theorem firstOf_hit (l : List Int) (x : Int) (h0 : 0 ≤ x) (hx : x < l.length) (hm : ∀ j, 0 ≤ j → j < x → rd l j = 0) (h1 : rd l x ≠ 0) : firstOf l = rd l x := by
  induction l generalizing x with
  | nil => simp at hx; omega
  | cons a l ih =>
    unfold firstOf at ih ⊢
    by_cases hx0 : x = 0
    · subst hx0
      rw [rd_zero] at h1 ⊢
      simp [List.find?_cons, h1]
    · have ha := hm 0 (by omega) (by omega)
      rw [rd_zero] at ha
      have h2 := ih (x - 1) (by omega) (by rw [List.length_cons] at hx; omega) (fun j g0 g1 => by
        have := hm (j + 1) (by omega) (by omega)
        rw [rd_succ _ _ _ (by omega)] at this
        rwa [Int.add_sub_cancel] at this) (by rwa [rd_succ _ _ _ (by omega)] at h1)
      rw [rd_succ _ _ _ (by omega), ← h2]
      simp [List.find?_cons, ha]
theorem firstOf_none (l : List Int) (hm : ∀ j : Int, 0 ≤ j → j < (l.length : Int) → rd l j = 0) : firstOf l = 0 := by
  unfold firstOf
  cases h : l.find? (fun n => n != 0) with
  | none => rfl
  | some a =>
    have h1 := List.find?_some h
    have h2 := List.mem_of_find?_eq_some h
    obtain ⟨j, hj, rfl⟩ := List.getElem_of_mem h2
    have := hm j (by omega) (by omega)
    have e : rd l (j : Int) = l[j] := by simp only [rd, Int.toNat_natCast, List.getD_eq_getElem?_getD, List.getElem?_eq_getElem hj, Option.getD_some]
    rw [e] at this
    rw [this] at h1
    simp at h1

set_option maxHeartbeats 4000000 in
set_option maxRecDepth 100000 in
theorem prim_first (A : Option Addr) (c : Nat) (l : List Int) (w : World) (hr : Kd.C (Kd.int .i64) w A l.length l) :
    Calls Tryd.prog 75 #[.slice A l.length c] w fun e w' => e = .returned (.int .i64 (firstOf l)) ∧ Drawn0 w w' := by
  have HR := Aside0.mk hr
  have hm : l.length ≤ 9223372036854775807 := HR.out.2.1
  clear hr
  go_enter Tryd.func75, Tryd.ntmps75
  go_wp2
  go_loop [5, 8] (fun _ i => ∃ x : Int, i = .int .i64 x ∧ 0 ≤ x ∧ x ≤ l.length ∧ Aside0 (∀ j, 0 ≤ j → j < x → rd l j = 0)) (fun _ i => l.length - (intOf i).toNat)
  case atStart => exact ⟨0, rfl, by omega, by omega, ⟨by omega⟩⟩
  case round =>
    obtain ⟨x, rfl, p0, p1, H0⟩ := hrel
    by_cases hlt : x < l.length
    · obtain ⟨ad, e1, hx⟩ := Kd.at_int HR.out x p0 hlt
      cases e1
      by_cases hz : rd l x = 0
      · have Hz := Aside0.mk hz
        have z1 : (rd l x == 0) = true := beq_iff_eq.mpr hz
        have z2 : (rd l x != 0) = false := bne_eq_false_iff_eq.mpr hz
        clear hz
        go_wp2
        go_round
        case rel => exact ⟨x + 1, rfl, by omega, by omega, ⟨fun j h0 h1 => by
          by_cases hj : j < x
          · exact H0.out j h0 hj
          · obtain rfl : j = x := by omega
            exact Hz.out⟩⟩
        case measure => simp [intOf]; omega
      · have Hz := Aside0.mk hz
        have z1 : (rd l x == 0) = false := beq_eq_false_iff_ne.mpr hz
        have z2 : (rd l x != 0) = true := bne_iff_ne.mpr hz
        clear hz
        go_wp2
        go_ret
        exact ⟨by rw [firstOf_hit l x p0 hlt H0.out Hz.out]; rfl, ⟨0, rfl⟩⟩
    · go_wp2
      go_ret
      exact ⟨by rw [firstOf_none l (fun j h0 h1 => H0.out j h0 (by omega))]; rfl, ⟨0, rfl⟩⟩

theorem prim_words1 (A : Option Addr) (c : Nat) (l : List Int) (w : World) :
    Calls Tryd.prog 80 #[.slice A l.length c] w fun e w' => e = .returned (.bool (decide (1048576 < l.length))) ∧ Drawn0 w w' := by
  go_enter Tryd.func80, Tryd.ntmps80
  go_wp2
  go_ret
  exact ⟨by simp; omega, ⟨0, rfl⟩⟩
theorem prim_words21 (n : Int) (w : World) : Calls Tryd.prog 83 #[.int .i64 n] w fun e w' => e = .returned (.bool (!isWordB n)) ∧ Drawn0 w w' := by
  go_enter Tryd.func83, Tryd.ntmps83
  go_wp2_with (go_at_call 84; refine (word_Is _ _).mono ?_; rintro e w' ⟨rfl, m, rfl⟩)
  go_ret
  exact ⟨rfl, ⟨_, rfl⟩⟩
def noWords (l : List Int) : Bool := l.any (fun n => !isWordB n)
theorem prim_words2 (A : Option Addr) (c : Nat) (l : List Int) (w : World) (hr : Kd.C (Kd.int .i64) w A l.length l) :
    Calls Tryd.prog 81 #[.slice A l.length c] w fun e w' => e = .returned (.bool (noWords l)) ∧ Drawn0 w w' := by
  have H : Calls Tryd.prog 82 #[.slice A l.length c, .func (.func 83) #[] #[]] w fun e w' => e = .returned (.bool (noWords l)) ∧ Drawn0 w w' :=
    slices_ContainsFunc 83 #[] #[] A c l (fun n => !isWordB n) w Tryd.call83 hr (fun x _ W hW => (prim_words21 x W).mono fun e W' ⟨he, hd⟩ => ⟨he, drawn_trans hW hd⟩)
  replace H := Aside0.mk H
  clear hr
  go_enter Tryd.func81, Tryd.ntmps81
  go_wp2_with (go_at_call 82; refine (H.out).mono ?_; rintro e w' ⟨rfl, m, rfl⟩)
  go_ret
  exact ⟨rfl, ⟨_, rfl⟩⟩

/-- What prim.words answers. -/
def wordsE (ls : List (List Int)) (fit : Bool) : Int := if ls.any (fun l => decide (1048576 < l.length)) then 3 else if ls.any noWords then 2 else if fit then 0 else 6
theorem wordsE_ok {ls : List (List Int)} {fit : Bool} (h : wordsE ls fit = 0) : (∀ l ∈ ls, l.length ≤ 1048576) ∧ (∀ l ∈ ls, ∀ n ∈ l, isWordB n = true) ∧ fit = true := by
  unfold wordsE at h
  cases h1 : ls.any (fun l => decide (1048576 < l.length))
  · rw [h1] at h
    cases h2 : ls.any noWords
    · rw [h2] at h
      refine ⟨fun l hl => ?_, fun l hl n hn => ?_, ?_⟩
      · have := List.any_eq_false.1 h1 l hl
        simp at this
        omega
      · have := List.any_eq_false.1 h2 l hl
        have h3 := List.any_eq_false.1 (Bool.eq_false_iff.2 this) n hn
        simpa using h3
      · cases fit
        · simp at h
        · rfl
    · rw [h2] at h
      simp at h
  · rw [h1] at h
    simp at h
set_option maxHeartbeats 4000000 in
set_option maxRecDepth 100000 in
theorem prim_words (A : Option Addr) (c : Nat) (ls : List (List Int)) (fit : Bool) (w : World) (hr : Kd.C (Kd.slice 3 (Kd.int .i64)) w A ls.length ls) :
    Calls Tryd.prog 53 #[.slice A ls.length c, .bool fit] w fun e w' => e = .returned (.int .i64 (wordsE ls fit)) ∧ Below w.heap.size w w' := by
  have H1 : ∀ W, Drawn0 w W → Calls Tryd.prog 67 #[.slice A ls.length c, .func (.func 80) #[] #[]] W fun e w' => e = .returned (.bool (ls.any (fun l => decide (1048576 < l.length)))) ∧ Drawn0 W w' := fun W hW =>
    slices_ContainsFunc2 80 #[] #[] A c ls _ W Tryd.call80 (kdC_drawn hr hW) (fun x _ W1 hW1 A1 c1 _ _ => (prim_words1 A1 c1 x W1).mono fun e W' ⟨he, hd⟩ => ⟨he, drawn_trans hW1 hd⟩)
  have H2 : ∀ W, Drawn0 w W → Calls Tryd.prog 67 #[.slice A ls.length c, .func (.func 81) #[] #[]] W fun e w' => e = .returned (.bool (ls.any noWords)) ∧ Drawn0 W w' := fun W hW =>
    slices_ContainsFunc2 81 #[] #[] A c ls _ W Tryd.call81 (kdC_drawn hr hW) (fun x _ W1 hW1 A1 c1 hr1 _ => (prim_words2 A1 c1 x W1 hr1).mono fun e W' ⟨he, hd⟩ => ⟨he, drawn_trans hW1 hd⟩)
  replace H1 := Aside0.mk H1
  replace H2 := Aside0.mk H2
  clear hr
  unfold wordsE
  cases h1 : ls.any (fun l => decide (1048576 < l.length))
  · rw [h1] at H1
    cases h2 : ls.any noWords
    · rw [h2] at H2
      clear h1 h2
      cases fit <;>
      · go_enter Tryd.func53, Tryd.ntmps53
        go_wp2_with fail
        refine (H1.out _ ⟨0, rfl⟩).mono ?_
        rintro e w' ⟨rfl, m1, rfl⟩
        go_wp2_with fail
        refine (H2.out _ ⟨_, rfl⟩).mono ?_
        rintro e w' ⟨rfl, m2, rfl⟩
        go_wp2_with fail
        refine (prim_unless _ _ _).mono ?_
        rintro e w' ⟨rfl, m3, rfl⟩
        go_wp2_with fail
        refine (prim_unless _ _ _).mono ?_
        rintro e w' ⟨rfl, m4, rfl⟩
        go_wp2_with fail
        refine (prim_first _ _ [_, _] _ (lit_ints _ _ [_, _] _ rfl (by simp))).mono ?_
        rintro e w' ⟨rfl, m5, rfl⟩
        go_wp2
        go_ret
        exact ⟨rfl, by repeat (first | exact Below.refl _ _ | apply below_alloc | apply pw_below_drewN)⟩
    · rw [h2] at H2
      clear h1 h2
      cases fit <;>
      · go_enter Tryd.func53, Tryd.ntmps53
        go_wp2_with fail
        refine (H1.out _ ⟨0, rfl⟩).mono ?_
        rintro e w' ⟨rfl, m1, rfl⟩
        go_wp2_with fail
        refine (H2.out _ ⟨_, rfl⟩).mono ?_
        rintro e w' ⟨rfl, m2, rfl⟩
        go_wp2_with fail
        refine (prim_unless _ _ _).mono ?_
        rintro e w' ⟨rfl, m3, rfl⟩
        go_wp2_with fail
        refine (prim_unless _ _ _).mono ?_
        rintro e w' ⟨rfl, m4, rfl⟩
        go_wp2_with fail
        refine (prim_first _ _ [_, _] _ (lit_ints _ _ [_, _] _ rfl (by simp))).mono ?_
        rintro e w' ⟨rfl, m5, rfl⟩
        go_wp2
        go_ret
        exact ⟨rfl, by repeat (first | exact Below.refl _ _ | apply below_alloc | apply pw_below_drewN)⟩
  · rw [h1] at H1
    clear h1
    go_enter Tryd.func53, Tryd.ntmps53
    go_wp2_with fail
    refine (H1.out _ ⟨0, rfl⟩).mono ?_
    rintro e w' ⟨rfl, m1, rfl⟩
    go_wp2
    go_ret
    exact ⟨rfl, by repeat (first | exact Below.refl _ _ | apply below_alloc | apply pw_below_drewN)⟩

theorem prim_below01 (n : Int) (w : World) : Calls Tryd.prog 93 #[.int .i64 n] w fun e w' => e = .returned (.bool (decide (n < 0))) ∧ Drawn0 w w' := by
  go_enter Tryd.func93, Tryd.ntmps93
  go_wp2
  go_ret
  exact ⟨rfl, ⟨0, rfl⟩⟩
theorem prim_below0 (A : Option Addr) (c : Nat) (l : List Int) (w : World) (hr : Kd.C (Kd.int .i64) w A l.length l) :
    Calls Tryd.prog 72 #[.slice A l.length c] w fun e w' => e = .returned (.bool (l.any fun n => decide (n < 0))) ∧ Drawn0 w w' := by
  have H : Calls Tryd.prog 82 #[.slice A l.length c, .func (.func 93) #[] #[]] w fun e w' => e = .returned (.bool (l.any fun n => decide (n < 0))) ∧ Drawn0 w w' :=
    slices_ContainsFunc 93 #[] #[] A c l _ w Tryd.call93 hr (fun x _ W hW => (prim_below01 x W).mono fun e W' ⟨he, hd⟩ => ⟨he, drawn_trans hW hd⟩)
  replace H := Aside0.mk H
  clear hr
  go_enter Tryd.func72, Tryd.ntmps72
  go_wp2_with (go_at_call 82; refine (H.out).mono ?_; rintro e w' ⟨rfl, m, rfl⟩)
  go_ret
  exact ⟨rfl, ⟨_, rfl⟩⟩
end Go.Proofs.YtpimackoadfcmaaDoor.Hand
