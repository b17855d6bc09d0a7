/- seg: the small functions: within, sum, short, Check, cut, segments. What each returns, for any input; nothing that was there is written. -/
import Derived.Test.YthalgcpohnknbaaJ2
namespace Go.Proofs.Ythalgcpohnknbaa.Hand
open Go.RowKit Go.Proofs.YthalgcpohnknbaaW.PrintWords Go.Proofs.YthalgcpohnknbaaW.PrintLast Go.Proofs.YthalgcpohnknbaaW.PrintMore
set_option linter.unusedVariables false
set_option linter.unusedSimpArgs false
attribute [local go_sem] store_func store_nilFunc
theorem seg_short1 (A : Option Addr) (c : Nat) (l : List Int) (most : Int) (B : Nat) (w : World) (hc : w.cell? ⟨B, 0, none⟩ = some (.int .i64 most)) :
    Calls Try.prog 70 #[.slice A l.length c, .pointer (some ⟨B, 0, none⟩)] w fun e w' => e = .returned (.bool (decide (most < l.length))) ∧ Drawn0 w w' := by
  go_enter Try.func70, Try.ntmps70
  go_wp2
  go_ret
  exact ⟨by simp, ⟨0, rfl⟩⟩
/-- Is a list longer than so much? -/
def longB (most : Int) (ls : List (List Int)) : Bool := ls.any (fun l => decide (most < l.length))
set_option maxHeartbeats 4000000 in
set_option maxRecDepth 100000 in
theorem seg_short (most : Int) (A : Option Addr) (c : Nat) (ls : List (List Int)) (w : World) (hr : Kd.C (Kd.slice 3 (Kd.int .i64)) w A ls.length ls) :
    Calls Try.prog 52 #[.int .i64 most, .slice A ls.length c] w fun e w' => e = .returned (.bool (!longB most ls)) ∧ Below w.heap.size w w' := by
  have H1 : Aside0 (∀ W, w.heap.size + 1 = W.heap.size → Below w.heap.size w W → W.cell? ⟨w.heap.size, 0, none⟩ = some (.int .i64 most) → Calls Try.prog 69 #[.slice A ls.length c, .func (.func 70) #[] #[.pointer (some ⟨w.heap.size, 0, none⟩)]] W fun e w' => e = .returned (.bool (longB most ls)) ∧ Drawn0 W w') := ⟨fun W hs hW hc =>
    slices_ContainsFunc2 70 #[] #[.pointer (some ⟨w.heap.size, 0, none⟩)] A c ls (fun l => decide (most < l.length)) W Try.call70 (Kd.C_below hr hW) (fun x _ W1 hW1 A1 c1 _ _ => (seg_short1 A1 c1 x most w.heap.size W1 (pw_cell_below hW1.below hc)).mono fun e W' ⟨he, hd⟩ => ⟨he, drawn_trans hW1 hd⟩)⟩
  clear hr
  generalize longB most ls = R at *
  go_enter Try.func52, Try.ntmps52
  go_wp2_with ((with_reducible refine (H1.out _ (by simp) (below_alloc (Below.refl _ _) _) (blk_cell (blk_new w _) 0)).mono ?_); rintro e w2 ⟨rfl, m, rfl⟩)
  go_ret
  exact ⟨by simp, pw_below_drewN (below_alloc (Below.refl _ _) _) _⟩
set_option maxHeartbeats 4000000 in
set_option maxRecDepth 100000 in
theorem seg_within1 (n most : Int) (B : Nat) (w : World) (hc : w.cell? ⟨B, 0, none⟩ = some (.int .i64 most)) :
    Calls Try.prog 74 #[.int .i64 n, .pointer (some ⟨B, 0, none⟩)] w fun e w' => e = .returned (.bool (decide (n < 0) || decide (most < n))) ∧ Drawn0 w w' := by
  by_cases h : n < 0
  · have z : decide (n < 0) = true := decide_eq_true h
    go_enter Try.func74, Try.ntmps74
    go_wp2
    go_ret
    exact ⟨by simp [h], ⟨0, rfl⟩⟩
  · have z : decide (n < 0) = false := decide_eq_false h
    go_enter Try.func74, Try.ntmps74
    go_wp2
    go_ret
    exact ⟨by simp, ⟨0, rfl⟩⟩
/-- Is a number below 0, or above so much? -/
def outB (most : Int) (l : List Int) : Bool := l.any (fun n => decide (n < 0) || decide (most < n))
set_option maxHeartbeats 4000000 in
set_option maxRecDepth 100000 in
theorem seg_within (A : Option Addr) (c : Nat) (l : List Int) (most : Int) (w : World) (hr : Kd.C (Kd.int .i64) w A l.length l) :
    Calls Try.prog 63 #[.slice A l.length c, .int .i64 most] w fun e w' => e = .returned (.bool (!outB most l)) ∧ Below w.heap.size w w' := by
  have H1 : Aside0 (∀ W, w.heap.size + 1 = W.heap.size → Below w.heap.size w W → W.cell? ⟨w.heap.size, 0, none⟩ = some (.int .i64 most) → Calls Try.prog 53 #[.slice A l.length c, .func (.func 74) #[] #[.pointer (some ⟨w.heap.size, 0, none⟩)]] W fun e w' => e = .returned (.bool (outB most l)) ∧ Drawn0 W w') := ⟨fun W hs hW hc =>
    slices_ContainsFunc 74 #[] #[.pointer (some ⟨w.heap.size, 0, none⟩)] A c l (fun n => decide (n < 0) || decide (most < n)) W Try.call74 (Kd.C_below hr hW) (fun x _ W1 hW1 => (seg_within1 x most w.heap.size W1 (pw_cell_below hW1.below hc)).mono fun e W' ⟨he, hd⟩ => ⟨he, drawn_trans hW1 hd⟩)⟩
  clear hr
  generalize outB most l = R at *
  go_enter Try.func63, Try.ntmps63
  go_wp2_with ((with_reducible refine (H1.out _ (by simp) (below_alloc (Below.refl _ _) _) (blk_cell (blk_new w _) 0)).mono ?_); rintro e w2 ⟨rfl, m, rfl⟩)
  go_ret
  exact ⟨by simp, pw_below_drewN (below_alloc (Below.refl _ _) _) _⟩
/-- How much all numbers make together. -/
def ttl (l : List Int) : Nat := startOf l l.length
def negs (l : List Int) : Bool := l.any fun n => decide (n < 0)
theorem negs_pos {l : List Int} (h : negs l = false) : ∀ n ∈ l, 0 ≤ n := by
  intro n hn
  have := List.any_eq_false.1 h n hn
  simpa using this
def sumB (l : List Int) : Int × Bool := if ttl l ≤ 1048576 then ((ttl l : Nat), true) else (0, false)
set_option maxHeartbeats 4000000 in
set_option maxRecDepth 100000 in
theorem seg_sum (A : Option Addr) (c : Nat) (l : List Int) (w : World) (hr : Kd.C (Kd.int .i64) w A l.length l) (hpos : ∀ n ∈ l, 0 ≤ n) :
    Calls Try.prog 55 #[.slice A l.length c] w fun e w' => e = .returned (.tuple #[.int .i64 (sumB l).1, .bool (sumB l).2]) ∧ Drawn0 w w' := by
  have HR := Aside0.mk hr
  have HP := Aside0.mk hpos
  have hm : l.length ≤ 9223372036854775807 := hr.2.1
  clear hr hpos
  have HE : Aside0 (sumB l = if ttl l ≤ 1048576 then (((ttl l : Nat) : Int), true) else (0, false)) := ⟨rfl⟩
  generalize sumB l = R at HE ⊢
  go_enter Try.func55, Try.ntmps55
  go_wp2
  go_loopw [4, 6, 9] (fun a _ i W => ∃ x : Int, i = .int .i64 x ∧ a = .int .i64 ((startOf l x : Nat) : Int) ∧ 0 ≤ x ∧ x ≤ l.length ∧ startOf l x ≤ 1048576 ∧ Drawn0 w W) (fun _ _ i _ => l.length - (intOf i).toNat)
  case atStart => exact ⟨0, rfl, rfl, by omega, by omega, by rw [startOf_zero]; omega, ⟨0, rfl⟩⟩
  case round =>
    obtain ⟨x, rfl, rfl, p0, p1, p2, m, rfl⟩ := hrel
    by_cases hlt : x < l.length
    · obtain ⟨ad, e1, hx⟩ := Kd.at_int HR.out x p0 hlt
      cases e1
      have hn0 := HP.out _ (rd_mem l x p0 hlt)
      obtain ⟨n, hn⟩ : ∃ n : Nat, rd l x = n := ⟨(rd l x).toNat, by omega⟩
      have hs := startOf_succ l x p0 hlt
      rw [hn] at hx hs
      rw [Int.toNat_natCast] at hs
      have hmono := startOf_mono l (x + 1) (by omega) (l.length - (x + 1).toNat) (by omega)
      rw [show x + 1 + ((l.length - (x + 1).toNat : Nat) : Int) = l.length by omega, hs] at hmono
      replace hmono := Aside0.mk hmono
      generalize startOf l x = st at *
      replace hs := Aside0.mk hs
      clear hn0 hn
      by_cases hb : (1048576 - (st : Int)) < (n : Int)
      · have z : decide ((1048576 - (st : Int)) < (n : Int)) = true := decide_eq_true hb
        have hRE : Aside0 (R = (0, false)) := ⟨by rw [HE.out, if_neg]; have := hmono.out; unfold ttl; omega⟩
        go_wp2
        go_ret2
        exact ⟨by rw [hRE.out]; rfl, ⟨_, rfl⟩⟩
      · have z : decide ((1048576 - (st : Int)) < (n : Int)) = false := decide_eq_false hb
        go_wp2
        go_roundw
        case rel => exact ⟨x + 1, rfl, by rw [hs.out]; simp, by omega, by omega, by rw [hs.out]; omega, ⟨_, rfl⟩⟩
        case measure => simp [intOf]; omega
    · obtain rfl : x = l.length := by omega
      have hRE : Aside0 (R = (((startOf l l.length : Nat) : Int), true)) := ⟨by rw [HE.out, if_pos (by unfold ttl; exact p2)]; rfl⟩
      generalize startOf l l.length = st at *
      go_wp2
      go_ret2
      exact ⟨by (rw [hRE.out]; first | done | rfl), ⟨_, rfl⟩⟩
theorem seg_cut (A : Option Addr) (n c : Nat) (w : World) (hn : n ≤ c) (hc : c ≤ 9223372036854775807) :
    Calls Try.prog 57 #[.slice A n c] w fun e w' => e = .returned (.slice A n n) ∧ Drawn0 w w' := by
  go_enter Try.func57, Try.ntmps57
  go_wp2
  go_ret
  exact ⟨rfl, ⟨0, rfl⟩⟩
theorem seg_Check1 (n : Int) (w : World) : Calls Try.prog 54 #[.int .i64 n] w fun e w' => e = .returned (.bool (decide (n < 0))) ∧ Drawn0 w w' := by
  go_enter Try.func54, Try.ntmps54
  go_wp2
  go_ret
  exact ⟨rfl, ⟨0, rfl⟩⟩
/-- The error that lengths make, or 0. -/
def chkE (l : List Int) : Int := if 1048576 < l.length then 3 else if negs l then 2 else if 1048576 < ttl l then 9 else 0
def seg_Check.g (l : List Int) : Int × Int := if chkE l = 0 then ((ttl l : Nat), 0) else (0, chkE l)
theorem chkE_ok {l : List Int} (h : chkE l = 0) : l.length ≤ 1048576 ∧ (∀ n ∈ l, 0 ≤ n) ∧ ttl l ≤ 1048576 := by
  unfold chkE at h
  by_cases h1 : 1048576 < l.length
  · rw [if_pos h1] at h; simp at h
  · rw [if_neg h1] at h
    cases h2 : negs l
    · rw [h2] at h
      by_cases h3 : 1048576 < ttl l
      · simp [h3] at h
      · exact ⟨by omega, negs_pos h2, by omega⟩
    · rw [h2] at h; simp at h
set_option maxHeartbeats 4000000 in
set_option maxRecDepth 100000 in
theorem seg_Check.run (A : Option Addr) (c : Nat) (l : List Int) (w : World) (hr : Kd.C (Kd.int .i64) w A l.length l) (hc : l.length ≤ c) :
    Calls Try.prog 14 #[.slice A l.length c] w fun e w' => e = .returned (.tuple #[.int .i64 (seg_Check.g l).1, .int .i64 (seg_Check.g l).2]) ∧ Below w.heap.size w w' := by
  have HS := Aside0.mk (Sl.of hr hc)
  have hm : l.length ≤ 9223372036854775807 := hr.2.1
  have HSh : Aside0 (∀ W, Kd.C (Kd.slice 3 (Kd.int .i64)) W (some ⟨w.heap.size, 0, none⟩) 1 [l] → Calls Try.prog 52 #[.int .i64 1048576, .slice (some ⟨w.heap.size, 0, none⟩) 1 1] W fun e w' => e = .returned (.bool (!decide (1048576 < l.length))) ∧ Below W.heap.size W w') := ⟨fun W h => by
    have h2 := seg_short 1048576 (some ⟨w.heap.size, 0, none⟩) 1 [l] W h
    have e : longB 1048576 [l] = decide (1048576 < l.length) := by simp [longB]; omega
    rw [e] at h2
    exact h2⟩
  have HNg : Aside0 (∀ W, Below w.heap.size w W → Calls Try.prog 53 #[.slice A l.length c, .func (.func 54) #[] #[]] W fun e w' => e = .returned (.bool (negs l)) ∧ Drawn0 W w') := ⟨fun W hW =>
    slices_ContainsFunc 54 #[] #[] A c l (fun n => decide (n < 0)) W Try.call54 (Kd.C_below hr hW) (fun x _ W1 hW1 => (seg_Check1 x W1).mono fun e W' ⟨he, hd⟩ => ⟨he, drawn_trans hW1 hd⟩)⟩
  have HSm : Aside0 (negs l = false → ∀ W, Below w.heap.size w W → Calls Try.prog 55 #[.slice A l.length c] W fun e w' => e = .returned (.tuple #[.int .i64 (sumB l).1, .bool (sumB l).2]) ∧ Drawn0 W w') := ⟨fun hn W hW => seg_sum A c l W (Kd.C_below hr hW) (negs_pos hn)⟩
  have HE : Aside0 (seg_Check.g l = if 1048576 < l.length then (0, 3) else if negs l then (0, 2) else if ttl l ≤ 1048576 then (((ttl l : Nat) : Int), 0) else (0, 9)) := ⟨by
    unfold seg_Check.g chkE
    by_cases h1 : 1048576 < l.length
    · simp [h1]
    · cases h2 : negs l
      · by_cases h3 : 1048576 < ttl l
        · have : ¬ ttl l ≤ 1048576 := by omega
          simp [h1, h3, this]
        · have : ttl l ≤ 1048576 := by omega
          simp [h1, h3, this]
      · simp [h1]⟩
  generalize seg_Check.g l = R at *
  clear hr hc
  by_cases h1 : 1048576 < l.length
  · have z1 : decide (1048576 < l.length) = true := decide_eq_true h1
    rw [z1] at HSh
    replace HE : Aside0 (R = (0, 3)) := ⟨by rw [HE.out, if_pos h1]⟩
    clear h1 z1
    go_enter Try.func14, Try.ntmps14
    go_wp2_with fail
    refine (HSh.out _ (lit_rows_at _ _ (by simp) _ _ [l] _ rfl (rows_of1 HS.out) (by simp))).mono ?_
    rintro e w2 ⟨rfl, hb⟩
    replace hb := Aside0.mk hb
    go_wp2
    go_ret2
    exact ⟨by (rw [HE.out]; first | done | rfl), (below_alloc (Below.refl _ _) _).trans (hb.out.mono (by simp))⟩
  · have z1 : decide (1048576 < l.length) = false := decide_eq_false h1
    rw [z1] at HSh
    replace HE : Aside0 (R = if negs l then (0, 2) else if ttl l ≤ 1048576 then (((ttl l : Nat) : Int), 0) else (0, 9)) := ⟨by rw [HE.out, if_neg h1]⟩
    clear h1 z1
    cases hng : negs l
    · rw [hng] at HNg HE
      have HSm2 := Aside0.mk (HSm.out hng)
      replace HE : Aside0 (R = if ttl l ≤ 1048576 then (((ttl l : Nat) : Int), 0) else (0, 9)) := ⟨by rw [HE.out]; rfl⟩
      have HSB : Aside0 (sumB l = if ttl l ≤ 1048576 then (((ttl l : Nat) : Int), true) else (0, false)) := ⟨rfl⟩
      generalize sumB l = SB at *
      clear hng HSm
      by_cases h3 : ttl l ≤ 1048576
      · replace HE : Aside0 (R = (((ttl l : Nat) : Int), 0)) := ⟨by rw [HE.out, if_pos h3]⟩
        obtain rfl : SB = (((ttl l : Nat) : Int), true) := by rw [HSB.out, if_pos h3]
        generalize ttl l = T at *
        clear HSB
        go_enter Try.func14, Try.ntmps14
        go_wp2_with fail
        refine (HSh.out _ (lit_rows_at _ _ (by simp) _ _ [l] _ rfl (rows_of1 HS.out) (by simp))).mono ?_
        rintro e w2 ⟨rfl, hb⟩
        have hB := Aside0.mk ((below_alloc (Below.refl _ _) _).trans (hb.mono (by simp)))
        clear hb
        go_wp2_with fail
        refine (HNg.out _ hB.out).mono ?_
        rintro e w3 ⟨rfl, m, rfl⟩
        go_wp2_with fail
        refine (HSm2.out _ (pw_below_drewN hB.out _)).mono ?_
        rintro e w4 ⟨rfl, m2, rfl⟩
        go_wp2
        go_ret2
        exact ⟨by (rw [HE.out]; first | done | rfl), pw_below_drewN hB.out _⟩
      · replace HE : Aside0 (R = (0, 9)) := ⟨by rw [HE.out, if_neg h3]⟩
        obtain rfl : SB = (0, false) := by rw [HSB.out, if_neg h3]
        generalize ttl l = T at *
        clear HSB
        go_enter Try.func14, Try.ntmps14
        go_wp2_with fail
        refine (HSh.out _ (lit_rows_at _ _ (by simp) _ _ [l] _ rfl (rows_of1 HS.out) (by simp))).mono ?_
        rintro e w2 ⟨rfl, hb⟩
        have hB := Aside0.mk ((below_alloc (Below.refl _ _) _).trans (hb.mono (by simp)))
        clear hb
        go_wp2_with fail
        refine (HNg.out _ hB.out).mono ?_
        rintro e w3 ⟨rfl, m, rfl⟩
        go_wp2_with fail
        refine (HSm2.out _ (pw_below_drewN hB.out _)).mono ?_
        rintro e w4 ⟨rfl, m2, rfl⟩
        go_wp2
        go_ret2
        exact ⟨by (rw [HE.out]; first | done | rfl), pw_below_drewN hB.out _⟩
    · rw [hng] at HNg HE
      replace HE : Aside0 (R = (0, 2)) := ⟨by rw [HE.out]; rfl⟩
      clear hng HSm
      go_enter Try.func14, Try.ntmps14
      go_wp2_with fail
      refine (HSh.out _ (lit_rows_at _ _ (by simp) _ _ [l] _ rfl (rows_of1 HS.out) (by simp))).mono ?_
      rintro e w2 ⟨rfl, hb⟩
      have hB := Aside0.mk ((below_alloc (Below.refl _ _) _).trans (hb.mono (by simp)))
      clear hb
      go_wp2_with fail
      refine (HNg.out _ hB.out).mono ?_
      rintro e w3 ⟨rfl, m, rfl⟩
      go_wp2
      go_ret2
      exact ⟨by (rw [HE.out]; first | done | rfl), pw_below_drewN hB.out _⟩
/-- What segments yields: where each begins, and how long it is. -/
def segL (lens : List Int) : List (Array Value) := (List.range lens.length).map fun (i : Nat) => #[.int .i64 ((startOf lens i : Nat) : Int), .int .i64 (rd lens (i : Int))]
theorem segL_at (lens : List Int) (x : Int) (h0 : 0 ≤ x) (hx : x < lens.length) : (segL lens)[x.toNat]? = some #[.int .i64 ((startOf lens x : Nat) : Int), .int .i64 (rd lens x)] := by
  have e : ((x.toNat : Nat) : Int) = x := by omega
  simp only [segL, List.getElem?_map, List.getElem?_range (show x.toNat < lens.length by omega), Option.map_some, e]
theorem segL_length (lens : List Int) : (segL lens).length = lens.length := by simp [segL]
theorem segL_get {lens : List Int} {i : Nat} {args : Array Value} (h : (segL lens)[i]? = some args) : i < lens.length ∧ args = #[.int .i64 ((startOf lens i : Nat) : Int), .int .i64 (rd lens (i : Int))] := by
  have hi : i < lens.length := by have := (List.getElem?_eq_some_iff.1 h).1; rwa [segL_length] at this
  have e := segL_at lens (i : Int) (by omega) (by omega)
  rw [Int.toNat_natCast, h] at e
  exact ⟨hi, Option.some.inj e⟩
theorem segL_size (lens : List Int) : ∀ args ∈ segL lens, args.size = 2 := by
  intro args h
  obtain ⟨i, _, rfl⟩ := List.mem_map.1 h
  rfl
theorem seg_segments (v : Value) (w : World) (A : Option Addr) (n c : Nat) (hv : v = .slice A n c) :
    Calls Try.prog 56 #[v] w fun e w' => e = .returned (.func (.func 72) #[] #[.pointer (some ⟨w.heap.size, 0, none⟩)]) ∧ w' = w.alloc (.cells #[v] 22) := by
  subst hv
  go_enter Try.func56, Try.ntmps56
  go_wp2
  go_ret
  exact ⟨by simp, rfl⟩
set_option maxHeartbeats 4000000 in
set_option maxRecDepth 100000 in
theorem seg_segments_it (Bs : Nat) (A2 : Option Addr) (c2 : Nat) (lens : List Int) (B : Nat) (w0 : World) (hcs : w0.cell? ⟨Bs, 0, none⟩ = some (.slice A2 lens.length c2))
    (hr2 : ∀ W, Below B w0 W → (Kd.int .i64).C W A2 lens.length lens) (hB : B ≤ w0.heap.size) (hpos : ∀ n ∈ lens, 0 ≤ n) (htot : ttl lens ≤ 1048576) :
    IterC Try.prog 72 #[.pointer (some ⟨Bs, 0, none⟩)] (segL lens) B w0 := by
  intro lp J Jx W hW hJ hJx hY h0
  have hm : lens.length ≤ 9223372036854775807 := (hr2 w0 (Below.refl _ _)).2.1
  have hc2 : W.cell? ⟨Bs, 0, none⟩ = some (.slice A2 lens.length c2) := pw_cell_below hW hcs
  have HR := Aside0.mk hr2
  have HW := Aside0.mk (hW.mono hB)
  have HJ := Aside0.mk hJ
  have HY := Aside0.mk hY
  have H0 := Aside0.mk h0
  have HP := Aside0.mk hpos
  have HT := Aside0.mk htot
  clear hcs hr2 hJ hY h0 hJx hW hpos htot
  refine callsIn_of_wp Try.func72 rfl trivial ?_
  simp only [Try.ntmps72, List.size_toArray, List.length_cons, List.length_nil, Nat.reduceAdd, Nat.reduceSub, Array.replicate_succ, Array.replicate_zero, List.push_toArray, List.append_toArray, List.nil_append, List.cons_append]
  gi_wp2
  gi_loopw [3, 5, 8] (fun a _ i wr => ∃ x : Int, i = .int .i64 x ∧ a = .int .i64 ((startOf lens x : Nat) : Int) ∧ 0 ≤ x ∧ x ≤ lens.length ∧ Aside0 (J x.toNat wr) ∧ Aside0 (Below B w0 wr) ) (fun _ _ i _ => lens.length - (intOf i).toNat)
  case atStart => exact ⟨0, rfl, rfl, by omega, by omega, H0, HW⟩
  case round =>
    obtain ⟨x, rfl, rfl, p0, p1, hj, hb⟩ := hrel
    by_cases hlt : x < lens.length
    · obtain ⟨ad, e1, hx⟩ := Kd.at_int (HR.out _ hb.out) x p0 hlt
      cases e1
      have hn0 := HP.out _ (rd_mem lens x p0 hlt)
      have hs := startOf_succ lens x p0 hlt
      have hmono := startOf_mono lens (x + 1) (by omega) (lens.length - (x + 1).toNat) (by omega)
      have hyy := segL_at lens x p0 hlt
      obtain ⟨n, hn⟩ : ∃ n : Nat, rd lens x = n := ⟨(rd lens x).toNat, by omega⟩
      have hT := HT.out
      unfold ttl at hT
      rw [show x + 1 + ((lens.length - (x + 1).toNat : Nat) : Int) = lens.length by omega, hs, hn, Int.toNat_natCast] at hmono
      rw [hn, Int.toNat_natCast] at hs
      rw [hn] at hx hyy
      obtain ⟨fn, tmps, assign, body, hy, hR⟩ := HY.out _ _ wr hyy hj.out
      have HRd := Aside0.mk hR
      have hmo2 : startOf lens x + n ≤ 1048576 := by omega
      generalize hst : startOf lens x = st at *
      have HS := Aside0.mk hs
      clear hR hs hyy hn hn0 hst hmono hT
      gi_wp2
      refine ⟨rfl, ?_⟩
      refine HRd.out.mono ?_
      rintro e W2 (⟨rfl, hj2, hk⟩ | ⟨rfl, hj2⟩)
      · have e1 : x.toNat + 1 = (x + 1).toNat := by omega
        rw [e1] at hj2
        have h3 := Aside0.mk (hb.out.trans hk)
        replace hj2 := Aside0.mk hj2
        clear hk e1 hy
        gi_wp2
        go_roundw
        case rel => exact ⟨x + 1, rfl, by rw [HS.out]; rfl, by omega, by omega, hj2, h3⟩
        case measure => simp [intOf]; omega
      · replace hj2 := Aside0.mk hj2
        clear hy
        gi_wp2
        refine bodyPost_ret (results_none rfl _ _ _) rfl ?_
        exact ⟨⟨_, rfl⟩, .inr hj2.out⟩
    · have e1 : x.toNat = (segL lens).length := by rw [segL_length]; omega
      replace e1 := Aside0.mk e1
      gi_wp2
      go_end0
      exact ⟨⟨_, rfl⟩, .inl (by rw [← e1.out]; exact hj.out)⟩
end Go.Proofs.Ythalgcpohnknbaa.Hand
/- seg.Starts: where each segment begins. -/
namespace Go.Proofs.Ythalgcpohnknbaa.Hand
open Go.RowKit Go.Proofs.YthalgcpohnknbaaW.PrintWords Go.Proofs.YthalgcpohnknbaaW.PrintLast Go.Proofs.YthalgcpohnknbaaW.PrintMore
set_option linter.unusedVariables false
set_option linter.unusedSimpArgs false
attribute [local go_sem] store_func store_nilFunc Oper.semAt_some
def seg_Starts.g (l : List Int) : List Int × Int := if chkE l = 0 then (upTo (fun x => ((startOf l x : Nat) : Int)) l.length, 0) else ([], chkE l)
set_option maxHeartbeats 4000000 in
set_option maxRecDepth 100000 in
theorem seg_Starts.run (A : Option Addr) (c : Nat) (l : List Int) (w : World) (hr : Kd.C (Kd.int .i64) w A l.length l) (hc : l.length ≤ c) :
    Calls Try.prog 16 #[.slice A l.length c] w (Ret2 w (seg_Starts.g l)) := by
  have HR := Aside0.mk hr
  have hm : l.length ≤ 9223372036854775807 := hr.2.1
  have HC := Aside0.mk (seg_Check.run A c l w hr hc)
  clear hr hc
  unfold seg_Starts.g
  unfold seg_Check.g at HC
  by_cases h0 : chkE l = 0
  · rw [if_pos h0] at HC ⊢
    obtain ⟨q1, q2, q3⟩ := chkE_ok h0
    clear h0
    refine calls_of_marks Try.func16 rfl ?_
    simp only [Try.ntmps16, List.size_toArray, List.length_cons, List.length_nil, Nat.reduceAdd, Nat.reduceSub, Array.replicate_succ, Array.replicate_zero, List.push_toArray, List.append_toArray, List.nil_append, List.cons_append]
    go_wp2_with fail
    refine (HC.out).mono ?_
    rintro e w1 ⟨rfl, hb1⟩
    replace hb1 := Aside0.mk hb1
    go_wp2_with fail
    refine (seg_segments _ _ A l.length c rfl).mono ?_
    rintro e w3 ⟨rfl, hw3⟩
    have z0 : (w1.alloc (Obj.cells #[Value.slice none 0 0] 22)).heap.size = w1.heap.size + 1 := by simp
    rw [z0]
    have s3 : w3.heap.size = w1.heap.size + 2 := by rw [hw3]; simp
    have m3 : w3.heap[w1.heap.size]? = some (.cells #[.slice none 0 0] 22 (0, 0)) := by rw [hw3]; exact blk_alloc (blk_new w1 _) _
    have n3 : w3.cell? ⟨w1.heap.size + 1, 0, none⟩ = some (.slice A l.length c) := by rw [hw3]; exact (blk_cell (blk_new_at (by simp) _) 0).trans rfl
    have b3 : Below w.heap.size w w3 := hb1.out.trans ((by rw [hw3]; exact below_alloc (below_alloc (Below.refl _ _) _) _ : Below w1.heap.size w1 w3).mono hb1.out.size)
    have hle := hb1.out.size
    clear hw3 z0
    generalize hbo : w1.heap.size = bo at *
    go_wp2
    refine wp_rangeSeq rfl Try.call72 (seg_segments_it (bo + 1) A c l w.heap.size w3 n3 (fun W hW => Kd.C_below HR.out (b3.trans hW)) b3.size q2 q3) (Below.refl _ _) b3.size (segL_size l)
      (fun i W => ∃ v, W.heap[bo]? = some (.cells #[v] 22 (0, 0)) ∧ (Kd.int .i64).R 3 W (bo + 2) (fun k => bo + 2 ≤ k) v (upTo (fun x => ((startOf l x : Nat) : Int)) i) ∧ Kp (fun k => k = bo ∨ bo + 2 ≤ k) w3 W) (fun _ _ => False) ?own ?ownx ?start ?round ?done ?stop
    case own =>
      rintro i W1 W2 row ⟨v, h1, h2, h3⟩ hg hr
      exact ⟨v, blk_own h1 hg (fun r e => (hr r e).2), R_own h2 hg (fun r e => (hr r e).2), h3.own hg (fun r e => .inr (by have := (hr r e).1; omega))⟩
    case ownx => exact fun _ _ _ _ h _ _ => h.elim
    case start => exact ⟨_, m3, Kd.R_nil _ _ _ _ _, Kp.refl _ _⟩
    case stop => exact fun _ _ _ _ h _ => h.elim
    case round =>
      intro l0 i args W hi hI K hK
      obtain ⟨hlt, rfl⟩ := segL_get hi
      clear hI
      replace hK := Aside0.mk hK
      gi_wp2
      refine hK.out _ ?_
      rintro W2 ⟨v, hM, hR, hK2⟩
      have hown : ∀ k, some k = v.ownBlock → bo + 2 ≤ k ∧ ∃ cs t fr, W2.heap[k]? = some (.cells cs t fr) := fun k hk => ⟨(R_cells hR hk).1, (R_cells hR hk).2.2⟩
      have R2 := Kd.R_mono (Kd.R_tight2 (rfl : (Kd.int .i64).E = []) hR) (ok' := fun k => some k = v.ownBlock ∨ W2.heap.size ≤ k) (fun k hk => .inl hk.1)
      have hsz : bo + 2 ≤ W2.heap.size := by have := hK2.size; omega
      have cB2 : W2.cell? ⟨bo, 0, none⟩ = some v := blk_cell hM 0
      have HOwn := Aside0.mk hown
      have HR2 := Aside0.mk R2
      have HM2 := Aside0.mk hM
      have HK2 := Aside0.mk hK2
      have HSu := Aside0.mk (show upTo (fun x => ((startOf l x : Nat) : Int)) ((i + 1 : Nat) : Int) = upTo (fun x => ((startOf l x : Nat) : Int)) (i : Int) ++ [((startOf l (i : Int) : Nat) : Int)] by rw [show ((i + 1 : Nat) : Int) = (i : Int) + 1 by omega]; exact upTo_succ _ _ (by omega))
      clear hK K hR hM hK2 hown R2
      generalize hxs0 : upTo (fun x => ((startOf l x : Nat) : Int)) i = xs at *
      have HLs : Aside0 ((xs.length + 1) * 8 ≤ 140737488355328) := ⟨by rw [← hxs0, upTo_length]; omega⟩
      clear hxs0
      generalize startOf l (i : Int) = st at *
      gi_wp2_with (gi_at_builtin; refine wpListIn_append_int 22 3 (bo + 2) rfl _ _ v xs ((st : Int)) (fun b => some b = v.ownBlock ∨ W2.heap.size ≤ b) rfl Try.underlying22 infoInt rfl rfl (fun b hb => .inr (Nat.le_trans (by first | exact Nat.le_refl _ | simp) hb)) (by first | exact HR2.out | exact Kd.R_drewN HR2.out _) (by first | omega | (simp; omega)) HLs.out ?_; intro v1 w5 R5 hg5 hat5; have hne5 : some bo ≠ v.ownBlock := (fun e => by have := (HOwn.out bo e).1; omega); have M5 := blk_grown (by first | exact HM2.out | exact blk_drewN HM2.out _) hg5 hne5; have c5 : w5.cell? ⟨bo, 0, none⟩ = some v := blk_cell M5 0; have f5 := blk_frozen M5 0; obtain ⟨A6, c6, rfl⟩ := Kd.R_slice R5; have K6 : Kp (fun k => k = bo ∨ some k = v.ownBlock ∨ W2.heap.size ≤ k) W2 w5 := (by first | exact (Kp.refl _ _).grown hg5 (fun b e => .inl (.inr (.inl e.symm))) | exact ((Kp.refl _ _).drewN _).grown hg5 (fun b e => .inl (.inr (.inl e.symm)))); replace M5 := Aside0.mk M5; replace R5 := Aside0.mk R5; replace K6 := Aside0.mk K6; clear hg5 hat5)
      have K7 := K6.out.setCell ⟨bo, 0, none⟩ (.inl (.inl rfl)) (.slice A6 (xs ++ [(st : Int)]).length c6)
      have R7 := Kd.R_set R5.out M5.out (by decide) 0 (.slice A6 (xs ++ [(st : Int)]).length c6)
      have M7 := blk_set M5.out 0 (.slice A6 (xs ++ [(st : Int)]).length c6)
      have elen : (xs ++ [(st : Int)]).length = xs.length + 1 := by simp
      rw [elen] at K7 R7 M7
      have hon : ∀ b, (b = bo ∨ some b = v.ownBlock ∨ W2.heap.size ≤ b) → b = bo ∨ bo + 2 ≤ b := fun b h => h.elim .inl (fun h => h.elim (fun h => .inr (HOwn.out b h).1) (fun h => .inr (by omega)))
      refine ⟨K7.keepsFrom (fun b hb hlt => by
          rcases hb with rfl | hb | hb
          · exact ⟨_, _, _, HM2.out⟩
          · exact (HOwn.out b hb).2
          · omega), K7.below (fun b hb => ⟨by omega, fun hS => by have := hon b hS; omega⟩), _, M7, ?_, HK2.out.trans K7 (fun b h => .inl (hon b h))⟩
      rw [HSu.out]
      exact Kd.R_mono R7 (fun b hb => (hon b (.inr hb)).resolve_left (fun e => hb.elim (fun hb => by have := (HOwn.out _ hb).1; omega) (fun hb => by omega)))
    case done =>
      rintro D W hD ⟨v, h1, h2', h3'⟩ hd
      have cO : W.cell? ⟨bo, 0, none⟩ = some v := blk_cell h1 0
      obtain ⟨A9, c9, rfl⟩ := Kd.R_slice h2'
      have hq := (Kd.R_reads' h2').2.1
      have H1 := Aside0.mk h1
      have H2 := Aside0.mk h2'
      have H3 := Aside0.mk h3'
      have HQ := Aside0.mk (seg_cut A9 _ c9 W hq (R_cap h2'))
      have HD := Aside0.mk hd
      clear h1 h2' h3' hq hd
      go_wp2_with (go_at_call 57; (with_reducible refine (HQ.out).mono ?_); rintro e w5 ⟨rfl, m5, rfl⟩)
      (try rw [Exit.noGoto_ret])
      have hd5 : (W.drewN m5).heap[D]? = some (.deferred (some [])) := HD.out
      refine Marks.one hd5 _ (results_tmp2 rfl _ _ _) ?_
      have r5 := R_own (Kd.R_drewN H2.out m5) (grownBy_putObj' (W.drewN m5) D (.deferred none)) (fun r e => by cases e; exact ⟨_, hd5, rfl⟩)
      have v5 := V_cut (base2 := w.heap.size) r5
      have hb5 : Below w.heap.size w ((W.drewN m5).putObj D (.deferred none)) := (pw_below_drewN (b3.trans (H3.out.below (fun k hk => ⟨by have := b3.size; omega, fun h => by omega⟩))) m5).trans (below_putObj (l := D) (B := w.heap.size) (W.drewN m5) (.deferred none) (by have := b3.size; omega))
      refine ⟨_, rfl, ?_, hb5⟩
      have v6 := Kd.V_mono v5 (ok' := fun k => w.heap.size ≤ k) (fun k hk => by omega)
      simpa [segL_length] using v6
  · rw [if_neg h0] at HC ⊢
    generalize chkE l = E at *
    have z1 : (E != 0) = true := bne_iff_ne.mpr h0
    clear h0
    go_enter Try.func16, Try.ntmps16
    go_wp2_with ((with_reducible refine (HC.out).mono ?_); rintro e w1 ⟨rfl, hb1⟩; replace hb1 := Aside0.mk hb1)
    go_ret2
    exact Ret2.nil _ hb1.out
end Go.Proofs.Ythalgcpohnknbaa.Hand
/- seg.lengths, Lengths: how many elements each segment has, from where they begin. -/
namespace Go.Proofs.Ythalgcpohnknbaa.Hand
open Go.RowKit Go.Proofs.YthalgcpohnknbaaW.PrintWords Go.Proofs.YthalgcpohnknbaaW.PrintLast Go.Proofs.YthalgcpohnknbaaW.PrintMore
set_option linter.unusedVariables false
set_option linter.unusedSimpArgs false
attribute [local go_sem] store_func store_nilFunc Oper.semAt_some
/-- Where the next segment begins. -/
def nextOf (l : List Int) (t i : Int) : Int := if i + 1 < l.length then rd l (i + 1) else t
def lenAt (l : List Int) (t i : Int) : Int := wrap64 (nextOf l t i - rd l i)
def okAt (l : List Int) (t i : Int) : Bool := !(((i == 0) && (rd l i != 0)) || decide (nextOf l t i < rd l i))
def okStarts (l : List Int) (t : Int) : Bool := if l.length = 0 then t == 0 else (List.range l.length).all fun (i : Nat) => okAt l t (i : Int)
def seg_lengths.g (l : List Int) (t : Int) : List Int × Bool := if okStarts l t then (upTo (lenAt l t) l.length, true) else ([], false)
def RetL (w : World) (R : List Int × Bool) (e : Ending) (w' : World) : Prop := ∃ v, e = .returned (.tuple #[v, .bool R.2]) ∧ Kd.V (Kd.int .i64) 3 w' w.heap.size (fun k => w.heap.size ≤ k) v R.1 ∧ Below w.heap.size w w'
theorem RetL.nil {w w' : World} (b : Bool) (h : Below w.heap.size w w') : RetL w ([], b) (.returned (.tuple #[.slice none 0 0, .bool b])) w' := ⟨_, rfl, Kd.V_nil _ _ _ _ _, h⟩
set_option maxHeartbeats 4000000 in
set_option maxRecDepth 100000 in
theorem seg_lengths_some (A : Option Addr) (c : Nat) (l : List Int) (t : Int) (w : World) (hr : Kd.C (Kd.int .i64) w A l.length l) (hl : l.length ≤ 1048576) (h0 : 0 < l.length) :
    Calls Try.prog 60 #[.slice A l.length c, .int .i64 t] w (RetL w (seg_lengths.g l t)) := by
  have HR := Aside0.mk hr
  clear hr
  have HE : Aside0 (seg_lengths.g l t = if (List.range l.length).all (fun (i : Nat) => okAt l t (i : Int)) then (upTo (lenAt l t) l.length, true) else ([], false)) := ⟨by unfold seg_lengths.g okStarts; rw [if_neg (show ¬ l.length = 0 by omega)]⟩
  generalize seg_lengths.g l t = RR at HE ⊢
  go_enter Try.func60, Try.ntmps60
  have z0 : ((l.length : Int) == 0) = false := beq_eq_false_iff_ne.mpr (by omega)
  go_wp2
  go_loopw [6, 7, 8, 9, 17] (fun v _ _ _ i W => ∃ m : Nat, i = .int .i64 (m : Int) ∧ m ≤ l.length ∧ Aside0 (∀ j : Nat, j < m → okAt l t (j : Int) = true) ∧ Aside0 (Below w.heap.size w W) ∧ Aside0 ((Kd.int .i64).R 3 W w.heap.size (fun k => w.heap.size ≤ k) v (upTo (lenAt l t) (m : Int)))) (fun _ _ _ _ i _ => l.length - (intOf i).toNat)
  case atStart => exact ⟨0, rfl, by omega, ⟨by omega⟩, ⟨Below.refl _ _⟩, ⟨Kd.R_nil _ _ _ _ _⟩⟩
  case round =>
    obtain ⟨m, rfl, p0, HJ, hb, hR⟩ := hrel
    clear z0
    by_cases hlt : m < l.length
    · obtain ⟨ad, e1, hx⟩ := Kd.at_int (Kd.C_below HR.out hb.out) (m : Int) (by omega) (by omega)
      cases e1
      rw [Int.toNat_natCast] at hx
      have hsu : Aside0 (upTo (lenAt l t) ((m + 1 : Nat) : Int) = upTo (lenAt l t) (m : Int) ++ [lenAt l t (m : Int)]) := ⟨by rw [show ((m + 1 : Nat) : Int) = (m : Int) + 1 by omega]; exact upTo_succ _ _ (by omega)⟩
      have HLs : Aside0 (((upTo (lenAt l t) (m : Int)).length + 1) * 8 ≤ 140737488355328) := ⟨by rw [upTo_length]; omega⟩
      have hok : Aside0 (okAt l t (m : Int) = !((((m : Int) == 0) && (rd l (m : Int) != 0)) || decide (nextOf l t (m : Int) < rd l (m : Int)))) := ⟨rfl⟩
      have hwr : IntKind.i64.wrap (nextOf l t (m : Int) - rd l (m : Int)) = lenAt l t (m : Int) := by rw [i64_w]; rfl
      have hbad : Aside0 (okAt l t (m : Int) = false → RR = ([], false)) := ⟨fun h => by rw [HE.out, if_neg]; rw [List.all_eq_true]; intro h2; have := h2 m (List.mem_range.2 hlt); rw [h] at this; cases this⟩
      have hnx : (if (m : Int) + 1 < (l.length : Int) then wr.cell? ⟨ad.block, ad.off + (m + 1), none⟩ = some (.int .i64 (nextOf l t (m : Int))) else nextOf l t (m : Int) = t) := by
        by_cases h1 : (m : Int) + 1 < (l.length : Int)
        · rw [if_pos h1]
          obtain ⟨ad2, e2, hx2⟩ := Kd.at_int (Kd.C_below HR.out hb.out) ((m : Int) + 1) (by omega) (by omega)
          cases e2
          rw [show ((m : Int) + 1).toNat = m + 1 by omega, show ad.add (m + 1) = ⟨ad.block, ad.off + (m + 1), none⟩ by simp [Addr.add]] at hx2
          rw [hx2]
          unfold nextOf
          rw [if_pos h1]
        · rw [if_neg h1]
          unfold nextOf
          rw [if_neg h1]
      generalize upTo (lenAt l t) (m : Int) = xs at *
      generalize nextOf l t (m : Int) = nx at *
      generalize lenAt l t (m : Int) = q at *
      obtain ⟨okm, hoj⟩ : ∃ b, okAt l t (m : Int) = b := ⟨_, rfl⟩
      rw [hoj] at hok hbad
      replace hoj := Aside0.mk hoj
      generalize rd l (m : Int) = n at *
      by_cases h1 : (m : Int) + 1 < (l.length : Int)
      · rw [if_pos h1] at hnx
        replace hwr := Aside0.mk hwr
        cases z1 : ((m : Int) == 0) <;> cases z2 : (n != 0) <;> cases z3 : decide (nx < n) <;> rw [z1, z2, z3] at hok
        all_goals first
          | (have hRE := Aside0.mk (hbad.out hok.out)
             go_wp2
             go_ret2
             rw [hRE.out]
             exact RetL.nil false hb.out)
          | (have hwr2 := hwr.out
             go_wp2_with ((with_reducible refine gate_builtin (b := .append) (xs := #[.tmp 44, .tmp 48]) rfl ?_); at_builtin; refine Kd.R_append (Kd.int .i64) (w0 := w) w.heap.size rfl (.tmp 44) (.tmp 48) 22 3 (.int .i64 0) 8 rfl Try.underlying22 infoInt rfl (by decide) (by omega) u6 xs q [.int .i64 q] (fun k_ => (w.heap.size ≤ k_)) (fun _ => False) rfl rfl rfl (fun _ hk => hk.elim) (fun k_ hk => Nat.le_trans hb.out.size hk) hR.out hb.out hb.out.size HLs.out ?_; intro v6 w6 ho hb6 hg hat; replace ho := Aside0.mk ho; replace hb6 := Aside0.mk hb6; clear hg hat)
             go_roundw
             case rel => exact ⟨m + 1, by simp, by omega, ⟨fun j hj => by
               by_cases h : j < m
               · exact HJ.out j h
               · obtain rfl : j = m := by omega
                 rw [hoj.out]
                 exact hok.out⟩, hb6, ⟨by rw [hsu.out]; exact ho.out⟩⟩
             case measure => simp [intOf]; omega)
      · rw [if_neg h1] at hnx
        subst hnx
        replace hwr := Aside0.mk hwr
        cases z1 : ((m : Int) == 0) <;> cases z2 : (n != 0) <;> cases z3 : decide (nx < n) <;> rw [z1, z2, z3] at hok
        all_goals first
          | (have hRE := Aside0.mk (hbad.out hok.out)
             go_wp2
             go_ret2
             rw [hRE.out]
             exact RetL.nil false hb.out)
          | (have hwr2 := hwr.out
             go_wp2_with ((with_reducible refine gate_builtin (b := .append) (xs := #[.tmp 44, .tmp 48]) rfl ?_); at_builtin; refine Kd.R_append (Kd.int .i64) (w0 := w) w.heap.size rfl (.tmp 44) (.tmp 48) 22 3 (.int .i64 0) 8 rfl Try.underlying22 infoInt rfl (by decide) (by omega) u6 xs q [.int .i64 q] (fun k_ => (w.heap.size ≤ k_)) (fun _ => False) rfl rfl rfl (fun _ hk => hk.elim) (fun k_ hk => Nat.le_trans hb.out.size hk) hR.out hb.out hb.out.size HLs.out ?_; intro v6 w6 ho hb6 hg hat; replace ho := Aside0.mk ho; replace hb6 := Aside0.mk hb6; clear hg hat)
             go_roundw
             case rel => exact ⟨m + 1, by simp, by omega, ⟨fun j hj => by
               by_cases h : j < m
               · exact HJ.out j h
               · obtain rfl : j = m := by omega
                 rw [hoj.out]
                 exact hok.out⟩, hb6, ⟨by rw [hsu.out]; exact ho.out⟩⟩
             case measure => simp [intOf]; omega)
    · obtain rfl : m = l.length := by omega
      have hRE : Aside0 (RR = (upTo (lenAt l t) (l.length : Int), true)) := ⟨by rw [HE.out, if_pos]; rw [List.all_eq_true]; intro j hj; exact HJ.out j (List.mem_range.1 hj)⟩
      obtain ⟨A4, c4, rfl⟩ := Kd.R_slice hR.out
      have hq := (Kd.R_reads' hR.out).2.1
      have HQ : Aside0 (∀ X n, n = (upTo (lenAt l t) (l.length : Int)).length → Calls Try.prog 57 #[.slice A4 n c4] X fun e w' => e = .returned (.slice A4 n n) ∧ Drawn0 X w') := ⟨fun X n hn => by subst hn; exact seg_cut A4 _ c4 X hq (R_cap hR.out)⟩
      have hV : Aside0 (∀ m, Kd.V (Kd.int .i64) 3 (wr.drewN m) w.heap.size (fun k => w.heap.size ≤ k) (.slice A4 (upTo (lenAt l t) (l.length : Int)).length (upTo (lenAt l t) (l.length : Int)).length) (upTo (lenAt l t) (l.length : Int))) := ⟨fun m => V_cut (Kd.R_drewN hR.out m)⟩
      clear hq hR HJ
      generalize upTo (lenAt l t) (l.length : Int) = xs at *
      go_wp2_with (go_at_call 57; (with_reducible refine (HQ.out _ _ rfl).mono ?_); rintro e w8 ⟨rfl, m8, rfl⟩)
      go_ret2
      rw [hRE.out]
      exact ⟨_, rfl, hV.out _, pw_below_drewN hb.out _⟩
set_option maxHeartbeats 4000000 in
set_option maxRecDepth 100000 in
theorem seg_lengths_none (A : Option Addr) (c : Nat) (t : Int) (w : World) :
    Calls Try.prog 60 #[.slice A 0 c, .int .i64 t] w (RetL w ([], t == 0)) := by
  go_enter Try.func60, Try.ntmps60
  go_wp2
  go_ret2
  have h := RetL.nil (t == 0) (Below.refl w.heap.size w)
  simpa using h
theorem seg_lengths.run (A : Option Addr) (c : Nat) (l : List Int) (t : Int) (w : World) (hr : Kd.C (Kd.int .i64) w A l.length l) (hl : l.length ≤ 1048576) :
    Calls Try.prog 60 #[.slice A l.length c, .int .i64 t] w (RetL w (seg_lengths.g l t)) := by
  by_cases h0 : l.length = 0
  · obtain rfl : l = [] := List.length_eq_zero_iff.1 h0
    have h := seg_lengths_none A c t w
    have e : seg_lengths.g [] t = ([], t == 0) := by
      unfold seg_lengths.g okStarts
      cases hz : (t == 0) <;> simp [hz, upTo]
    rw [e]
    exact h
  · exact seg_lengths_some A c l t w hr hl (by omega)
/-- A list that is handed to short. -/
theorem short_lit (most : Int) (v : Value) (l : List Int) (W : World) (N : Nat) (hN : W.heap.size = N) (h : Sl W v l) :
    Calls Try.prog 52 #[.int .i64 most, .slice (some ⟨N, 0, none⟩) 1 1] (W.alloc (.cells #[v] 22)) fun e w' => e = .returned (.bool (!decide (most < l.length))) ∧ Below W.heap.size W w' := by
  have h2 := seg_short most (some ⟨N, 0, none⟩) 1 [l] (W.alloc (.cells #[v] 22)) (lit_rows_at _ _ hN _ _ [l] _ rfl (rows_of1 h) (by simp))
  have e : longB most [l] = decide (most < l.length) := by simp [longB]
  rw [e] at h2
  exact h2.mono fun e w' ⟨he, hb⟩ => ⟨he, (below_alloc (Below.refl _ _) _).trans (hb.mono (by simp))⟩
def seg_Lengths.g (l : List Int) (t : Int) : List Int × Int := if 1048576 < l.length then ([], 3) else if (decide (t < 0) || decide (1048576 < t)) then ([], 2) else if okStarts l t then (upTo (lenAt l t) l.length, 0) else ([], 7)
set_option maxHeartbeats 4000000 in
set_option maxRecDepth 100000 in
theorem seg_Lengths.run (A : Option Addr) (c : Nat) (l : List Int) (t : Int) (w : World) (hr : Kd.C (Kd.int .i64) w A l.length l) (hc : l.length ≤ c) :
    Calls Try.prog 26 #[.slice A l.length c, .int .i64 t] w (Ret2 w (seg_Lengths.g l t)) := by
  have HS := Aside0.mk (Sl.of hr hc)
  have HL : Aside0 (l.length ≤ 1048576 → ∀ W, Below w.heap.size w W → Calls Try.prog 60 #[.slice A l.length c, .int .i64 t] W (RetL W (seg_lengths.g l t))) := ⟨fun h W hW => seg_lengths.run A c l t W (Kd.C_below hr hW) h⟩
  have HE : Aside0 (seg_Lengths.g l t = if 1048576 < l.length then ([], 3) else if (decide (t < 0) || decide (1048576 < t)) then ([], 2) else if okStarts l t then ((seg_lengths.g l t).1, 0) else ([], 7)) := ⟨by
    unfold seg_Lengths.g seg_lengths.g
    cases okStarts l t <;> rfl⟩
  have HG : Aside0 (seg_lengths.g l t = if okStarts l t then ((seg_lengths.g l t).1, true) else ([], false)) := ⟨by
    unfold seg_lengths.g
    cases okStarts l t <;> rfl⟩
  generalize seg_Lengths.g l t = RR at *
  generalize okStarts l t = ok at *
  generalize seg_lengths.g l t = G at *
  have HSh := Aside0.mk (short_lit 1048576 _ l w w.heap.size rfl HS.out)
  have hlw : l.length ≤ 9223372036854775807 := hr.2.1
  clear hr hc HS
  cases z1 : decide ((1048576 : Int) < (l.length : Int))
  · rw [z1] at HSh
    have h1 : l.length ≤ 1048576 := by have := of_decide_eq_false z1; omega
    have HL2 := Aside0.mk (HL.out h1)
    replace HE : Aside0 (RR = if (decide (t < 0) || decide (1048576 < t)) then ([], 2) else if ok then (G.1, 0) else ([], 7)) := ⟨by rw [HE.out, if_neg (by omega)]⟩
    clear HL z1
    cases z2 : decide (t < 0) <;> cases z3 : decide (1048576 < t) <;> rw [z2, z3] at HE
    · replace HE : Aside0 (RR = if ok then (G.1, 0) else ([], 7)) := HE
      cases hok : ok
      · rw [hok] at HE HG
        obtain rfl : G = ([], false) := HG.out
        obtain rfl : RR = ([], 7) := HE.out
        go_enter Try.func26, Try.ntmps26
        go_wp2_with fail
        refine (HSh.out).mono ?_
        rintro e w2 ⟨rfl, hb⟩
        replace hb := Aside0.mk hb
        go_wp2_with fail
        refine (HL2.out _ hb.out).mono ?_
        rintro e w3 ⟨v, rfl, hv, hb3⟩
        replace hb3 := Aside0.mk (hb.out.trans (hb3.mono hb.out.size))
        clear hv
        go_wp2
        go_ret2
        exact Ret2.nil 7 hb3.out
      · rw [hok] at HE HG
        obtain ⟨g1, g2⟩ := G
        obtain rfl : g2 = true := congrArg Prod.snd HG.out
        obtain rfl : RR = (g1, 0) := HE.out
        go_enter Try.func26, Try.ntmps26
        go_wp2_with fail
        refine (HSh.out).mono ?_
        rintro e w2 ⟨rfl, hb⟩
        replace hb := Aside0.mk hb
        go_wp2_with fail
        refine (HL2.out _ hb.out).mono ?_
        rintro e w3 ⟨v, rfl, hv, hb3⟩
        replace hb3 := Aside0.mk (hb.out.trans (hb3.mono hb.out.size))
        replace hv := Aside0.mk hv
        go_wp2
        go_ret2
        exact ⟨_, rfl, Kd.V_mono hv.out (fun k hk => Nat.le_trans hb.out.size hk), hb3.out⟩
    all_goals
      obtain rfl : RR = ([], 2) := HE.out
      go_enter Try.func26, Try.ntmps26
      go_wp2_with fail
      refine (HSh.out).mono ?_
      rintro e w2 ⟨rfl, hb⟩
      replace hb := Aside0.mk hb
      go_wp2
      go_ret2
      exact Ret2.nil 2 hb.out
  · rw [z1] at HSh
    have h1 : 1048576 < l.length := by have := of_decide_eq_true z1; omega
    obtain rfl : RR = ([], 3) := by rw [HE.out, if_pos h1]
    clear HL HG z1
    go_enter Try.func26, Try.ntmps26
    go_wp2_with fail
    refine (HSh.out).mono ?_
    rintro e w2 ⟨rfl, hb⟩
    replace hb := Aside0.mk hb
    go_wp2
    go_ret2
    exact Ret2.nil 3 hb.out
end Go.Proofs.Ythalgcpohnknbaa.Hand
/- seg.Owners: the segment of each element. -/
namespace Go.Proofs.Ythalgcpohnknbaa.Hand
open Go.RowKit Go.Proofs.YthalgcpohnknbaaW.PrintWords Go.Proofs.YthalgcpohnknbaaW.PrintLast Go.Proofs.YthalgcpohnknbaaW.PrintMore
set_option linter.unusedVariables false
set_option linter.unusedSimpArgs false
attribute [local go_sem] store_func store_nilFunc Oper.semAt_some
/-- Each of the first m numbers of places, as often as the list says. -/
def repsTo (l : List Int) (m : Nat) : List Int := (List.range m).flatMap fun (i : Nat) => List.replicate (rd l (i : Int)).toNat (i : Int)
theorem repsTo_succ (l : List Int) (m : Nat) : repsTo l (m + 1) = repsTo l m ++ List.replicate (rd l (m : Int)).toNat (m : Int) := by
  unfold repsTo
  rw [List.range_succ, List.flatMap_append, List.flatMap_singleton]
theorem repsTo_length (l : List Int) : ∀ m : Nat, m ≤ l.length → (repsTo l m).length = startOf l (m : Int)
  | 0, _ => rfl
  | m + 1, h => by
    rw [repsTo_succ, List.length_append, List.length_replicate, repsTo_length l m (by omega), show ((m + 1 : Nat) : Int) = (m : Int) + 1 by omega, startOf_succ l (m : Int) (by omega) (by omega)]
theorem startOf_le_ttl (l : List Int) (m : Nat) (h : m ≤ l.length) : startOf l (m : Int) ≤ ttl l := by
  have := startOf_mono l (m : Int) (by omega) (l.length - m) (by omega)
  rw [show (m : Int) + ((l.length - m : Nat) : Int) = l.length by omega] at this
  exact this
def seg_Owners.g (l : List Int) : List Int × Int := if chkE l = 0 then (repsTo l l.length, 0) else ([], chkE l)
set_option maxHeartbeats 4000000 in
set_option maxRecDepth 100000 in
theorem seg_Owners.run (A : Option Addr) (c : Nat) (l : List Int) (w : World) (hr : Kd.C (Kd.int .i64) w A l.length l) (hc : l.length ≤ c) :
    Calls Try.prog 20 #[.slice A l.length c] w (Ret2 w (seg_Owners.g l)) := by
  have HR := Aside0.mk hr
  have hm : l.length ≤ 9223372036854775807 := hr.2.1
  have HC := Aside0.mk (seg_Check.run A c l w hr hc)
  clear hr hc
  unfold seg_Owners.g
  unfold seg_Check.g at HC
  by_cases h0 : chkE l = 0
  · rw [if_pos h0] at HC ⊢
    obtain ⟨q1, q2, q3⟩ := chkE_ok h0
    clear h0
    go_enter Try.func20, Try.ntmps20
    go_wp2_with fail
    refine (HC.out).mono ?_
    rintro e w1 ⟨rfl, hb1⟩
    replace hb1 := Aside0.mk hb1
    go_wp2
    go_loopw [6, 19] (fun v i W => ∃ m : Nat, i = .int .i64 (m : Int) ∧ m ≤ l.length ∧ Aside0 (Below w.heap.size w W) ∧ Aside0 ((Kd.int .i64).R 3 W w.heap.size (fun k => w.heap.size ≤ k) v (repsTo l m))) (fun _ i _ => l.length - (intOf i).toNat)
    case atStart => exact ⟨0, rfl, by omega, hb1, ⟨Kd.R_nil _ _ _ _ _⟩⟩
    case round =>
      obtain ⟨m, rfl, p0, hb, hR⟩ := hrel
      clear hb1
      by_cases hlt : m < l.length
      · obtain ⟨ad, e1, hx⟩ := Kd.at_int (Kd.C_below HR.out hb.out) (m : Int) (by omega) (by omega)
        cases e1
        rw [Int.toNat_natCast] at hx
        have hn0 := q2 _ (rd_mem l (m : Int) (by omega) (by omega))
        obtain ⟨n, hn⟩ : ∃ n : Nat, rd l (m : Int) = n := ⟨(rd l (m : Int)).toNat, by omega⟩
        have hsu := repsTo_succ l m
        have hle := repsTo_length l (m + 1) (by omega)
        have hle2 := startOf_le_ttl l (m + 1) (by omega)
        rw [hsu, List.length_append, List.length_replicate] at hle
        rw [hn] at hx
        rw [hn, Int.toNat_natCast] at hle hsu
        have hxl : Aside0 ((repsTo l m).length + n ≤ 1048576) := ⟨by omega⟩
        generalize repsTo l m = xs at *
        replace hsu := Aside0.mk hsu
        have hnb : n ≤ 1048576 := by have := hxl.out; omega
        replace q2 := Aside0.mk q2
        clear hn hn0 hle hle2
        have HR0 : Aside0 ((Kd.int .i64).R 3 wr w.heap.size (fun k => w.heap.size ≤ k) u6 (xs ++ List.replicate 0 (m : Int))) := ⟨by simpa using hR.out⟩
        go_wp2
        go_loopw [6, 25] (fun v i W => ∃ k : Nat, i = .int .i64 (k : Int) ∧ k ≤ n ∧ Aside0 (Below w.heap.size w W) ∧ Aside0 ((Kd.int .i64).R 3 W w.heap.size (fun k => w.heap.size ≤ k) v (xs ++ List.replicate k (m : Int)))) (fun _ i _ => n - (intOf i).toNat)
        case atStart => exact ⟨0, rfl, by omega, hb, HR0⟩
        case round =>
          clear HR0 hR hb hx
          obtain ⟨k, rfl, p1, hb, hR⟩ := hrel
          by_cases hk : k < n
          · have hsk := Aside0.mk (List.replicate_succ' (n := k) (a := (m : Int)))
            have HLs : Aside0 (((xs ++ List.replicate k (m : Int)).length + 1) * 8 ≤ 140737488355328) := ⟨by have := hxl.out; rw [List.length_append, List.length_replicate]; omega⟩
            obtain ⟨ys, hys⟩ : ∃ ys, ys = xs ++ List.replicate k (m : Int) := ⟨_, rfl⟩
            rw [← hys] at hR HLs
            replace hys := Aside0.mk hys
            go_wp2_with ((with_reducible refine gate_builtin (b := .append) (xs := #[.tmp 27, .tmp 29]) rfl ?_); at_builtin; refine Kd.R_append (Kd.int .i64) (w0 := w) w.heap.size rfl (.tmp 27) (.tmp 29) 22 3 (.int .i64 0) 8 rfl Try.underlying22 infoInt rfl (by decide) (by omega) u6 ys (m : Int) [.int .i64 (m : Int)] (fun k_ => (w.heap.size ≤ k_)) (fun _ => False) rfl rfl rfl (fun _ hk => hk.elim) (fun k_ hk => Nat.le_trans hb.out.size hk) hR.out hb.out hb.out.size HLs.out ?_; intro v6 w6 ho hb6 hg hat; replace ho := Aside0.mk ho; replace hb6 := Aside0.mk hb6; clear hg hat)
            go_roundw
            case rel => exact ⟨k + 1, by simp, by omega, hb6, ⟨by rw [hsk.out, ← List.append_assoc, ← hys.out]; exact ho.out⟩⟩
            case measure => simp [intOf]; omega
          · obtain rfl : k = n := by omega
            go_wp2
            go_roundw
            case rel => exact ⟨m + 1, by simp, by omega, hb, ⟨by rw [hsu.out]; exact hR.out⟩⟩
            case measure => simp [intOf]; omega
      · obtain rfl : m = l.length := by omega
        obtain ⟨A4, c4, rfl⟩ := Kd.R_slice hR.out
        have hq := (Kd.R_reads' hR.out).2.1
        have HQ : Aside0 (∀ X n, n = (repsTo l l.length).length → Calls Try.prog 57 #[.slice A4 n c4] X fun e w' => e = .returned (.slice A4 n n) ∧ Drawn0 X w') := ⟨fun X n hn => by subst hn; exact seg_cut A4 _ c4 X hq (R_cap hR.out)⟩
        have hV : Aside0 (∀ m, Kd.V (Kd.int .i64) 3 (wr.drewN m) w.heap.size (fun k => w.heap.size ≤ k) (.slice A4 (repsTo l l.length).length (repsTo l l.length).length) (repsTo l l.length)) := ⟨fun m => V_cut (Kd.R_drewN hR.out m)⟩
        clear hq hR
        generalize repsTo l l.length = xs at *
        go_wp2_with (go_at_call 57; (with_reducible refine (HQ.out _ _ rfl).mono ?_); rintro e w8 ⟨rfl, m8, rfl⟩)
        go_ret2
        exact ⟨_, rfl, hV.out _, pw_below_drewN hb.out _⟩
  · rw [if_neg h0] at HC ⊢
    generalize chkE l = E at *
    have z1 : (E != 0) = true := bne_iff_ne.mpr h0
    clear h0
    go_enter Try.func20, Try.ntmps20
    go_wp2_with ((with_reducible refine (HC.out).mono ?_); rintro e w1 ⟨rfl, hb1⟩; replace hb1 := Aside0.mk hb1)
    go_ret2
    exact Ret2.nil _ hb1.out
end Go.Proofs.Ythalgcpohnknbaa.Hand
/- seg.OfOwners: how many elements each segment has, from their owners. -/
namespace Go.Proofs.Ythalgcpohnknbaa.Hand
open Go.RowKit Go.Proofs.YthalgcpohnknbaaW.PrintWords Go.Proofs.YthalgcpohnknbaaW.PrintLast Go.Proofs.YthalgcpohnknbaaW.PrintMore
set_option linter.unusedVariables false
set_option linter.unusedSimpArgs false
attribute [local go_sem] store_func store_nilFunc Oper.semAt_some
/-- How often a number stands among the first m. -/
def cntN (l : List Int) (m : Nat) (k : Int) : Int := (((l.take m).filter (fun x => x == k)).length : Nat)
theorem cntN_succ (l : List Int) (m : Nat) (h : m < l.length) (k : Int) : cntN l (m + 1) k = cntN l m k + (if rd l (m : Int) = k then 1 else 0) := by
  unfold cntN
  have e : rd l (m : Int) = l[m] := by simp [rd, h]
  rw [List.take_add_one, List.getElem?_eq_getElem h, List.filter_append, List.length_append, e]
  by_cases hk : l[m] = k <;> simp [hk]
theorem cntN_le (l : List Int) (m : Nat) (k : Int) : 0 ≤ cntN l m k ∧ cntN l m k ≤ m := by
  unfold cntN
  have h1 := List.length_filter_le (fun x => x == k) (l.take m)
  have h2 := List.length_take_le m l
  omega
def seg_OfOwners.g (l : List Int) (t : Int) : List Int × Int := if 1048576 < l.length then ([], 3) else if (decide (t < 0) || decide (1048576 < t) || outB (t - 1) l) then ([], 2) else if sortedB l then (upTo (cntN l l.length) t.toNat, 0) else ([], 7)
set_option maxHeartbeats 4000000 in
set_option maxRecDepth 100000 in
theorem seg_OfOwners_yes (A : Option Addr) (c : Nat) (l : List Int) (t : Nat) (w : World) (hr : Kd.C (Kd.int .i64) w A l.length l) (hc : l.length ≤ c) (h1 : l.length ≤ 1048576) (ht : t ≤ 1048576) (ho : outB ((t : Int) - 1) l = false) (hs : sortedB l = true) :
    Calls Try.prog 30 #[.slice A l.length c, .int .i64 (t : Int)] w (Ret2 w (upTo (cntN l l.length) t, 0)) := by
  have HSh := Aside0.mk (short_lit 1048576 _ l w w.heap.size rfl (Sl.of hr hc))
  have z1 : decide ((1048576 : Int) < (l.length : Int)) = false := decide_eq_false (by omega)
  rw [z1] at HSh
  have HW : Aside0 (∀ W, Below w.heap.size w W → Calls Try.prog 63 #[.slice A l.length c, .int .i64 ((t : Int) - 1)] W fun e w' => e = .returned (.bool true) ∧ Below W.heap.size W w') := ⟨fun W hW => by have h := seg_within A c l ((t : Int) - 1) W (Kd.C_below hr hW); rw [ho] at h; exact h⟩
  have HI : Aside0 (∀ W, Below w.heap.size w W → Calls Try.prog 64 #[.slice A l.length c] W fun e w' => e = .returned (.bool true) ∧ Drawn0 W w') := ⟨fun W hW => by have h := slices_IsSorted A c l W (Kd.C_below hr hW) h1; rwa [hs] at h⟩
  have HO : Aside0 (∀ m : Nat, m < l.length → ∃ q : Nat, rd l (m : Int) = (q : Int) ∧ q < t) := ⟨fun m hm => by
    have h := List.any_eq_false.1 ho _ (rd_mem l (m : Int) (by omega) (by omega))
    simp at h
    exact ⟨(rd l (m : Int)).toNat, by omega, by omega⟩⟩
  have HR := Aside0.mk hr
  have hlw : l.length ≤ 9223372036854775807 := hr.2.1
  clear hr hc z1 ho hs
  go_enter Try.func30, Try.ntmps30
  go_wp2_with fail
  refine (HSh.out).mono ?_
  rintro e w2 ⟨rfl, hb2⟩
  replace hb2 := Aside0.mk hb2
  have za : decide ((t : Int) < 0) = false := decide_eq_false (by omega)
  have zb : decide ((1048576 : Int) < (t : Int)) = false := decide_eq_false (by omega)
  have zw : IntKind.i64.wrap ((t : Int) - 1) = (t : Int) - 1 := by rw [i64_w]; unfold wrap64; omega
  go_wp2_with fail
  refine (HW.out _ hb2.out).mono ?_
  rintro e w3 ⟨rfl, hb3⟩
  replace hb3 := Aside0.mk (hb2.out.trans (hb3.mono hb2.out.size))
  go_wp2_with fail
  refine (HI.out _ hb3.out).mono ?_
  rintro e w4 ⟨rfl, m4, hw4⟩
  have hb4 := Aside0.mk (show Below w.heap.size w w4 by rw [hw4]; exact pw_below_drewN hb3.out _)
  clear hw4 hb2 hb3 za zb zw HSh HW HI
  go_wp2_with ((with_reducible refine gate_ (.makeSlice 22 (.tmp 29) (.tmp 29)) rfl ?_); refine Kd.R_make (Kd.int .i64) (w0 := w) w.heap.size 3 rfl rfl 22 (.tmp 29) (.tmp 29) rfl (t : Int) rfl rfl Try.underlying22 (.int .i64 0) 8 infoInt rfl (by decide) (by decide) 0 (ok := fun b => w.heap.size ≤ b) (okp := fun _ => False) rfl (fun _ h => h.elim) hb4.out.size (by omega) (by omega) hb4.out hb4.out.size ?_; intro v6 w6 hR6 hb6 hg6 hat6; replace hR6 := Aside0.mk hR6; replace hb6 := Aside0.mk hb6; clear hg6 hat6; obtain ⟨A6, c6, hv6⟩ : ∃ A6 c6, v6 = .slice A6 t c6 := (by obtain ⟨A, c, h⟩ := Kd.R_slice hR6.out; exact ⟨A, c, by simpa using h⟩); subst hv6)
  have hR7 : (Kd.int .i64).R 3 w6 w.heap.size (fun b => w.heap.size ≤ b) (.slice A6 t c6) (upTo (cntN l 0) (t : Int)) := by
    have h := hR6.out
    rw [Int.toNat_natCast, ← upTo_zero t (cntN l 0) (fun k _ => rfl)] at h
    exact h
  replace hR7 := Aside0.mk hR7
  clear hR6
  go_loopw [33] (fun i W => ∃ m : Nat, i = .int .i64 (m : Int) ∧ m ≤ l.length ∧ Aside0 (Below w.heap.size w W) ∧ Aside0 ((Kd.int .i64).R 3 W w.heap.size (fun b => w.heap.size ≤ b) (.slice A6 t c6) (upTo (cntN l m) (t : Int)))) (fun i _ => l.length - (intOf i).toNat)
  case atStart => exact ⟨0, rfl, by omega, hb6, hR7⟩
  case round =>
    clear hR7 hb6 hb4
    obtain ⟨m, rfl, p0, hb, hR⟩ := hrel
    by_cases hlt : m < l.length
    · obtain ⟨q, hq, hq2⟩ := HO.out m hlt
      obtain ⟨ad, e1, hx⟩ := Kd.at_int (Kd.C_below HR.out hb.out) (m : Int) (by omega) (by omega)
      cases e1
      rw [hq, Int.toNat_natCast] at hx
      obtain ⟨adr, rfl⟩ := R_some hR.out (by omega)
      have hcb := cntN_le l m (q : Int)
      have hcs := cntN_succ l m hlt (q : Int)
      rw [hq, if_pos rfl] at hcs
      have hset : Aside0 (upTo (cntN l (m + 1)) (t : Int) = (upTo (cntN l m) (t : Int)).set q (cntN l m (q : Int) + 1)) := ⟨(upTo_set (cntN l m) (cntN l (m + 1)) t q _ hcs (fun k hk hne => by rw [cntN_succ l m hlt, hq, if_neg (by omega)]; omega)).symm⟩
      obtain ⟨hc4, hf4, hR5, g6, hg6, hg7, hg8⟩ := R_store hR.out q hq2 (cntN l m (q : Int) + 1)
      rw [upTo_rd (cntN l m) t q hq2] at hc4
      have hb5 : Below w.heap.size w (wr.setCell (adr.add q) (.int .i64 (cntN l m (q : Int) + 1))) := hb.out.setCell (by rw [hg6]; exact hg8) _
      generalize cntN l m (q : Int) = cn at *
      generalize upTo (cntN l m) (t : Int) = xs at *
      replace hR5 := Aside0.mk hR5
      replace hb5 := Aside0.mk hb5
      replace hq := Aside0.mk hq
      clear hR hg6 hg7 hg8 hcs
      go_wp2
      go_roundw
      case rel => exact ⟨m + 1, by simp, by omega, hb5, ⟨by rw [hset.out]; exact hR5.out⟩⟩
      case measure => simp [intOf]; omega
    · obtain rfl : m = l.length := by omega
      obtain ⟨hq1, hq2⟩ := (⟨(Kd.R_reads' hR.out).2.1, R_cap hR.out⟩ : t ≤ c6 ∧ c6 ≤ 9223372036854775807)
      have HQ : Aside0 (∀ X, Calls Try.prog 57 #[.slice A6 t c6] X fun e w' => e = .returned (.slice A6 t t) ∧ Drawn0 X w') := ⟨fun X => seg_cut A6 _ c6 X hq1 hq2⟩
      clear hq1 hq2
      go_wp2_with (go_at_call 57; (with_reducible refine (HQ.out _).mono ?_); rintro e w8 ⟨rfl, m8, rfl⟩)
      go_ret2
      exact ⟨_, rfl, V_cut (Kd.R_drewN hR.out _), pw_below_drewN hb.out _⟩
set_option maxHeartbeats 4000000 in
set_option maxRecDepth 100000 in
theorem seg_OfOwners.run (A : Option Addr) (c : Nat) (l : List Int) (t : Int) (w : World) (hr : Kd.C (Kd.int .i64) w A l.length l) (hc : l.length ≤ c) :
    Calls Try.prog 30 #[.slice A l.length c, .int .i64 t] w (Ret2 w (seg_OfOwners.g l t)) := by
  have HSh := Aside0.mk (short_lit 1048576 _ l w w.heap.size rfl (Sl.of hr hc))
  unfold seg_OfOwners.g
  by_cases h1 : 1048576 < l.length
  · rw [if_pos h1]
    have z1 : decide ((1048576 : Int) < (l.length : Int)) = true := decide_eq_true (by omega)
    rw [z1] at HSh
    clear hr hc z1 h1
    go_enter Try.func30, Try.ntmps30
    go_wp2_with fail
    refine (HSh.out).mono ?_
    rintro e w2 ⟨rfl, hb2⟩
    replace hb2 := Aside0.mk hb2
    go_wp2
    go_ret2
    exact Ret2.nil 3 hb2.out
  · rw [if_neg h1]
    by_cases hb : t < 0 ∨ 1048576 < t
    · have e : (decide (t < 0) || decide (1048576 < t) || outB (t - 1) l) = true := by rcases hb with h | h <;> simp [h]
      rw [if_pos e]
      have z1 : decide ((1048576 : Int) < (l.length : Int)) = false := decide_eq_false (by omega)
      rw [z1] at HSh
      have hlw : l.length ≤ 9223372036854775807 := hr.2.1
      clear hr hc e h1 z1
      cases z2 : decide (t < 0) <;> cases z3 : decide (1048576 < t)
      · exfalso; have := of_decide_eq_false z2; have := of_decide_eq_false z3; omega
      all_goals
        clear hb
        go_enter Try.func30, Try.ntmps30
        go_wp2_with fail
        refine (HSh.out).mono ?_
        rintro e w2 ⟨rfl, hb2⟩
        replace hb2 := Aside0.mk hb2
        go_wp2
        go_ret2
        exact Ret2.nil 2 hb2.out
    · have h2 : 0 ≤ t ∧ t ≤ 1048576 := by omega
      obtain ⟨q, rfl⟩ : ∃ q : Nat, t = q := ⟨t.toNat, by omega⟩
      have za : decide ((q : Int) < 0) = false := decide_eq_false (by omega)
      have zb : decide ((1048576 : Int) < (q : Int)) = false := decide_eq_false (by omega)
      rw [za, zb]
      cases ho : outB ((q : Int) - 1) l
      · simp only [Bool.or_false, Bool.false_eq_true, if_false]
        cases hs : sortedB l
        · simp only [Bool.false_eq_true, if_false]
          have HW : Aside0 (∀ W, Below w.heap.size w W → Calls Try.prog 63 #[.slice A l.length c, .int .i64 ((q : Int) - 1)] W fun e w' => e = .returned (.bool true) ∧ Below W.heap.size W w') := ⟨fun W hW => by have h := seg_within A c l ((q : Int) - 1) W (Kd.C_below hr hW); rw [ho] at h; exact h⟩
          have HI : Aside0 (∀ W, Below w.heap.size w W → Calls Try.prog 64 #[.slice A l.length c] W fun e w' => e = .returned (.bool false) ∧ Drawn0 W w') := ⟨fun W hW => by have h := slices_IsSorted A c l W (Kd.C_below hr hW) (by omega); rwa [hs] at h⟩
          have z1 : decide ((1048576 : Int) < (l.length : Int)) = false := decide_eq_false (by omega)
          rw [z1] at HSh
          have hlw : l.length ≤ 9223372036854775807 := hr.2.1
          have zw : IntKind.i64.wrap ((q : Int) - 1) = (q : Int) - 1 := by rw [i64_w]; unfold wrap64; omega
          clear hr hc z1 h1 ho hs hb
          go_enter Try.func30, Try.ntmps30
          go_wp2_with fail
          refine (HSh.out).mono ?_
          rintro e w2 ⟨rfl, hb2⟩
          replace hb2 := Aside0.mk hb2
          go_wp2_with fail
          refine (HW.out _ hb2.out).mono ?_
          rintro e w3 ⟨rfl, hb3⟩
          replace hb3 := Aside0.mk (hb2.out.trans (hb3.mono hb2.out.size))
          go_wp2_with fail
          refine (HI.out _ hb3.out).mono ?_
          rintro e w4 ⟨rfl, m4, rfl⟩
          go_wp2
          go_ret2
          exact Ret2.nil 7 (pw_below_drewN hb3.out _)
        · simp only [if_true, Int.toNat_natCast]
          exact seg_OfOwners_yes A c l q w hr hc (by omega) (by omega) ho hs
      · simp only [Bool.or_true, if_true]
        have HW : Aside0 (∀ W, Below w.heap.size w W → Calls Try.prog 63 #[.slice A l.length c, .int .i64 ((q : Int) - 1)] W fun e w' => e = .returned (.bool false) ∧ Below W.heap.size W w') := ⟨fun W hW => by have h := seg_within A c l ((q : Int) - 1) W (Kd.C_below hr hW); rw [ho] at h; exact h⟩
        have z1 : decide ((1048576 : Int) < (l.length : Int)) = false := decide_eq_false (by omega)
        rw [z1] at HSh
        have hlw : l.length ≤ 9223372036854775807 := hr.2.1
        have zw : IntKind.i64.wrap ((q : Int) - 1) = (q : Int) - 1 := by rw [i64_w]; unfold wrap64; omega
        clear hr hc z1 h1 ho hb
        go_enter Try.func30, Try.ntmps30
        go_wp2_with fail
        refine (HSh.out).mono ?_
        rintro e w2 ⟨rfl, hb2⟩
        replace hb2 := Aside0.mk hb2
        go_wp2_with fail
        refine (HW.out _ hb2.out).mono ?_
        rintro e w3 ⟨rfl, hb3⟩
        replace hb3 := Aside0.mk (hb2.out.trans (hb3.mono hb2.out.size))
        go_wp2
        go_ret2
        exact Ret2.nil 2 hb3.out
end Go.Proofs.Ythalgcpohnknbaa.Hand
/- seg.Nest: how many elements the outer segments have. -/
namespace Go.Proofs.Ythalgcpohnknbaa.Hand
open Go.RowKit Go.Proofs.YthalgcpohnknbaaW.PrintWords Go.Proofs.YthalgcpohnknbaaW.PrintLast Go.Proofs.YthalgcpohnknbaaW.PrintMore
set_option linter.unusedVariables false
set_option linter.unusedSimpArgs false
attribute [local go_sem] store_func store_nilFunc Oper.semAt_some
theorem foldl_shift (l : List Int) : ∀ s : Nat, l.foldl (fun s n => s + n.toNat) s = s + l.foldl (fun s n => s + n.toNat) 0 := by
  induction l with
  | nil => intro s; rfl
  | cons a l ih => intro s; rw [List.foldl_cons, List.foldl_cons, ih (s + a.toNat), ih (0 + a.toNat)]; omega
theorem startOf_add (l : List Int) (a n : Nat) : startOf l ((a + n : Nat) : Int) = startOf l (a : Int) + ttl ((l.drop a).take n) := by
  unfold ttl startOf
  rw [Int.toNat_natCast, Int.toNat_natCast, Int.toNat_natCast, List.take_length, List.take_add, List.foldl_append, foldl_shift]
def nestAt (o l : List Int) (i : Int) : Int := ((ttl ((l.drop (startOf o i)).take (rd o i).toNat) : Nat) : Int)
def seg_Nest.g (o l : List Int) : List Int × Int := if chkE o = 0 then (if chkE l = 0 then (if ttl o = l.length then (upTo (nestAt o l) o.length, 0) else ([], 1)) else ([], chkE l)) else ([], chkE o)
set_option maxHeartbeats 4000000 in
set_option maxRecDepth 100000 in
theorem seg_Nest_yes (A : Option Addr) (c : Nat) (l : List Int) (A2 : Option Addr) (c2 : Nat) (l2 : List Int) (w : World) (hr : Kd.C (Kd.int .i64) w A l.length l) (hc : l.length ≤ c) (hr2 : Kd.C (Kd.int .i64) w A2 l2.length l2) (hc2 : l2.length ≤ c2) (h1 : chkE l = 0) (h2 : chkE l2 = 0) (h3 : ttl l = l2.length) :
    Calls Try.prog 32 #[.slice A l.length c, .slice A2 l2.length c2] w (Ret2 w (upTo (nestAt l l2) l.length, 0)) := by
  have HC1 : Aside0 (∀ W, Below w.heap.size w W → Calls Try.prog 14 #[.slice A l.length c] W fun e w' => e = .returned (.tuple #[.int .i64 (ttl l : Nat), .int .i64 0]) ∧ Below W.heap.size W w') := ⟨fun W hW => by have h := seg_Check.run A c l W (Kd.C_below hr hW) hc; unfold seg_Check.g at h; rw [if_pos h1] at h; exact h⟩
  have HC2 : Aside0 (∀ W, Below w.heap.size w W → Calls Try.prog 14 #[.slice A2 l2.length c2] W fun e w' => e = .returned (.tuple #[.int .i64 (ttl l2 : Nat), .int .i64 0]) ∧ Below W.heap.size W w') := ⟨fun W hW => by have h := seg_Check.run A2 c2 l2 W (Kd.C_below hr2 hW) hc2; unfold seg_Check.g at h; rw [if_pos h2] at h; exact h⟩
  obtain ⟨q1, q2, q3⟩ := chkE_ok h1
  obtain ⟨p1, p2, p3⟩ := chkE_ok h2
  have HR := Aside0.mk hr
  have HR2 := Aside0.mk hr2
  have hm : l.length ≤ 9223372036854775807 := hr.2.1
  have HSl : Aside0 (∀ st n : Nat, st + n ≤ l2.length → ∀ W : World, (Instr.slice 22 (.slice A2 l2.length c2) (some (.int .i64 (st : Int))) (some (.int .i64 ((st : Int) + (n : Int)))) none).run Try.prog W = .ok (.slice (segB A2 c2 st) n (c2 - st)) W) := ⟨fun st n h W => by
    have e := (seg_slice2 A2 c2 l2 st (st + n) (by omega) h hc2).1 W
    rw [show st + n - st = n by omega] at e
    rw [show (st : Int) + (n : Int) = ((st + n : Nat) : Int) by omega]
    exact e⟩
  have HSm : Aside0 (∀ st n : Nat, st + n ≤ l2.length → ∀ W, Below w.heap.size w W → Calls Try.prog 55 #[.slice (segB A2 c2 st) n (c2 - st)] W fun e w' => e = .returned (.tuple #[.int .i64 (ttl ((l2.drop st).take n) : Nat), .bool true]) ∧ Drawn0 W w') := ⟨fun st n h W hW => by
    have e := (seg_slice2 A2 c2 l2 st (st + n) (by omega) h hc2).2 W (Kd.C_below hr2 hW)
    rw [show st + n - st = n by omega] at e
    have hl : ((l2.drop st).take n).length = n := by simp; omega
    have hS := seg_sum (segB A2 c2 st) (c2 - st) ((l2.drop st).take n) W (by rw [hl]; exact e) (fun x hx => p2 x (List.mem_of_mem_drop (List.mem_of_mem_take hx)))
    have h5 := startOf_add l2 st n
    have h6 := startOf_le_ttl l2 (st + n) h
    unfold sumB at hS
    rw [if_pos (by omega), hl] at hS
    exact hS⟩
  clear hr hc hr2 hc2 h1 h2
  refine calls_of_marks Try.func32 rfl ?_
  simp only [Try.ntmps32, List.size_toArray, List.length_cons, List.length_nil, Nat.reduceAdd, Nat.reduceSub, Array.replicate_succ, Array.replicate_zero, List.push_toArray, List.append_toArray, List.nil_append, List.cons_append]
  go_wp2_with fail
  refine (HC1.out _ (below_alloc (Below.refl _ _) _)).mono ?_
  rintro e wa ⟨rfl, hba⟩
  have ka := blk_below (blk_new w (.cells #[.slice A2 l2.length c2] 22)) hba
  have hBa : Below w.heap.size w wa := (below_alloc (Below.refl _ _) _).trans (hba.mono (by simp))
  have ca := blk_cell ka 0
  clear hba
  replace ka := Aside0.mk ka
  replace hBa := Aside0.mk hBa
  go_wp2_with fail
  refine (HC2.out _ hBa.out).mono ?_
  rintro e w1 ⟨rfl, hbb⟩
  have k1 := blk_below ka.out hbb
  have hb1 : Below w.heap.size w w1 := hBa.out.trans (hbb.mono hBa.out.size)
  have c1 := blk_cell k1 0
  have hl0 := blk_lt k1
  clear hbb ca ka hBa
  replace k1 := Aside0.mk k1
  replace hb1 := Aside0.mk hb1
  have zz : (((ttl l : Nat) : Int) != (l2.length : Int)) = false := bne_eq_false_iff_eq.mpr (by omega)
  go_wp2_with fail
  refine (seg_segments _ _ A l.length c rfl).mono ?_
  rintro e w3 ⟨rfl, hw3⟩
  have z0 : (w1.alloc (Obj.cells #[Value.slice none 0 0] 22)).heap.size = w1.heap.size + 1 := by simp
  rw [z0]
  have s3 : w3.heap.size = w1.heap.size + 2 := by rw [hw3]; simp
  have m3 : w3.heap[w1.heap.size]? = some (.cells #[.slice none 0 0] 22 (0, 0)) := by rw [hw3]; exact blk_alloc (blk_new w1 _) _
  have n3 : w3.cell? ⟨w1.heap.size + 1, 0, none⟩ = some (.slice A l.length c) := by rw [hw3]; exact (blk_cell (blk_new_at (by simp) _) 0).trans rfl
  have b3 : Below w.heap.size w w3 := hb1.out.trans ((by rw [hw3]; exact below_alloc (below_alloc (Below.refl _ _) _) _ : Below w1.heap.size w1 w3).mono hb1.out.size)
  have hle := hb1.out.size
  have k3 : w3.heap[w.heap.size]? = some (.cells #[.slice A2 l2.length c2] 22 (0, 0)) := blk_below k1.out (by rw [hw3]; exact below_alloc (below_alloc (Below.refl _ _) _) _ : Below w1.heap.size w1 w3)
  clear hw3 z0 c1 zz k1
  generalize hbo : w1.heap.size = bo at *
  replace hbo := Aside0.mk hbo
  go_wp2
  refine wp_rangeSeq rfl Try.call72 (seg_segments_it (bo + 1) A c l w.heap.size w3 n3 (fun W hW => Kd.C_below HR.out (b3.trans hW)) b3.size q2 q3) (Below.refl _ _) b3.size (segL_size l)
    (fun i W => ∃ v, W.heap[bo]? = some (.cells #[v] 22 (0, 0)) ∧ (Kd.int .i64).R 3 W (bo + 2) (fun k => bo + 2 ≤ k) v (upTo (nestAt l l2) i) ∧ Kp (fun k => k = bo ∨ bo + 2 ≤ k) w3 W) (fun _ _ => False) ?own ?ownx ?start ?round ?done ?stop
  case own =>
    rintro i W1 W2 row ⟨v, h1, h2, h3⟩ hg hr
    exact ⟨v, blk_own h1 hg (fun r e => (hr r e).2), R_own h2 hg (fun r e => (hr r e).2), h3.own hg (fun r e => .inr (by have := (hr r e).1; omega))⟩
  case ownx => exact fun _ _ _ _ h _ _ => h.elim
  case start => exact ⟨_, m3, Kd.R_nil _ _ _ _ _, Kp.refl _ _⟩
  case stop => exact fun _ _ _ _ h _ => h.elim
  case round =>
    intro l0 i args W hi hI K hK
    obtain ⟨hlt, rfl⟩ := segL_get hi
    clear hI
    replace hK := Aside0.mk hK
    gi_wp2
    refine hK.out _ ?_
    rintro W2 ⟨v, hM, hR, hK2⟩
    have hW2 : Below w.heap.size w W2 := b3.trans (hK2.below (fun k hk => ⟨by have := b3.size; omega, by omega⟩))
    have cI : W2.cell? ⟨w.heap.size, 0, none⟩ = some (.slice A2 l2.length c2) := blk_cell (hK2.blk k3 (by omega)) 0
    have hn0 := q2 _ (rd_mem l (i : Int) (by omega) (by omega))
    obtain ⟨n, hn⟩ : ∃ n : Nat, rd l (i : Int) = n := ⟨(rd l (i : Int)).toNat, by omega⟩
    have hse := startOf_le_ttl l (i + 1) (by omega)
    rw [show ((i + 1 : Nat) : Int) = (i : Int) + 1 by omega, startOf_succ l (i : Int) (by omega) (by omega), hn, Int.toNat_natCast] at hse
    have hq : nestAt l l2 (i : Int) = ((ttl ((l2.drop (startOf l (i : Int))).take n) : Nat) : Int) := by unfold nestAt; rw [hn, Int.toNat_natCast]
    have hown : ∀ k, some k = v.ownBlock → bo + 2 ≤ k ∧ ∃ cs t fr, W2.heap[k]? = some (.cells cs t fr) := fun k hk => ⟨(R_cells hR hk).1, (R_cells hR hk).2.2⟩
    have R2 := Kd.R_mono (Kd.R_tight2 (rfl : (Kd.int .i64).E = []) hR) (ok' := fun k => some k = v.ownBlock ∨ W2.heap.size ≤ k) (fun k hk => .inl hk.1)
    have hsz : bo + 2 ≤ W2.heap.size := by have := hK2.size; omega
    have cB2 : W2.cell? ⟨bo, 0, none⟩ = some v := blk_cell hM 0
    have HOwn := Aside0.mk hown
    have HR2 := Aside0.mk R2
    have HM2 := Aside0.mk hM
    have HK2 := Aside0.mk hK2
    have HSu := Aside0.mk (show upTo (nestAt l l2) ((i + 1 : Nat) : Int) = upTo (nestAt l l2) (i : Int) ++ [nestAt l l2 (i : Int)] by rw [show ((i + 1 : Nat) : Int) = (i : Int) + 1 by omega]; exact upTo_succ _ _ (by omega))
    clear hK K hR hM hK2 hown R2
    generalize hxs0 : upTo (nestAt l l2) i = xs at *
    have HLs : Aside0 ((xs.length + 1) * 8 ≤ 140737488355328) := ⟨by rw [← hxs0, upTo_length]; omega⟩
    clear hxs0
    rw [hn]
    generalize startOf l (i : Int) = st at *
    have hsl := HSl.out st n (by omega) W2
    have HJ := Aside0.mk (HSm.out st n (by omega) W2 hW2)
    rw [← hq] at HJ
    generalize nestAt l l2 (i : Int) = q at *
    have hst2 : st + n ≤ 1048576 := by omega
    clear hq hn hn0 hW2 hse
    gi_wp2_with fail
    refine ⟨trivial, rfl, (CallsIn.inRound l0 (callsIn_wide.2 HJ.out)).mono ?_⟩
    rintro e w4 ⟨rfl, m4, rfl⟩
    gi_wp2_with (gi_at_builtin; refine wpListIn_append_int 22 3 (bo + 2) rfl _ _ v xs (q) (fun b => some b = v.ownBlock ∨ W2.heap.size ≤ b) rfl Try.underlying22 infoInt rfl rfl (fun b hb => .inr (Nat.le_trans (by first | exact Nat.le_refl _ | simp) hb)) (by first | exact HR2.out | exact Kd.R_drewN HR2.out _) (by first | omega | (simp; omega)) HLs.out ?_; intro v1 w5 R5 hg5 hat5; have hne5 : some bo ≠ v.ownBlock := (fun e => by have := (HOwn.out bo e).1; omega); have M5 := blk_grown (by first | exact HM2.out | exact blk_drewN HM2.out _) hg5 hne5; have c5 : w5.cell? ⟨bo, 0, none⟩ = some v := blk_cell M5 0; have f5 := blk_frozen M5 0; obtain ⟨A6, c6, rfl⟩ := Kd.R_slice R5; have K6 : Kp (fun k => k = bo ∨ some k = v.ownBlock ∨ W2.heap.size ≤ k) W2 w5 := (by first | exact (Kp.refl _ _).grown hg5 (fun b e => .inl (.inr (.inl e.symm))) | exact ((Kp.refl _ _).drewN _).grown hg5 (fun b e => .inl (.inr (.inl e.symm)))); replace M5 := Aside0.mk M5; replace R5 := Aside0.mk R5; replace K6 := Aside0.mk K6; clear hg5 hat5)
    have K7 := K6.out.setCell ⟨bo, 0, none⟩ (.inl (.inl rfl)) (.slice A6 (xs ++ [q]).length c6)
    have R7 := Kd.R_set R5.out M5.out (by decide) 0 (.slice A6 (xs ++ [q]).length c6)
    have M7 := blk_set M5.out 0 (.slice A6 (xs ++ [q]).length c6)
    have elen : (xs ++ [q]).length = xs.length + 1 := by simp
    rw [elen] at K7 R7 M7
    have hon : ∀ b, (b = bo ∨ some b = v.ownBlock ∨ W2.heap.size ≤ b) → b = bo ∨ bo + 2 ≤ b := fun b h => h.elim .inl (fun h => h.elim (fun h => .inr (HOwn.out b h).1) (fun h => .inr (by omega)))
    refine ⟨K7.keepsFrom (fun b hb hlt => by
        rcases hb with rfl | hb | hb
        · exact ⟨_, _, _, HM2.out⟩
        · exact (HOwn.out b hb).2
        · omega), K7.below (fun b hb => ⟨by omega, fun hS => by have := hon b hS; omega⟩), _, M7, ?_, HK2.out.trans K7 (fun b h => .inl (hon b h))⟩
    rw [HSu.out]
    exact Kd.R_mono R7 (fun b hb => (hon b (.inr hb)).resolve_left (fun e => hb.elim (fun hb => by have := (HOwn.out _ hb).1; omega) (fun hb => by omega)))
  case done =>
    rintro D W hD ⟨v, h1, h2', h3'⟩ hd
    have cO : W.cell? ⟨bo, 0, none⟩ = some v := blk_cell h1 0
    obtain ⟨A9, c9, rfl⟩ := Kd.R_slice h2'
    have hq := (Kd.R_reads' h2').2.1
    have H1 := Aside0.mk h1
    have H2 := Aside0.mk h2'
    have H3 := Aside0.mk h3'
    have HQ := Aside0.mk (seg_cut A9 _ c9 W hq (R_cap h2'))
    have HD := Aside0.mk hd
    clear h1 h2' h3' hq hd
    go_wp2_with (go_at_call 57; (with_reducible refine (HQ.out).mono ?_); rintro e w5 ⟨rfl, m5, rfl⟩)
    (try rw [Exit.noGoto_ret])
    have hd5 : (W.drewN m5).heap[D]? = some (.deferred (some [])) := HD.out
    refine Marks.one hd5 _ (results_tmp2 rfl _ _ _) ?_
    have r5 := R_own (Kd.R_drewN H2.out m5) (grownBy_putObj' (W.drewN m5) D (.deferred none)) (fun r e => by cases e; exact ⟨_, hd5, rfl⟩)
    have v5 := V_cut (base2 := w.heap.size) r5
    have hb5 : Below w.heap.size w ((W.drewN m5).putObj D (.deferred none)) := (pw_below_drewN (b3.trans (H3.out.below (fun k hk => ⟨by have := b3.size; omega, fun h => by omega⟩))) m5).trans (below_putObj (l := D) (B := w.heap.size) (W.drewN m5) (.deferred none) (by have := b3.size; omega))
    refine ⟨_, rfl, ?_, hb5⟩
    have v6 := Kd.V_mono v5 (ok' := fun k => w.heap.size ≤ k) (fun k hk => by omega)
    simpa [segL_length] using v6
set_option maxHeartbeats 4000000 in
set_option maxRecDepth 100000 in
theorem seg_Nest.run (A : Option Addr) (c : Nat) (l : List Int) (A2 : Option Addr) (c2 : Nat) (l2 : List Int) (w : World) (hr : Kd.C (Kd.int .i64) w A l.length l) (hc : l.length ≤ c) (hr2 : Kd.C (Kd.int .i64) w A2 l2.length l2) (hc2 : l2.length ≤ c2) :
    Calls Try.prog 32 #[.slice A l.length c, .slice A2 l2.length c2] w (Ret2 w (seg_Nest.g l l2)) := by
  have HC1 : Aside0 (∀ W, Below w.heap.size w W → Calls Try.prog 14 #[.slice A l.length c] W fun e w' => e = .returned (.tuple #[.int .i64 (seg_Check.g l).1, .int .i64 (seg_Check.g l).2]) ∧ Below W.heap.size W w') := ⟨fun W hW => seg_Check.run A c l W (Kd.C_below hr hW) hc⟩
  have HC2 : Aside0 (∀ W, Below w.heap.size w W → Calls Try.prog 14 #[.slice A2 l2.length c2] W fun e w' => e = .returned (.tuple #[.int .i64 (seg_Check.g l2).1, .int .i64 (seg_Check.g l2).2]) ∧ Below W.heap.size W w') := ⟨fun W hW => seg_Check.run A2 c2 l2 W (Kd.C_below hr2 hW) hc2⟩
  unfold seg_Nest.g
  unfold seg_Check.g at HC1 HC2
  have hm2 : l2.length ≤ 9223372036854775807 := hr2.2.1
  by_cases h1 : chkE l = 0
  · rw [if_pos h1]
    by_cases h2 : chkE l2 = 0
    · rw [if_pos h2]
      by_cases h3 : ttl l = l2.length
      · rw [if_pos h3]
        exact seg_Nest_yes A c l A2 c2 l2 w hr hc hr2 hc2 h1 h2 h3
      · rw [if_neg h3]
        rw [if_pos h1] at HC1
        rw [if_pos h2] at HC2
        clear hr hc hr2 hc2
        have zz : (((ttl l : Nat) : Int) != (l2.length : Int)) = true := bne_iff_ne.mpr (by omega)
        generalize ttl l = T at *
        generalize ttl l2 = T2 at *
        clear h1 h2 h3
        go_enter Try.func32, Try.ntmps32
        go_wp2_with fail
        refine (HC1.out _ (below_alloc (Below.refl _ _) _)).mono ?_
        rintro e wa ⟨rfl, hba⟩
        have ka := blk_below (blk_new w (.cells #[.slice A2 l2.length c2] 22)) hba
        have hBa : Below w.heap.size w wa := (below_alloc (Below.refl _ _) _).trans (hba.mono (by simp))
        have ca := blk_cell ka 0
        clear hba
        replace ka := Aside0.mk ka
        replace hBa := Aside0.mk hBa
        go_wp2_with fail
        refine (HC2.out _ hBa.out).mono ?_
        rintro e w1 ⟨rfl, hbb⟩
        have k1 := blk_below ka.out hbb
        have hb1 : Below w.heap.size w w1 := hBa.out.trans (hbb.mono hBa.out.size)
        have c1 := blk_cell k1 0
        clear hbb ca ka hBa
        replace k1 := Aside0.mk k1
        replace hb1 := Aside0.mk hb1
        go_wp2
        go_ret2
        exact Ret2.nil 1 hb1.out
    · rw [if_neg h2]
      rw [if_pos h1] at HC1
      rw [if_neg h2] at HC2
      clear hr hc hr2 hc2
      have zz : (chkE l2 != 0) = true := bne_iff_ne.mpr h2
      generalize ttl l = T at *
      generalize chkE l2 = E at *
      clear h1 h2
      go_enter Try.func32, Try.ntmps32
      go_wp2_with fail
      refine (HC1.out _ (below_alloc (Below.refl _ _) _)).mono ?_
      rintro e wa ⟨rfl, hba⟩
      have ka := blk_below (blk_new w (.cells #[.slice A2 l2.length c2] 22)) hba
      have hBa : Below w.heap.size w wa := (below_alloc (Below.refl _ _) _).trans (hba.mono (by simp))
      have ca := blk_cell ka 0
      clear hba
      replace ka := Aside0.mk ka
      replace hBa := Aside0.mk hBa
      go_wp2_with fail
      refine (HC2.out _ hBa.out).mono ?_
      rintro e w1 ⟨rfl, hbb⟩
      have k1 := blk_below ka.out hbb
      have hb1 : Below w.heap.size w w1 := hBa.out.trans (hbb.mono hBa.out.size)
      have c1 := blk_cell k1 0
      clear hbb ca ka hBa
      replace k1 := Aside0.mk k1
      replace hb1 := Aside0.mk hb1
      go_wp2
      go_ret2
      exact Ret2.nil E hb1.out
  · rw [if_neg h1]
    rw [if_neg h1] at HC1
    clear hr hc hr2 hc2
    have zz : (chkE l != 0) = true := bne_iff_ne.mpr h1
    generalize chkE l = E at *
    clear h1 HC2
    go_enter Try.func32, Try.ntmps32
    go_wp2_with fail
    refine (HC1.out _ (below_alloc (Below.refl _ _) _)).mono ?_
    rintro e wa ⟨rfl, hba⟩
    have ka := blk_below (blk_new w (.cells #[.slice A2 l2.length c2] 22)) hba
    have hBa : Below w.heap.size w wa := (below_alloc (Below.refl _ _) _).trans (hba.mono (by simp))
    have ca := blk_cell ka 0
    clear hba
    replace ka := Aside0.mk ka
    replace hBa := Aside0.mk hBa
    go_wp2
    go_ret2
    exact Ret2.nil E hBa.out
end Go.Proofs.Ythalgcpohnknbaa.Hand
/- seg.Split: segments cut into pieces, and how many pieces each has. -/
namespace Go.Proofs.Ythalgcpohnknbaa.Hand
open Go.RowKit Go.Proofs.YthalgcpohnknbaaW.PrintWords Go.Proofs.YthalgcpohnknbaaW.PrintLast Go.Proofs.YthalgcpohnknbaaW.PrintMore
set_option linter.unusedVariables false
set_option linter.unusedSimpArgs false
attribute [local go_sem] store_func store_nilFunc Oper.semAt_some
/-- The pieces of n elements, each of at most m (f: at most so many). -/
def pcs (m : Nat) : Nat → Nat → List Int
  | 0, _ => []
  | f + 1, n => if n = 0 then [] else ((min n m : Nat) : Int) :: pcs m f (n - min n m)
theorem pcs_zero (m f : Nat) : pcs m f 0 = [] := by cases f <;> simp [pcs]
theorem pcs_length (m : Nat) (hm : 1 ≤ m) : ∀ f n, (pcs m f n).length ≤ n
  | 0, n => by simp [pcs]
  | f + 1, n => by
    unfold pcs
    by_cases h : n = 0
    · simp [h]
    · rw [if_neg h, List.length_cons]
      have := pcs_length m hm f (n - min n m)
      omega
def pcsAt (l : List Int) (m i : Nat) : List Int := pcs m (rd l (i : Int)).toNat (rd l (i : Int)).toNat
def piecesTo (l : List Int) (m k : Nat) : List Int := (List.range k).flatMap fun i => pcsAt l m i
def manyOf (l : List Int) (m : Nat) (i : Int) : Int := (((pcsAt l m i.toNat).length : Nat) : Int)
theorem piecesTo_succ (l : List Int) (m k : Nat) : piecesTo l m (k + 1) = piecesTo l m k ++ pcsAt l m k := by
  unfold piecesTo
  rw [List.range_succ, List.flatMap_append, List.flatMap_singleton]
theorem piecesTo_length (l : List Int) (m : Nat) (hm : 1 ≤ m) : ∀ k : Nat, k ≤ l.length → (piecesTo l m k).length ≤ startOf l (k : Int)
  | 0, _ => by simp [piecesTo]
  | k + 1, h => by
    have h1 := piecesTo_length l m hm k (by omega)
    have h2 := pcs_length m hm (rd l (k : Int)).toNat (rd l (k : Int)).toNat
    rw [piecesTo_succ, List.length_append, show ((k + 1 : Nat) : Int) = (k : Int) + 1 by omega, startOf_succ l (k : Int) (by omega) (by omega)]
    unfold pcsAt
    omega
def seg_Split.g (l : List Int) (t : Int) : List Int × List Int × Int := if chkE l = 0 then (if (decide (t < 1) || decide (1048576 < t)) then ([], [], 2) else (piecesTo l t.toNat l.length, upTo (manyOf l t.toNat) l.length, 0)) else ([], [], chkE l)
set_option maxHeartbeats 4000000 in
set_option maxRecDepth 100000 in
theorem seg_Split_yes (A : Option Addr) (c : Nat) (l : List Int) (t : Nat) (w : World) (hr : Kd.C (Kd.int .i64) w A l.length l) (hc : l.length ≤ c) (h0 : chkE l = 0) (ht1 : 1 ≤ t) (ht : t ≤ 1048576) :
    Calls Try.prog 34 #[.slice A l.length c, .int .i64 (t : Int)] w (Ret3 w (piecesTo l t l.length, upTo (manyOf l t) l.length, 0)) := by
  have HR := Aside0.mk hr
  have hm : l.length ≤ 9223372036854775807 := hr.2.1
  have HC := Aside0.mk (seg_Check.run A c l w hr hc)
  clear hr hc
  unfold seg_Check.g at HC
  rw [if_pos h0] at HC
  obtain ⟨q1, q2, q3⟩ := chkE_ok h0
  clear h0
  have za : decide ((t : Int) < 1) = false := decide_eq_false (by omega)
  have zb : decide ((1048576 : Int) < (t : Int)) = false := decide_eq_false (by omega)
  refine calls_of_marks Try.func34 rfl ?_
  simp only [Try.ntmps34, List.size_toArray, List.length_cons, List.length_nil, Nat.reduceAdd, Nat.reduceSub, Array.replicate_succ, Array.replicate_zero, List.push_toArray, List.append_toArray, List.nil_append, List.cons_append]
  go_wp2_with fail
  refine (HC.out).mono ?_
  rintro e w1 ⟨rfl, hb1⟩
  replace hb1 := Aside0.mk hb1
  go_wp2
  clear za zb
  go_loopw [4, 5, 29] (fun u v i W => ∃ k : Nat, i = .int .i64 (k : Int) ∧ k ≤ l.length ∧ Aside0 (Below w.heap.size w W) ∧ Aside0 ((Kd.int .i64).R 3 W w.heap.size (fun k => w.heap.size ≤ k) u (piecesTo l t k)) ∧ Aside0 ((Kd.int .i64).R 3 W w.heap.size (fun k => w.heap.size ≤ k) v (upTo (manyOf l t) (k : Int))) ∧ Aside0 (∀ k, some k = u.ownBlock → some k ≠ v.ownBlock)) (fun _ _ i _ => l.length - (intOf i).toNat)
  case atStart => exact ⟨0, rfl, by omega, hb1, ⟨Kd.R_nil _ _ _ _ _⟩, ⟨Kd.R_nil _ _ _ _ _⟩, ⟨fun k hk => by simp [Value.ownBlock] at hk⟩⟩
  case round =>
    clear hb1 HC
    obtain ⟨k, rfl, p0, hb, hR, hR2, hNe⟩ := hrel
    by_cases hlt : k < l.length
    · obtain ⟨ad, e1, hx⟩ := Kd.at_int (Kd.C_below HR.out hb.out) (k : Int) (by omega) (by omega)
      cases e1
      rw [Int.toNat_natCast] at hx
      have hn0 := q2 _ (rd_mem l (k : Int) (by omega) (by omega))
      obtain ⟨n, hn⟩ : ∃ n : Nat, rd l (k : Int) = n := ⟨(rd l (k : Int)).toNat, by omega⟩
      have hsu := piecesTo_succ l t k
      have hle := piecesTo_length l t ht1 (k + 1) (by omega)
      have hle2 := startOf_le_ttl l (k + 1) (by omega)
      have hpc : pcsAt l t k = pcs t n n := by unfold pcsAt; rw [hn, Int.toNat_natCast]
      have hmo : manyOf l t (k : Int) = (((pcs t n n).length : Nat) : Int) := by unfold manyOf; rw [Int.toNat_natCast, hpc]
      have hup : upTo (manyOf l t) ((k + 1 : Nat) : Int) = upTo (manyOf l t) (k : Int) ++ [manyOf l t (k : Int)] := by rw [show ((k + 1 : Nat) : Int) = (k : Int) + 1 by omega]; exact upTo_succ _ _ (by omega)
      have hul := upTo_length (manyOf l t) (k : Int)
      rw [hpc] at hsu
      rw [hsu, List.length_append] at hle
      rw [hmo] at hup
      rw [hn] at hx
      have hnn : n ≤ 1048576 := by
        have h1 := startOf_le_ttl l (k + 1) (by omega)
        rw [show ((k + 1 : Nat) : Int) = (k : Int) + 1 by omega, startOf_succ l (k : Int) (by omega) (by omega), hn, Int.toNat_natCast] at h1
        omega
      have hxl : Aside0 ((piecesTo l t k).length + (pcs t n n).length ≤ 1048576) := ⟨by omega⟩
      have hyl : Aside0 ((upTo (manyOf l t) (k : Int)).length ≤ 1048576) := ⟨by rw [hul]; omega⟩
      generalize piecesTo l t k = xs at *
      generalize upTo (manyOf l t) (k : Int) = ys at *
      generalize hP : pcs t n n = P at *
      replace hP := Aside0.mk hP
      replace hsu := Aside0.mk hsu
      replace hup := Aside0.mk hup
      replace q2 := Aside0.mk q2
      clear hn hn0 hle hle2 hul hpc hmo q3
      have hI0 : Aside0 (([] : List Int) ++ pcs t n n = P) := ⟨hP.out⟩
      have hR0 : Aside0 ((Kd.int .i64).R 3 wr w.heap.size (fun k => w.heap.size ≤ k) u4 (xs ++ ([] : List Int))) := ⟨by simpa using hR.out⟩
      go_wp2
      (try go_step3)
      go_wp2
      (try go_step3)
      go_wp2
      go_loopw [4, 10, 11] (fun u a b W => ∃ (ps : List Int) (f left : Nat), a = .int .i64 (left : Int) ∧ b = .int .i64 (ps.length : Nat) ∧ left ≤ f ∧ left ≤ n ∧ Aside0 (ps ++ pcs t f left = P) ∧ Aside0 (Below w.heap.size w W) ∧ Aside0 ((Kd.int .i64).R 3 W w.heap.size (fun k => w.heap.size ≤ k) u (xs ++ ps)) ∧ Aside0 ((Kd.int .i64).R 3 W w.heap.size (fun k => w.heap.size ≤ k) u5 ys) ∧ Aside0 (∀ k, some k = u.ownBlock → some k ≠ u5.ownBlock)) (fun _ a _ _ => (intOf a).toNat)
      case atStart => exact ⟨[], n, n, rfl, rfl, by omega, by omega, hI0, hb, hR0, hR2, hNe⟩
      case round =>
        clear hI0 hR0 hb hR hR2 hNe hx
        obtain ⟨ps, f, left, rfl, rfl, p1, p2, hI, hb, hR, hR2, hNe⟩ := hrel
        have hlen : ps.length + (pcs t f left).length = P.length := by rw [← hI.out, List.length_append]
        have hxl2 := hxl.out
        by_cases h0 : left = 0
        · subst h0
          have hps : ps = P := by have h := hI.out; rwa [pcs_zero, List.append_nil] at h
          subst hps
          clear hlen hxl2 hP hI
          have HLs : Aside0 ((ys.length + 1) * 8 ≤ 140737488355328) := ⟨by have := hyl.out; omega⟩
          have hpl : ps.length ≤ 1048576 := by have := hxl.out; omega
          go_wp2_with ((with_reducible refine gate_builtin (b := .append) (xs := #[.tmp 47, .tmp 49]) rfl ?_); at_builtin; refine Kd.R_append (Kd.int .i64) (w0 := w) w.heap.size rfl (.tmp 47) (.tmp 49) 22 3 (.int .i64 0) 8 rfl Try.underlying22 infoInt rfl (by decide) (by omega) u5 ys ((ps.length : Nat) : Int) [.int .i64 ((ps.length : Nat) : Int)] (fun k_ => (w.heap.size ≤ k_)) (fun _ => False) rfl rfl rfl (fun _ hk => hk.elim) (fun k_ hk => Nat.le_trans hb.out.size hk) hR2.out hb.out hb.out.size HLs.out ?_; intro v6 w6 ho hb6 hg hat; have hoth := Aside0.mk (Kd.R_grown2 hR.out rfl hg (fun k hk => fun e => hNe.out k e hk.symm)); have hne6 : Aside0 (∀ k, some k = u4.ownBlock → some k ≠ v6.ownBlock) := ⟨fun k hk hv => hat.elim (fun e => hNe.out k hk (hv.trans e)) (fun ⟨b0, e, hb0⟩ => by have := Kd.R_lt hR.out k hk.symm; rw [e] at hv; injection hv with hv; omega)⟩; replace ho := Aside0.mk ho; replace hb6 := Aside0.mk hb6; clear hg hat)
          apply_assumption
          go_wp2
          go_roundw
          case rel => exact ⟨k + 1, by simp, by omega, hb6, ⟨by rw [hsu.out]; exact hoth.out⟩, ⟨by rw [hup.out]; exact ho.out⟩, hne6⟩
          case measure => simp [intOf]; omega
        · obtain ⟨f, rfl⟩ : ∃ g, f = g + 1 := ⟨f - 1, by omega⟩
          have hst : pcs t (f + 1) left = ((min left t : Nat) : Int) :: pcs t f (left - min left t) := by show (if left = 0 then [] else _) = _; rw [if_neg h0]
          have zl : ((left : Int) == 0) = false := beq_eq_false_iff_ne.mpr (by omega)
          have zm : min (left : Int) (t : Int) = ((min left t : Nat) : Int) := by omega
          rw [hst] at hlen
          rw [List.length_cons] at hlen
          have HLs : Aside0 (((xs ++ ps).length + 1) * 8 ≤ 140737488355328) := ⟨by rw [List.length_append]; omega⟩
          have hI2 : Aside0 ((ps ++ [((min left t : Nat) : Int)]) ++ pcs t f (left - min left t) = P) := ⟨by rw [← hI.out, hst, List.append_assoc]; rfl⟩
          have hml : 1 ≤ min left t ∧ min left t ≤ left := by omega
          have hpl : ps.length ≤ 1048576 := by omega
          obtain ⟨zs, hzs⟩ : ∃ zs, zs = xs ++ ps := ⟨_, rfl⟩
          rw [← hzs] at hR HLs
          replace hzs := Aside0.mk hzs
          have hl1 : 1 ≤ left := by omega
          clear zm hlen hxl2 hst hI h0 hml
          by_cases hlq : left ≤ t
          · have zq : decide ((left : Int) ≤ (t : Int)) = true := decide_eq_true (by omega)
            rw [show min left t = left by omega] at hI2
            go_wp2_with ((with_reducible refine gate_builtin (b := .append) (xs := #[.tmp 38, .tmp 40]) rfl ?_); at_builtin; refine Kd.R_append (Kd.int .i64) (w0 := w) w.heap.size rfl (.tmp 38) (.tmp 40) 22 3 (.int .i64 0) 8 rfl Try.underlying22 infoInt rfl (by decide) (by omega) u4 zs ((left : Nat) : Int) [.int .i64 ((left : Nat) : Int)] (fun k_ => (w.heap.size ≤ k_)) (fun _ => False) rfl rfl rfl (fun _ hk => hk.elim) (fun k_ hk => Nat.le_trans hb.out.size hk) hR.out hb.out hb.out.size HLs.out ?_; intro v6 w6 ho hb6 hg hat; have hoth := Aside0.mk (Kd.R_grown2 hR2.out rfl hg (fun k hk => hNe.out k hk.symm)); have hne6 : Aside0 (∀ k, some k = v6.ownBlock → some k ≠ u5.ownBlock) := ⟨fun k hk hv => hat.elim (fun e => hNe.out k (hk.trans e) hv) (fun ⟨b0, e, hb0⟩ => by have := Kd.R_lt hR2.out k hv.symm; rw [e] at hk; injection hk with hk; omega)⟩; replace ho := Aside0.mk ho; replace hb6 := Aside0.mk hb6; clear hg hat)
            go_roundw
            case rel => exact ⟨ps ++ [((left : Nat) : Int)], f, left - left, by simp, by simp, by omega, by omega, hI2, hb6, ⟨by rw [← List.append_assoc, ← hzs.out]; exact ho.out⟩, hoth, hne6⟩
            case measure => simp [intOf]; omega
          · have zq : decide ((left : Int) ≤ (t : Int)) = false := decide_eq_false (by omega)
            rw [show min left t = t by omega] at hI2
            go_wp2_with ((with_reducible refine gate_builtin (b := .append) (xs := #[.tmp 38, .tmp 40]) rfl ?_); at_builtin; refine Kd.R_append (Kd.int .i64) (w0 := w) w.heap.size rfl (.tmp 38) (.tmp 40) 22 3 (.int .i64 0) 8 rfl Try.underlying22 infoInt rfl (by decide) (by omega) u4 zs ((t : Nat) : Int) [.int .i64 ((t : Nat) : Int)] (fun k_ => (w.heap.size ≤ k_)) (fun _ => False) rfl rfl rfl (fun _ hk => hk.elim) (fun k_ hk => Nat.le_trans hb.out.size hk) hR.out hb.out hb.out.size HLs.out ?_; intro v6 w6 ho hb6 hg hat; have hoth := Aside0.mk (Kd.R_grown2 hR2.out rfl hg (fun k hk => hNe.out k hk.symm)); have hne6 : Aside0 (∀ k, some k = v6.ownBlock → some k ≠ u5.ownBlock) := ⟨fun k hk hv => hat.elim (fun e => hNe.out k (hk.trans e) hv) (fun ⟨b0, e, hb0⟩ => by have := Kd.R_lt hR2.out k hv.symm; rw [e] at hk; injection hk with hk; omega)⟩; replace ho := Aside0.mk ho; replace hb6 := Aside0.mk hb6; clear hg hat)
            go_roundw
            case rel => exact ⟨ps ++ [((t : Nat) : Int)], f, left - t, by rw [show ((left - t : Nat) : Int) = (left : Int) - (t : Int) by omega], by simp, by omega, by omega, hI2, hb6, ⟨by rw [← List.append_assoc, ← hzs.out]; exact ho.out⟩, hoth, hne6⟩
            case measure => simp [intOf]; omega
    · obtain rfl : k = l.length := by omega
      obtain ⟨A4, c4, rfl⟩ := Kd.R_slice hR.out
      obtain ⟨A5, c5, rfl⟩ := Kd.R_slice hR2.out
      have hq1 := (Kd.R_reads' hR.out).2.1
      have hq2 := (Kd.R_reads' hR2.out).2.1
      have HQ1 : Aside0 (∀ X n, n = (piecesTo l t l.length).length → Calls Try.prog 57 #[.slice A4 n c4] X fun e w' => e = .returned (.slice A4 n n) ∧ Drawn0 X w') := ⟨fun X n hn => by subst hn; exact seg_cut A4 _ c4 X hq1 (R_cap hR.out)⟩
      have HQ2 : Aside0 (∀ X n, n = (upTo (manyOf l t) (l.length : Int)).length → Calls Try.prog 57 #[.slice A5 n c5] X fun e w' => e = .returned (.slice A5 n n) ∧ Drawn0 X w') := ⟨fun X n hn => by subst hn; exact seg_cut A5 _ c5 X hq2 (R_cap hR2.out)⟩
      clear hq1 hq2
      generalize hX1 : piecesTo l t l.length = xs at *
      generalize hX2 : upTo (manyOf l t) (l.length : Int) = ys at *
      obtain ⟨n1, hn1⟩ : ∃ n1, n1 = xs.length := ⟨_, rfl⟩
      obtain ⟨n2, hn2⟩ : ∃ n2, n2 = ys.length := ⟨_, rfl⟩
      rw [← hn1] at hR ⊢
      rw [← hn2] at hR2 ⊢
      have HQ1' := Aside0.mk (fun X => HQ1.out X n1 hn1)
      have HQ2' := Aside0.mk (fun X => HQ2.out X n2 hn2)
      replace hn1 := Aside0.mk hn1
      replace hn2 := Aside0.mk hn2
      clear HQ1 HQ2 hlt hX1 hX2
      go_wp2_with (go_at_call 57; (first | (with_reducible refine (HQ1'.out _).mono ?_) | (with_reducible refine (HQ2'.out _).mono ?_)); rintro e w8 ⟨rfl, m8, rfl⟩)
      unfold MarksPost
      refine Marks.zero _ (results_tmp3 rfl _ _ _) ?_
      exact ⟨_, _, rfl, V_cut (Kd.R_drewN hR.out _), V_cut (Kd.R_drewN hR2.out _), pw_below_drewN hb.out _⟩
set_option maxHeartbeats 4000000 in
set_option maxRecDepth 100000 in
theorem seg_Split.run (A : Option Addr) (c : Nat) (l : List Int) (t : Int) (w : World) (hr : Kd.C (Kd.int .i64) w A l.length l) (hc : l.length ≤ c) :
    Calls Try.prog 34 #[.slice A l.length c, .int .i64 t] w (Ret3 w (seg_Split.g l t)) := by
  have HC := Aside0.mk (seg_Check.run A c l w hr hc)
  unfold seg_Split.g
  unfold seg_Check.g at HC
  by_cases h0 : chkE l = 0
  · rw [if_pos h0] at HC ⊢
    by_cases hb : t < 1 ∨ 1048576 < t
    · rw [if_pos (show (decide (t < 1) || decide (1048576 < t)) = true by rcases hb with h | h <;> simp [h])]
      clear hr hc h0
      generalize ttl l = T at *
      cases z2 : decide (t < 1) <;> cases z3 : decide (1048576 < t)
      · exfalso; have := of_decide_eq_false z2; have := of_decide_eq_false z3; omega
      all_goals
        clear hb
        refine calls_of_marks Try.func34 rfl ?_
        simp only [Try.ntmps34, List.size_toArray, List.length_cons, List.length_nil, Nat.reduceAdd, Nat.reduceSub, Array.replicate_succ, Array.replicate_zero, List.push_toArray, List.append_toArray, List.nil_append, List.cons_append]
        go_wp2_with fail
        refine (HC.out).mono ?_
        rintro e w1 ⟨rfl, hb1⟩
        replace hb1 := Aside0.mk hb1
        go_wp2
        unfold MarksPost
        refine Marks.zero _ (results_tmp3 rfl _ _ _) ?_
        exact Ret3.nil _ hb1.out
    · obtain ⟨q, rfl⟩ : ∃ q : Nat, t = q := ⟨t.toNat, by omega⟩
      have za : decide ((q : Int) < 1) = false := decide_eq_false (by omega)
      have zb : decide ((1048576 : Int) < (q : Int)) = false := decide_eq_false (by omega)
      rw [za, zb, Int.toNat_natCast]
      exact seg_Split_yes A c l q w hr hc h0 (by omega) (by omega)
  · rw [if_neg h0] at HC ⊢
    clear hr hc
    have zz : (chkE l != 0) = true := bne_iff_ne.mpr h0
    generalize chkE l = E at *
    clear h0
    refine calls_of_marks Try.func34 rfl ?_
    simp only [Try.ntmps34, List.size_toArray, List.length_cons, List.length_nil, Nat.reduceAdd, Nat.reduceSub, Array.replicate_succ, Array.replicate_zero, List.push_toArray, List.append_toArray, List.nil_append, List.cons_append]
    go_wp2_with fail
    refine (HC.out).mono ?_
    rintro e w1 ⟨rfl, hb1⟩
    replace hb1 := Aside0.mk hb1
    go_wp2
    unfold MarksPost
    refine Marks.zero _ (results_tmp3 rfl _ _ _) ?_
    exact Ret3.nil _ hb1.out
end Go.Proofs.Ythalgcpohnknbaa.Hand
/- seg.Shared: segments of a pool, checked. -/
namespace Go.Proofs.Ythalgcpohnknbaa.Hand
open Go.RowKit Go.Proofs.YthalgcpohnknbaaW.PrintWords Go.Proofs.YthalgcpohnknbaaW.PrintLast Go.Proofs.YthalgcpohnknbaaW.PrintMore
set_option linter.unusedVariables false
set_option linter.unusedSimpArgs false
attribute [local go_sem] store_func store_nilFunc Oper.semAt_some
theorem short_lit2 (most : Int) (v v2 : Value) (l l2 : List Int) (W : World) (N : Nat) (hN : W.heap.size = N) (h : Sl W v l) (h2 : Sl W v2 l2) :
    Calls Try.prog 52 #[.int .i64 most, .slice (some ⟨N, 0, none⟩) 2 2] (W.alloc (.cells #[v, v2] 22)) fun e w' => e = .returned (.bool (!(decide (most < l.length) || decide (most < l2.length)))) ∧ Below W.heap.size W w' := by
  have h2 := seg_short most (some ⟨N, 0, none⟩) 2 [l, l2] (W.alloc (.cells #[v, v2] 22)) (lit_rows_at _ _ hN _ _ [l, l2] _ rfl (rows_of2 h h2) (by simp))
  have e : longB most [l, l2] = (decide (most < l.length) || decide (most < l2.length)) := by simp [longB]
  rw [e] at h2
  exact h2.mono fun e w' ⟨he, hb⟩ => ⟨he, (below_alloc (Below.refl _ _) _).trans (hb.mono (by simp))⟩
def badAt (s l : List Int) (size : Int) (i : Nat) : Bool := decide (rd s (i : Int) < 0) || decide (size - rd l (i : Int) < rd s (i : Int))
/-- The error that segments of a pool make, or 0. -/
def sharedE (s l : List Int) (size : Int) : Int :=
  if (decide ((1048576 : Int) < (s.length : Int)) || decide ((1048576 : Int) < (l.length : Int))) then 3 else if s.length ≠ l.length then 1 else if (decide (size < 0) || decide (1048576 < size) || outB size l) then 2
  else if (List.range s.length).any (badAt s l size) then 2 else if 1048576 < ttl l then 9 else 0
def seg_Shared.g (s l : List Int) (size : Int) : Int × Int := if sharedE s l size = 0 then ((ttl l : Nat), 0) else (0, sharedE s l size)
theorem sharedE_ok {s l : List Int} {size : Int} (h : sharedE s l size = 0) : s.length ≤ 1048576 ∧ l.length = s.length ∧ 0 ≤ size ∧ size ≤ 1048576 ∧ ttl l ≤ 1048576 ∧ ∀ i : Nat, i < s.length → 0 ≤ rd s (i : Int) ∧ 0 ≤ rd l (i : Int) ∧ rd s (i : Int) + rd l (i : Int) ≤ size := by
  unfold sharedE at h
  split at h
  · cases h
  · rename_i h1
    simp at h1
    split at h
    · cases h
    · rename_i h2
      simp only [ne_eq, Decidable.not_not] at h2
      split at h
      · cases h
      · rename_i h3
        simp only [Bool.or_eq_true, decide_eq_true_eq, not_or, Bool.not_eq_true] at h3
        split at h
        · cases h
        · rename_i h4
          split at h
          · cases h
          · refine ⟨by omega, h2.symm, by omega, by omega, by omega, fun i hi => ?_⟩
            rw [Bool.not_eq_true, List.any_eq_false] at h4
            have h5 := h4 i (List.mem_range.2 hi)
            unfold badAt at h5
            simp at h5
            have h6 := List.any_eq_false.1 h3.2 _ (rd_mem l (i : Int) (by omega) (by omega))
            simp at h6
            omega
def RetI (R : Int × Int) (w : World) (e : Ending) (w' : World) : Prop := e = .returned (.tuple #[.int .i64 R.1, .int .i64 R.2]) ∧ Below w.heap.size w w'
set_option maxHeartbeats 4000000 in
set_option maxRecDepth 100000 in
theorem seg_Shared_mid (A : Option Addr) (c : Nat) (s : List Int) (A2 : Option Addr) (c2 : Nat) (l : List Int) (size : Int) (w : World) (hr : Kd.C (Kd.int .i64) w A s.length s) (hc : s.length ≤ c) (hr2 : Kd.C (Kd.int .i64) w A2 l.length l) (hc2 : l.length ≤ c2)
    (h1 : s.length ≤ 1048576) (h2 : l.length = s.length) (h3 : 0 ≤ size) (h4 : size ≤ 1048576) (h5 : outB size l = false) :
    Calls Try.prog 37 #[.slice A s.length c, .slice A2 l.length c2, .int .i64 size] w (RetI (if (List.range s.length).any (badAt s l size) then (0, 2) else if 1048576 < ttl l then (0, 9) else ((ttl l : Nat), 0)) w) := by
  have HSh := Aside0.mk (short_lit2 1048576 _ _ s l w w.heap.size rfl (Sl.of hr hc) (Sl.of hr2 hc2))
  rw [decide_eq_false (show ¬ (1048576 : Int) < (s.length : Int) by omega), decide_eq_false (show ¬ (1048576 : Int) < (l.length : Int) by omega)] at HSh
  have HW : Aside0 (∀ W, Below w.heap.size w W → Calls Try.prog 63 #[.slice A2 l.length c2, .int .i64 size] W fun e w' => e = .returned (.bool true) ∧ Below W.heap.size W w') := ⟨fun W hW => by have h := seg_within A2 c2 l size W (Kd.C_below hr2 hW); rw [h5] at h; exact h⟩
  have HO : Aside0 (∀ m : Nat, m < l.length → 0 ≤ rd l (m : Int) ∧ rd l (m : Int) ≤ size) := ⟨fun m hm => by
    have h := List.any_eq_false.1 h5 _ (rd_mem l (m : Int) (by omega) (by omega))
    simp at h
    exact h⟩
  have HSm : Aside0 (∀ W, Below w.heap.size w W → Calls Try.prog 55 #[.slice A2 l.length c2] W fun e w' => e = .returned (.tuple #[.int .i64 (sumB l).1, .bool (sumB l).2]) ∧ Drawn0 W w') := ⟨fun W hW => seg_sum A2 c2 l W (Kd.C_below hr2 hW) (fun n hn => by
    have h := List.any_eq_false.1 h5 n hn
    simp at h
    exact h.1)⟩
  have HE : Aside0 ((if (List.range s.length).any (badAt s l size) then (0, 2) else if 1048576 < ttl l then (0, 9) else (((ttl l : Nat) : Int), (0 : Int))) = if (List.range s.length).any (badAt s l size) then (0, 2) else if (sumB l).2 then ((sumB l).1, 0) else (0, 9)) := ⟨by
    unfold sumB
    by_cases h : ttl l ≤ 1048576
    · rw [if_pos h, if_neg (show ¬ 1048576 < ttl l by omega)]; rfl
    · rw [if_neg h, if_pos (show 1048576 < ttl l by omega)]; rfl⟩
  rw [HE.out]
  clear HE
  generalize sumB l = SB at *
  obtain ⟨RR, hRR⟩ : ∃ RR : Int × Int, RR = if (List.range s.length).any (badAt s l size) then (0, 2) else if SB.2 then (SB.1, 0) else (0, 9) := ⟨_, rfl⟩
  rw [← hRR]
  replace hRR := Aside0.mk hRR
  have HR := Aside0.mk hr
  have HR2 := Aside0.mk hr2
  have h2a : l.length ≤ s.length := by omega
  have h2b : s.length ≤ l.length := by omega
  clear hr hr2 hc hc2 h5 h2
  have za : decide (size < 0) = false := decide_eq_false (by omega)
  have zb : decide (1048576 < size) = false := decide_eq_false (by omega)
  have zz : ((s.length : Int) != (l.length : Int)) = false := bne_eq_false_iff_eq.mpr (by omega)
  go_enter Try.func37, Try.ntmps37
  go_wp2_with fail
  refine (HSh.out).mono ?_
  rintro e w2 ⟨rfl, hb2⟩
  replace hb2 := Aside0.mk hb2
  go_wp2_with fail
  refine (HW.out _ hb2.out).mono ?_
  rintro e w3 ⟨rfl, hb3⟩
  replace hb3 := Aside0.mk (hb2.out.trans (hb3.mono hb2.out.size))
  clear zz HSh HW hb2
  go_wp2
  go_loopw [36] (fun i W => ∃ m : Nat, i = .int .i64 (m : Int) ∧ m ≤ s.length ∧ Aside0 (∀ j : Nat, j < m → badAt s l size j = false) ∧ Aside0 (Below w.heap.size w W)) (fun i _ => s.length - (intOf i).toNat)
  case atStart => exact ⟨0, rfl, by omega, ⟨by omega⟩, hb3⟩
  case round =>
    clear hb3 za zb
    obtain ⟨m, rfl, p0, HJ, hb⟩ := hrel
    by_cases hlt : m < s.length
    · obtain ⟨ad, e1, hx⟩ := Kd.at_int (Kd.C_below HR.out hb.out) (m : Int) (by omega) (by omega)
      obtain ⟨ad2, e2, hx2⟩ := Kd.at_int (Kd.C_below HR2.out hb.out) (m : Int) (by omega) (by omega)
      cases e1
      cases e2
      rw [Int.toNat_natCast] at hx hx2
      obtain ⟨o1, o2⟩ := HO.out m (by omega)
      have hbad : Aside0 (badAt s l size m = true → RR = (0, 2)) := ⟨fun h => by rw [hRR.out, if_pos]; rw [List.any_eq_true]; exact ⟨m, List.mem_range.2 hlt, h⟩⟩
      obtain ⟨bm, hbm⟩ : ∃ b, badAt s l size m = b := ⟨_, rfl⟩
      have hdef : Aside0 (bm = (decide (rd s (m : Int) < 0) || decide (size - rd l (m : Int) < rd s (m : Int)))) := ⟨by rw [← hbm]; rfl⟩
      rw [hbm] at hbad
      replace hbm := Aside0.mk hbm
      generalize rd s (m : Int) = x at *
      generalize rd l (m : Int) = n at *
      cases z1 : decide (x < 0) <;> cases z2 : decide (size - n < x) <;> rw [z1, z2] at hdef
      all_goals first
        | (have hRE := Aside0.mk (hbad.out hdef.out)
           go_wp2
           go_ret2
           rw [hRE.out]
           exact ⟨rfl, hb.out⟩)
        | (go_wp2
           go_roundw
           case rel => exact ⟨m + 1, by simp, by omega, ⟨fun j hj => by
             by_cases h : j < m
             · exact HJ.out j h
             · obtain rfl : j = m := by omega
               rw [hbm.out]
               exact hdef.out⟩, hb⟩
           case measure => simp [intOf]; omega)
    · obtain rfl : m = s.length := by omega
      have hRE : Aside0 (RR = if SB.2 then (SB.1, 0) else (0, 9)) := ⟨by rw [hRR.out, if_neg]; rw [Bool.not_eq_true, List.any_eq_false]; intro j hj; rw [HJ.out j (List.mem_range.1 hj)]; simp⟩
      obtain ⟨x, ok⟩ := SB
      cases ok
      all_goals
        replace hRE := Aside0.mk (show RR = _ from hRE.out)
        go_wp2_with ((with_reducible refine (HSm.out _ hb.out).mono ?_); rintro e w4 ⟨rfl, m4, rfl⟩)
        go_ret2
        rw [hRE.out]
        exact ⟨rfl, pw_below_drewN hb.out _⟩
set_option maxHeartbeats 4000000 in
set_option maxRecDepth 100000 in
theorem seg_Shared.run (A : Option Addr) (c : Nat) (s : List Int) (A2 : Option Addr) (c2 : Nat) (l : List Int) (size : Int) (w : World) (hr : Kd.C (Kd.int .i64) w A s.length s) (hc : s.length ≤ c) (hr2 : Kd.C (Kd.int .i64) w A2 l.length l) (hc2 : l.length ≤ c2) :
    Calls Try.prog 37 #[.slice A s.length c, .slice A2 l.length c2, .int .i64 size] w (RetI (seg_Shared.g s l size) w) := by
  have HSh := Aside0.mk (short_lit2 1048576 _ _ s l w w.heap.size rfl (Sl.of hr hc) (Sl.of hr2 hc2))
  have hm1 : s.length ≤ 9223372036854775807 := hr.2.1
  have hm2 : l.length ≤ 9223372036854775807 := hr2.2.1
  obtain ⟨b1, hb1⟩ : ∃ b, (decide ((1048576 : Int) < (s.length : Int)) || decide ((1048576 : Int) < (l.length : Int))) = b := ⟨_, rfl⟩
  rw [hb1] at HSh
  unfold seg_Shared.g sharedE
  rw [hb1]
  cases b1
  · simp only [Bool.false_eq_true, if_false]
    simp only [Bool.or_eq_false_iff, decide_eq_false_iff_not] at hb1
    by_cases h2 : s.length = l.length
    · rw [if_neg (show ¬ s.length ≠ l.length by omega)]
      by_cases h3 : size < 0 ∨ 1048576 < size
      · rw [if_pos (show (decide (size < 0) || decide (1048576 < size) || outB size l) = true by rcases h3 with h | h <;> simp [h])]
        have h2a : l.length ≤ s.length := by omega
        have h2b : s.length ≤ l.length := by omega
        have zz : ((s.length : Int) != (l.length : Int)) = false := bne_eq_false_iff_eq.mpr (by omega)
        clear hr hr2 hc hc2 h2 hb1
        cases z2 : decide (size < 0) <;> cases z3 : decide (1048576 < size)
        · exfalso; have := of_decide_eq_false z2; have := of_decide_eq_false z3; omega
        all_goals
          clear h3
          go_enter Try.func37, Try.ntmps37
          go_wp2_with fail
          refine (HSh.out).mono ?_
          rintro e w2 ⟨rfl, hb2⟩
          replace hb2 := Aside0.mk hb2
          go_wp2
          go_ret2
          exact ⟨rfl, hb2.out⟩
      · have za : decide (size < 0) = false := decide_eq_false (by omega)
        have zb : decide (1048576 < size) = false := decide_eq_false (by omega)
        cases h5 : outB size l
        · have H := seg_Shared_mid A c s A2 c2 l size w hr hc hr2 hc2 (by omega) h2.symm (by omega) (by omega) h5
          rw [za, zb]
          simp only [Bool.or_false, Bool.false_eq_true, if_false]
          cases hq : (List.range s.length).any (badAt s l size) <;> rw [hq] at H
          · by_cases ht : 1048576 < ttl l <;> simpa [ht] using H
          · simpa using H
        · simp only [Bool.or_true, if_true]
          have HW : Aside0 (∀ W, Below w.heap.size w W → Calls Try.prog 63 #[.slice A2 l.length c2, .int .i64 size] W fun e w' => e = .returned (.bool false) ∧ Below W.heap.size W w') := ⟨fun W hW => by have h := seg_within A2 c2 l size W (Kd.C_below hr2 hW); rw [h5] at h; exact h⟩
          have h2a : l.length ≤ s.length := by omega
          have h2b : s.length ≤ l.length := by omega
          have zz : ((s.length : Int) != (l.length : Int)) = false := bne_eq_false_iff_eq.mpr (by omega)
          clear hr hr2 hc hc2 h2 hb1 h3 h5
          go_enter Try.func37, Try.ntmps37
          go_wp2_with fail
          refine (HSh.out).mono ?_
          rintro e w2 ⟨rfl, hb2⟩
          replace hb2 := Aside0.mk hb2
          go_wp2_with fail
          refine (HW.out _ hb2.out).mono ?_
          rintro e w3 ⟨rfl, hb3⟩
          replace hb3 := Aside0.mk (hb2.out.trans (hb3.mono hb2.out.size))
          go_wp2
          go_ret2
          exact ⟨rfl, hb3.out⟩
    · rw [if_pos h2]
      have zz : ((s.length : Int) != (l.length : Int)) = true := bne_iff_ne.mpr (by omega)
      clear hr hr2 hc hc2 h2 hb1
      go_enter Try.func37, Try.ntmps37
      go_wp2_with fail
      refine (HSh.out).mono ?_
      rintro e w2 ⟨rfl, hb2⟩
      replace hb2 := Aside0.mk hb2
      go_wp2
      go_ret2
      exact ⟨rfl, hb2.out⟩
  · simp only [if_true]
    clear hr hr2 hc hc2 hb1
    go_enter Try.func37, Try.ntmps37
    go_wp2_with fail
    refine (HSh.out).mono ?_
    rintro e w2 ⟨rfl, hb2⟩
    replace hb2 := Aside0.mk hb2
    go_wp2
    go_ret2
    exact ⟨rfl, hb2.out⟩
end Go.Proofs.Ythalgcpohnknbaa.Hand
/- seg.Depth: how many segments have a place in common. -/
namespace Go.Proofs.Ythalgcpohnknbaa.Hand
open Go.RowKit Go.Proofs.YthalgcpohnknbaaW.PrintWords Go.Proofs.YthalgcpohnknbaaW.PrintLast Go.Proofs.YthalgcpohnknbaaW.PrintMore
open Go.Maps
set_option linter.unusedVariables false
set_option linter.unusedSimpArgs false
attribute [local go_sem] store_func store_nilFunc Oper.semAt_some
theorem cntN_nat (l : List Int) (m : Nat) (k : Int) : True := trivial
/-- What a map of numbers holds. -/
def MI (f : Int → Int) (D : DataW Unit) : Prop := Maps.IsMap D ∧ ∀ k : Int, D.atKey (.int .i64 k) (.lit (.int .i64 0)) = .lit (.int .i64 (f k))
theorem MI.zero : MI (fun _ => 0) (.map []) := ⟨Maps.isMap_empty, fun k => rfl⟩
theorem MI.put {f g : Int → Int} {D : DataW Unit} (h : MI f D) (k v : Int) (hg : ∀ j, g j = if j = k then v else f j) : MI g (D.put (.int .i64 k) (.lit (.int .i64 v))) := by
  obtain ⟨h1, h3⟩ := h
  refine ⟨h1.put _ _, fun j => ?_⟩
  rw [hg]
  by_cases hk : j = k
  · subst hk
    rw [Maps.atKey_put_same (k := .int .i64 j) h1 trivial, if_pos rfl]
  · rw [Maps.atKey_put_other (by intro e; injection e with _ e; exact hk e), h3 j, if_neg hk]
abbrev MapAt (w : World) (B n : Nat) (D : DataW Unit) : Prop := w.ownsMap Try.prog 3 (plainElem Try.prog 3) B n D
/-- Where each segment ends. -/
def endsOf (s l : List Int) : List Int := upTo (fun i => rd s i + rd l i) s.length
theorem endsOf_length (s l : List Int) : (endsOf s l).length = s.length := by unfold endsOf; rw [upTo_length]; simp
theorem endsOf_rd (s l : List Int) (m : Nat) (h : m < s.length) : rd (endsOf s l) (m : Int) = rd s (m : Int) + rd l (m : Int) := by unfold endsOf; exact upTo_rd _ _ m h
def chAt (s l : List Int) (m : Nat) (k : Int) : Int := cntN s m k - cntN (endsOf s l) m k
theorem chAt_le (s l : List Int) (m : Nat) (k : Int) : -(m : Int) ≤ chAt s l m k ∧ chAt s l m k ≤ m := by
  unfold chAt
  have := cntN_le s m k
  have := cntN_le (endsOf s l) m k
  omega
/-- How many segments go over a place. -/
def nowTo (s l : List Int) : Nat → Int
  | 0 => 0
  | k + 1 => nowTo s l k + chAt s l s.length (k : Int)
def mostTo (s l : List Int) : Nat → Int
  | 0 => 0
  | k + 1 => max (mostTo s l k) (nowTo s l (k + 1))
theorem nowTo_le (s l : List Int) (h : s.length ≤ 1048576) : ∀ k : Nat, -((k : Int) * 1048576) ≤ nowTo s l k ∧ nowTo s l k ≤ (k : Int) * 1048576
  | 0 => by simp [nowTo]
  | k + 1 => by
    have h1 := nowTo_le s l h k
    have h2 := chAt_le s l s.length (k : Int)
    unfold nowTo
    omega
def seg_Depth.g (s l : List Int) (size : Int) : Int × Int := if sharedE s l size = 0 then (mostTo s l size.toNat, 0) else (0, sharedE s l size)
set_option maxHeartbeats 4000000 in
set_option maxRecDepth 100000 in
theorem seg_Depth_yes (A : Option Addr) (c : Nat) (s : List Int) (A2 : Option Addr) (c2 : Nat) (l : List Int) (size : Nat) (w : World) (hr : Kd.C (Kd.int .i64) w A s.length s) (hc : s.length ≤ c) (hr2 : Kd.C (Kd.int .i64) w A2 l.length l) (hc2 : l.length ≤ c2) (hE : sharedE s l (size : Int) = 0) :
    Calls Try.prog 38 #[.slice A s.length c, .slice A2 l.length c2, .int .i64 (size : Int)] w (RetI (mostTo s l size, 0) w) := by
  have HC := Aside0.mk (seg_Shared.run A c s A2 c2 l (size : Int) w hr hc hr2 hc2)
  unfold seg_Shared.g at HC
  rw [if_pos hE] at HC
  obtain ⟨q1, q2, _, q4, q5, q6⟩ := sharedE_ok hE
  have HQ := Aside0.mk q6
  have HR := Aside0.mk hr
  have HR2 := Aside0.mk hr2
  have h2a : l.length ≤ s.length := by omega
  have h2b : s.length ≤ l.length := by omega
  have hmm := @run_makeMap Try.prog
  generalize ttl l = T at *
  clear hr hr2 hc hc2 hE q2 q5 q6
  go_enter Try.func38, Try.ntmps38
  go_wp2_with fail
  refine (HC.out).mono ?_
  rintro e w0 ⟨rfl, hb0⟩
  go_wp2
  generalize hw1 : w0.alloc (Obj.map #[] 0) = w1
  have o1 : Aside0 (MapAt w1 w0.heap.size 0 (.map [])) := ⟨by rw [← hw1]; exact World.ownsMap_made _ _ _ _⟩
  have b1 : Aside0 (Below w.heap.size w w1) := ⟨by rw [← hw1]; exact below_alloc hb0 _⟩
  have s0 : w.heap.size ≤ w0.heap.size := hb0.size
  clear hw1 hb0 HC
  generalize w0.heap.size = bm at *
  go_loopw [29] (fun i W => ∃ (m : Nat) (D : DataW Unit), i = .int .i64 (m : Int) ∧ m ≤ s.length ∧ Aside0 (MapAt W bm (2 * m) D) ∧ Aside0 (MI (chAt s l m) D) ∧ Aside0 (Below w.heap.size w W)) (fun i _ => s.length - (intOf i).toNat)
  case atStart => exact ⟨0, _, rfl, by omega, o1, ⟨by have h := MI.zero; have e : chAt s l 0 = fun _ => 0 := (by funext k; have := chAt_le s l 0 k; omega); rwa [e]⟩, b1⟩
  case round =>
    revert wr
    intro wo hrel
    clear o1 b1
    obtain ⟨m, D, rfl, p0, HO, HD, hb⟩ := hrel
    by_cases hlt : m < s.length
    · obtain ⟨ad, e1, hx⟩ := Kd.at_int (Kd.C_below HR.out hb.out) (m : Int) (by omega) (by omega)
      obtain ⟨ad2, e2, hx2⟩ := Kd.at_int (Kd.C_below HR2.out hb.out) (m : Int) (by omega) (by omega)
      cases e1
      cases e2
      rw [Int.toNat_natCast] at hx hx2
      have HX2 : Aside0 (∀ W, Below w.heap.size w W → W.cell? (ad2.add m) = some (.int .i64 (rd l (m : Int)))) := ⟨fun W hW => by
        obtain ⟨ad3, e3, h3⟩ := Kd.at_int (Kd.C_below HR2.out hW) (m : Int) (by omega) (by omega)
        cases e3
        rwa [Int.toNat_natCast] at h3⟩
      obtain ⟨r1, r2, r3⟩ := HQ.out m hlt
      have hstep : ∀ k, chAt s l (m + 1) k = chAt s l m k + (if rd s (m : Int) = k then 1 else 0) - (if rd s (m : Int) + rd l (m : Int) = k then 1 else 0) := fun k => by
        unfold chAt
        rw [cntN_succ s m hlt, cntN_succ (endsOf s l) m (by rw [endsOf_length]; exact hlt), endsOf_rd s l m hlt]
        omega
      have hbnd := fun k => chAt_le s l m k
      have hml : Aside0 (2 * m < maxLen ∧ 2 * m + 1 < maxLen) := ⟨by unfold maxLen; omega⟩
      generalize hx0 : rd s (m : Int) = x at *
      generalize rd l (m : Int) = n at *
      obtain ⟨f, hf⟩ : ∃ f, f = chAt s l m := ⟨_, rfl⟩
      rw [← hf] at HD hbnd hstep
      obtain ⟨g, hg⟩ : ∃ g : Int → Int, g = fun k => f k + (if x = k then 1 else 0) := ⟨_, rfl⟩
      have hgx : g x = f x + 1 := by rw [hg]; simp
      have hgj : ∀ j, g j = if j = x then f x + 1 else f j := fun j => by rw [hg]; by_cases h : j = x; (subst h; simp); (have : ¬ x = j := fun e => h e.symm; simp [h, this])
      have hgE : ∀ j, chAt s l (m + 1) j = if j = x + n then g (x + n) - 1 else g j := fun j => by
        rw [hstep, hg]
        by_cases h : j = x + n
        · subst h; simp
        · have : ¬ x + n = j := fun e => h e.symm
          simp [h, this]
      have hb1 := hbnd x
      have hb2 := hbnd (x + n)
      have hge : g (x + n) ≤ f (x + n) + 1 ∧ f (x + n) ≤ g (x + n) := by have h : g (x + n) = f (x + n) + (if x = x + n then 1 else 0) := (by rw [hg]); split at h <;> omega
      have HKey := Aside0.mk (keyOf_int_mk (P := Try.prog) Try.underlying3 (WalkArith.wf_i64 (show -9223372036854775808 ≤ x ∧ x ≤ 9223372036854775807 by omega)))
      have HKey2 := Aside0.mk (keyOf_int_mk (P := Try.prog) Try.underlying3 (WalkArith.wf_i64 (show -9223372036854775808 ≤ x + n ∧ x + n ≤ 9223372036854775807 by omega)))
      have HAt := Aside0.mk (HD.out.2 x)
      have hD1 : Aside0 (MI g (D.put (.int .i64 x) (.lit (.int .i64 (f x + 1))))) := ⟨HD.out.put x _ hgj⟩
      have hD2 : Aside0 (MI (chAt s l (m + 1)) ((D.put (.int .i64 x) (.lit (.int .i64 (f x + 1)))).put (.int .i64 (x + n)) (.lit (.int .i64 (g (x + n) - 1))))) := ⟨hD1.out.put (x + n) _ hgE⟩
      have HAt2 := Aside0.mk (hD1.out.2 (x + n))
      have hw1 := Aside0.mk (show -9223372036854775808 ≤ f x + 1 ∧ f x + 1 ≤ 9223372036854775807 by omega)
      have hw2 := Aside0.mk (show -9223372036854775808 ≤ g (x + n) - 1 ∧ g (x + n) - 1 ≤ 9223372036854775807 by omega)
      have hfx : -1048576 ≤ f x ∧ f x ≤ 1048576 := by omega
      have hgx2 : -1048576 ≤ g (x + n) ∧ g (x + n) ≤ 1048577 := by omega
      generalize f x = fx at *
      generalize g (x + n) = gy at *
      clear hstep hbnd hgx hgj hgE hb1 hb2 hge hf hg HD
      go_wp2_with (first
        | (at_lookup; refine wpList_lookup_own_int _ rfl _ _ 61 rfl 3 3 .i64 keysInt Try.underlying61 Try.underlying3 (zeroInt _) bm (2 * m) D rfl HO.out _ _ rfl HKey.out ?_; intro cc hat hwc; (have e : cc = fx := by have h := hat.symm.trans HAt.out; injection h with h; injection h); subst e; clear hat hwc)
        | (at_mapUpdate; refine wpList_mapUpdate_own _ rfl _ _ _ 61 rfl 3 3 keysInt Try.underlying61 _ bm (2 * m) D rfl HO.out hml.out.1 _ _ _ rfl rfl HKey.out _ [] (plainElem_int Try.underlying3 (WalkArith.wf_i64 hw1.out)) ?_; intro w5 hown5 hgrow5; have hb5 := hb.out.grown hgrow5 hb.out.size (fun k e => by cases e; exact s0); have hx5 := HX2.out w5 hb5; replace hb5 := Aside0.mk hb5; replace hown5 := Aside0.mk hown5; clear hgrow5 hx hx2)
        | (at_lookup; refine wpList_lookup_own_int _ rfl _ _ 61 rfl 3 3 .i64 keysInt Try.underlying61 Try.underlying3 (zeroInt _) bm (2 * m + 1) _ rfl hown5.out _ _ rfl HKey2.out ?_; intro cc hat hwc; (have e : cc = gy := by have h := hat.symm.trans HAt2.out; injection h with h; injection h); subst e; clear hat hwc)
        | (at_mapUpdate; refine wpList_mapUpdate_own _ rfl _ _ _ 61 rfl 3 3 keysInt Try.underlying61 _ bm (2 * m + 1) _ rfl hown5.out hml.out.2 _ _ _ rfl rfl HKey2.out _ [] (plainElem_int Try.underlying3 (WalkArith.wf_i64 hw2.out)) ?_; intro w7 hown7 hgrow7; have hb7 := hb5.out.grown hgrow7 hb5.out.size (fun k e => by cases e; exact s0); replace hb7 := Aside0.mk hb7; replace hown7 := Aside0.mk hown7; clear hgrow7))
      go_roundw
      case rel => exact ⟨m + 1, _, by simp, by omega, ⟨by have h := hown7.out; rw [show 2 * m + 1 + 1 = 2 * (m + 1) by omega] at h; exact h⟩, hD2, hb7⟩
      case measure => simp [intOf]; omega
    · obtain rfl : m = s.length := by omega
      have hml : Aside0 True := ⟨trivial⟩
      have hx0 : Aside0 (mostTo s l 0 = 0) := ⟨rfl⟩
      go_wp2
      go_loop [13, 14, 49] (fun a b i => ∃ k : Nat, i = .int .i64 (k : Int) ∧ a = .int .i64 (nowTo s l k) ∧ b = .int .i64 (mostTo s l k) ∧ k ≤ size) (fun _ _ i => size - (intOf i).toNat)
      case atStart => exact ⟨0, rfl, rfl, rfl, by omega⟩
      case round =>
        obtain ⟨k, rfl, rfl, rfl, k0⟩ := hrel
        by_cases hk : k < size
        · have hn := nowTo_le s l q1 k
          have hc := chAt_le s l s.length (k : Int)
          have hns : nowTo s l (k + 1) = nowTo s l k + chAt s l s.length (k : Int) := rfl
          have hms : mostTo s l (k + 1) = max (mostTo s l k) (nowTo s l (k + 1)) := rfl
          have HAt := Aside0.mk (HD.out.2 (k : Int))
          have HKey := Aside0.mk (keyOf_int_mk (P := Try.prog) Try.underlying3 (WalkArith.wf_i64 (show -9223372036854775808 ≤ (k : Int) ∧ (k : Int) ≤ 9223372036854775807 by omega)))
          rw [hns] at hms
          have hk20 : (k : Int) * 1048576 ≤ 1099511627776 := by omega
          have hn1 : -1099511627776 ≤ nowTo s l k ∧ nowTo s l k ≤ 1099511627776 := by omega
          have hc1 : -1048576 ≤ chAt s l s.length (k : Int) ∧ chAt s l s.length (k : Int) ≤ 1048576 := by omega
          generalize nowTo s l k = a at *
          generalize mostTo s l k = b at *
          generalize chAt s l s.length (k : Int) = d at *
          replace hns := Aside0.mk hns
          clear hn hc hk20
          by_cases hab : b < a + d
          · have hms2 : Aside0 (mostTo s l (k + 1) = a + d) := ⟨by rw [hms]; omega⟩
            have zq : decide (b < a + d) = true := decide_eq_true hab
            clear hms
            go_wp2_with (at_lookup; refine wpList_lookup_own_int _ rfl _ _ 61 rfl 3 3 .i64 keysInt Try.underlying61 Try.underlying3 (zeroInt _) bm (2 * s.length) D rfl HO.out _ _ rfl HKey.out ?_; intro cc hat hwc; (have e : cc = d := by have h := hat.symm.trans HAt.out; injection h with h; injection h); subst e; clear hat hwc)
            go_round
            case rel => exact ⟨k + 1, by simp, by rw [hns.out], by rw [hms2.out], by omega⟩
            case measure => simp [intOf]; omega
          · have hms2 : Aside0 (mostTo s l (k + 1) = b) := ⟨by rw [hms]; omega⟩
            have zq : decide (b < a + d) = false := decide_eq_false hab
            clear hms
            go_wp2_with (at_lookup; refine wpList_lookup_own_int _ rfl _ _ 61 rfl 3 3 .i64 keysInt Try.underlying61 Try.underlying3 (zeroInt _) bm (2 * s.length) D rfl HO.out _ _ rfl HKey.out ?_; intro cc hat hwc; (have e : cc = d := by have h := hat.symm.trans HAt.out; injection h with h; injection h); subst e; clear hat hwc)
            go_round
            case rel => exact ⟨k + 1, by simp, by rw [hns.out], by rw [hms2.out], by omega⟩
            case measure => simp [intOf]; omega
        · obtain rfl : k = size := by omega
          generalize nowTo s l k = a at *
          generalize mostTo s l k = b at *
          go_wp2
          go_ret2
          exact ⟨rfl, hb.out⟩
set_option maxHeartbeats 4000000 in
set_option maxRecDepth 100000 in
theorem seg_Depth.run (A : Option Addr) (c : Nat) (s : List Int) (A2 : Option Addr) (c2 : Nat) (l : List Int) (size : Int) (w : World) (hr : Kd.C (Kd.int .i64) w A s.length s) (hc : s.length ≤ c) (hr2 : Kd.C (Kd.int .i64) w A2 l.length l) (hc2 : l.length ≤ c2) :
    Calls Try.prog 38 #[.slice A s.length c, .slice A2 l.length c2, .int .i64 size] w (RetI (seg_Depth.g s l size) w) := by
  unfold seg_Depth.g
  by_cases h0 : sharedE s l size = 0
  · rw [if_pos h0]
    obtain ⟨q, rfl⟩ : ∃ q : Nat, size = q := ⟨size.toNat, by have := (sharedE_ok h0).2.2.1; omega⟩
    exact seg_Depth_yes A c s A2 c2 l q w hr hc hr2 hc2 h0
  · rw [if_neg h0]
    have HC := Aside0.mk (seg_Shared.run A c s A2 c2 l size w hr hc hr2 hc2)
    unfold seg_Shared.g at HC
    rw [if_neg h0] at HC
    have zz : (sharedE s l size != 0) = true := bne_iff_ne.mpr h0
    generalize sharedE s l size = E at *
    clear h0 hr hc hr2 hc2
    go_enter Try.func38, Try.ntmps38
    go_wp2_with ((with_reducible refine (HC.out).mono ?_); rintro e w1 ⟨rfl, hb1⟩; replace hb1 := Aside0.mk hb1)
    go_ret2
    exact ⟨rfl, hb1.out⟩
end Go.Proofs.Ythalgcpohnknbaa.Hand
/- seg.Places: the places of all elements. -/
namespace Go.Proofs.Ythalgcpohnknbaa.Hand
open Go.RowKit Go.Proofs.YthalgcpohnknbaaW.PrintWords Go.Proofs.YthalgcpohnknbaaW.PrintLast Go.Proofs.YthalgcpohnknbaaW.PrintMore
set_option linter.unusedVariables false
set_option linter.unusedSimpArgs false
attribute [local go_sem] store_func store_nilFunc Oper.semAt_some
/-- The places of the first m segments. -/
def placesTo (s l : List Int) (m : Nat) : List Int := (List.range m).flatMap fun (i : Nat) => upTo (fun k => rd s (i : Int) + k) (rd l (i : Int))
theorem placesTo_succ (s l : List Int) (m : Nat) : placesTo s l (m + 1) = placesTo s l m ++ upTo (fun k => rd s (m : Int) + k) (rd l (m : Int)) := by
  unfold placesTo
  rw [List.range_succ, List.flatMap_append, List.flatMap_singleton]
theorem placesTo_length (s l : List Int) : ∀ m : Nat, m ≤ l.length → (placesTo s l m).length = startOf l (m : Int)
  | 0, _ => rfl
  | m + 1, h => by
    rw [placesTo_succ, List.length_append, upTo_length, placesTo_length s l m (by omega), show ((m + 1 : Nat) : Int) = (m : Int) + 1 by omega, startOf_succ l (m : Int) (by omega) (by omega)]
def seg_Places.g (s l : List Int) (size : Int) : List Int × Int := if sharedE s l size = 0 then (placesTo s l s.length, 0) else ([], sharedE s l size)
set_option maxHeartbeats 4000000 in
set_option maxRecDepth 100000 in
theorem seg_Places.run (A : Option Addr) (c : Nat) (s : List Int) (A2 : Option Addr) (c2 : Nat) (l : List Int) (size : Int) (w : World) (hr : Kd.C (Kd.int .i64) w A s.length s) (hc : s.length ≤ c) (hr2 : Kd.C (Kd.int .i64) w A2 l.length l) (hc2 : l.length ≤ c2) :
    Calls Try.prog 43 #[.slice A s.length c, .slice A2 l.length c2, .int .i64 size] w (Ret2 w (seg_Places.g s l size)) := by
  have HC := Aside0.mk (seg_Shared.run A c s A2 c2 l size w hr hc hr2 hc2)
  unfold seg_Places.g
  unfold seg_Shared.g at HC
  by_cases h0 : sharedE s l size = 0
  · rw [if_pos h0] at HC ⊢
    obtain ⟨q1, q2, q3, q4, q5, q6⟩ := sharedE_ok h0
    have HQ := Aside0.mk q6
    have HR := Aside0.mk hr
    have HR2 := Aside0.mk hr2
    have h2a : l.length ≤ s.length := by omega
    have h2b : s.length ≤ l.length := by omega
    obtain ⟨T, hT⟩ : ∃ T, ttl l = T := ⟨_, rfl⟩
    rw [hT] at HC q5
    replace hT := Aside0.mk hT
    clear hr hc hr2 hc2 h0 q2 q6
    go_enter Try.func43, Try.ntmps43
    go_wp2_with fail
    refine (HC.out).mono ?_
    rintro e w1 ⟨rfl, hb1⟩
    replace hb1 := Aside0.mk hb1
    go_wp2
    go_loopw [10, 26] (fun v i W => ∃ m : Nat, i = .int .i64 (m : Int) ∧ m ≤ s.length ∧ Aside0 (Below w.heap.size w W) ∧ Aside0 ((Kd.int .i64).R 3 W w.heap.size (fun k => w.heap.size ≤ k) v (placesTo s l m))) (fun _ i _ => s.length - (intOf i).toNat)
    case atStart => exact ⟨0, rfl, by omega, hb1, ⟨Kd.R_nil _ _ _ _ _⟩⟩
    case round =>
      obtain ⟨m, rfl, p0, hb, hR⟩ := hrel
      clear hb1 HC
      by_cases hlt : m < s.length
      · obtain ⟨ad, e1, hx⟩ := Kd.at_int (Kd.C_below HR.out hb.out) (m : Int) (by omega) (by omega)
        obtain ⟨ad2, e2, hx2⟩ := Kd.at_int (Kd.C_below HR2.out hb.out) (m : Int) (by omega) (by omega)
        cases e1
        cases e2
        rw [Int.toNat_natCast] at hx hx2
        obtain ⟨r1, r2, r3⟩ := HQ.out m hlt
        obtain ⟨n, hn⟩ : ∃ n : Nat, rd l (m : Int) = n := ⟨(rd l (m : Int)).toNat, by omega⟩
        have hsu := placesTo_succ s l m
        have hle := placesTo_length s l (m + 1) (by omega)
        have hle2 := startOf_le_ttl l (m + 1) (by omega)
        rw [hT.out] at hle2
        rw [hn] at hx2 hsu r2 r3
        rw [hsu, List.length_append, upTo_length, Int.toNat_natCast] at hle
        have hxl : Aside0 ((placesTo s l m).length + n ≤ 1048576) := ⟨by omega⟩
        generalize placesTo s l m = xs at *
        generalize rd s (m : Int) = x at *
        replace hsu := Aside0.mk hsu
        have hnb : n ≤ 1048576 := by have := hxl.out; omega
        clear hn hle hle2 r2
        have HR0 : Aside0 ((Kd.int .i64).R 3 wr w.heap.size (fun k => w.heap.size ≤ k) u10 (xs ++ upTo (fun k => x + k) ((0 : Nat) : Int))) := ⟨by simpa [upTo] using hR.out⟩
        go_wp2
        go_loopw [10, 35] (fun v i W => ∃ k : Nat, i = .int .i64 (k : Int) ∧ k ≤ n ∧ Aside0 (Below w.heap.size w W) ∧ Aside0 ((Kd.int .i64).R 3 W w.heap.size (fun k => w.heap.size ≤ k) v (xs ++ upTo (fun k => x + k) (k : Int)))) (fun _ i _ => n - (intOf i).toNat)
        case atStart => exact ⟨0, rfl, by omega, hb, HR0⟩
        case round =>
          clear HR0 hR hb hx hx2
          obtain ⟨k, rfl, p1, hb, hR⟩ := hrel
          by_cases hk : k < n
          · have hsk : Aside0 (upTo (fun k => x + k) ((k + 1 : Nat) : Int) = upTo (fun k => x + k) (k : Int) ++ [x + (k : Int)]) := ⟨by rw [show ((k + 1 : Nat) : Int) = (k : Int) + 1 by omega]; exact upTo_succ _ _ (by omega)⟩
            have HLs : Aside0 (((xs ++ upTo (fun k => x + k) (k : Int)).length + 1) * 8 ≤ 140737488355328) := ⟨by have := hxl.out; rw [List.length_append, upTo_length]; omega⟩
            obtain ⟨ys, hys⟩ : ∃ ys, ys = xs ++ upTo (fun k => x + k) (k : Int) := ⟨_, rfl⟩
            rw [← hys] at hR HLs
            replace hys := Aside0.mk hys
            go_wp2_with ((with_reducible refine gate_builtin (b := .append) (xs := #[.tmp 38, .tmp 42]) rfl ?_); at_builtin; refine Kd.R_append (Kd.int .i64) (w0 := w) w.heap.size rfl (.tmp 38) (.tmp 42) 22 3 (.int .i64 0) 8 rfl Try.underlying22 infoInt rfl (by decide) (by omega) u10 ys (x + (k : Int)) [.int .i64 (x + (k : Int))] (fun k_ => (w.heap.size ≤ k_)) (fun _ => False) rfl rfl rfl (fun _ hk => hk.elim) (fun k_ hk => Nat.le_trans hb.out.size hk) hR.out hb.out hb.out.size HLs.out ?_; intro v6 w6 ho hb6 hg hat; replace ho := Aside0.mk ho; replace hb6 := Aside0.mk hb6; clear hg hat)
            go_roundw
            case rel => exact ⟨k + 1, by simp, by omega, hb6, ⟨by rw [hsk.out, ← List.append_assoc, ← hys.out]; exact ho.out⟩⟩
            case measure => simp [intOf]; omega
          · obtain rfl : k = n := by omega
            go_wp2
            go_roundw
            case rel => exact ⟨m + 1, by simp, by omega, hb, ⟨by rw [hsu.out]; exact hR.out⟩⟩
            case measure => simp [intOf]; omega
      · obtain rfl : m = s.length := by omega
        obtain ⟨A4, c4, rfl⟩ := Kd.R_slice hR.out
        have hq := (Kd.R_reads' hR.out).2.1
        have HQ : Aside0 (∀ X n, n = (placesTo s l s.length).length → Calls Try.prog 57 #[.slice A4 n c4] X fun e w' => e = .returned (.slice A4 n n) ∧ Drawn0 X w') := ⟨fun X n hn => by subst hn; exact seg_cut A4 _ c4 X hq (R_cap hR.out)⟩
        have hV : Aside0 (∀ m, Kd.V (Kd.int .i64) 3 (wr.drewN m) w.heap.size (fun k => w.heap.size ≤ k) (.slice A4 (placesTo s l s.length).length (placesTo s l s.length).length) (placesTo s l s.length)) := ⟨fun m => V_cut (Kd.R_drewN hR.out m)⟩
        clear hq hR
        generalize placesTo s l s.length = xs at *
        go_wp2_with (go_at_call 57; (with_reducible refine (HQ.out _ _ rfl).mono ?_); rintro e w8 ⟨rfl, m8, rfl⟩)
        go_ret2
        exact ⟨_, rfl, hV.out _, pw_below_drewN hb.out _⟩
  · rw [if_neg h0] at HC ⊢
    clear hr hc hr2 hc2
    generalize sharedE s l size = E at *
    have z1 : (E != 0) = true := bne_iff_ne.mpr h0
    clear h0
    go_enter Try.func43, Try.ntmps43
    go_wp2_with ((with_reducible refine (HC.out).mono ?_); rintro e w1 ⟨rfl, hb1⟩; replace hb1 := Aside0.mk hb1)
    go_ret2
    exact Ret2.nil _ hb1.out
end Go.Proofs.Ythalgcpohnknbaa.Hand
/- seg.Heads: how many segments begin at each place. -/
namespace Go.Proofs.Ythalgcpohnknbaa.Hand
open Go.RowKit Go.Proofs.YthalgcpohnknbaaW.PrintWords Go.Proofs.YthalgcpohnknbaaW.PrintLast Go.Proofs.YthalgcpohnknbaaW.PrintMore
open Go.Maps
set_option linter.unusedVariables false
set_option linter.unusedSimpArgs false
attribute [local go_sem] store_func store_nilFunc Oper.semAt_some
theorem MapAt.step {w w' : World} {B n : Nat} {D : DataW Unit} (h : MapAt w B n D) (hb : w'.heap[B]? = w.heap[B]?) : MapAt w' B n D := by
  obtain ⟨es, clock, hh, r⟩ := h
  exact ⟨es, clock, hb.trans hh, r⟩
theorem MapAt.lt {w : World} {B n : Nat} {D : DataW Unit} (h : MapAt w B n D) : B < w.heap.size := by
  obtain ⟨es, clock, hh, r⟩ := h
  exact blk_lt hh
theorem MapAt.below {w w' : World} {B n : Nat} {D : DataW Unit} (h : MapAt w B n D) (hb : Below w.heap.size w w') : MapAt w' B n D := h.step (hb.block B h.lt)
/-- Where segments begin. -/
def startsL (l : List Int) : List Int := upTo (fun x => ((startOf l x : Nat) : Int)) l.length
theorem startsL_length (l : List Int) : (startsL l).length = l.length := by unfold startsL; rw [upTo_length]; simp
theorem startsL_rd (l : List Int) (m : Nat) (h : m < l.length) : rd (startsL l) (m : Int) = ((startOf l (m : Int) : Nat) : Int) := by unfold startsL; exact upTo_rd _ _ m h
def seg_Heads.g (l : List Int) : List Int × Int := if chkE l = 0 then (upTo (cntN (startsL l) l.length) ((ttl l : Nat) + 1 : Int), 0) else ([], chkE l)
set_option maxHeartbeats 4000000 in
set_option maxRecDepth 100000 in
theorem seg_Heads.run (A : Option Addr) (c : Nat) (l : List Int) (w : World) (hr : Kd.C (Kd.int .i64) w A l.length l) (hc : l.length ≤ c) :
    Calls Try.prog 18 #[.slice A l.length c] w (Ret2 w (seg_Heads.g l)) := by
  have HR := Aside0.mk hr
  have hm : l.length ≤ 9223372036854775807 := hr.2.1
  have HC := Aside0.mk (seg_Check.run A c l w hr hc)
  clear hr hc
  unfold seg_Heads.g
  unfold seg_Check.g at HC
  by_cases h0 : chkE l = 0
  · rw [if_pos h0] at HC ⊢
    obtain ⟨q1, q2, q3⟩ := chkE_ok h0
    clear h0
    have hmm := @run_makeMap Try.prog
    obtain ⟨T, hT⟩ : ∃ T, ttl l = T := ⟨_, rfl⟩
    have hq3 : T ≤ 1048576 := by omega
    rw [hT] at HC ⊢
    replace hT := Aside0.mk hT
    refine calls_of_marks Try.func18 rfl ?_
    simp only [Try.ntmps18, List.size_toArray, List.length_cons, List.length_nil, Nat.reduceAdd, Nat.reduceSub, Array.replicate_succ, Array.replicate_zero, List.push_toArray, List.append_toArray, List.nil_append, List.cons_append]
    go_wp2_with fail
    refine (HC.out).mono ?_
    rintro e w1 ⟨rfl, hb1⟩
    replace hb1 := Aside0.mk hb1
    go_wp2_with fail
    refine (seg_segments _ _ A l.length c rfl).mono ?_
    rintro e w3 ⟨rfl, hw3⟩
    have z0 : ((w1.alloc (Obj.map #[] 0)).alloc (Obj.cells #[Value.map (some w1.heap.size)] 61)).heap.size = w1.heap.size + 2 := by simp
    rw [z0]
    have s3 : w3.heap.size = w1.heap.size + 3 := by rw [hw3]; simp
    have o3 : MapAt w3 w1.heap.size 0 (.map []) := by rw [hw3]; exact ((World.ownsMap_made _ _ _ _).alloc _).alloc _
    have k3 : w3.heap[w1.heap.size + 1]? = some (.cells #[.map (some w1.heap.size)] 61 (0, 0)) := by rw [hw3]; exact blk_alloc (blk_new_at (by simp) _) _
    have n3 : w3.cell? ⟨w1.heap.size + 2, 0, none⟩ = some (.slice A l.length c) := by rw [hw3]; exact (blk_cell (blk_new_at (by simp) _) 0).trans rfl
    have b3 : Below w.heap.size w w3 := hb1.out.trans ((by rw [hw3]; exact below_alloc (below_alloc (below_alloc (Below.refl _ _) _) _) _ : Below w1.heap.size w1 w3).mono hb1.out.size)
    have hle := hb1.out.size
    clear hw3 z0
    generalize hbo : w1.heap.size = bo at *
    go_wp2
    refine wp_rangeSeq rfl Try.call72 (seg_segments_it (bo + 2) A c l w.heap.size w3 n3 (fun W hW => Kd.C_below HR.out (b3.trans hW)) b3.size q2 q3) (Below.refl _ _) b3.size (segL_size l)
      (fun i W => ∃ D, MapAt W bo i D ∧ MI (cntN (startsL l) i) D ∧ Kp (fun k => k = bo) w3 W) (fun _ _ => False) ?own ?ownx ?start ?round ?done ?stop
    case own =>
      rintro i W1 W2 row ⟨D, h1, h2, h3⟩ hg hr
      exact ⟨D, h1.step (hg.block _ h1.lt (fun e => by have := (hr bo e.symm).1; omega)), h2, h3.own hg (fun r e => .inr (by have := (hr r e).1; omega))⟩
    case ownx => exact fun _ _ _ _ h _ _ => h.elim
    case start => exact ⟨_, o3, by have h := MI.zero; have e : cntN (startsL l) 0 = fun _ => 0 := rfl; rwa [e], Kp.refl _ _⟩
    case stop => exact fun _ _ _ _ h _ => h.elim
    case round =>
      intro l0 i args W hi hI K hK
      obtain ⟨hlt, rfl⟩ := segL_get hi
      clear hI
      replace hK := Aside0.mk hK
      gi_wp2
      refine hK.out _ ?_
      rintro W2 ⟨D, hM, hD, hK2⟩
      have hrd := startsL_rd l i hlt
      have hcs := fun k => cntN_succ (startsL l) i (by rw [startsL_length]; exact hlt) k
      have hcl := cntN_le (startsL l) i (startOf l (i : Int) : Nat)
      have hse := startOf_le_ttl l i (by omega)
      have cP : W2.cell? ⟨bo + 1, 0, none⟩ = some (.map (some bo)) := blk_cell (hK2.blk k3 (by omega)) 0
      generalize startOf l (i : Int) = st at *
      generalize hff : cntN (startsL l) i = f at *
      have hD2 : MI (cntN (startsL l) (i + 1)) (D.put (.int .i64 (st : Int)) (.lit (.int .i64 (f (st : Int) + 1)))) := hD.put _ _ (fun j => by
        rw [hcs, hrd]
        by_cases h : j = (st : Int)
        · subst h; simp
        · have h2 : ¬ (st : Int) = j := fun e => h e.symm
          simp [h, h2])
      have hat := hD.2 (st : Int)
      generalize f (st : Int) = fx at *
      have hkey : keyOf Try.prog 3 (.int .i64 (st : Int)) = some (.int .i64 (st : Int)) := keyOf_int_mk Try.underlying3 (WalkArith.wf_i64 (by omega))
      obtain ⟨cc, hrunL, hatL, _⟩ := hM.lookup_int keysInt Try.underlying61 Try.underlying3 (zeroInt W2) hkey
      obtain rfl : cc = fx := by have h := hatL.symm.trans hat; injection h with h; injection h
      obtain ⟨w5, hrun5, hown5, hgrow5⟩ := hM.update keysInt Try.underlying61 (show i < maxLen by unfold maxLen; omega) hkey (plainElem_int Try.underlying3 (WalkArith.wf_i64 (show -9223372036854775808 ≤ cc + 1 ∧ cc + 1 ≤ 9223372036854775807 by omega)))
      have hMl := hM.lt
      have hK5 := hK2.grown hgrow5 (fun k e => .inl (by cases e; rfl))
      have hB5 : Below bo W2 w5 := (Kp.refl (fun k => k = bo) W2).grown hgrow5 (fun k e => .inl (by cases e; rfl)) |>.below (fun k hk => ⟨by omega, by omega⟩)
      obtain ⟨es, clk, hob, _⟩ := hM
      have hKF : KeepsFrom w3.heap.size W2 w5 := ⟨hgrow5.size, fun k o hk1 hk2 _ => (hgrow5.block k (blk_lt hk2) (fun e => by cases e; omega)).trans hk2⟩
      replace hown5 := Aside0.mk hown5
      replace hD2 := Aside0.mk hD2
      replace hK5 := Aside0.mk hK5
      replace hB5 := Aside0.mk hB5
      replace hKF := Aside0.mk hKF
      clear hK K hD hK2 hgrow5 hatL hat hkey hcs hrd hff hob hse
      gi_wp2
      exact ⟨hKF.out, hB5.out.mono hle, _, hown5.out, hD2.out, hK5.out⟩
    case done =>
      rintro Dd W hD ⟨D, h1, h2', h3'⟩ hd
      have cP : W.cell? ⟨bo + 1, 0, none⟩ = some (.map (some bo)) := blk_cell (h3'.blk k3 (by omega)) 0
      have HM := Aside0.mk h1
      have H2 := Aside0.mk h2'
      have HBw : Aside0 (Below w.heap.size w W) := ⟨b3.trans (h3'.below (fun k hk => ⟨by have := b3.size; omega, by omega⟩))⟩
      have hcl := Aside0.mk (fun k => cntN_le (startsL l) l.length k)
      rw [segL_length] at HM H2
      generalize cntN (startsL l) l.length = f at *
      have HD := Aside0.mk hd
      have kP := Aside0.mk (h3'.blk k3 (by omega))
      have hsz : bo + 2 ≤ W.heap.size := by have := h3'.size; omega
      clear h1 h2' h3' hd b3 k3 n3 o3
      go_wp2
      go_loopw [8, 29] (fun v i W' => ∃ k : Nat, i = .int .i64 (k : Int) ∧ k ≤ T + 1 ∧ Aside0 (Below W.heap.size W W') ∧ Aside0 ((Kd.int .i64).R 3 W' W.heap.size (fun k => W.heap.size ≤ k) v (upTo f (k : Int)))) (fun _ i _ => T + 1 - (intOf i).toNat)
      case atStart => exact ⟨0, rfl, by omega, ⟨Below.refl _ _⟩, ⟨Kd.R_nil _ _ _ _ _⟩⟩
      case round =>
        clear cP
        obtain ⟨k, rfl, p0, hb, hR⟩ := hrel
        have cP : wr.cell? ⟨bo + 1, 0, none⟩ = some (.map (some bo)) := blk_cell (blk_below kP.out hb.out) 0
        have HMr := Aside0.mk (HM.out.below hb.out)
        by_cases hk : k < T + 1
        · have hsk : Aside0 (upTo f ((k + 1 : Nat) : Int) = upTo f (k : Int) ++ [f (k : Int)]) := ⟨by rw [show ((k + 1 : Nat) : Int) = (k : Int) + 1 by omega]; exact upTo_succ _ _ (by omega)⟩
          have HLs : Aside0 (((upTo f (k : Int)).length + 1) * 8 ≤ 140737488355328) := ⟨by rw [upTo_length]; omega⟩
          have HAt := Aside0.mk (H2.out.2 (k : Int))
          have HKey := Aside0.mk (keyOf_int_mk (P := Try.prog) Try.underlying3 (WalkArith.wf_i64 (show -9223372036854775808 ≤ (k : Int) ∧ (k : Int) ≤ 9223372036854775807 by omega)))
          generalize upTo f (k : Int) = xs at *
          generalize hfk : f (k : Int) = fk at *
          replace hfk := Aside0.mk hfk
          go_wp2_with (first | (at_lookup; refine wpList_lookup_own_int _ rfl _ _ 61 rfl 3 3 .i64 keysInt Try.underlying61 Try.underlying3 (zeroInt _) bo _ D rfl HMr.out _ _ rfl HKey.out ?_; intro cc hat hwc; (have e : cc = fk := by have h := hat.symm.trans HAt.out; injection h with h; injection h); subst e; clear hat hwc) | ((with_reducible refine gate_builtin (b := .append) (xs := #[.tmp 32, .tmp 36]) rfl ?_); at_builtin; refine Kd.R_append (Kd.int .i64) (w0 := W) W.heap.size rfl (.tmp 32) (.tmp 36) 22 3 (.int .i64 0) 8 rfl Try.underlying22 infoInt rfl (by decide) (by omega) u8 xs cc [.int .i64 cc] (fun k_ => (W.heap.size ≤ k_)) (fun _ => False) rfl rfl rfl (fun _ hk => hk.elim) (fun k_ hk => Nat.le_trans hb.out.size hk) hR.out hb.out hb.out.size HLs.out ?_; intro v6 w6 ho hb6 hg hat; replace ho := Aside0.mk ho; replace hb6 := Aside0.mk hb6; clear hg hat))
          go_roundw
          case rel => exact ⟨k + 1, by simp, by omega, hb6, ⟨by rw [hsk.out]; exact ho.out⟩⟩
          case measure => simp [intOf]; omega
        · obtain rfl : k = T + 1 := by omega
          obtain ⟨A4, c4, rfl⟩ := Kd.R_slice hR.out
          have hq := (Kd.R_reads' hR.out).2.1
          rw [show ((T + 1 : Nat) : Int) = (T : Int) + 1 by omega] at *
          have HQ : Aside0 (∀ X n, n = (upTo f ((T : Int) + 1)).length → Calls Try.prog 57 #[.slice A4 n c4] X fun e w' => e = .returned (.slice A4 n n) ∧ Drawn0 X w') := ⟨fun X n hn => by subst hn; exact seg_cut A4 _ c4 X hq (R_cap hR.out)⟩
          clear hq
          generalize hxs : upTo f ((T : Int) + 1) = xs at *
          obtain ⟨n1, hn1⟩ : ∃ n1, n1 = xs.length := ⟨_, rfl⟩
          rw [← hn1] at hR ⊢
          have HQ1 := Aside0.mk (fun X => HQ.out X n1 hn1)
          replace hn1 := Aside0.mk hn1
          clear HQ hxs
          go_wp2_with (go_at_call 57; (with_reducible refine (HQ1.out _).mono ?_); rintro e w8 ⟨rfl, m8, rfl⟩)
          have hd5 : (wr.drewN m8).heap[Dd]? = some (.deferred (some [])) := blk_drewN (blk_below HD.out hb.out) _
          refine Marks.one hd5 _ (results_tmp2 rfl _ _ _) ?_
          have r5 := R_own (Kd.R_drewN hR.out m8) (grownBy_putObj' (wr.drewN m8) Dd (.deferred none)) (fun r e => by cases e; exact ⟨_, hd5, rfl⟩)
          have v5 := V_cut (base2 := w.heap.size) r5
          refine ⟨_, rfl, Kd.V_mono v5 (fun k hk => by have := HBw.out.size; omega), ?_⟩
          exact (pw_below_drewN (HBw.out.trans (hb.out.mono HBw.out.size)) m8).trans (below_putObj (l := Dd) (B := w.heap.size) (wr.drewN m8) (.deferred none) (by have := HBw.out.size; omega))
  · rw [if_neg h0] at HC ⊢
    generalize chkE l = E at *
    have z1 : (E != 0) = true := bne_iff_ne.mpr h0
    clear h0
    go_enter Try.func18, Try.ntmps18
    go_wp2_with ((with_reducible refine (HC.out).mono ?_); rintro e w1 ⟨rfl, hb1⟩; replace hb1 := Aside0.mk hb1)
    go_ret2
    exact Ret2.nil _ hb1.out
end Go.Proofs.Ythalgcpohnknbaa.Hand
