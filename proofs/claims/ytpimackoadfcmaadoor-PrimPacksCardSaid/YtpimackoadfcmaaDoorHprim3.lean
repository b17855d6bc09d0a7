/- prim.Fill, prim.Off, prim.Gather, prim.Cat, prim.Len: what each returns, for any input, as a list function; results are new memory. -/
import Derived.Test.YtpimackoadfcmaaDoorHprim2
namespace Go.Proofs.YtpimackoadfcmaaDoor.Hand
open Go.RowKit Go.Proofs.YtpimackoadfcmaaDoorW.PrintWords Go.Proofs.YtpimackoadfcmaaDoorW.PrintLast Go.Proofs.YtpimackoadfcmaaDoorW.PrintMore
set_option linter.unusedVariables false
set_option linter.unusedSimpArgs false

/-- A list and an error are returned: R; nothing that was there is written. -/
def Ret2 (w : World) (R : List Int × Int) (e : Ending) (w' : World) : Prop := ∃ v, e = .returned (.tuple #[v, .int .i64 R.2]) ∧ Kd.V (Kd.int .i64) 3 w' w.heap.size (fun k => w.heap.size ≤ k) v R.1 ∧ Below w.heap.size w w'
theorem Ret2.lift {w W w' : World} {R : List Int × Int} {e : Ending} (h : Ret2 W R e w') (hb : Below w.heap.size w W) : Ret2 w R e w' := by
  obtain ⟨v, he, hv, hb2⟩ := h
  exact ⟨v, he, Kd.V_mono hv (fun k hk => Nat.le_trans hb.size hk), hb.trans (hb2.mono hb.size)⟩
theorem Ret2.nil {w w' : World} (n : Int) (hb : Below w.heap.size w w') : Ret2 w ([], n) (.returned (.tuple #[.slice none 0 0, .int .i64 n])) w' := ⟨_, rfl, Kd.V_nil _ _ _ _ _, hb⟩
theorem Ret2.err {w w' : World} (n : Int) (R : List Int × Int) (hR : R = ([], n)) (hb : Below w.heap.size w w') : Ret2 w R (.returned (.tuple #[.slice none 0 0, .int .i64 n])) w' := by subst hR; exact .nil n hb

/-! Fill -/
def prim_Fill.g (n : Int) (l : List Int) : List Int × Int := if wordsE [l, [n]] true = 0 then allOf l.length (fun _ => n) (fun _ => true) else ([], wordsE [l, [n]] true)
theorem prim_Fill1 (x n : Int) (B : Nat) (w : World) (hc : w.cell? ⟨B, 0, none⟩ = some (.int .i64 n)) :
    Calls Tryd.prog 54 #[.int .i64 x, .pointer (some ⟨B, 0, none⟩)] w fun e w' => e = .returned (.tuple #[.int .i64 n, .bool true]) ∧ Below w.heap.size w w' := by
  go_enter Tryd.func54, Tryd.ntmps54
  go_wp2
  go_ret2
  exact ⟨rfl, Below.refl _ _⟩
set_option maxHeartbeats 4000000 in
set_option maxRecDepth 100000 in
theorem prim_Fill.run (n : Int) (A : Option Addr) (c : Nat) (l : List Int) (w : World) (hr : Kd.C (Kd.int .i64) w A l.length l) (hc : l.length ≤ c) :
    Calls Tryd.prog 13 #[.int .i64 n, .slice A l.length c] w (Ret2 w (prim_Fill.g n l)) := by
  have HS := Aside0.mk (Sl.of hr hc)
  clear hr hc
  unfold prim_Fill.g
  obtain ⟨E, hE⟩ : ∃ E, E = wordsE [l, [n]] true := ⟨_, rfl⟩
  rw [← hE]
  have HE := Aside0.mk hE
  clear hE
  by_cases h0 : E = 0
  · rw [if_pos h0]
    have HE0 := Aside0.mk h0
    have z1 : (E != 0) = false := bne_eq_false_iff_eq.mpr h0
    have hlen : l.length ≤ 1048576 := (wordsE_ok (HE.out.symm.trans h0)).1 l (by simp)
    clear h0
    go_enter Tryd.func13, Tryd.ntmps13
    go_wp2_with fail
    refine (prim_words _ _ [l, [n]] true _ (lit_rows_at _ _ (by simp) _ _ _ _ rfl (rows_of2 ((HS.out.alloc _).alloc _) (Sl.lit_at _ _ (by simp) _ [n] _ rfl (by simp))) (by simp))).mono ?_
    rw [← HE.out]
    rintro e w2 ⟨rfl, hb2⟩
    have hcell : ∀ W, Below w2.heap.size w2 W → W.cell? ⟨w.heap.size, 0, none⟩ = some (.int .i64 n) := fun W hW =>
      (blk_cell (blk_below (blk_below (blk_alloc (blk_alloc (blk_new w _) _) _) hb2) hW) 0).trans rfl
    have hb3 : Below w.heap.size w w2 := (below_alloc (below_alloc (below_alloc (Below.refl _ _) _) _) _).trans (hb2.mono (by simp; omega))
    replace hcell := Aside0.mk hcell
    replace hb3 := Aside0.mk hb3
    clear hb2
    go_wp2_with fail
    refine (each_all 54 #[] #[.pointer (some ⟨w.heap.size, 0, none⟩)] l.length (fun _ => n) (fun _ => true) _ Tryd.call54 hlen (fun x _ _ W hW => prim_Fill1 x n w.heap.size W (hcell.out W hW))).mono ?_
    rintro e w3 ⟨v, rfl, hv, hb4⟩
    go_wp2
    go_ret2
    exact Ret2.lift ⟨v, rfl, hv, hb4⟩ hb3.out
  · rw [if_neg h0]
    have z1 : (E != 0) = true := bne_iff_ne.mpr h0
    clear h0
    go_enter Tryd.func13, Tryd.ntmps13
    go_wp2_with fail
    refine (prim_words _ _ [l, [n]] true _ (lit_rows_at _ _ (by simp) _ _ _ _ rfl (rows_of2 ((HS.out.alloc _).alloc _) (Sl.lit_at _ _ (by simp) _ [n] _ rfl (by simp))) (by simp))).mono ?_
    rw [← HE.out]
    rintro e w2 ⟨rfl, hb2⟩
    go_wp2
    go_ret2
    exact Ret2.nil E ((below_alloc (below_alloc (below_alloc (Below.refl _ _) _) _) _).trans (hb2.mono (by simp; omega)))

/-! Off -/
theorem prim_Off1 (x : Int) (Ba Bb : Nat) (A : Option Addr) (c : Nat) (l : List Int) (A2 : Option Addr) (n2 c2 : Nat) (w : World) (h0 : 0 ≤ x) (hx : x < l.length) (hr : (Kd.int .i64).C w A l.length l) (hl : l.length ≤ 1048576) (hn : n2 ≤ 1048576) (hw : isWordB (rd l x) = true)
    (ha : w.cell? ⟨Ba, 0, none⟩ = some (.slice A l.length c)) (hb : w.cell? ⟨Bb, 0, none⟩ = some (.slice A2 n2 c2)) :
    Calls Tryd.prog 66 #[.int .i64 x, .pointer (some ⟨Ba, 0, none⟩), .pointer (some ⟨Bb, 0, none⟩)] w fun e w' => e = .returned (.tuple #[.int .i64 (wrap64 (wrap32 (rd l x + n2))), .bool true]) ∧ Below w.heap.size w w' := by
  obtain ⟨ad, e1, hc⟩ := Kd.at_int hr x h0 hx
  subst e1
  have hw1 : -2147483648 ≤ rd l x := by simp [isWordB] at hw; omega
  have hw2 : rd l x ≤ 2147483647 := by simp [isWordB] at hw; omega
  clear hr hw
  go_enter Tryd.func66, Tryd.ntmps66
  go_wp2
  go_quiet (fail)
  go_wp2
  go_ret2
  exact ⟨rfl, pw_below_drewN (Below.refl _ _) _⟩
def prim_Off.g (l l2 : List Int) : List Int × Int := if wordsE [l, l2] true = 0 then allOf l.length (fun x => wrap64 (wrap32 (rd l x + (l2.length : Int)))) (fun _ => true) else ([], wordsE [l, l2] true)

set_option maxHeartbeats 4000000 in
set_option maxRecDepth 100000 in
theorem prim_Off.run (A : Option Addr) (c : Nat) (l : List Int) (A2 : Option Addr) (c2 : Nat) (l2 : List Int) (w : World) (hr : Kd.C (Kd.int .i64) w A l.length l) (hc : l.length ≤ c) (hr2 : Kd.C (Kd.int .i64) w A2 l2.length l2) (hc2 : l2.length ≤ c2) :
    Calls Tryd.prog 20 #[.slice A l.length c, .slice A2 l2.length c2] w (Ret2 w (prim_Off.g l l2)) := by
  have HS := Aside0.mk (Sl.of hr hc)
  have HS2 := Aside0.mk (Sl.of hr2 hc2)
  have HR := Aside0.mk hr
  have HR2 := Aside0.mk hr2
  clear hr hc hr2 hc2
  unfold prim_Off.g
  obtain ⟨E, hE⟩ : ∃ E, E = wordsE [l, l2] true := ⟨_, rfl⟩
  rw [← hE]
  have HE := Aside0.mk hE
  clear hE
  by_cases h0 : E = 0
  · rw [if_pos h0]
    have z1 : (E != 0) = false := bne_eq_false_iff_eq.mpr h0
    have OK := Aside0.mk (wordsE_ok (HE.out.symm.trans h0))
    clear h0
    go_enter Tryd.func20, Tryd.ntmps20
    go_wp2_with fail
    refine (prim_words _ _ [l, l2] true _ (lit_rows_at _ _ (by simp) _ _ _ _ rfl (rows_of2 ((HS.out.alloc _).alloc _) ((HS2.out.alloc _).alloc _)) (by simp))).mono ?_
    rw [← HE.out]
    rintro e w2 ⟨rfl, hb2⟩
    have hcellA : ∀ W, Below w2.heap.size w2 W → W.cell? ⟨w.heap.size, 0, none⟩ = some (.slice A l.length c) := fun W hW =>
      (blk_cell (blk_below (blk_below (blk_alloc (blk_alloc (blk_new w _) _) _) hb2) hW) 0).trans rfl
    have hcellB : ∀ W, Below w2.heap.size w2 W → W.cell? ⟨w.heap.size + 1, 0, none⟩ = some (.slice A2 l2.length c2) := fun W hW =>
      (blk_cell (blk_below (blk_below (blk_alloc (blk_new_at (by simp) _) _) hb2) hW) 0).trans rfl
    have hb3 : Below w.heap.size w w2 := (below_alloc (below_alloc (below_alloc (Below.refl _ _) _) _) _).trans (hb2.mono (by simp; omega))
    have cA := hcellA w2 (Below.refl _ _)
    have cB := hcellB w2 (Below.refl _ _)
    replace hcellA := Aside0.mk hcellA
    replace hcellB := Aside0.mk hcellB
    replace hb3 := Aside0.mk hb3
    clear hb2
    go_wp2_with fail
    refine (each_all 66 #[] #[.pointer (some ⟨w.heap.size, 0, none⟩), .pointer (some ⟨w.heap.size + 1, 0, none⟩)] l.length (fun x => wrap64 (wrap32 (rd l x + (l2.length : Int)))) (fun _ => true) _ Tryd.call66 (OK.out.1 l (by simp)) (fun x h0 hx W hW => prim_Off1 x w.heap.size (w.heap.size + 1) A c l A2 l2.length c2 W h0 hx (Kd.C_below (Kd.C_below HR.out hb3.out) hW) (OK.out.1 l (by simp)) (OK.out.1 l2 (by simp)) (OK.out.2.1 l (by simp) _ (rd_mem l x h0 hx)) (hcellA.out W hW) (hcellB.out W hW))).mono ?_
    rintro e w3 ⟨v, rfl, hv, hb4⟩
    go_wp2
    go_ret2
    exact Ret2.lift ⟨v, rfl, hv, hb4⟩ hb3.out
  · rw [if_neg h0]
    have z1 : (E != 0) = true := bne_iff_ne.mpr h0
    clear h0
    go_enter Tryd.func20, Tryd.ntmps20
    go_wp2_with fail
    refine (prim_words _ _ [l, l2] true _ (lit_rows_at _ _ (by simp) _ _ _ _ rfl (rows_of2 ((HS.out.alloc _).alloc _) ((HS2.out.alloc _).alloc _)) (by simp))).mono ?_
    rw [← HE.out]
    rintro e w2 ⟨rfl, hb2⟩
    go_wp2
    go_ret2
    exact Ret2.nil E ((below_alloc (below_alloc (below_alloc (Below.refl _ _) _) _) _).trans (hb2.mono (by simp; omega)))

/-! Gather -/
def inB (n : Nat) (i : Int) : Bool := decide (0 ≤ i) && decide (i < (n : Int))
def gatherAt (l : List Int) (i : Int) : Int := if inB l.length i then rd l i else 0
theorem prim_Gather1 (x : Int) (Ba Bb : Nat) (A : Option Addr) (c : Nat) (l : List Int) (A2 : Option Addr) (c2 : Nat) (l2 : List Int) (w : World) (h0 : 0 ≤ x) (hx : x < l2.length) (hr : (Kd.int .i64).C w A l.length l) (hr2 : (Kd.int .i64).C w A2 l2.length l2)
    (ha : w.cell? ⟨Ba, 0, none⟩ = some (.slice A l.length c)) (hb : w.cell? ⟨Bb, 0, none⟩ = some (.slice A2 l2.length c2)) :
    Calls Tryd.prog 69 #[.int .i64 x, .pointer (some ⟨Bb, 0, none⟩), .pointer (some ⟨Ba, 0, none⟩)] w fun e w' => e = .returned (.tuple #[.int .i64 (gatherAt l (rd l2 x)), .bool (inB l.length (rd l2 x))]) ∧ Below w.heap.size w w' := by
  obtain ⟨ad, e1, hc⟩ := Kd.at_int hr2 x h0 hx
  subst e1
  obtain ⟨i, hi⟩ : ∃ i, i = rd l2 x := ⟨_, rfl⟩
  rw [← hi] at hc ⊢
  replace hi := Aside0.mk hi
  replace hr2 := Aside0.mk hr2
  by_cases h1 : 0 ≤ i
  · by_cases h2 : i < l.length
    · obtain ⟨ad2, e2, hd⟩ := Kd.at_int hr i h1 h2
      subst e2
      replace hr := Aside0.mk hr
      have e3 : inB l.length i = true := by simp [inB, h1, h2]
      have e4 : gatherAt l i = rd l i := by simp [gatherAt, e3]
      rw [e3, e4]
      clear e3 e4
      go_enter Tryd.func69, Tryd.ntmps69
      go_wp2
      go_ret2
      exact ⟨rfl, Below.refl _ _⟩
    · replace hr := Aside0.mk hr
      have e3 : inB l.length i = false := by simp [inB, h1, h2]
      have e4 : gatherAt l i = 0 := by simp [gatherAt, e3]
      rw [e3, e4]
      clear e3 e4
      go_enter Tryd.func69, Tryd.ntmps69
      go_wp2
      go_ret2
      exact ⟨rfl, Below.refl _ _⟩
  · replace hr := Aside0.mk hr
    have e3 : inB l.length i = false := by simp [inB, h1]
    have e4 : gatherAt l i = 0 := by simp [gatherAt, e3]
    rw [e3, e4]
    clear e3 e4
    go_enter Tryd.func69, Tryd.ntmps69
    go_wp2
    go_ret2
    exact ⟨rfl, Below.refl _ _⟩
def prim_Gather.g (l l2 : List Int) : List Int × Int := if wordsE [l, l2] true = 0 then allOf l2.length (fun x => gatherAt l (rd l2 x)) (fun x => inB l.length (rd l2 x)) else ([], wordsE [l, l2] true)

set_option maxHeartbeats 4000000 in
set_option maxRecDepth 100000 in
theorem prim_Gather.run (A : Option Addr) (c : Nat) (l : List Int) (A2 : Option Addr) (c2 : Nat) (l2 : List Int) (w : World) (hr : Kd.C (Kd.int .i64) w A l.length l) (hc : l.length ≤ c) (hr2 : Kd.C (Kd.int .i64) w A2 l2.length l2) (hc2 : l2.length ≤ c2) :
    Calls Tryd.prog 30 #[.slice A l.length c, .slice A2 l2.length c2] w (Ret2 w (prim_Gather.g l l2)) := by
  have HS := Aside0.mk (Sl.of hr hc)
  have HS2 := Aside0.mk (Sl.of hr2 hc2)
  have HR := Aside0.mk hr
  have HR2 := Aside0.mk hr2
  clear hr hc hr2 hc2
  unfold prim_Gather.g
  obtain ⟨E, hE⟩ : ∃ E, E = wordsE [l, l2] true := ⟨_, rfl⟩
  rw [← hE]
  have HE := Aside0.mk hE
  clear hE
  by_cases h0 : E = 0
  · rw [if_pos h0]
    have z1 : (E != 0) = false := bne_eq_false_iff_eq.mpr h0
    have OK := Aside0.mk (wordsE_ok (HE.out.symm.trans h0))
    clear h0
    go_enter Tryd.func30, Tryd.ntmps30
    go_wp2_with fail
    refine (prim_words _ _ [l, l2] true _ (lit_rows_at _ _ (by simp) _ _ _ _ rfl (rows_of2 ((HS.out.alloc _).alloc _) ((HS2.out.alloc _).alloc _)) (by simp))).mono ?_
    rw [← HE.out]
    rintro e w2 ⟨rfl, hb2⟩
    have hcellA : ∀ W, Below w2.heap.size w2 W → W.cell? ⟨w.heap.size, 0, none⟩ = some (.slice A l.length c) := fun W hW =>
      (blk_cell (blk_below (blk_below (blk_alloc (blk_alloc (blk_new w _) _) _) hb2) hW) 0).trans rfl
    have hcellB : ∀ W, Below w2.heap.size w2 W → W.cell? ⟨w.heap.size + 1, 0, none⟩ = some (.slice A2 l2.length c2) := fun W hW =>
      (blk_cell (blk_below (blk_below (blk_alloc (blk_new_at (by simp) _) _) hb2) hW) 0).trans rfl
    have hb3 : Below w.heap.size w w2 := (below_alloc (below_alloc (below_alloc (Below.refl _ _) _) _) _).trans (hb2.mono (by simp; omega))
    have cA := hcellA w2 (Below.refl _ _)
    have cB := hcellB w2 (Below.refl _ _)
    replace hcellA := Aside0.mk hcellA
    replace hcellB := Aside0.mk hcellB
    replace hb3 := Aside0.mk hb3
    clear hb2
    go_wp2_with fail
    refine (each_all 69 #[] #[.pointer (some ⟨w.heap.size + 1, 0, none⟩), .pointer (some ⟨w.heap.size, 0, none⟩)] l2.length (fun x => gatherAt l (rd l2 x)) (fun x => inB l.length (rd l2 x)) _ Tryd.call69 (OK.out.1 l2 (by simp)) (fun x h0 hx W hW => prim_Gather1 x w.heap.size (w.heap.size + 1) A c l A2 c2 l2 W h0 hx (Kd.C_below (Kd.C_below HR.out hb3.out) hW) (Kd.C_below (Kd.C_below HR2.out hb3.out) hW) (hcellA.out W hW) (hcellB.out W hW))).mono ?_
    rintro e w3 ⟨v, rfl, hv, hb4⟩
    go_wp2
    go_ret2
    exact Ret2.lift ⟨v, rfl, hv, hb4⟩ hb3.out
  · rw [if_neg h0]
    have z1 : (E != 0) = true := bne_iff_ne.mpr h0
    clear h0
    go_enter Tryd.func30, Tryd.ntmps30
    go_wp2_with fail
    refine (prim_words _ _ [l, l2] true _ (lit_rows_at _ _ (by simp) _ _ _ _ rfl (rows_of2 ((HS.out.alloc _).alloc _) ((HS2.out.alloc _).alloc _)) (by simp))).mono ?_
    rw [← HE.out]
    rintro e w2 ⟨rfl, hb2⟩
    go_wp2
    go_ret2
    exact Ret2.nil E ((below_alloc (below_alloc (below_alloc (Below.refl _ _) _) _) _).trans (hb2.mono (by simp; omega)))

/-! Len -/
def prim_Len.g (l : List Int) : List Int × Int := if wordsE [l] true = 0 then ([(l.length : Int)], 0) else ([], wordsE [l] true)
theorem V_lit (w W : World) (N : Nat) (hN : W.heap.size = N) (hb : w.heap.size ≤ N) (e : TypeId) (base : Nat) (xs : List Int) (vs : Array Value) (hv : vs = (xs.map (Value.int .i64)).toArray) (hm : xs.length ≤ 9223372036854775807) :
    Kd.V (Kd.int .i64) e (W.alloc (.cells vs e)) base (fun k => w.heap.size ≤ k) (.slice (some ⟨N, 0, none⟩) xs.length xs.length) xs := by
  refine Kd.V_mk (Nat.le_refl _) (fun W' hW' => ?_)
  subst hN
  have h := lit_ints W e xs vs hv hm
  refine ⟨h.1, h.2.1, fun hn => ?_⟩
  obtain ⟨ad, had, hh⟩ := h.2.2 hn
  refine ⟨ad, had, fun j p hj => ?_⟩
  obtain ⟨cs, g1, g2, g3⟩ := hh j p hj
  refine ⟨cs, g1, g2, fun i u hu => ?_⟩
  have g4 := g3 i u hu
  injection had with had
  subst had
  have g5 := hW' W.heap.size hb
  have e1 : ((⟨W.heap.size, 0, none⟩ : Addr).add (j * (Kd.int .i64).sz + i)).block = W.heap.size := by rw [add_plain]
  rw [← g4]
  exact World.cell?_of_block (by rw [e1]; exact g5 (by simp))
set_option maxHeartbeats 4000000 in
set_option maxRecDepth 100000 in
theorem prim_Len.run (A : Option Addr) (c : Nat) (l : List Int) (w : World) (hr : Kd.C (Kd.int .i64) w A l.length l) (hc : l.length ≤ c) :
    Calls Tryd.prog 40 #[.slice A l.length c] w (Ret2 w (prim_Len.g l)) := by
  have HS := Aside0.mk (Sl.of hr hc)
  clear hr hc
  unfold prim_Len.g
  obtain ⟨E, hE⟩ : ∃ E, E = wordsE [l] true := ⟨_, rfl⟩
  rw [← hE]
  have HE := Aside0.mk hE
  clear hE
  by_cases h0 : E = 0
  · rw [if_pos h0]
    have z1 : (E != 0) = false := bne_eq_false_iff_eq.mpr h0
    clear h0
    go_enter Tryd.func40, Tryd.ntmps40
    go_wp2_with fail
    refine (prim_words _ _ [l] true _ (lit_rows_at _ _ (by simp) _ _ _ _ rfl (rows_of1 HS.out) (by simp))).mono ?_
    rw [← HE.out]
    rintro e w2 ⟨rfl, hb2⟩
    go_wp2
    go_ret2
    have hb3 : Below w.heap.size w w2 := (below_alloc (Below.refl _ _) _).trans (hb2.mono (by simp))
    exact ⟨_, rfl, V_lit w w2 _ rfl hb3.size _ _ [(l.length : Int)] _ rfl (by simp), hb3.alloc hb3.size _⟩
  · rw [if_neg h0]
    have z1 : (E != 0) = true := bne_iff_ne.mpr h0
    clear h0
    go_enter Tryd.func40, Tryd.ntmps40
    go_wp2_with fail
    refine (prim_words _ _ [l] true _ (lit_rows_at _ _ (by simp) _ _ _ _ rfl (rows_of1 HS.out) (by simp))).mono ?_
    rw [← HE.out]
    rintro e w2 ⟨rfl, hb2⟩
    go_wp2
    go_ret2
    exact Ret2.nil E ((below_alloc (Below.refl _ _) _).trans (hb2.mono (by simp)))
end Go.Proofs.YtpimackoadfcmaaDoor.Hand
