/- prim.Cat: two lists, one behind the other, or the error that is told; new memory. -/
import Derived.Test.YtpimackoadfcmaaDoorHprim3
import Derived.Laws.CopyOwn
namespace Go.Proofs.YtpimackoadfcmaaDoor.Hand
open Go.RowKit Go.Proofs.YtpimackoadfcmaaDoorW.PrintWords Go.Proofs.YtpimackoadfcmaaDoorW.PrintLast Go.Proofs.YtpimackoadfcmaaDoorW.PrintMore
set_option linter.unusedVariables false
set_option linter.unusedSimpArgs false
def prim_Cat.g (a b : List Int) : List Int × Int := if wordsE [a, b] true = 0 then (if a.length + b.length ≤ 1048576 then (a ++ b, 0) else ([], 9)) else ([], wordsE [a, b] true)
theorem firstOf_pair (E x : Int) (h : E ≠ 0) : firstOf [E, x] = E := by simp [firstOf, List.find?_cons, h]
theorem firstOf_zero (x : Int) : firstOf [0, x] = x := by
  by_cases h : x = 0
  · subst h; rfl
  · simp [firstOf, List.find?_cons, h]
set_option maxHeartbeats 4000000 in
set_option maxRecDepth 100000 in
theorem prim_Cat.nil2 (A : Option Addr) (c : Nat) (l : List Int) (A2 : Option Addr) (c2 : Nat) (w : World) (hr : Kd.C (Kd.int .i64) w A l.length l) (hc : l.length ≤ c) (hr2 : Kd.C (Kd.int .i64) w A2 ([] : List Int).length ([] : List Int)) (hc2 : ([] : List Int).length ≤ c2) (h0 : wordsE [l, []] true = 0) :
    Calls Tryd.prog 38 #[.slice A l.length c, .slice A2 0 c2] w (Ret2 w (l, 0)) := by
  have HS := Aside0.mk (Sl.of hr hc)
  have HS2 := Aside0.mk (Sl.of hr2 hc2)
  have HR := Aside0.mk hr
  have HR2 := Aside0.mk hr2
  clear hr hc hr2 hc2
  have OK := Aside0.mk (wordsE_ok h0)
  have HE := Aside0.mk h0.symm
  clear h0
  have q1 : l.length ≤ 1048576 := OK.out.1 l (by simp)
  have z2 : decide ((l.length : Int) ≤ 1048576) = true := decide_eq_true (by omega)
  have hsz : (Tryd.prog.info? 3).map (·.size) = some 1 := by kernel_rfl
  have hmk : ∀ W : World, (Instr.makeSlice 22 (.int .i64 ((l.length : Int))) (.int .i64 ((l.length : Int)))).run Tryd.prog W = .ok (.slice (some ⟨W.heap.size, 0, none⟩) (l.length) (l.length)) (W.alloc (.cells (madeCells #[.int .i64 0] (l.length)) 3)) := by
    intro W
    have h := print_make 22 3 .i64 8 Tryd.underlying22 infoInt (by decide) (l.length) (by omega) W
    exact h
  go_enter Tryd.func38, Tryd.ntmps38
  go_wp2_with fail
  refine (prim_words _ _ [l, ([] : List Int)] true _ (lit_rows_at _ _ (by simp) _ _ _ _ rfl (rows_of2 HS.out HS2.out) (by simp))).mono ?_
  rw [← HE.out]
  rintro e w2 ⟨rfl, hb2⟩
  have hb3 : Below w.heap.size w w2 := (below_alloc (Below.refl _ _) _).trans (hb2.mono (by simp))
  replace hb3 := Aside0.mk hb3
  clear hb2
  go_wp2_with fail
  refine (prim_unless _ _ _).mono ?_
  rintro e w3 ⟨rfl, m3, rfl⟩
  go_wp2_with fail
  refine (prim_first _ _ [_, _] _ (lit_ints _ _ [_, _] _ rfl (by simp))).mono ?_
  rw [firstOf_zero]
  rintro e w4 ⟨rfl, m4, rfl⟩
  have hle : w.heap.size ≤ w2.heap.size := hb3.out.size
  replace hle := Aside0.mk hle
  have hB : ∀ W, Below w2.heap.size w2 W → Below w.heap.size w W := fun W h => hb3.out.trans (h.mono hle.out)
  have hS : ∀ W, Below w.heap.size w W → 0 < (l.map (Value.int .i64)).length → ∃ ad, A = some ad ∧ ∀ (j : Nat) (v : Value), (l.map (Value.int .i64))[j]? = some v → W.cell? (ad.add j) = some v := fun W h hp => src_cells (Kd.C_below HR.out h) (by rw [List.length_map] at hp; exact hp)
  have hS2 : ∀ W, Below w.heap.size w W → 0 < (([] : List Int).map (Value.int .i64)).length → ∃ ad, A2 = some ad ∧ ∀ (j : Nat) (v : Value), (([] : List Int).map (Value.int .i64))[j]? = some v → W.cell? (ad.add j) = some v := fun W h hp => src_cells (Kd.C_below HR2.out h) (by rw [List.length_map] at hp; exact hp)
  replace hB := Aside0.mk hB
  replace hS := Aside0.mk hS
  replace hS2 := Aside0.mk hS2
  go_wp2_with (first | ((with_reducible refine wpList_copy_splice rfl (.tmp 31) (.tmp 32) 22 22 rfl 3 Tryd.underlying22 hsz _ _ _ _ _ _ rfl rfl (w2.heap.size + 1) 0 (List.replicate (l.length) (.int .i64 0)) 3 (made_blk _ _ (by simp) _ _ _) (l.map (Value.int .i64)) (by rw [List.length_map]; exact (Nat.min_eq_left (by omega)).symm) (fun hp => ⟨rfl, hS.out _ (hB.out _ (below_alloc (pw_below_drewN (below_alloc (pw_below_drewN (Below.refl _ _) _) _) _) _)) hp⟩) (by simp) (ints_one l) w.heap.size w (hB.out _ (below_alloc (pw_below_drewN (below_alloc (pw_below_drewN (Below.refl _ _) _) _) _) _)) (Nat.le_succ_of_le hle.out) ?_); intro w5 hg5 hb5; replace hb5 := Aside0.mk hb5) | (with_reducible refine wpList_copy_nothing rfl (.tmp 34) (.tmp 35) 22 22 rfl 3 Tryd.underlying22 hsz _ _ _ _ _ _ rfl rfl (by simp) ?_))
  go_ret2
  have he : (splice (List.replicate l.length (Value.int .i64 0)) 0 (l.map (Value.int .i64))) = l.map (Value.int .i64) := by
    simp [splice]
  have hg7 := hg5.out
  rw [he] at hg7
  exact ⟨_, rfl, V_blk (e := 3) (base := w.heap.size) (B := w.heap.size) hg7 rfl (by omega) (Nat.le_succ_of_le hle.out) l.length (Nat.le_refl _), hb5.out⟩
set_option maxHeartbeats 4000000 in
set_option maxRecDepth 100000 in
theorem prim_Cat.full (A : Option Addr) (c : Nat) (l : List Int) (A2 : Option Addr) (c2 : Nat) (l2 : List Int) (w : World) (hr : Kd.C (Kd.int .i64) w A l.length l) (hc : l.length ≤ c) (hr2 : Kd.C (Kd.int .i64) w A2 l2.length l2) (hc2 : l2.length ≤ c2) (h0 : wordsE [l, l2] true = 0) (h1 : l.length + l2.length ≤ 1048576) (hne : ¬ l2 = []) :
    Calls Tryd.prog 38 #[.slice A l.length c, .slice A2 l2.length c2] w (Ret2 w (l ++ l2, 0)) := by
  have HS := Aside0.mk (Sl.of hr hc)
  have HS2 := Aside0.mk (Sl.of hr2 hc2)
  have HR := Aside0.mk hr
  have HR2 := Aside0.mk hr2
  clear hr hc hr2 hc2
  have OK := Aside0.mk (wordsE_ok h0)
  have HE := Aside0.mk h0.symm
  clear h0
  have q1 : l.length ≤ 1048576 := OK.out.1 l (by simp)
  have z2 : decide ((l.length : Int) + (l2.length : Int) ≤ 1048576) = true := decide_eq_true (by omega)
  have hsz : (Tryd.prog.info? 3).map (·.size) = some 1 := by kernel_rfl
  have hmk : ∀ W : World, (Instr.makeSlice 22 (.int .i64 ((l.length : Int) + (l2.length : Int))) (.int .i64 ((l.length : Int) + (l2.length : Int)))).run Tryd.prog W = .ok (.slice (some ⟨W.heap.size, 0, none⟩) (l.length + l2.length) (l.length + l2.length)) (W.alloc (.cells (madeCells #[.int .i64 0] (l.length + l2.length)) 3)) := by
    intro W
    have h := print_make 22 3 .i64 8 Tryd.underlying22 infoInt (by decide) (l.length + l2.length) (by omega) W
    rwa [Int.natCast_add] at h
  go_enter Tryd.func38, Tryd.ntmps38
  go_wp2_with fail
  refine (prim_words _ _ [l, l2] true _ (lit_rows_at _ _ (by simp) _ _ _ _ rfl (rows_of2 HS.out HS2.out) (by simp))).mono ?_
  rw [← HE.out]
  rintro e w2 ⟨rfl, hb2⟩
  have hb3 : Below w.heap.size w w2 := (below_alloc (Below.refl _ _) _).trans (hb2.mono (by simp))
  replace hb3 := Aside0.mk hb3
  clear hb2
  go_wp2_with fail
  refine (prim_unless _ _ _).mono ?_
  rintro e w3 ⟨rfl, m3, rfl⟩
  go_wp2_with fail
  refine (prim_first _ _ [_, _] _ (lit_ints _ _ [_, _] _ rfl (by simp))).mono ?_
  rw [firstOf_zero]
  rintro e w4 ⟨rfl, m4, rfl⟩
  have hle : w.heap.size ≤ w2.heap.size := hb3.out.size
  replace hle := Aside0.mk hle
  have hB : ∀ W, Below w2.heap.size w2 W → Below w.heap.size w W := fun W h => hb3.out.trans (h.mono hle.out)
  have hS : ∀ W, Below w.heap.size w W → 0 < (l.map (Value.int .i64)).length → ∃ ad, A = some ad ∧ ∀ (j : Nat) (v : Value), (l.map (Value.int .i64))[j]? = some v → W.cell? (ad.add j) = some v := fun W h hp => src_cells (Kd.C_below HR.out h) (by rw [List.length_map] at hp; exact hp)
  have hS2 : ∀ W, Below w.heap.size w W → 0 < (l2.map (Value.int .i64)).length → ∃ ad, A2 = some ad ∧ ∀ (j : Nat) (v : Value), (l2.map (Value.int .i64))[j]? = some v → W.cell? (ad.add j) = some v := fun W h hp => src_cells (Kd.C_below HR2.out h) (by rw [List.length_map] at hp; exact hp)
  replace hB := Aside0.mk hB
  replace hS := Aside0.mk hS
  replace hS2 := Aside0.mk hS2
  go_wp2_with (first | ((with_reducible refine wpList_copy_splice rfl (.tmp 31) (.tmp 32) 22 22 rfl 3 Tryd.underlying22 hsz _ _ _ _ _ _ rfl rfl (w2.heap.size + 1) 0 (List.replicate (l.length + l2.length) (.int .i64 0)) 3 (made_blk _ _ (by simp) _ _ _) (l.map (Value.int .i64)) (by rw [List.length_map]; exact (Nat.min_eq_left (by omega)).symm) (fun hp => ⟨rfl, hS.out _ (hB.out _ (below_alloc (pw_below_drewN (below_alloc (pw_below_drewN (Below.refl _ _) _) _) _) _)) hp⟩) (by simp) (ints_one l) w.heap.size w (hB.out _ (below_alloc (pw_below_drewN (below_alloc (pw_below_drewN (Below.refl _ _) _) _) _) _)) (Nat.le_succ_of_le hle.out) ?_); intro w5 hg5 hb5; replace hb5 := Aside0.mk hb5) | ((with_reducible refine wpList_copy_splice rfl (.tmp 34) (.tmp 35) 22 22 rfl 3 Tryd.underlying22 hsz _ _ _ _ _ _ rfl rfl (w2.heap.size + 1) l.length (splice (List.replicate (l.length + l2.length) (.int .i64 0)) 0 (l.map (Value.int .i64))) 3 hg5.out (l2.map (Value.int .i64)) (by rw [List.length_map]; exact (Nat.min_eq_left (by omega)).symm) (fun hp => ⟨rfl, hS2.out _ hb5.out hp⟩) (by rw [length_splice _ _ _ (by simp)]; simp) (ints_one l2) w.heap.size w hb5.out (Nat.le_succ_of_le hle.out) ?_); intro w6 hg6 hb6; replace hb6 := Aside0.mk hb6))
  go_ret2
  have he : (splice (splice (List.replicate (l.length + l2.length) (Value.int .i64 0)) 0 (l.map (Value.int .i64))) l.length (l2.map (Value.int .i64))) = (l ++ l2).map (Value.int .i64) := by
    simp [splice, List.take_append, List.drop_append]
  have hg7 := hg6.out
  rw [he] at hg7
  refine ⟨_, rfl, ?_, hb6.out⟩
  have h := V_blk (e := 3) (base := w.heap.size) (B := w.heap.size) hg7 rfl (by simp; omega) (Nat.le_succ_of_le hle.out) (l ++ l2).length (Nat.le_refl _)
  rw [List.length_append] at h
  exact h
set_option maxHeartbeats 4000000 in
set_option maxRecDepth 100000 in
theorem prim_Cat.run (A : Option Addr) (c : Nat) (l : List Int) (A2 : Option Addr) (c2 : Nat) (l2 : List Int) (w : World) (hr : Kd.C (Kd.int .i64) w A l.length l) (hc : l.length ≤ c) (hr2 : Kd.C (Kd.int .i64) w A2 l2.length l2) (hc2 : l2.length ≤ c2) :
    Calls Tryd.prog 38 #[.slice A l.length c, .slice A2 l2.length c2] w (Ret2 w (prim_Cat.g l l2)) := by
  unfold prim_Cat.g
  by_cases h0 : wordsE [l, l2] true = 0
  · rw [if_pos h0]
    by_cases h1 : l.length + l2.length ≤ 1048576
    · rw [if_pos h1]
      by_cases hne : l2 = []
      · subst hne
        rw [List.append_nil]
        exact prim_Cat.nil2 A c l A2 c2 w hr hc hr2 hc2 h0
      · exact prim_Cat.full A c l A2 c2 l2 w hr hc hr2 hc2 h0 h1 hne
    · rw [if_neg h1]
      have HS := Aside0.mk (Sl.of hr hc)
      have HS2 := Aside0.mk (Sl.of hr2 hc2)
      have OK := wordsE_ok h0
      have HE := Aside0.mk h0.symm
      clear h0 hr hc hr2 hc2
      have q1 : l.length ≤ 1048576 := OK.1 l (by simp)
      have q2 : l2.length ≤ 1048576 := OK.1 l2 (by simp)
      have z2 : decide ((l.length : Int) + (l2.length : Int) ≤ 1048576) = false := decide_eq_false (by omega)
      clear OK h1
      go_enter Tryd.func38, Tryd.ntmps38
      go_wp2_with fail
      refine (prim_words _ _ [l, l2] true _ (lit_rows_at _ _ (by simp) _ _ _ _ rfl (rows_of2 HS.out HS2.out) (by simp))).mono ?_
      rw [← HE.out]
      rintro e w2 ⟨rfl, hb2⟩
      have hb3 : Below w.heap.size w w2 := (below_alloc (Below.refl _ _) _).trans (hb2.mono (by simp))
      replace hb3 := Aside0.mk hb3
      clear hb2
      go_wp2_with fail
      refine (prim_unless _ _ _).mono ?_
      rintro e w3 ⟨rfl, m3, rfl⟩
      go_wp2_with fail
      refine (prim_first _ _ [_, _] _ (lit_ints _ _ [_, _] _ rfl (by simp))).mono ?_
      rw [firstOf_zero]
      rintro e w4 ⟨rfl, m4, rfl⟩
      go_wp2
      go_ret2
      exact Ret2.nil 9 (pw_below_drewN (below_alloc (pw_below_drewN hb3.out _) _) _)
  · rw [if_neg h0]
    obtain ⟨E, hE⟩ : ∃ E, E = wordsE [l, l2] true := ⟨_, rfl⟩
    rw [← hE] at h0 ⊢
    have HS := Aside0.mk (Sl.of hr hc)
    have HS2 := Aside0.mk (Sl.of hr2 hc2)
    have HE := Aside0.mk hE
    have H0 := Aside0.mk h0
    have z1 : (E != 0) = true := bne_iff_ne.mpr h0
    clear h0 hr hc hr2 hc2 hE
    go_enter Tryd.func38, Tryd.ntmps38
    go_wp2_with fail
    refine (prim_words _ _ [l, l2] true _ (lit_rows_at _ _ (by simp) _ _ _ _ rfl (rows_of2 HS.out HS2.out) (by simp))).mono ?_
    rw [← HE.out]
    rintro e w2 ⟨rfl, hb2⟩
    have hb3 : Below w.heap.size w w2 := (below_alloc (Below.refl _ _) _).trans (hb2.mono (by simp))
    replace hb3 := Aside0.mk hb3
    clear hb2
    go_wp2_with fail
    refine (prim_unless _ _ _).mono ?_
    rintro e w3 ⟨rfl, m3, rfl⟩
    obtain ⟨y, hy⟩ : ∃ y : Int, y = (if decide (wrap64 ((l.length : Int) + (l2.length : Int)) ≤ 1048576) = true then 0 else 9) := ⟨_, rfl⟩
    rw [← hy]
    replace hy := Aside0.mk hy
    go_wp2_with fail
    refine (prim_first _ _ [_, _] _ (lit_ints _ _ [_, _] _ rfl (by simp))).mono ?_
    rw [firstOf_pair _ _ H0.out]
    rintro e w4 ⟨rfl, m4, rfl⟩
    go_wp2
    go_ret2
    exact Ret2.nil E (pw_below_drewN (below_alloc (pw_below_drewN hb3.out _) _) _)
end Go.Proofs.YtpimackoadfcmaaDoor.Hand
