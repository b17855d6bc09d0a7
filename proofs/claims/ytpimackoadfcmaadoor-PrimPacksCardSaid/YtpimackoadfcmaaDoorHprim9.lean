/- prim.Pack: the words whose flag is set, in order, or the error that is told; new memory. -/
import Derived.Test.YtpimackoadfcmaaDoorHprim5
import Derived.WalkMore
namespace Go.Proofs.YtpimackoadfcmaaDoor.Hand
open Go.RowKit Go.Proofs.YtpimackoadfcmaaDoorW.PrintWords Go.Proofs.YtpimackoadfcmaaDoorW.PrintLast Go.Proofs.YtpimackoadfcmaaDoorW.PrintMore
set_option linter.unusedVariables false
set_option linter.unusedSimpArgs false
attribute [local go_sem] Oper.semAt_some
def packTo (f a : List Int) (x : Int) : List Int := ((List.range x.toNat).filter (fun (i : Nat) => rd f (i : Int) != 0)).map (fun (i : Nat) => rd a (i : Int))
theorem packTo_yes (f a : List Int) (x : Nat) (h : (rd f (x : Int) != 0) = true) : packTo f a ((x + 1 : Nat) : Int) = packTo f a (x : Int) ++ [rd a (x : Int)] := by
  unfold packTo
  rw [Int.toNat_natCast, Int.toNat_natCast, List.range_succ, List.filter_append, List.map_append]
  congr 1
  simp [List.filter_cons, h]
theorem packTo_no (f a : List Int) (x : Nat) (h : (rd f (x : Int) != 0) = false) : packTo f a ((x + 1 : Nat) : Int) = packTo f a (x : Int) := by
  unfold packTo
  rw [Int.toNat_natCast, Int.toNat_natCast, List.range_succ, List.filter_append, List.map_append]
  simp [List.filter_cons, h]
theorem packTo_length (f a : List Int) (x : Nat) : (packTo f a (x : Int)).length ≤ x := by
  unfold packTo
  rw [Int.toNat_natCast, List.length_map]
  exact Nat.le_trans (List.length_filter_le _ _) (by simp)
def prim_Pack.g (f a : List Int) : List Int × Int := if wordsE [f, a] ((f.length : Int) == (a.length : Int)) = 0 then (packTo f a f.length, 0) else ([], wordsE [f, a] ((f.length : Int) == (a.length : Int)))
set_option maxHeartbeats 4000000 in
set_option maxRecDepth 100000 in
theorem prim_Pack.run (A0 : Option Addr) (c0 : Nat) (f : List Int) (A1 : Option Addr) (c1 : Nat) (a : List Int) (w : World) (hr0 : Kd.C (Kd.int .i64) w A0 f.length f) (hc0 : f.length ≤ c0) (hr1 : Kd.C (Kd.int .i64) w A1 a.length a) (hc1 : a.length ≤ c1) :
    Calls Tryd.prog 23 #[.slice A0 f.length c0, .slice A1 a.length c1] w (Ret2 w (prim_Pack.g f a)) := by
  have HS0 := Aside0.mk (Sl.of hr0 hc0)
  have HS1 := Aside0.mk (Sl.of hr1 hc1)
  have HR0 := Aside0.mk hr0
  have HR1 := Aside0.mk hr1
  clear hr0 hc0 hr1 hc1
  unfold prim_Pack.g
  obtain ⟨E, hE⟩ : ∃ E, E = wordsE [f, a] ((f.length : Int) == (a.length : Int)) := ⟨_, rfl⟩
  rw [← hE]
  have HE := Aside0.mk hE
  clear hE
  by_cases h0 : E = 0
  · rw [if_pos h0]
    have z1 : (E != 0) = false := bne_eq_false_iff_eq.mpr h0
    have OK := wordsE_ok (HE.out.symm.trans h0)
    have e1 : f.length = a.length := by have := OK.2.2; rw [beq_iff_eq] at this; omega
    replace OK := Aside0.mk OK
    have E1 := Aside0.mk e1
    clear h0 e1
    refine calls_of_marks Tryd.func23 rfl ?_
    simp only [Tryd.ntmps23, List.size_toArray, List.length_cons, List.length_nil, Nat.reduceAdd, Nat.reduceSub, Array.replicate_succ, Array.replicate_zero, List.push_toArray, List.append_toArray, List.nil_append, List.cons_append]
    go_wp2
    go_step3
    go_wp2_with fail
    refine (prim_words _ _ [f, a] _ _ (lit_rows_at _ _ (by simp) _ _ _ _ rfl (rows_of2 (HS0.out.alloc _) (HS1.out.alloc _)) (by simp))).mono ?_
    rw [← HE.out]
    rintro e w2 ⟨rfl, hb2⟩
    have hb3 : Below w.heap.size w w2 := (below_alloc (below_alloc (Below.refl _ _) _) _).trans (hb2.mono (by simp; omega))
    have kA : w2.heap[w.heap.size]? = some (.cells #[.slice A1 a.length c1] 22 (0, 0)) := blk_below (blk_alloc (blk_new w _) _) hb2
    replace hb3 := Aside0.mk hb3
    replace kA := Aside0.mk kA
    clear hb2
    go_wp2
    go_step3
    go_wp2_with fail
    refine (prim_set _ _ A0 f.length c0 rfl).mono ?_
    rintro e w3 ⟨rfl, hw3⟩
    have s3 : w3.heap.size = w2.heap.size + 3 := by rw [hw3]; simp
    have m3 : Mk w3 w2.heap.size (.slice none 0 0) false := by rw [hw3]; exact blk_alloc (blk_alloc (blk_new w2 _) _) _
    have p3 : w3.heap[w2.heap.size + 1]? = some (.cells #[.pointer (some ⟨w2.heap.size, 0, none⟩)] 57 (0, 0)) := by rw [hw3]; exact blk_alloc (blk_new_at (by simp) _) _
    have f3 : w3.cell? ⟨w2.heap.size + 2, 0, none⟩ = some (.slice A0 f.length c0) := by
      rw [hw3]
      exact (blk_cell (blk_new_at (by simp) _) 0).trans rfl
    have b3 : Below w2.heap.size w2 w3 := by rw [hw3]; exact below_alloc (below_alloc (below_alloc (Below.refl _ _) _) _) _
    have a3 := blk_below kA.out b3
    clear hw3
    have hb4 : Below w.heap.size w w3 := hb3.out.trans (b3.mono hb3.out.size)
    have hle := hb3.out.size
    go_wp2
    refine wp_rangeSeq rfl Tryd.call91 (prim_set_it (w2.heap.size + 2) A0 c0 f w.heap.size w3 f3 (fun W hW => Kd.C_below HR0.out (hb4.trans hW)) hb4.size) (Below.refl _ _) hb4.size (setL_size f)
      (fun i W => ∃ v, Mk W w2.heap.size v false ∧ (Kd.int .i64).R 3 W (w2.heap.size + 3) (fun k => w2.heap.size + 3 ≤ k) v (packTo f a i) ∧ Kp (fun k => k = w2.heap.size ∨ w2.heap.size + 3 ≤ k) w3 W) (fun _ _ => False) ?own ?ownx ?start
      ?round ?done ?stop
    case own =>
      rintro i W1 W2 row ⟨v, h1, h2, h3⟩ hg hr
      exact ⟨v, blk_own h1 hg (fun r e => (hr r e).2), R_own h2 hg (fun r e => (hr r e).2), h3.own hg (fun r e => .inr (hr r e).1)⟩
    case ownx => exact fun _ _ _ _ h _ _ => h.elim
    case start => exact ⟨_, m3, Kd.R_nil _ _ _ _ _, Kp.refl _ _⟩
    case stop => exact fun _ _ _ _ h _ => h.elim
    case round =>
      intro l i args W hi hI K hK
      obtain ⟨hlt, rfl⟩ := setL_get hi
      clear hI
      replace hK := Aside0.mk hK
      gi_wp2
      refine hK.out _ ?_
      rintro W2 ⟨v, hM, hR, hK2⟩
      have cP : W2.cell? ⟨w2.heap.size + 1, 0, none⟩ = some (.pointer (some ⟨w2.heap.size, 0, none⟩)) := (blk_cell (hK2.blk p3 (by omega)) 0).trans rfl
      have cA : W2.cell? ⟨w.heap.size, 0, none⟩ = some (.slice A1 a.length c1) := (blk_cell (hK2.blk a3 (by have := blk_lt kA.out; omega)) 0).trans rfl
      have hW2 : Below w.heap.size w W2 := hb4.trans (hK2.below (fun k hk => ⟨by omega, by omega⟩))
      have hi0 : (0 : Int) ≤ i := by omega
      have hi1 : (i : Int) < a.length := by have := E1.out; omega
      obtain ⟨ad1, g1, hx1⟩ := Kd.at_int HR1.out i hi0 hi1
      have hy1 := Aside0.mk (World.block_lt_of_cell? w _ hx1)
      replace hx1 := pw_cell_below hW2 hx1
      cases g1
      rw [Int.toNat_natCast] at hx1 hy1
      have hn1 : i < a.length := by omega
      have HS : Aside0 (w2.heap.size + 3 ≤ W2.heap.size) := ⟨by have := hK2.size; rw [s3] at this; exact this⟩
      have hlen : f.length ≤ 1048576 := OK.out.1 f (by simp)
      replace hM := Aside0.mk hM
      replace hR := Aside0.mk hR
      replace hK2 := Aside0.mk hK2
      replace hW2 := Aside0.mk hW2
      clear hK K
      by_cases hz : (rd f (i : Int) != 0) = true
      · gi_wp2
        refine wpIn_region_any0 (by kernel_rfl) (by kernel_rfl) (fun _ _ h => h) ?_
        change wpAny _ _ _ _ _ _ _ W2.drew
        refine region_any (fun W => W.cell? ⟨w2.heap.size + 1, 0, none⟩ = some (.pointer (some ⟨w2.heap.size, 0, none⟩)) ∧ W.cell? ⟨w.heap.size, 0, none⟩ = some (.slice (some ad1) a.length c1) ∧ W.cell? (ad1.add i) = some (.int .i64 (rd a (i : Int)))) 7 [7, 8] (by kernel_rfl) (by kernel_rfl) (by kernel_rfl) rfl (fun _ _ _ h => h) ⟨cP, cA, hx1⟩ ?_
        simp only [List.take_succ_cons, List.take_zero]
        refine Reads.step _ rfl (fun W hW => by obtain ⟨k1, k2, k3⟩ := hW; go_simp; rfl) ?_
        refine Reads.step _ rfl (fun W hW => by obtain ⟨k1, k2, k3⟩ := hW; go_simp; rfl) ?_
        refine Reads.step _ rfl (fun W hW => by obtain ⟨k1, k2, k3⟩ := hW; go_simp; rfl) ?_
        refine Reads.step _ rfl (fun W hW => by obtain ⟨k1, k2, k3⟩ := hW; go_simp; rfl) ?_
        refine Reads.step _ rfl (fun W hW => by obtain ⟨k1, k2, k3⟩ := hW; go_simp; rfl) ?_
        refine Reads.step _ rfl (fun W hW => by obtain ⟨k1, k2, k3⟩ := hW; go_simp; rfl) ?_
        refine Reads.step _ rfl (fun W hW => by obtain ⟨k1, k2, k3⟩ := hW; go_simp; rfl) ?_
        change Tail _ _ _ _ _ _ _
        refine Tail.val rfl rfl (by go_simp; exact ⟨rfl, rfl⟩) ?s1 ?_
        case s1 => exact ⟨pw_cell_below (below_drew (below_alloc (Below.refl _ _) _)) cP, pw_cell_below (below_drew (below_alloc (Below.refl _ _) _)) cA, pw_cell_below (below_drew (below_alloc (Below.refl _ _) _)) hx1⟩
        refine Tail.call rfl rfl (by go_simp; first | rfl | exact ⟨rfl, rfl⟩ | exact ⟨⟨rfl, rfl⟩, rfl⟩) (list_put w2.heap.size v false (w2.heap.size + 3) (fun k => w2.heap.size + 3 ≤ k) (packTo f a i) [rd a (i : Int)] _ _ _ (blk_drew (blk_alloc hM.out _)) (Kd.R_drew (Kd.R_alloc hR.out _)) (Kd.C_below (lit_ints _ _ [rd a (i : Int)] _ rfl (by simp)) (below_drew (Below.refl _ _))) ?h1 ?h2 ?h3) ?h4
        case h1 => intro k hk; have := HS.out; simp at hk; omega
        case h2 => have := HS.out; simp; omega
        case h3 => have := packTo_length f a i; simp; omega
        case h4 =>
          rintro e W4 ⟨rfl, v4, M4, R4, K4⟩
          have hS : ∀ k, (k = w2.heap.size ∨ some k = v.ownBlock) → k = w2.heap.size ∨ w2.heap.size + 3 ≤ k := fun k hk => hk.imp_right (fun e => hR.out.1 k e.symm)
          have hl := blk_lt kA.out
          have K5 : Kp (fun k => k = w2.heap.size ∨ some k = v.ownBlock) W2 W4 := ((Kp.refl _ _).alloc _ |>.drew).trans K4 (fun k hk => .inl hk)
          refine ⟨_, rfl, ⟨K5.cell cP (fun h => ?_), K5.cell cA (fun h => ?_), K5.cell hx1 (fun h => ?_)⟩, ?_⟩
          · have h' : w2.heap.size + 1 = w2.heap.size ∨ w2.heap.size + 3 ≤ w2.heap.size + 1 := hS _ h
            omega
          · have h' : w.heap.size = w2.heap.size ∨ w2.heap.size + 3 ≤ w.heap.size := hS _ h
            omega
          · have := hS _ h; have := hy1.out; omega
          · refine ⟨K5.keepsFrom ?_, K5.below ?_, v4, M4, ?_, hK2.out.trans K5 (fun k hk => .inl (hS k hk))⟩
            · rintro k (rfl | hk) _
              · exact ⟨_, _, _, hM.out⟩
              · exact (R_cells hR.out hk).2.2
            · intro k hk
              exact ⟨by have := HS.out; omega, fun h => by have := hS k h; omega⟩
            · rw [← packTo_yes f a i hz] at R4
              exact R4
      · have hz2 : (rd f (i : Int) != 0) = false := by simpa using hz
        have Hz2 := Aside0.mk hz2
        gi_wp2
        refine ⟨keepsFrom_below (Below.refl _ _), Below.refl _ _, v, hM.out, ?_, hK2.out⟩
        rw [packTo_no f a i Hz2.out]
        exact hR.out
    case done =>
      rintro D W hD ⟨v, h1, h2, h3⟩ hd
      have cP : W.cell? ⟨w2.heap.size + 1, 0, none⟩ = some (.pointer (some ⟨w2.heap.size, 0, none⟩)) := (blk_cell (h3.blk p3 (by omega)) 0).trans rfl
      obtain ⟨A9, c9, rfl⟩ := Kd.R_slice h2
      have hq := (Kd.R_reads' h2).2.1
      have H1 := Aside0.mk h1
      have H2 := Aside0.mk h2
      have H3 := Aside0.mk h3
      have HQ := Aside0.mk (list_done w2.heap.size A9 false _ c9 W h1 hq (R_cap h2))
      have HD := Aside0.mk hd
      clear h1 h2 h3 hq hd
      go_wp2_with ((with_reducible refine (HQ.out).mono ?_); rintro e w5 ⟨rfl, m5, rfl⟩)
      rw [Exit.noGoto_ret]
      have hd5 : (W.drewN m5).heap[D]? = some (.deferred (some [])) := HD.out
      refine Marks.one hd5 _ (results_tmp2 rfl _ _ _) ?_
      have r5 := R_own (Kd.R_drewN H2.out m5) (grownBy_putObj' (W.drewN m5) D (.deferred none)) (fun r e => by cases e; exact ⟨_, hd5, rfl⟩)
      have v5 := V_cut (base2 := w.heap.size) r5
      have hb5 : Below w.heap.size w ((W.drewN m5).putObj D (.deferred none)) := (pw_below_drewN (hb4.trans (H3.out.below (fun k hk => ⟨by have := hb4.size; omega, fun h => by omega⟩))) m5).trans (below_putObj (l := D) (B := w.heap.size) (W.drewN m5) (.deferred none) (by have := hb4.size; omega))
      rw [setL_length] at v5
      refine ⟨_, rfl, ?_, hb5⟩
      have v6 := Kd.V_mono v5 (ok' := fun k => w.heap.size ≤ k) (fun k hk => by omega)
      simpa [setL_length] using v6
  · rw [if_neg h0]
    have z1 : (E != 0) = true := bne_iff_ne.mpr h0
    clear h0
    go_enter Tryd.func23, Tryd.ntmps23
    go_wp2
    go_step3
    go_wp2_with fail
    refine (prim_words _ _ [f, a] _ _ (lit_rows_at _ _ (by simp) _ _ _ _ rfl (rows_of2 (HS0.out.alloc _) (HS1.out.alloc _)) (by simp))).mono ?_
    rw [← HE.out]
    rintro e w2 ⟨rfl, hb2⟩
    go_wp2
    rw [Exit.noGoto_ret]
    go_ret2
    exact Ret2.nil E ((below_alloc (below_alloc (Below.refl _ _) _) _).trans (hb2.mono (by simp; omega)))
end Go.Proofs.YtpimackoadfcmaaDoor.Hand
