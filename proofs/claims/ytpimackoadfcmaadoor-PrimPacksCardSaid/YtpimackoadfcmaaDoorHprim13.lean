/- prim.Bin: an operation at each place, or the error that is told; new memory. -/
import Derived.Test.YtpimackoadfcmaaDoorHprim3
import Derived.Test.YtpimackoadfcmaaDoorHword
namespace Go.Proofs.YtpimackoadfcmaaDoor.Hand
open Go.RowKit Go.Proofs.YtpimackoadfcmaaDoorW.PrintWords Go.Proofs.YtpimackoadfcmaaDoorW.PrintLast Go.Proofs.YtpimackoadfcmaaDoorW.PrintMore
set_option linter.unusedVariables false
set_option linter.unusedSimpArgs false
attribute [local go_sem] Oper.semAt_some
set_option maxHeartbeats 4000000 in
set_option maxRecDepth 100000 in
theorem prim_Bin1 (x op : Int) (Bo Ba Bb : Nat) (A : Option Addr) (c : Nat) (l : List Int) (A2 : Option Addr) (c2 : Nat) (l2 : List Int) (w : World) (hG : Deeds w) (h0 : 0 ≤ x) (hx : x < l.length) (hx2 : x < l2.length) (hr : (Kd.int .i64).C w A l.length l) (hr2 : (Kd.int .i64).C w A2 l2.length l2)
    (ho : w.cell? ⟨Bo, 0, none⟩ = some (.int .i64 op)) (ha : w.cell? ⟨Ba, 0, none⟩ = some (.slice A l.length c)) (hb : w.cell? ⟨Bb, 0, none⟩ = some (.slice A2 l2.length c2)) :
    Calls Tryd.prog 58 #[.int .i64 x, .pointer (some ⟨Bo, 0, none⟩), .pointer (some ⟨Ba, 0, none⟩), .pointer (some ⟨Bb, 0, none⟩)] w fun e w' => e = .returned (.tuple #[.int .i64 (word_Do.g op (rd l x) (rd l2 x)).1, .bool ((word_Do.g op (rd l x) (rd l2 x)).2 == 0)]) ∧ Below w.heap.size w w' := by
  obtain ⟨ad, e1, hc⟩ := Kd.at_int hr x h0 hx
  obtain ⟨ad2, e2, hd⟩ := Kd.at_int hr2 x h0 hx2
  subst e1 e2
  obtain ⟨G, hGG⟩ : ∃ G, G = word_Do.g op (rd l x) (rd l2 x) := ⟨_, rfl⟩
  have HDo := Aside0.mk (word_Do op (rd l x) (rd l2 x) w.drew (hG.below (below_drew (Below.refl _ _))))
  rw [← hGG] at HDo ⊢
  have HGG := Aside0.mk hGG
  obtain ⟨g1, g2⟩ := G
  clear hr hr2 hG hGG
  refine calls_of_marks Tryd.func58 rfl ?_
  simp only [Tryd.ntmps58, List.size_toArray, List.length_cons, List.length_nil, Nat.reduceAdd, Nat.reduceSub, Array.replicate_succ, Array.replicate_zero, List.push_toArray, List.append_toArray, List.nil_append, List.cons_append]
  go_wp2
  refine wp_region_any (by kernel_rfl) ?_
  change wpAny _ _ _ _ _ _ _ w.drew
  refine region_any_call (fun W => W.cell? ⟨Bo, 0, none⟩ = some (.int .i64 op) ∧ W.cell? ⟨Ba, 0, none⟩ = some (.slice (some ad) l.length c) ∧ W.cell? ⟨Bb, 0, none⟩ = some (.slice (some ad2) l2.length c2) ∧ W.cell? (ad.add x.toNat) = some (.int .i64 (rd l x)) ∧ W.cell? (ad2.add x.toNat) = some (.int .i64 (rd l2 x))) 9 5 (by kernel_rfl) (by kernel_rfl) (by kernel_rfl) (by kernel_rfl) (by kernel_rfl) rfl (fun _ _ _ h => h) ⟨ho, ha, hb, hc, hd⟩ ?_
  simp only [List.take_succ_cons, List.take_zero, List.drop_succ_cons, List.drop_zero]
  refine Reads.step _ rfl (fun W hW => by obtain ⟨k1, k2, k3, k4, k5⟩ := hW; go_simp; rfl) ?_
  refine Reads.step _ rfl (fun W hW => by obtain ⟨k1, k2, k3, k4, k5⟩ := hW; go_simp; rfl) ?_
  refine Reads.step _ rfl (fun W hW => by obtain ⟨k1, k2, k3, k4, k5⟩ := hW; go_simp; rfl) ?_
  refine Reads.step _ rfl (fun W hW => by obtain ⟨k1, k2, k3, k4, k5⟩ := hW; go_simp; rfl) ?_
  refine Reads.step _ rfl (fun W hW => by obtain ⟨k1, k2, k3, k4, k5⟩ := hW; go_simp; rfl) ?_
  refine Reads.step _ rfl (fun W hW => by obtain ⟨k1, k2, k3, k4, k5⟩ := hW; go_simp; rfl) ?_
  refine Reads.step _ rfl (fun W hW => by obtain ⟨k1, k2, k3, k4, k5⟩ := hW; go_simp; rfl) ?_
  refine Reads.step _ rfl (fun W hW => by obtain ⟨k1, k2, k3, k4, k5⟩ := hW; go_simp; rfl) ?_
  refine Reads.step _ rfl (fun W hW => by obtain ⟨k1, k2, k3, k4, k5⟩ := hW; go_simp; rfl) ?_
  unfold Reads
  refine wpOp_call rfl rfl (by go_simp) HDo.out ?_
  rintro e w2 ⟨rfl, hb2⟩
  refine ⟨_, rfl, ⟨pw_cell_below hb2 ho, pw_cell_below hb2 ha, pw_cell_below hb2 hb, pw_cell_below hb2 hc, pw_cell_below hb2 hd⟩, ?_⟩
  replace hb2 := Aside0.mk hb2
  refine Reads.step _ rfl (fun W hW => by go_simp; rfl) ?_
  refine Reads.step _ rfl (fun W hW => by go_simp; rfl) ?_
  refine Reads.step _ rfl (fun W hW => by go_simp; rfl) ?_
  refine Reads.step _ rfl (fun W hW => by go_simp; rfl) ?_
  refine Reads.step _ rfl (fun W hW => by go_simp; rfl) ?_
  unfold Reads
  simp only [List.getElem_toArray, List.getElem_cons_succ, List.getElem_cons_zero, Act.put, List.setIfInBounds_toArray, List.set_cons_zero, List.set_cons_succ, i64_w]
  go_wp2
  unfold MarksPost
  refine Marks.zero _ (results_tmp2 rfl _ _ _) ?_
  exact ⟨rfl, (below_drew (Below.refl _ _)).trans hb2.out⟩
def prim_Bin.g (op : Int) (l l2 : List Int) : List Int × Int := if isOpB op then (if wordsE [l, l2] ((l.length : Int) == (l2.length : Int)) = 0 then allOf l.length (fun x => (word_Do.g op (rd l x) (rd l2 x)).1) (fun x => (word_Do.g op (rd l x) (rd l2 x)).2 == 0) else ([], wordsE [l, l2] ((l.length : Int) == (l2.length : Int)))) else ([], 1)
set_option maxHeartbeats 4000000 in
set_option maxRecDepth 100000 in
theorem prim_Bin.run (op : Int) (A : Option Addr) (c : Nat) (l : List Int) (A2 : Option Addr) (c2 : Nat) (l2 : List Int) (w : World) (hG : Deeds w) (hr : Kd.C (Kd.int .i64) w A l.length l) (hc : l.length ≤ c) (hr2 : Kd.C (Kd.int .i64) w A2 l2.length l2) (hc2 : l2.length ≤ c2) :
    Calls Tryd.prog 15 #[.int .i64 op, .slice A l.length c, .slice A2 l2.length c2] w (Ret2 w (prim_Bin.g op l l2)) := by
  have HS := Aside0.mk (Sl.of hr hc)
  have HS2 := Aside0.mk (Sl.of hr2 hc2)
  have HR := Aside0.mk hr
  have HR2 := Aside0.mk hr2
  have HG := Aside0.mk hG
  clear hr hc hr2 hc2 hG
  unfold prim_Bin.g
  cases hop : isOpB op
  · simp only [Bool.false_eq_true, if_false]
    have hn : op < 0 ∨ 12 ≤ op := by
      have : ¬ (0 ≤ op ∧ op < 12) := by simpa [isOpB] using hop
      omega
    clear hop
    by_cases h1 : op < 0
    · have z1 : decide (op < 0) = true := decide_eq_true h1
      clear h1 hn
      go_enter Tryd.func15, Tryd.ntmps15
      go_wp2
      go_ret2
      exact Ret2.nil 1 (below_alloc (below_alloc (below_alloc (Below.refl _ _) _) _) _)
    · have z1 : decide (op < 0) = false := decide_eq_false h1
      have z2 : decide (12 ≤ op) = true := decide_eq_true (by omega)
      clear h1 hn
      go_enter Tryd.func15, Tryd.ntmps15
      go_wp2
      go_ret2
      exact Ret2.nil 1 (below_alloc (below_alloc (below_alloc (Below.refl _ _) _) _) _)
  · simp only [if_true]
    have hop2 : 0 ≤ op ∧ op < 12 := by simpa [isOpB] using hop
    have z1 : decide (op < 0) = false := decide_eq_false (by omega)
    have z2 : decide (12 ≤ op) = false := decide_eq_false (by omega)
    clear hop hop2
    obtain ⟨E, hE⟩ : ∃ E, E = wordsE [l, l2] ((l.length : Int) == (l2.length : Int)) := ⟨_, rfl⟩
    rw [← hE]
    have HE := Aside0.mk hE
    clear hE
    by_cases h0 : E = 0
    · rw [if_pos h0]
      have z3 : (E != 0) = false := bne_eq_false_iff_eq.mpr h0
      have OK := Aside0.mk (wordsE_ok (HE.out.symm.trans h0))
      have hfit := Aside0.mk (show l.length = l2.length by have := OK.out.2.2; rw [beq_iff_eq] at this; omega)
      clear h0
      go_enter Tryd.func15, Tryd.ntmps15
      go_wp2_with fail
      refine (prim_words _ _ [l, l2] _ _ (lit_rows_at _ _ (by simp) _ _ _ _ rfl (rows_of2 (((HS.out.alloc _).alloc _).alloc _) (((HS2.out.alloc _).alloc _).alloc _)) (by simp))).mono ?_
      rw [← HE.out]
      rintro e w2 ⟨rfl, hb2⟩
      have hb3 : Below w.heap.size w w2 := (below_alloc (below_alloc (below_alloc (below_alloc (Below.refl _ _) _) _) _) _).trans (hb2.mono (by simp; omega))
      have kO : w2.heap[w.heap.size]? = some (.cells #[.int .i64 op] 3 (0, 0)) := blk_below (blk_alloc (blk_alloc (blk_alloc (blk_new w _) _) _) _) hb2
      have kA : w2.heap[w.heap.size + 1]? = some (.cells #[.slice A l.length c] 22 (0, 0)) := blk_below (blk_alloc (blk_alloc (blk_new_at (by simp) _) _) _) hb2
      have kB : w2.heap[w.heap.size + 1 + 1]? = some (.cells #[.slice A2 l2.length c2] 22 (0, 0)) := blk_below (blk_alloc (blk_new_at (by simp) _) _) hb2
      have cA : w2.cell? ⟨w.heap.size + 1, 0, none⟩ = some (.slice A l.length c) := blk_cell kA 0
      replace hb3 := Aside0.mk hb3
      replace kO := Aside0.mk kO
      replace kA := Aside0.mk kA
      replace kB := Aside0.mk kB
      clear hb2
      go_wp2_with fail
      refine (each_all 58 #[] #[.pointer (some ⟨w.heap.size, 0, none⟩), .pointer (some ⟨w.heap.size + 1, 0, none⟩), .pointer (some ⟨w.heap.size + 1 + 1, 0, none⟩)] l.length (fun x => (word_Do.g op (rd l x) (rd l2 x)).1) (fun x => (word_Do.g op (rd l x) (rd l2 x)).2 == 0) _ Tryd.call58 (OK.out.1 l (by simp)) (fun x h0 hx W hW => prim_Bin1 x op w.heap.size (w.heap.size + 1) (w.heap.size + 1 + 1) A c l A2 c2 l2 W ((HG.out.below hb3.out).below hW) h0 hx (by rw [← hfit.out]; exact hx) (Kd.C_below (Kd.C_below HR.out hb3.out) hW) (Kd.C_below (Kd.C_below HR2.out hb3.out) hW) (pw_cell_below hW ((blk_cell kO.out 0).trans rfl)) (pw_cell_below hW ((blk_cell kA.out 0).trans rfl)) (pw_cell_below hW ((blk_cell kB.out 0).trans rfl)))).mono ?_
      rintro e w3 ⟨v, rfl, hv, hb4⟩
      go_wp2
      go_ret2
      exact Ret2.lift ⟨v, rfl, hv, hb4⟩ hb3.out
    · rw [if_neg h0]
      have z3 : (E != 0) = true := bne_iff_ne.mpr h0
      clear h0
      go_enter Tryd.func15, Tryd.ntmps15
      go_wp2_with fail
      refine (prim_words _ _ [l, l2] _ _ (lit_rows_at _ _ (by simp) _ _ _ _ rfl (rows_of2 (((HS.out.alloc _).alloc _).alloc _) (((HS2.out.alloc _).alloc _).alloc _)) (by simp))).mono ?_
      rw [← HE.out]
      rintro e w2 ⟨rfl, hb2⟩
      go_wp2
      go_ret2
      exact Ret2.nil E ((below_alloc (below_alloc (below_alloc (below_alloc (Below.refl _ _) _) _) _) _).trans (hb2.mono (by simp; omega)))
end Go.Proofs.YtpimackoadfcmaaDoor.Hand
