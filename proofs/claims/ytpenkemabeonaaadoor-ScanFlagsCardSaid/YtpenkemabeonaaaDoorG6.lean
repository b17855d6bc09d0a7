/- scan.isTower: the walk through the levels; its contract. -/
import Derived.Test.YtpenkemabeonaaaDoorG1
import Derived.Test.YtpenkemabeonaaaDoorG5
namespace Go.Proofs.YtpenkemabeonaaaDoor.Hand
open Go.RowKit Go.Proofs.YtpenkemabeonaaaDoorW.PrintWords Go.Proofs.YtpenkemabeonaaaDoorW.PrintLast Go.Proofs.YtpenkemabeonaaaDoorW.PrintMore
set_option linter.unusedVariables false
set_option linter.unusedSimpArgs false
attribute [local go_sem] store_func store_nilFunc
theorem run_towStore (ρ : Operand → Value) (o : Oper) (x y : Operand) (ho : o.op = .store 81 x y) (W : World) (g : Nat) (cells old : Array Value) (hx : ρ x = .pointer (some ⟨g, 0, none⟩)) (hy : ρ y = .agg cells)
    (hg : W.heap[g]? = some (.cells old 81 (0, 0))) (h0 : old.size = 22) (h2 : cells.size = 22) (h1 : cells.all (·.oneCell') = true) : (execOp ρ o).run Tryd.prog W = .ok .skip (W.setRow g cells) := by
  unfold execOp
  simp only [ho, hx, hy, Instr.storeAt, Instr.sureAddr, Sem.run_bind, Sem.run_pure, Result.andThen_ok, run_storeVar_row W g _ _ old cells hg (by rw [h2]; exact infoTow) (by rw [h0, h2]) h1]
/-- A tower has been stored: its cells, its levels. -/
structure TowFin (w : World) (op : Int) (l0 : List Int) (e t : Nat) (cs : Array Value) (W : World) : Prop where
  row : W.heap[t]? = some (.cells cs 81 (0, 0))
  many : cs[21]? = some (.int .i64 ((e : Int) + 1))
  lev : LevC op l0 e W cs
  below : Below w.heap.size w W
theorem TowFin.first {w W4 : World} {op : Int} {l0 : List Int} {e c g : Nat} {A : Option Addr} {cs : Array Value} (htc : TowC op l0 A c g e W4 cs) (hb : Below w.heap.size w W4) (h0 : Kd.C (Kd.int .i64) w A l0.length l0) :
    TowFin w op l0 e W4.heap.size cs ((W4.alloc (.cells towZero 81)).setRow W4.heap.size cs) := by
  have hbs := hb.size
  have hB : Below w.heap.size w ((W4.alloc (.cells towZero 81)).setRow W4.heap.size cs) := by
    have h1 := below_alloc hb (.cells towZero 81)
    exact ⟨h1.os, h1.tape, h1.output, by rw [size_setRow]; exact h1.size, fun k hk => (setRow_other _ _ k cs (by omega)).trans (h1.block k hk)⟩
  refine ⟨setRow_heap _ _ towZero cs _ _ (blk_new W4 _), htc.many, LevC.of (htc.move (fun i hi hl => ?_)) (Kd.C_below h0 hB), hB⟩
  rw [setRow_other _ _ i cs (by omega), Below.heap_alloc W4 _ i hl]
theorem TowFin.second {w W3 W4 : World} {op : Int} {l0 : List Int} {e c g : Nat} {A : Option Addr} {cs : Array Value} (htc : TowC op l0 A c g e W4 cs) (h3 : Below w.heap.size w W3) (hg : W3.heap.size + 1 ≤ g) (hb : Below (W3.heap.size + 1) (W3.alloc (.cells towZero 81)) W4) (h0 : Kd.C (Kd.int .i64) w A l0.length l0) :
    TowFin w op l0 e W3.heap.size cs (W4.setRow W3.heap.size cs) := by
  have hbs := h3.size
  have hr : W4.heap[W3.heap.size]? = some (.cells towZero 81 (0, 0)) := (hb.block _ (by omega)).trans (blk_new W3 _)
  have hB : Below w.heap.size w (W4.setRow W3.heap.size cs) := by
    have h1 := (below_alloc h3 (.cells towZero 81)).trans (hb.mono (by omega))
    exact ⟨h1.os, h1.tape, h1.output, by rw [size_setRow]; exact h1.size, fun k hk => (setRow_other _ _ k cs (by omega)).trans (h1.block k hk)⟩
  refine ⟨setRow_heap _ _ towZero cs _ _ hr, htc.many, LevC.of (htc.move (fun i hi hl => ?_)) (Kd.C_below h0 hB), hB⟩
  rw [setRow_other _ _ i cs (by omega)]
set_option maxHeartbeats 2000000 in
set_option maxRecDepth 100000 in
theorem scan_isTower_yes (op nn : Int) (O : Nat) (ad : Addr) (c e : Nat) (ls : List (List Int)) (A1 : Option Addr) (c1 : Nat) (w : World) (hT : Tabs w) (hO : OpAt w O op nn) (hr : kL.C w (some ad) ls.length ls) (hl : ls.length = e + 1) (hn : e ≤ 20) (hc : w.cell? ad = some (.slice A1 (ls.getD 0 []).length c1)) (hne : (ls.getD 0 []).length = 2 ^ e) (hE : wsE (ls.getD 0 []) = 0)
    (hr1 : Kd.C (Kd.int .i64) w A1 (ls.getD 0 []).length (ls.getD 0 [])) :
    Calls Tryd.prog 63 #[JV op nn O, .slice (some ad) (e + 1) c] w fun e w' => e = .returned (.bool (lvsI op (ls.getD 0 []) ls.length == ls)) ∧ Below w.heap.size w w' := by
  have HW : ∀ W, Below w.heap.size w W → Calls Tryd.prog 51 #[.slice A1 (ls.getD 0 []).length c1] W fun e w' => e = .returned (.int .i64 0) ∧ Drawn0 W w' := fun W hW => by have := scan_words A1 c1 _ W (Kd.C_below hr1 hW); rwa [hE] at this
  have HRa : Aside0 (∀ W, Below w.heap.size w W → Calls Tryd.prog 60 #[JV op nn O, .slice A1 (ls.getD 0 []).length c1] W fun en w' => ∃ cs g, en = .returned (.agg cs) ∧ W.heap.size ≤ g ∧ TowC op (ls.getD 0 []) A1 c1 g e w' cs ∧ Below W.heap.size W w') := ⟨fun W hW => scan_raise.run op nn O A1 c1 _ e W (hT.below hW) (blk_below hO hW) (Kd.C_below hr1 hW) hne hn⟩
  have HAll : Aside0 ((∀ k, k < e + 1 → lvlI op (ls.getD 0 []) k = ls.getD k []) → (lvsI op (ls.getD 0 []) ls.length == ls) = true) := ⟨fun h => lvsI_eq (by rw [hl]; exact h)⟩
  have HNo : Aside0 (∀ k, k < e + 1 → lvlI op (ls.getD 0 []) k ≠ ls.getD k [] → (lvsI op (ls.getD 0 []) ls.length == ls) = false) := ⟨fun k hk h => lvsI_ne (by omega) h⟩
  have HR := Aside0.mk hr
  have HR1 := Aside0.mk hr1
  have HL := Aside0.mk hl
  obtain ⟨B, hB⟩ : ∃ B, (lvsI op (ls.getD 0 []) ls.length == ls) = B := ⟨_, rfl⟩
  rw [hB] at HAll HNo
  rw [hB]
  clear hB hT hO hr hr1 hE hl
  refine calls_of_marks Tryd.func63 rfl ?_
  simp only [Tryd.ntmps63, List.size_toArray, List.length_cons, List.length_nil, Nat.reduceAdd, Nat.reduceSub, Array.replicate_succ, Array.replicate_zero, List.push_toArray, List.append_toArray, List.nil_append, List.cons_append]
  have hb2 : Below w.heap.size w (w.alloc (Obj.cells #[.int .i64 op, .int .i64 nn, .func (.func 77) #[] #[.pointer (some ⟨O, 0, none⟩)]] 70)).drew := below_drew (below_alloc (Below.refl _ _) _)
  have hc2 : (w.alloc (Obj.cells #[.int .i64 op, .int .i64 nn, .func (.func 77) #[] #[.pointer (some ⟨O, 0, none⟩)]] 70)).drew.cell? ad = some (.slice A1 (ls.getD 0 []).length c1) := pw_cell_below hb2 hc
  have z5 := wrap_pow e hn
  rw [← hne] at z5
  replace HW := Aside0.mk (HW _ hb2)
  have HC0 := Aside0.mk hc
  have HJ0 := Aside0.mk (blk_new w (Obj.cells #[.int .i64 op, .int .i64 nn, .func (.func 77) #[] #[.pointer (some ⟨O, 0, none⟩)]] 70))
  clear hne hb2
  generalize hl0 : ls.getD 0 [] = l0 at *
  clear hl0
  have z1 : (((e : Int) + 1) == 0) = false := by rw [beq_eq_false_iff_ne]; omega
  have z2 : (decide ((21 : Int) < ((e : Int) + 1))) = false := by rw [decide_eq_false_iff_not]; omega
  have z4 : IntKind.i64.wrap (e : Int) = (e : Int) := by rw [i64_w]; unfold wrap64; omega
  go_wp2
  go_region_held3 (fun W => W.cell? ad = some (.slice A1 l0.length c1)) (go_keep)
    (first | (go_at_call 51; (with_reducible refine (HW.out).mono ?_); rintro e w2 ⟨rfl, m2, rfl⟩))
  have HB2 := Aside0.mk (pw_below_drewN (below_alloc (Below.refl w.heap.size w) (Obj.cells #[.int .i64 op, .int .i64 nn, .func (.func 77) #[] #[.pointer (some ⟨O, 0, none⟩)]] 70)) (1 + m2))
  replace HJ0 : Aside0 (((w.alloc (Obj.cells #[.int .i64 op, .int .i64 nn, .func (.func 77) #[] #[.pointer (some ⟨O, 0, none⟩)]] 70)).drewN (1 + m2)).heap[w.heap.size]? = some (.cells #[.int .i64 op, .int .i64 nn, .func (.func 77) #[] #[.pointer (some ⟨O, 0, none⟩)]] 70 (0, 0))) := HJ0
  clear z1 z2 z4 z5 hc2 HW hc
  generalize (w.alloc _).drewN (1 + m2) = w3 at *
  have HS : Aside0 (∀ W, Below w3.heap.size w3 W → W.cell? ⟨w.heap.size, 0, none⟩ = some (.int .i64 op) ∧ W.cell? ⟨w.heap.size, 1, none⟩ = some (.int .i64 nn) ∧ W.cell? ⟨w.heap.size, 2, none⟩ = some (.func (.func 77) #[] #[.pointer (some ⟨O, 0, none⟩)]) ∧ W.cell? ad = some (.slice A1 l0.length c1)) :=
    ⟨fun W hW => ⟨blk_cell (blk_below HJ0.out hW) 0, blk_cell (blk_below HJ0.out hW) 1, blk_cell (blk_below HJ0.out hW) 2, pw_cell_below (HB2.out.trans (hW.mono HB2.out.size)) HC0.out⟩⟩
  go_wp2
  refine wp_region_any (by kernel_rfl) ?_
  change wpAny _ _ _ _ _ _ _ w3.drew
  have hb3d : Below w3.heap.size w3 w3.drew := below_drew (Below.refl _ _)
  have hB3d : Below w.heap.size w w3.drew := below_drew HB2.out
  refine region_anyI2 (fun W => W.cell? ⟨w.heap.size, 0, none⟩ = some (.int .i64 op) ∧ W.cell? ⟨w.heap.size, 1, none⟩ = some (.int .i64 nn) ∧ W.cell? ⟨w.heap.size, 2, none⟩ = some (.func (.func 77) #[] #[.pointer (some ⟨O, 0, none⟩)]) ∧ W.cell? ad = some (.slice A1 l0.length c1)) [0, 1, 2, 3] 4 5 [5, 6] [4, 6] [6] (by kernel_rfl) (by kernel_rfl) (by kernel_rfl) (by kernel_rfl) (by kernel_rfl) rfl (by kernel_rfl) (by kernel_rfl) rfl (fun _ _ _ h => h) (HS.out _ hb3d) ?_
  iterate 4 refine ReadsI.step _ rfl rfl (fun W hW => by obtain ⟨k1, k2, k3, k4⟩ := hW; go_simp; first | rfl | done) ?_
  change TailL _ _ _ _ _ _ _ ∧ TailL _ _ _ _ _ _ _
  constructor
  case' left =>
    refine TailL.call rfl rfl (by go_simp) (HRa.out w3.drew hB3d) ?_
    rintro en w4 ⟨cs, g', rfl, hg', htc, hb4⟩
    refine ⟨_, rfl, fun _ => HS.out _ (hb3d.trans hb4), ?_⟩
    refine TailL.val rfl rfl (run_towAlloc _ _ rfl w4) (fun _ => HS.out _ ((hb3d.trans hb4).alloc (hb3d.trans hb4).size _)) ?_
    refine TailL.skip rfl rfl rfl (run_towStore _ _ _ _ rfl _ w4.heap.size cs towZero (by go_simp) (by go_simp) (blk_new w4 _) rfl htc.size htc.ones) (fun h => absurd rfl h) ?_
    have HF := Aside0.mk (TowFin.first htc (hB3d.trans (hb4.mono hB3d.size)) HR1.out)
    clear htc hb4 hg'
    generalize (w4.alloc _).setRow _ cs = W6 at *
    generalize w4.heap.size = t at *
  case' right =>
    refine TailL.val rfl rfl (run_towAlloc _ _ rfl w3.drew) (fun _ => HS.out _ (hb3d.alloc hb3d.size _)) ?_
    refine TailL.call rfl rfl (by go_simp) (HRa.out _ (below_alloc hB3d _)) ?_
    rintro en w4 ⟨cs, g', rfl, hg', htc, hb4⟩
    have hb4' : Below (w3.drew.heap.size + 1) (w3.drew.alloc (.cells towZero 81)) w4 := by simpa using hb4
    refine ⟨_, rfl, fun _ => HS.out _ ((hb3d.alloc hb3d.size _).trans (hb4'.mono (by have := hb3d.size; omega))), ?_⟩
    refine TailL.skip rfl rfl rfl (run_towStore _ _ _ _ rfl _ w3.drew.heap.size cs towZero (by go_simp) (by go_simp) ((hb4'.block _ (by omega)).trans (blk_new w3.drew _)) rfl htc.size htc.ones) (fun h => absurd rfl h) ?_
    have HF := Aside0.mk (TowFin.second htc hB3d (by simpa using hg') hb4' HR1.out)
    clear htc hb4 hb4' hg'
    generalize w4.setRow _ cs = W6 at *
    generalize w3.drew.heap.size = t at *
  all_goals
    (unfold TailL
     simp only [List.getElem_toArray, List.getElem_cons_succ, List.getElem_cons_zero, Act.put, List.setIfInBounds_toArray, List.set_cons_zero, List.set_cons_succ]
     have c21 := (blk_cell HF.out.row 21).trans HF.out.many
     clear hb3d hB3d
     go_wp2
     go_loopw [40] (fun i W => ∃ k : Nat, i = .int .i64 (k : Int) ∧ k ≤ e + 1 ∧ Aside0 (Below W6.heap.size W6 W) ∧ Aside0 (∀ j, j < k → lvlI op l0 j = ls.getD j [])) (fun i _ => e + 1 - (intOf i).toNat)
     case atStart => exact ⟨0, rfl, by omega, ⟨Below.refl _ _⟩, ⟨fun j hj => by omega⟩⟩
     case round =>
       obtain ⟨k, rfl, hk, hb, hAll⟩ := hrel
       by_cases hke : k < e + 1
       · obtain ⟨ad2, A3, c3, hA, hc3, _, hr3⟩ := lists_at (Kd.C_below HR.out (HF.out.below.trans (hb.out.mono HF.out.below.size))) k (by have := HL.out; omega)
         cases hA
         obtain ⟨A2, c2, hcs2, hr2⟩ := (LevC.below HF.out.lev hb.out) k (by omega)
         have hc2 : wr.cell? ⟨t, k, none⟩ = some (.slice A2 (lvlI op l0 k).length c2) := pw_cell_below hb.out ((blk_cell HF.out.row k).trans hcs2)
         have HEq := Aside0.mk (slices_Equal A2 c2 _ A3 c3 _ wr.drew (Kd.C_below hr2 (below_drew (Below.refl _ _))) (Kd.C_below hr3 (below_drew (Below.refl _ _))))
         have hno := Aside0.mk (HNo.out k hke)
         have hk21 : k < 21 := by omega
         generalize hq : (lvlI op l0 k == ls.getD k []) = q at HEq
         replace hq := Aside0.mk hq
         clear hr2 hr3 hcs2
         generalize (lvlI op l0 k).length = n2 at *
         generalize (ls.getD k []).length = n3 at *
         cases q
         · go_wp2
           have hki : (k : Int) < 21 := by omega
           go_region_held3 (fun W => W.cell? ⟨t, k, none⟩ = some (.slice A2 n2 c2) ∧ W.cell? (ad.add k) = some (.slice A3 n3 c3)) (go_keep)
             (first | (go_at_call 81; (with_reducible refine (HEq.out).mono ?_); rintro e w5 ⟨rfl, m5, rfl⟩))
           go_wp2
           refine marksRet ?_
           refine Marks.zero _ (results_tmp rfl _ _ _) ?_
           exact ⟨by rw [hno.out (by have := hq.out; rwa [beq_eq_false_iff_ne] at this)]; rfl, pw_below_drewN (HF.out.below.trans (hb.out.mono HF.out.below.size)) _⟩
         · go_wp2
           have hki : (k : Int) < 21 := by omega
           go_region_held3 (fun W => W.cell? ⟨t, k, none⟩ = some (.slice A2 n2 c2) ∧ W.cell? (ad.add k) = some (.slice A3 n3 c3)) (go_keep)
             (first | (go_at_call 81; (with_reducible refine (HEq.out).mono ?_); rintro e w5 ⟨rfl, m5, rfl⟩))
           go_wp2
           go_roundw
           case rel => exact ⟨k + 1, by simp, by omega, ⟨pw_below_drewN hb.out _⟩, ⟨fun j hj => by
             by_cases h : j = k
             · subst h
               exact beq_iff_eq.1 hq.out
             · exact hAll.out j (by omega)⟩⟩
           case measure => simp [intOf]; omega
       · go_wp2
         refine marksRet ?_
         refine Marks.zero _ (results_tmp rfl _ _ _) ?_
         exact ⟨by rw [HAll.out (fun j hj => hAll.out j (by omega))]; rfl, HF.out.below.trans (hb.out.mono HF.out.below.size)⟩)
theorem scan_isTower.run (op nn : Int) (O : Nat) (A : Option Addr) (c : Nat) (ls : List (List Int)) (w : World) (hT : Tabs w) (hO : OpAt w O op nn) (hr : kL.C w A ls.length ls) :
    Calls Tryd.prog 63 #[JV op nn O, .slice A ls.length c] w fun e w' => e = .returned (.bool (isTower.g op ls)) ∧ Below w.heap.size w w' := by
  unfold isTower.g
  by_cases hp : towPre ls = true
  · rw [hp, Bool.true_and]
    simp only [towPre, Bool.and_eq_true, bne_iff_ne, ne_eq, decide_eq_true_eq, beq_iff_eq] at hp
    obtain ⟨⟨⟨h1, h2⟩, h3⟩, h4⟩ := hp
    obtain ⟨e, he⟩ : ∃ e, ls.length = e + 1 := ⟨ls.length - 1, by omega⟩
    obtain ⟨ad, A1, c1, hA, hc, _, hr1⟩ := lists_at hr 0 (by omega)
    cases hA
    have := scan_isTower_yes op nn O ad c e ls A1 c1 w hT hO hr he (by omega) hc (by rw [h3, he]; rfl) h4 hr1
    rwa [← he] at this
  · rw [Bool.not_eq_true] at hp
    rw [hp, Bool.false_and]
    have hmax : ls.length ≤ 9223372036854775807 := hr.2.1
    by_cases h1 : ls.length = 0 ∨ 21 < ls.length
    · exact scan_isTower_no1 op nn O A c ls.length w (by omega)
    · obtain ⟨e, he⟩ : ∃ e, ls.length = e + 1 := ⟨ls.length - 1, by omega⟩
      obtain ⟨ad, A1, c1, hA, hc, _, hr1⟩ := lists_at hr 0 (by omega)
      cases hA
      rw [he]
      by_cases h3 : (ls.getD 0 []).length = 2 ^ e
      · refine scan_isTower_no4 op nn O ad c e A1 _ c1 (wsE (ls.getD 0 [])) w (by omega) hc h3 (fun h4 => ?_) (fun W hW => scan_words A1 c1 _ W (Kd.C_below hr1 hW))
        have : towPre ls = true := by
          simp only [towPre, Bool.and_eq_true, bne_iff_ne, ne_eq, decide_eq_true_eq, beq_iff_eq]
          exact ⟨⟨⟨by omega, by omega⟩, by rw [h3, he]; rfl⟩, h4⟩
        rw [hp] at this
        cases this
      · exact scan_isTower_no3 op nn O ad c e A1 _ c1 w (by omega) hc h3
end Go.Proofs.YtpenkemabeonaaaDoor.Hand
/- scan.Down: what it computes. -/
namespace Go.Proofs.YtpenkemabeonaaaDoor.Hand
open Go.RowKit Go.Proofs.YtpenkemabeonaaaDoorW.PrintWords Go.Proofs.YtpenkemabeonaaaDoorW.PrintLast Go.Proofs.YtpenkemabeonaaaDoorW.PrintMore
set_option linter.unusedVariables false
set_option linter.unusedSimpArgs false
/-- A level's scan, as far as it is written. -/
def downTo (op : Int) (now lv : List Int) : Nat → List Int
  | 0 => List.replicate lv.length 0
  | i + 1 => ((downTo op now lv i).set (2 * i) (rd now (i : Int))).set (2 * i + 1) (joinI op (rd now (i : Int)) (rd lv ((2 * i : Nat) : Int)))
theorem downTo_length (op : Int) (now lv : List Int) : ∀ i, (downTo op now lv i).length = lv.length
  | 0 => by simp [downTo]
  | i + 1 => by rw [downTo, List.length_set, List.length_set, downTo_length op now lv i]
/-- The scans, going down so many levels. -/
def downAt (op nn : Int) (ls : List (List Int)) : Nat → List Int
  | 0 => [nn]
  | s + 1 => downTo op (downAt op nn ls s) (ls.getD (ls.length - 2 - s) []) (downAt op nn ls s).length
theorem tower_level {op : Int} {ls : List (List Int)} (h : isTower.g op ls = true) : ∃ e, ls.length = e + 1 ∧ e ≤ 20 ∧ (∀ k, k ≤ e → (ls.getD k []).length = 2 ^ (e - k)) ∧ ∀ k, k ≤ e → ls.getD k [] = lvlI op (ls.getD 0 []) k := by
  simp only [isTower.g, towPre, Bool.and_eq_true, bne_iff_ne, ne_eq, decide_eq_true_eq, beq_iff_eq] at h
  obtain ⟨⟨⟨⟨h1, h2⟩, h3⟩, h4⟩, h5⟩ := h
  obtain ⟨e, he⟩ : ∃ e, ls.length = e + 1 := ⟨ls.length - 1, by omega⟩
  have hl : (ls.getD 0 []).length = 2 ^ e := by rw [h3, he]; rfl
  have hk : ∀ k, k ≤ e → ls.getD k [] = lvlI op (ls.getD 0 []) k := by
    intro k hk
    have h6 := lvsI_get op (ls.getD 0 []) (show k < ls.length by omega)
    rw [h5] at h6
    rw [List.getD_eq_getElem?_getD (l := ls) (i := k), h6]
    rfl
  exact ⟨e, he, by omega, fun k hk2 => by rw [hk k hk2]; exact lvlI_length op _ e hl k hk2, hk⟩
theorem downAt_length {op : Int} (nn : Int) {ls : List (List Int)} {e : Nat} (he : ls.length = e + 1) (hl : ∀ k, k ≤ e → (ls.getD k []).length = 2 ^ (e - k)) : ∀ s, s ≤ e → (downAt op nn ls s).length = 2 ^ s
  | 0, _ => rfl
  | s + 1, hs => by
    rw [downAt, downTo_length, hl _ (by omega), show e - (ls.length - 2 - s) = s + 1 by omega]
def scan_Down.g (op : Int) (ls : List (List Int)) (many : Int) : List Int × Int :=
  if (neutG op).2 = 0 then (if isTower.g op ls then (if many < 0 ∨ ((ls.getD 0 []).length : Int) < many then ([], 2) else ((downAt op (neutG op).1 ls (ls.length - 1)).take many.toNat, 0)) else ([], 8)) else ([], (neutG op).2)
end Go.Proofs.YtpenkemabeonaaaDoor.Hand
/- scan.Down: the walk. -/
namespace Go.Proofs.YtpenkemabeonaaaDoor.Hand
open Go.RowKit Go.Proofs.YtpenkemabeonaaaDoorW.PrintWords Go.Proofs.YtpenkemabeonaaaDoorW.PrintLast Go.Proofs.YtpenkemabeonaaaDoorW.PrintMore
set_option linter.unusedVariables false
set_option linter.unusedSimpArgs false
attribute [local go_sem] store_func store_nilFunc
theorem R_one (W : World) (x : Int) : (Kd.int .i64).R 3 (W.alloc (.cells #[.int .i64 x] 3)) W.heap.size (fun b => W.heap.size ≤ b) (.slice (some ⟨W.heap.size, 0, none⟩) 1 1) [x] :=
  Kd.R_of_own (enc := Value.int .i64) (h1 := fun _ => rfl) ⟨rfl, .inr ⟨W.heap.size, 1, #[.int .i64 x], rfl, Nat.le_refl _, blk_new W _, Nat.le_refl _, by decide, rfl, rfl⟩⟩ (fun k hk => by
    have : W.heap.size = k := by simpa [Value.ownBlock] using hk
    omega)
set_option maxHeartbeats 2000000 in
set_option maxRecDepth 100000 in
theorem scan_Down_yes (op nn : Int) (ad : Addr) (c e m : Nat) (ls : List (List Int)) (w : World) (hT : Tabs w) (hr : kL.C w (some ad) ls.length ls) (h1 : neutG op = (nn, 0)) (h2 : isTower.g op ls = true) (he : ls.length = e + 1) (h20 : e ≤ 20) (hlen : ∀ k, k ≤ e → (ls.getD k []).length = 2 ^ (e - k)) (hm : m ≤ (ls.getD 0 []).length) :
    Calls Tryd.prog 27 #[.int .i64 op, .slice (some ad) (e + 1) c, .int .i64 (m : Int)] w (Ret2 w ((downAt op nn ls e).take m, 0)) := by
  have HOf := Aside0.mk (BlkSt.of w op nn hT h1)
  have HIt : Aside0 (∀ O W, Below w.heap.size w W → OpAt W O op nn → Calls Tryd.prog 63 #[JV op nn O, .slice (some ad) (e + 1) c] W fun e w' => e = .returned (.bool true) ∧ Below W.heap.size W w') := ⟨fun O W hW hO => by
    have := scan_isTower.run op nn O (some ad) c ls W (hT.below hW) hO (Kd.C_below hr hW)
    rwa [he, h2] at this⟩
  have hp20 : (ls.getD 0 []).length ≤ 1048576 := by
    rw [hlen 0 (by omega)]
    exact Nat.le_trans (Nat.pow_le_pow_right (by decide) (show e - 0 ≤ 20 by omega)) (by decide)
  have HT := Aside0.mk hT
  have HR := Aside0.mk hr
  have HL := Aside0.mk hlen
  have HE := Aside0.mk he
  have HDl : Aside0 (∀ s, s ≤ e → (downAt op nn ls s).length = 2 ^ s) := ⟨downAt_length nn he hlen⟩
  have HDs : Aside0 (∀ s, downAt op nn ls (s + 1) = downTo op (downAt op nn ls s) (ls.getD (e - 1 - s) []) (downAt op nn ls s).length) := ⟨fun s => by rw [downAt, he, show e + 1 - 2 - s = e - 1 - s by omega]⟩
  obtain ⟨RR, hRR⟩ : ∃ R, ((downAt op nn ls e).take m, (0 : Int)) = R := ⟨_, rfl⟩
  have HRR := Aside0.mk hRR
  rw [hRR]
  obtain ⟨ad0, A1, c1, hA, hc, _, hr1⟩ := lists_at hr 0 (by omega)
  cases hA
  have HC0 : Aside0 (∀ W, Below w.heap.size w W → W.cell? ad = some (.slice A1 (ls.getD 0 []).length c1)) := ⟨fun W hW => pw_cell_below hW hc⟩
  clear hT hr h1 h2 hRR hlen he hr1 hc
  generalize hn0 : (ls.getD 0 []).length = n0 at *
  replace hn0 := Aside0.mk hn0
  refine calls_of_marks Tryd.func27 rfl ?_
  simp only [Tryd.ntmps27, List.size_toArray, List.length_cons, List.length_nil, Nat.reduceAdd, Nat.reduceSub, Array.replicate_succ, Array.replicate_zero, List.push_toArray, List.append_toArray, List.nil_append, List.cons_append]
  go_wp2_with (first
    | (go_at_call 50; (with_reducible refine (HOf.out).mono ?_); rintro e w1 ⟨O, rfl, hst⟩; have d0 := blk_cell hst.jn 0; have d1 := blk_cell hst.jn 1; have d2 := blk_cell hst.jn 2; replace hst := Aside0.mk hst)
    | (go_at_call 63; (with_reducible refine (HIt.out _ _ (by exact BlkSt.below (Aside0.out (by assumption))) (by exact BlkSt.opAt (Aside0.out (by assumption)))).mono ?_); rintro en w2 ⟨rfl, hb2⟩; replace hst := Aside0.mk (hst.out.next hb2); clear hb2; have hc0 := HC0.out _ hst.out.below; have e1 := blk_cell hst.out.jn 1))
  have hR0 := Aside0.mk (R_one w2 nn)
  have hB0 := Aside0.mk (below_alloc (Below.refl w2.heap.size w2) (Obj.cells #[.int .i64 nn] 3))
  have hw2 := hst.out.below.size
  have hbJ := blk_lt hst.out.jn
  generalize w1.heap.size = bJ at *
  clear d0 d1 d2 hc0 e1
  generalize (decide ((m : Int) < 0) || decide (n0 < m)) = q1
  generalize decide (n0 < m) = q2
  generalize decide ((m : Int) < 0) = q3
  go_loopw [10, 11] (fun v i W => ∃ (s : Nat) (kz : Int), i = .int .i64 kz ∧ s ≤ e ∧ Aside0 (kz = (e : Int) - 1 - (s : Int)) ∧ Aside0 (Below w2.heap.size w2 W) ∧ Aside0 ((Kd.int .i64).R 3 W w2.heap.size (fun b => w2.heap.size ≤ b) v (downAt op nn ls s))) (fun _ i _ => (intOf i + 1).toNat)
  case atStart => exact ⟨0, _, rfl, by omega, ⟨by omega⟩, hB0, hR0⟩
  case round =>
    revert wr
    intro wo hrel
    obtain ⟨s, kz, rfl, hs, hkz, hb, hRn⟩ := hrel
    have hbs := hb.out.size
    obtain ⟨A7, c7, rfl⟩ := Kd.R_slice hRn.out
    by_cases hse : s < e
    · obtain ⟨kk, rfl⟩ : ∃ kk : Nat, kz = (kk : Int) := ⟨kz.toNat, by have := hkz.out; omega⟩
      have hkk : kk = e - 1 - s := by have := hkz.out; omega
      have hke : kk < e + 1 := by omega
      have hst2 := Aside0.mk (hst.out.next hb.out)
      obtain ⟨ad5, A5, c5, hA5, hc5, _, hr5⟩ := lists_at (Kd.C_below HR.out hst2.out.below) kk (by have := HE.out; omega)
      cases hA5
      have hlv : (ls.getD kk []).length = 2 * 2 ^ s := by rw [HL.out kk (by omega), show e - kk = s + 1 by omega, Nat.pow_succ, Nat.mul_comm]
      have hnl := HDl.out s hs
      have hq20 : 2 ^ s ≤ 524288 := Nat.le_trans (Nat.pow_le_pow_right (by decide) (show s ≤ 19 by omega)) (by decide)
      have hq1 : 0 < 2 ^ s := Nat.pos_of_ne_zero (by simp)
      have hds := Aside0.mk (HDs.out s)
      rw [← hkk] at hds
      generalize 2 ^ s = q at *
      generalize ls.getD kk [] = lv at *
      generalize downAt op nn ls s = now at *
      replace hr5 := Aside0.mk hr5
      obtain rfl : q = now.length := hnl.symm
      have hdl := Aside0.mk (downTo_length op now lv)
      have hd0 : Aside0 (downTo op now lv 0 = List.replicate lv.length 0) := ⟨rfl⟩
      have hd1 : Aside0 (∀ i, downTo op now lv (i + 1) = ((downTo op now lv i).set (2 * i) (rd now (i : Int))).set (2 * i + 1) (joinI op (rd now (i : Int)) (rd lv ((2 * i : Nat) : Int)))) := ⟨fun _ => rfl⟩
      generalize downTo op now lv = dt at *
      replace hlv := Aside0.mk hlv
      clear hkk hnl
      generalize lv.length = n at *
      have hnz : (0 : Int) ≤ (n : Int) := by omega
      go_wp2_with ((with_reducible refine gate_ (.makeSlice 22 (.tmp 52) (.tmp 52)) rfl ?_); refine Kd.R_make (Kd.int .i64) (w0 := wo) wo.heap.size 3 rfl rfl 22 (.tmp 52) (.tmp 52) rfl (n : Int) rfl rfl Tryd.underlying22 (.int .i64 0) 8 infoInt rfl (by decide) (by decide) 0 (ok := fun b => wo.heap.size ≤ b) (okp := fun _ => False) rfl (fun _ h => h.elim) (Nat.le_refl _) hnz (by have := hlv.out; omega) (Below.refl _ _) (Nat.le_refl _) ?_; intro v6 w6 hR6 hb6 hg6 hat6; replace hR6 := Aside0.mk hR6; replace hb6 := Aside0.mk hb6; clear hg6 hat6)
      have hn2 : n = 2 * now.length := hlv.out
      have hb6s := hb6.out.size
      rw [Int.toNat_natCast, ← hd0.out] at hR6
      obtain ⟨A6, c6, rfl⟩ := Kd.R_slice hR6.out
      rw [hdl.out 0] at hR6 ⊢
      obtain ⟨g, rfl, hg⟩ := R_addr hR6.out (by omega)
      replace hn2 := Aside0.mk hn2
      go_loopw [56] (fun i W => ∃ x : Nat, i = .int .i64 (x : Int) ∧ x ≤ now.length ∧ Aside0 (Below wo.heap.size wo W) ∧ Aside0 ((Kd.int .i64).R 3 W wo.heap.size (fun b => wo.heap.size ≤ b) (.slice (some ⟨g, 0, none⟩) n c6) (dt x))) (fun i _ => now.length - (intOf i).toNat)
      case atStart => exact ⟨0, rfl, by omega, hb6, hR6⟩
      case round =>
        obtain ⟨x, rfl, hx, hbx, hRx⟩ := hrel
        by_cases hxl : x < now.length
        · obtain ⟨p, hp⟩ : ∃ p, p = 2 * x := ⟨_, rfl⟩
          have hnn := hn2.out
          have hp3 : p < n := by omega
          have hp4 : p + 1 < n := by omega
          have hwq : IntKind.i64.wrap (2 * (x : Int)) = (p : Int) := by rw [i64_w]; unfold wrap64; omega
          have hwr : IntKind.i64.wrap ((p : Int) + 1) = ((p + 1 : Nat) : Int) := by rw [i64_w]; unfold wrap64; omega
          obtain ⟨ad7, e7, hx7⟩ := Kd.at_int (Kd.R_reads' (Kd.R_below hRn.out hbx.out)).2.2 (x : Int) (by omega) (by omega)
          cases e7
          obtain ⟨ad9, e9, hx9⟩ := Kd.at_int hr5.out (p : Int) (by omega) (by omega)
          cases e9
          rw [Int.toNat_natCast] at hx7 hx9
          have hdx : Aside0 (dt (x + 1) = ((dt x).set p (rd now (x : Int))).set (p + 1) (joinI op (rd now (x : Int)) (rd lv (p : Int)))) := ⟨by rw [hd1.out, hp]⟩
          have HJ : Aside0 (∀ W, BlkSt w op nn O bJ W → Calls Tryd.prog 77 #[.int .i64 (rd now (x : Int)), .int .i64 (rd lv (p : Int)), .pointer (some ⟨O, 0, none⟩)] W fun e W' => e = .returned (.int .i64 (joinI op (rd now (x : Int)) (rd lv (p : Int)))) ∧ Below W.heap.size W W') := ⟨fun W hW => joiner_by op nn _ _ O W hW.opAt (HT.out.below hW.below).deeds⟩
          generalize joinI op (rd now (x : Int)) (rd lv (p : Int)) = jj at *
          generalize rd now (x : Int) = a1 at *
          generalize rd lv (p : Int) = a2 at *
          have hdlx := Aside0.mk (hdl.out x)
          generalize dt x = xs at *
          have HS : Aside0 (∀ W, Below wo.heap.size wo W → W.cell? ⟨bJ, 2, none⟩ = some (.func (.func 77) #[] #[.pointer (some ⟨O, 0, none⟩)]) ∧ W.cell? (ad.add kk) = some (.slice (some ad9) n c5) ∧ W.cell? (ad9.add p) = some (.int .i64 a2)) :=
            ⟨fun W hW => ⟨pw_cell_below hW (blk_cell hst2.out.jn 2), pw_cell_below hW hc5, pw_cell_below hW hx9⟩⟩
          have hAdd : Aside0 ((⟨g, 0, none⟩ : Addr).add p = ⟨g, p, none⟩) := ⟨by by_cases hp0 : p = 0 <;> simp [Addr.add, hp0]⟩
          have hR0' := Aside0.mk hRx.out
          have hg0 := Aside0.mk hg
          replace hp := Aside0.mk hp
          generalize hadr : (⟨g, 0, none⟩ : Addr) = adr at *
          have hadr2 : Aside0 (adr.block = g ∧ adr.off = 0) := ⟨by rw [← hadr]; exact ⟨rfl, rfl⟩⟩
          replace hadr := Aside0.mk hadr
          clear hx9 hnn
          go_wp2
          refine wp_region_any (by kernel_rfl) ?_
          change wpAny _ _ _ _ _ _ _ wr.drew
          have hbd : Below wo.heap.size wo wr.drew := hbx.out.trans (below_drew (Below.refl _ _))
          refine region_anyI (fun W => W.cell? ⟨bJ, 2, none⟩ = some (.func (.func 77) #[] #[.pointer (some ⟨O, 0, none⟩)]) ∧ W.cell? (ad.add kk) = some (.slice (some ad9) n c5) ∧ W.cell? (ad9.add p) = some (.int .i64 a2)) [0, 1, 2, 3, 4, 5, 6, 7, 8, 9, 10, 11, 12, 13, 14, 15, 16, 17, 18] [19, 20, 21, 22, 23] [23] (by kernel_rfl) (by kernel_rfl) (by kernel_rfl) (by kernel_rfl) rfl (fun _ _ _ h => h) (HS.out _ hbd) ?_
          iterate 19 refine ReadsI.step _ rfl rfl (fun W hW => by obtain ⟨k1, k2, k3⟩ := hW; go_simp; first | rfl | done | (rw [if_pos (by omega)])) ?_
          change TailL _ _ _ _ _ _ _
          refine TailL.call rfl rfl (by go_simp) (HJ.out wr.drew (hst2.out.next hbd)) ?_
          rintro en w4 ⟨rfl, hb4⟩
          have hB4 : Below wo.heap.size wo w4 := hbd.trans (hb4.mono hbd.size)
          refine ⟨_, rfl, fun _ => HS.out _ hB4, ?_⟩
          have hR4 : (Kd.int .i64).R 3 w4 wo.heap.size (fun b => wo.heap.size ≤ b) (.slice (some ⟨g, 0, none⟩) n c6) xs := by
            rw [hadr.out]
            exact Kd.R_below (Kd.R_drew hR0'.out) hb4
          have hcf := Kd.R_celln (0 : Int) hR4 (p : Int) (by omega) (by omega)
          rw [Int.toNat_natCast, ← hAdd.out] at hcf
          obtain ⟨hc4, hf4⟩ := hcf
          have hR5 := (Kd.R_putg hR4 (p : Int) a1).1
          rw [Int.toNat_natCast, ← hAdd.out] at hR5
          have hcf5 := Kd.R_celln (0 : Int) hR5 ((p + 1 : Nat) : Int) (by omega) (by omega)
          rw [Int.toNat_natCast, show (⟨g, p + 1, none⟩ : Addr) = ⟨adr.block, adr.off + (p + 1), none⟩ by rw [hadr2.out.1, hadr2.out.2, Nat.zero_add]] at hcf5
          obtain ⟨hc5', hf5⟩ := hcf5
          have hR6x := (Kd.R_putg hR5 ((p + 1 : Nat) : Int) jj).1
          rw [Int.toNat_natCast, show (⟨g, p + 1, none⟩ : Addr) = ⟨adr.block, adr.off + (p + 1), none⟩ by rw [hadr2.out.1, hadr2.out.2, Nat.zero_add], hadr.out] at hR6x
          have hB5 : Below wo.heap.size wo (w4.setCell (adr.add p) (.int .i64 a1)) := by
            rw [hAdd.out]
            exact hB4.setCell hg0.out _
          have hB6x : Below wo.heap.size wo ((w4.setCell (adr.add p) (.int .i64 a1)).setCell ⟨adr.block, adr.off + (p + 1), none⟩ (.int .i64 jj)) := hB5.setCell (by show wo.heap.size ≤ adr.block; rw [hadr2.out.1]; exact hg0.out) _
          replace hR6x := Aside0.mk hR6x
          replace hB6x := Aside0.mk hB6x
          clear hR4 hR5 hb4
          refine TailL.val rfl rfl (by first | (go_simp; done) | (go_simp; first | rfl | exact ⟨rfl, rfl⟩)) (fun _ => HS.out _ (by first | exact hB4 | assumption)) ?_
          refine TailL.skip rfl rfl rfl (by first | (go_simp; done) | (go_simp; first | rfl | exact ⟨rfl, rfl⟩)) (fun _ => HS.out _ hB5) ?_
          refine TailL.val rfl rfl (by go_simp; rw [if_pos (by omega)]) (fun _ => HS.out _ hB5) ?_
          refine TailL.skip rfl rfl rfl (by first | (go_simp; done) | (go_simp; first | rfl | exact ⟨rfl, rfl⟩)) (fun h => absurd rfl h) ?_
          unfold TailL
          simp only [List.getElem_toArray, List.getElem_cons_succ, List.getElem_cons_zero, Act.put, List.setIfInBounds_toArray, List.set_cons_zero, List.set_cons_succ]
          clear hB5 hc4 hf4 hc5' hf5 hbd hB4 hwq hwr
          generalize (w4.setCell (adr.add p) (.int .i64 a1)).setCell ⟨adr.block, adr.off + (p + 1), none⟩ (.int .i64 jj) = w5 at *
          go_wp2
          go_roundw
          case rel => exact ⟨x + 1, by simp, by omega, hB6x, ⟨by rw [hdx.out]; exact hR6x.out⟩⟩
          case measure => simp [intOf]; omega
        · obtain rfl : x = now.length := by omega
          go_wp2
          go_roundw
          case rel => exact ⟨s + 1, (kk : Int) - 1, by simp, by omega, ⟨by have := hkz.out; omega⟩, ⟨hb.out.trans (hbx.out.mono hbs)⟩, ⟨by rw [hds.out]; exact Kd.R_mono (Kd.R_lower hRx.out hbs) (fun b hb => Nat.le_trans hbs hb)⟩⟩
          case measure => simp [intOf]
    · obtain rfl : s = e := by omega
      have hln := HDl.out s (Nat.le_refl _)
      have hl0 := HL.out 0 (by omega)
      rw [Nat.sub_zero, ← hln, hn0.out] at hl0
      generalize downAt op nn ls s = now at *
      obtain rfl : n0 = now.length := hl0
      have hcap := (Kd.R_reads' hRn.out).2.1
      have hcp := R_cap hRn.out
      obtain rfl : kz = -1 := by have := hkz.out; omega
      clear hln
      go_wp2
      have htl : (now.take m).length = m := by rw [List.length_take]; omega
      have hF := Kd.F_take (Kd.R_F hRn.out) hm
      unfold MarksPost
      refine Marks.zero _ (results_tmp2 rfl _ _ _) ?_
      rw [← HRR.out]
      exact ⟨_, rfl, ⟨A7, m, by simp only [htl]; rfl, Nat.le_of_eq htl, Kd.F_mono hF (fun q hq => by omega)⟩, hst.out.below.trans (hb.out.mono hw2)⟩
end Go.Proofs.YtpenkemabeonaaaDoor.Hand
/- scan.Down where it answers an error; its contract. -/
namespace Go.Proofs.YtpenkemabeonaaaDoor.Hand
open Go.RowKit Go.Proofs.YtpenkemabeonaaaDoorW.PrintWords Go.Proofs.YtpenkemabeonaaaDoorW.PrintLast Go.Proofs.YtpenkemabeonaaaDoorW.PrintMore
set_option linter.unusedVariables false
set_option linter.unusedSimpArgs false
attribute [local go_sem] store_func store_nilFunc
set_option maxHeartbeats 2000000 in
set_option maxRecDepth 100000 in
theorem scan_Down_noA (op err : Int) (A : Option Addr) (n c : Nat) (m : Int) (w : World) (hT : Tabs w) (h1 : (neutG op).2 = err) (he : err ≠ 0) :
    Calls Tryd.prog 27 #[.int .i64 op, .slice A n c, .int .i64 m] w (Ret2 w ([], err)) := by
  have HOf := Aside0.mk (scan_of_no op err w hT.laws hT.neut h1 he)
  have z : (err != 0) = true := bne_iff_ne.mpr he
  clear hT h1 he
  go_enter Tryd.func27, Tryd.ntmps27
  go_wp2_with (go_at_call 50; (with_reducible refine (HOf.out).mono ?_); rintro e w1 ⟨rfl, hb⟩; replace hb := Aside0.mk hb)
  go_ret2
  exact Ret2.nil err (below_alloc hb.out _)
set_option maxHeartbeats 2000000 in
set_option maxRecDepth 100000 in
theorem scan_Down_noB (op nn : Int) (A : Option Addr) (c : Nat) (m : Int) (ls : List (List Int)) (w : World) (hT : Tabs w) (hr : kL.C w A ls.length ls) (h1 : neutG op = (nn, 0)) (h2 : isTower.g op ls = false) :
    Calls Tryd.prog 27 #[.int .i64 op, .slice A ls.length c, .int .i64 m] w (Ret2 w ([], 8)) := by
  have HOf := Aside0.mk (BlkSt.of w op nn hT h1)
  have HIt : Aside0 (∀ O W, Below w.heap.size w W → OpAt W O op nn → Calls Tryd.prog 63 #[JV op nn O, .slice A ls.length c] W fun e w' => e = .returned (.bool false) ∧ Below W.heap.size W w') := ⟨fun O W hW hO => by
    have := scan_isTower.run op nn O A c ls W (hT.below hW) hO (Kd.C_below hr hW)
    rwa [h2] at this⟩
  clear hT hr h1 h2
  generalize ls.length = n at *
  go_enter Tryd.func27, Tryd.ntmps27
  go_wp2_with (first
    | (go_at_call 50; (with_reducible refine (HOf.out).mono ?_); rintro e w1 ⟨O, rfl, hst⟩; have d0 := blk_cell hst.jn 0; have d1 := blk_cell hst.jn 1; have d2 := blk_cell hst.jn 2; replace hst := Aside0.mk hst)
    | (go_at_call 63; (with_reducible refine (HIt.out _ _ (by exact BlkSt.below (Aside0.out (by assumption))) (by exact BlkSt.opAt (Aside0.out (by assumption)))).mono ?_); rintro en w2 ⟨rfl, hb2⟩; replace hst := Aside0.mk (hst.out.next hb2); clear hb2))
  go_ret2
  exact Ret2.nil 8 hst.out.below
set_option maxHeartbeats 2000000 in
set_option maxRecDepth 100000 in
theorem scan_Down_noC (op nn : Int) (ad : Addr) (c e : Nat) (m : Int) (ls : List (List Int)) (w : World) (hT : Tabs w) (hr : kL.C w (some ad) ls.length ls) (h1 : neutG op = (nn, 0)) (h2 : isTower.g op ls = true) (he : ls.length = e + 1) (hm : m < 0 ∨ ((ls.getD 0 []).length : Int) < m) :
    Calls Tryd.prog 27 #[.int .i64 op, .slice (some ad) (e + 1) c, .int .i64 m] w (Ret2 w ([], 2)) := by
  have HOf := Aside0.mk (BlkSt.of w op nn hT h1)
  have HIt : Aside0 (∀ O W, Below w.heap.size w W → OpAt W O op nn → Calls Tryd.prog 63 #[JV op nn O, .slice (some ad) (e + 1) c] W fun e w' => e = .returned (.bool true) ∧ Below W.heap.size W w') := ⟨fun O W hW hO => by
    have := scan_isTower.run op nn O (some ad) c ls W (hT.below hW) hO (Kd.C_below hr hW)
    rwa [he, h2] at this⟩
  obtain ⟨ad0, A1, c1, hA, hc, _, hr1⟩ := lists_at hr 0 (by omega)
  cases hA
  have HC0 : Aside0 (∀ W, Below w.heap.size w W → W.cell? ad = some (.slice A1 (ls.getD 0 []).length c1)) := ⟨fun W hW => pw_cell_below hW hc⟩
  clear hT hr h1 h2 he hr1 hc
  generalize (ls.getD 0 []).length = n0 at *
  rcases hm with hm | hm
  all_goals go_enter Tryd.func27, Tryd.ntmps27
  all_goals go_wp2_with (first
    | (go_at_call 50; (with_reducible refine (HOf.out).mono ?_); rintro e w1 ⟨O, rfl, hst⟩; have d0 := blk_cell hst.jn 0; have d1 := blk_cell hst.jn 1; have d2 := blk_cell hst.jn 2; replace hst := Aside0.mk hst)
    | (go_at_call 63; (with_reducible refine (HIt.out _ _ (by exact BlkSt.below (Aside0.out (by assumption))) (by exact BlkSt.opAt (Aside0.out (by assumption)))).mono ?_); rintro en w2 ⟨rfl, hb2⟩; replace hst := Aside0.mk (hst.out.next hb2); clear hb2; have hc0 := HC0.out _ hst.out.below; have e1 := blk_cell hst.out.jn 1))
  all_goals first
    | (go_ret2; exact Ret2.nil 2 (BlkSt.below (Aside0.out (by assumption))))
    | (exfalso; omega)
theorem scan_Down.run (op : Int) (A : Option Addr) (c : Nat) (ls : List (List Int)) (m : Int) (w : World) (hT : Tabs w) (hr : kL.C w A ls.length ls) :
    Calls Tryd.prog 27 #[.int .i64 op, .slice A ls.length c, .int .i64 m] w (Ret2 w (scan_Down.g op ls m)) := by
  unfold scan_Down.g
  by_cases h1 : (neutG op).2 = 0
  · have e1 : neutG op = ((neutG op).1, 0) := Prod.ext rfl h1
    rw [if_pos h1]
    by_cases h2 : isTower.g op ls = true
    · rw [if_pos h2]
      obtain ⟨e, he, h20, hlen, _⟩ := tower_level h2
      obtain ⟨ad, A1, c1, hA, hc, _, hr1⟩ := lists_at hr 0 (by omega)
      cases hA
      rw [he, show e + 1 - 1 = e from rfl]
      by_cases h3 : m < 0 ∨ ((ls.getD 0 []).length : Int) < m
      · rw [if_pos h3]
        exact scan_Down_noC op _ ad c e m ls w hT hr e1 h2 he h3
      · rw [if_neg h3]
        obtain ⟨k, rfl⟩ : ∃ k : Nat, m = k := ⟨m.toNat, by omega⟩
        rw [Int.toNat_natCast]
        exact scan_Down_yes op _ ad c e k ls w hT hr e1 h2 he h20 hlen (by omega)
    · rw [if_neg h2]
      exact scan_Down_noB op _ A c m ls w hT hr e1 (by simpa using h2)
  · rw [if_neg h1]
    exact scan_Down_noA op _ A ls.length c m w hT rfl h1
end Go.Proofs.YtpenkemabeonaaaDoor.Hand
/- sheafworksref00.EqualLists; sheafworkslaw05.same, flagged, plain. -/
namespace Go.Proofs.YtpenkemabeonaaaDoor.Hand
open Go.RowKit Go.Proofs.YtpenkemabeonaaaDoorW.PrintWords Go.Proofs.YtpenkemabeonaaaDoorW.PrintLast Go.Proofs.YtpenkemabeonaaaDoorW.PrintMore
set_option linter.unusedVariables false
set_option linter.unusedSimpArgs false
attribute [local go_sem] Oper.semAt_some
section
variable {α : Type} [BEq α] [LawfulBEq α]
def eqN (d : α) (l l2 : List α) (x : Nat) : Bool := (l.length == l2.length) && (List.range x).all (fun j => l.getD j d == l2.getD j d)
omit [LawfulBEq α] in
theorem eqN_succ (d : α) (l l2 : List α) (x : Nat) : eqN d l l2 (x + 1) = (eqN d l l2 x && (l.getD x d == l2.getD x d)) := by
  unfold eqN
  rw [List.range_succ, List.all_append, Bool.and_assoc]
  simp
theorem eqN_all (d : α) (l l2 : List α) : eqN d l l2 l.length = (l == l2) := by
  rw [Bool.eq_iff_iff, beq_iff_eq]
  unfold eqN
  rw [Bool.and_eq_true, beq_iff_eq, List.all_eq_true]
  constructor
  · rintro ⟨h1, h2⟩
    refine List.ext_getElem h1 (fun i hi hi2 => ?_)
    have := h2 i (by rw [List.mem_range]; exact hi)
    simpa [hi, hi2] using this
  · rintro rfl
    exact ⟨rfl, fun j _ => by simp⟩
theorem eqN_no (d : α) (l l2 : List α) (x : Nat) (hx : x ≤ l.length) (h : eqN d l l2 x = false) : (l == l2) = false := by
  rw [← eqN_all d]
  unfold eqN at h ⊢
  by_cases hl : (l.length == l2.length) = true
  · rw [hl, Bool.true_and, List.all_eq_false] at h
    obtain ⟨j, hj, hh⟩ := h
    rw [List.mem_range] at hj
    rw [hl, Bool.true_and, List.all_eq_false]
    exact ⟨j, by rw [List.mem_range]; omega, hh⟩
  · rw [Bool.not_eq_true] at hl
    rw [hl, Bool.false_and]
end
set_option maxHeartbeats 2000000 in
set_option maxRecDepth 100000 in
theorem ref_EqualLists (A : Option Addr) (c : Nat) (l : List (List Int)) (A2 : Option Addr) (c2 : Nat) (l2 : List (List Int)) (w : World) (hr : kL.C w A l.length l) (hr2 : kL.C w A2 l2.length l2) :
    Calls Tryd.prog 26 #[.slice A l.length c, .slice A2 l2.length c2] w fun e w' => e = .returned (.bool (l == l2)) ∧ Drawn0 w w' := by
  have HR := Aside0.mk hr
  have HR2 := Aside0.mk hr2
  have hm : l.length ≤ 9223372036854775807 := hr.2.1
  clear hr hr2
  refine calls_of_marks Tryd.func26 rfl ?_
  simp only [Tryd.ntmps26, List.size_toArray, List.length_cons, List.length_nil, Nat.reduceAdd, Nat.reduceSub, Array.replicate_succ, Array.replicate_zero, List.push_toArray, List.append_toArray, List.nil_append, List.cons_append]
  go_wp2
  go_loopw [5, 6] (fun s i W => ∃ (x : Nat) (b : Bool), s = .bool b ∧ i = .int .i64 (x : Int) ∧ x ≤ l.length ∧ Aside0 (b = eqN [] l l2 x) ∧ Aside0 (Drawn0 w W)) (fun _ i _ => l.length - (intOf i).toNat)
  case atStart => exact ⟨0, _, rfl, rfl, by omega, ⟨by rw [Bool.eq_iff_iff]; simp [eqN]; omega⟩, ⟨⟨0, rfl⟩⟩⟩
  case round =>
    obtain ⟨x, b, rfl, rfl, p1, HB, HD⟩ := hrel
    cases b
    · go_wp2
      unfold MarksPost
      refine Marks.zero _ (results_tmp rfl _ _ _) ?_
      exact ⟨by rw [eqN_no [] l l2 x p1 HB.out.symm]; rfl, HD.out⟩
    · by_cases hlt : x < l.length
      · have hl : l.length = l2.length := by
          have h := HB.out
          unfold eqN at h
          have := (Bool.and_eq_true _ _).mp h.symm
          rw [beq_iff_eq] at this
          exact this.1
        have hlt2 : x < l2.length := by omega
        obtain ⟨ad, A3, c3, e1, hx, _, hr3⟩ := lists_at (Kd.C_below HR.out HD.out.below) x hlt
        obtain ⟨ad2, A4, c4, e2, hx2, _, hr4⟩ := lists_at (Kd.C_below HR2.out HD.out.below) x hlt2
        cases e1
        cases e2
        have HEq := Aside0.mk (ref_Equal A3 c3 _ A4 c4 _ wr.drew (Kd.C_below hr3 (below_drew (Below.refl _ _))) (Kd.C_below hr4 (below_drew (Below.refl _ _))))
        have hsu := Aside0.mk (eqN_succ [] l l2 x)
        generalize (l.getD x [] == l2.getD x []) = q at *
        clear hr3 hr4
        generalize (l.getD x []).length = n3 at *
        generalize (l2.getD x []).length = n4 at *
        replace hl := Aside0.mk hl
        go_wp2
        go_region_held3 (fun W => W.cell? (ad.add x) = some (.slice A3 n3 c3) ∧ W.cell? (ad2.add x) = some (.slice A4 n4 c4)) (go_keep)
          (first | (go_at_call 18; (with_reducible refine (HEq.out).mono ?_); rintro e w5 ⟨rfl, m5, rfl⟩))
        go_wp2
        go_roundw
        case rel => exact ⟨x + 1, _, rfl, by simp, by omega, ⟨by rw [hsu.out, ← HB.out, Bool.true_and]⟩, ⟨drawn_trans HD.out ⟨_, rfl⟩⟩⟩
        case measure => simp [intOf]; omega
      · go_wp2
        unfold MarksPost
        refine Marks.zero _ (results_tmp rfl _ _ _) ?_
        have hx : x = l.length := by omega
        have h := HB.out
        rw [hx, eqN_all] at h
        exact ⟨by rw [← h]; rfl, HD.out⟩
set_option maxHeartbeats 2000000 in
set_option maxRecDepth 100000 in
theorem law_same (A : Option Addr) (c : Nat) (l : List (Bool × Int)) (A2 : Option Addr) (c2 : Nat) (l2 : List (Bool × Int)) (w : World) (hr : kF.C w A l.length l) (hr2 : kF.C w A2 l2.length l2) :
    Calls Tryd.prog 33 #[.slice A l.length c, .slice A2 l2.length c2] w fun e w' => e = .returned (.bool (l == l2)) ∧ Drawn0 w w' := by
  have HR := Aside0.mk hr
  have HR2 := Aside0.mk hr2
  have hm : l.length ≤ 9223372036854775807 := hr.2.1
  clear hr hr2
  refine calls_of_marks Tryd.func33 rfl ?_
  simp only [Tryd.ntmps33, List.size_toArray, List.length_cons, List.length_nil, Nat.reduceAdd, Nat.reduceSub, Array.replicate_succ, Array.replicate_zero, List.push_toArray, List.append_toArray, List.nil_append, List.cons_append]
  go_wp2
  go_loopw [5, 6] (fun s i W => ∃ (x : Nat) (b : Bool), s = .bool b ∧ i = .int .i64 (x : Int) ∧ x ≤ l.length ∧ Aside0 (b = eqN (false, 0) l l2 x) ∧ Aside0 (Drawn0 w W)) (fun _ i _ => l.length - (intOf i).toNat)
  case atStart => exact ⟨0, _, rfl, rfl, by omega, ⟨by rw [Bool.eq_iff_iff]; simp [eqN]; omega⟩, ⟨⟨0, rfl⟩⟩⟩
  case round =>
    obtain ⟨x, b, rfl, rfl, p1, HB, HD⟩ := hrel
    cases b
    · go_wp2
      unfold MarksPost
      refine Marks.zero _ (results_tmp rfl _ _ _) ?_
      exact ⟨by rw [eqN_no (false, 0) l l2 x p1 HB.out.symm]; rfl, HD.out⟩
    · by_cases hlt : x < l.length
      · have hl : l.length = l2.length := by
          have h := HB.out
          unfold eqN at h
          have := (Bool.and_eq_true _ _).mp h.symm
          rw [beq_iff_eq] at this
          exact this.1
        have hlt2 : x < l2.length := by omega
        obtain ⟨ad, e1, hx, hx'⟩ := at_F (Kd.C_below HR.out HD.out.below) (x : Int) (by omega) (by omega)
        obtain ⟨ad2, e2, hx2, hx2'⟩ := at_F (Kd.C_below HR2.out HD.out.below) (x : Int) (by omega) (by omega)
        cases e1
        cases e2
        have hsu : Aside0 (eqN (false, 0) l l2 (x + 1) = (eqN (false, 0) l l2 x && (rdF l (x : Int) == rdF l2 (x : Int)))) := ⟨eqN_succ (false, 0) l l2 x⟩
        rw [Int.toNat_natCast] at hx hx' hx2 hx2'
        generalize rdF l (x : Int) = y at *
        generalize rdF l2 (x : Int) = y2 at *
        obtain ⟨y1, y3⟩ := y
        obtain ⟨z1, z3⟩ := y2
        replace hl := Aside0.mk hl
        obtain ⟨q, hq, hcase⟩ : ∃ q, (((y1, y3) : Bool × Int) == (z1, z3)) = q ∧ ((q = true ∧ y1 = z1 ∧ y3 = z3) ∨ (q = false ∧ y1 = z1 ∧ ¬ y3 = z3) ∨ (q = false ∧ ¬ y1 = z1)) := by
          refine ⟨_, rfl, ?_⟩
          by_cases h1 : y1 = z1
          · by_cases h2 : y3 = z3
            · exact .inl ⟨by rw [h1, h2]; exact beq_self_eq_true _, h1, h2⟩
            · exact .inr (.inl ⟨by rw [beq_eq_false_iff_ne]; intro h; exact h2 (by injection h), h1, h2⟩)
          · exact .inr (.inr ⟨by rw [beq_eq_false_iff_ne]; intro h; exact h1 (by injection h), h1⟩)
        rw [hq] at hsu
        clear hq
        rcases hcase with ⟨rfl, rfl, rfl⟩ | ⟨rfl, rfl, h2⟩ | ⟨rfl, h1⟩
        all_goals
          (go_wp2
           go_region
           go_wp2
           go_roundw
           case rel => exact ⟨x + 1, _, rfl, by simp, by omega, ⟨by rw [hsu.out, ← HB.out, Bool.true_and]⟩, ⟨drawn_trans HD.out ⟨1, rfl⟩⟩⟩
           case measure => simp [intOf]; omega)
      · go_wp2
        unfold MarksPost
        refine Marks.zero _ (results_tmp rfl _ _ _) ?_
        have hx : x = l.length := by omega
        have h := HB.out
        rw [hx, eqN_all] at h
        exact ⟨by rw [← h]; rfl, HD.out⟩
set_option maxHeartbeats 2000000 in
set_option maxRecDepth 100000 in
theorem law_flagged (n : Int) (w : World) : Calls Tryd.prog 41 #[.int .i64 n] w fun e w' => e = .returned (FlV (true, n)) ∧ Below w.heap.size w w' := by
  go_enter Tryd.func41, Tryd.ntmps41
  go_wp2
  refine bodyPost_ret (results_cell_row rfl _ _ w.heap.size 41 _ (0, 0) _ rfl (blk_new w _) Tryd.underlying41 rfl (by kernel_rfl)) rfl ?_
  exact ⟨rfl, below_alloc (Below.refl _ _) _⟩
set_option maxHeartbeats 2000000 in
set_option maxRecDepth 100000 in
theorem law_plain (n : Int) (w : World) : Calls Tryd.prog 42 #[.int .i64 n] w fun e w' => e = .returned (FlV (false, n)) ∧ Below w.heap.size w w' := by
  go_enter Tryd.func42, Tryd.ntmps42
  go_wp2
  refine bodyPost_ret (results_cell_row rfl _ _ w.heap.size 41 _ (0, 0) _ rfl (blk_new w _) Tryd.underlying41 rfl (by kernel_rfl)) rfl ?_
  exact ⟨rfl, below_alloc (Below.refl _ _) _⟩
end Go.Proofs.YtpenkemabeonaaaDoor.Hand
/- A region that draws its order: reads, operations that come alone, and operations that come in any order, told in a list. Frames that are letters. -/
namespace Go.Proofs.YtpenkemabeonaaaDoor.Hand
open Go.RowKit Go.Proofs.YtpenkemabeonaaaDoorW.PrintWords Go.Proofs.YtpenkemabeonaaaDoorW.PrintLast Go.Proofs.YtpenkemabeonaaaDoorW.PrintMore
set_option linter.unusedVariables false
set_option linter.unusedSimpArgs false
theorem eval_same {a : Act} {d : Nat} {v : Value} (h : d < a.tmps.size) : (a.put (some d) v).eval (.tmp d) = v := by
  show (a.tmps.setIfInBounds d v).getD d undef = v
  simp [Array.getD, h]
theorem eval_ne {a : Act} {d e : Nat} {v : Value} (h : e ≠ d) : (a.put (some d) v).eval (.tmp e) = a.eval (.tmp e) := by
  show (a.tmps.setIfInBounds d v).getD e undef = a.tmps.getD e undef
  simp only [Array.getD_eq_getD_getElem?]
  rw [Array.getElem?_setIfInBounds_ne (Ne.symm h)]
theorem size_put (a : Act) (d : Option Tmp) (v : Value) : (a.put d v).tmps.size = a.tmps.size := by
  cases d <;> simp [Act.put]
theorem defers_put (a : Act) (d : Option Tmp) (v : Value) : (a.put d v).defers = a.defers := by
  cases d <;> rfl
theorem wanted_of {ops : Array Oper} {o : Oper} {a : Act} {j d : Nat} {b : Bool} (hg : o.guard = some (j, b)) (hj : (ops[j]?).bind (·.dst) = some d) (hd : d < a.tmps.size) (hv : a.eval (.tmp d) = .bool b) : Region.wanted o (yielded ops a.tmps) = true := by
  have h2 : a.tmps[d]? = some (.bool b) := by
    have h3 : a.tmps.getD d undef = .bool b := hv
    rw [Array.getD_eq_getD_getElem?] at h3
    rw [Array.getElem?_eq_getElem hd] at h3 ⊢
    simpa using h3
  simp [Region.wanted, hg, yielded, hj, h2]
theorem tmp_of_eval {a : Act} {s : Nat} {v : Value} (h : s < a.tmps.size) (he : a.eval (.tmp s) = v) : a.tmps[s] = v := by
  rw [← he]
  show _ = a.tmps.getD s undef
  simp [Array.getD, h]
def forkP (P : Program) (ops : Array Oper) (Q : Exit → Act → World → Prop) (S : World → Prop) : Nat → List Nat → (Act → World → Prop) → Act → World → Prop
  | 0, _, K, a, w => K a w
  | n + 1, is, K, a, w => ∀ i ∈ is, wpOp P ops Q i (fun a' w' => S w' ∧ forkP P ops Q S n (is.erase i) K a' w') a w
def scrP (P : Program) (ops : Array Oper) (Q : Exit → Act → World → Prop) (S : World → Prop) : List (Bool × List Nat) → Act → World → Prop
  | [], a, w => Q .normal a w
  | (true, is) :: l, a, w => ∃ i o v, is = [i] ∧ ops[i]? = some o ∧ YieldsIf P ops S o v a ∧ scrP P ops Q S l (a.put o.dst v) w
  | (false, is) :: l, a, w => forkP P ops Q S is.length is (fun a' w' => scrP P ops Q S l a' w') a w
def forkB (ops : Array Oper) : Nat → List Nat → (Array Bool → Bool) → Array Bool → Bool
  | 0, _, k, listed => k listed
  | n + 1, is, k, listed => Region.ready .any ops listed == is && is.all fun i => forkB ops n (is.erase i) k (listed.setIfInBounds i true)
def scrB (ops : Array Oper) : List (Bool × List Nat) → Array Bool → Bool
  | [], listed => Region.ready .any ops listed == []
  | (true, is) :: l, listed => is.length == 1 && (Region.ready .any ops listed).contains (is.headD 0) && Region.free .any ops listed (is.headD 0) && scrB ops l (listed.setIfInBounds (is.headD 0) true)
  | (false, is) :: l, listed => forkB ops is.length is (scrB ops l) listed
def scrN : List (Bool × List Nat) → Nat
  | [] => 0
  | (_, is) :: l => scrN l + is.length
theorem fork_sound {P : Program} {ops : Array Oper} {Q : Exit → Act → World → Prop} {S : World → Prop} {k : Array Bool → Bool} {K : Act → World → Prop} {fuel : Nat}
    (hk : ∀ (listed : Array Bool) (a : Act) (w : World), k listed = true → S w → K a w → wpAnyH P .any ops Q S fuel listed a w) :
    ∀ (n : Nat) (is : List Nat) (listed : Array Bool) (a : Act) (w : World), n = is.length → forkB ops n is k listed = true → forkP P ops Q S n is K a w → S w → wpAnyH P .any ops Q S (fuel + n) listed a w
  | 0, is, listed, a, w, hn, hB, h, hS => hk listed a w hB hS h
  | n + 1, is, listed, a, w, hn, hB, h, hS => by
    simp only [forkB, Bool.and_eq_true, beq_iff_eq, List.all_eq_true] at hB
    refine wpAnyH_all (rs := is) hB.1 (fun h0 => by rw [h0] at hn; simp at hn) (fun i hi => ?_)
    refine wpOp_mono (fun a' w' hh => ⟨hh.1, fork_sound hk n (is.erase i) _ a' w' ?_ (hB.2 i hi) hh.2 hh.1⟩) (h i hi)
    rw [List.length_erase_of_mem hi]
    omega
theorem scr_sound {P : Program} {ops : Array Oper} {Q : Exit → Act → World → Prop} {S : World → Prop} (hs : Region.noSelect ops = true) (hQ : ∀ c a w, ¬ Q (.panic c) a w) :
    ∀ (l : List (Bool × List Nat)) (listed : Array Bool) (a : Act) (w : World), scrB ops l listed = true → S w → scrP P ops Q S l a w → wpAnyH P .any ops Q S (scrN l) listed a w
  | [], listed, a, w, hB, hS, h => wpAnyH_done (by simpa [scrB] using hB) h 0
  | (true, is) :: l, listed, a, w, hB, hS, h => by
    obtain ⟨i, o, v, rfl, h0, hy, h⟩ := h
    simp only [scrB, List.headD_cons, Bool.and_eq_true] at hB
    exact wpAnyH_take h0 hs hB.1.2 hB.1.1.2 (fun c a w h => (hQ _ _ _ h).elim) hy hS (scr_sound hs hQ l _ _ w hB.2 hS h)
  | (false, is) :: l, listed, a, w, hB, hS, h => fork_sound (fun listed' a' w' hB' hS' h' => scr_sound hs hQ l listed' a' w' hB' hS' h') is.length is listed a w rfl hB h hS
theorem region_scr {P : Program} {l : List Oper} {Q : Exit → Act → World → Prop} {a : Act} {w : World} (S : World → Prop) (sc : List (Bool × List Nat)) (hs : Region.noSelect l.toArray = true) (hB : scrB l.toArray sc (Array.replicate l.toArray.size false) = true)
    (hn : scrN sc = l.toArray.size) (hQ : ∀ c a w, ¬ Q (.panic c) a w) (hS : S w) (h : scrP P l.toArray Q S sc a w) : wpAny P .any l.toArray Q l.toArray.size (Array.replicate l.toArray.size false) a w := by
  have H := scr_sound hs hQ sc _ a w hB hS h
  rw [hn] at H
  exact wpAny_of_held _ _ _ _ H
section
variable {P : Program} {ops : Array Oper} {Q : Exit → Act → World → Prop} {S : World → Prop} {i : Nat} {l : List (Bool × List Nat)} {a : Act} {w w2 : World} {o : Oper} {v : Value}
theorem scr_letter (h : ∀ a0, a0 = a → scrP P ops Q S l a0 w) : scrP P ops Q S l a w := h a rfl
theorem scr_get (d : Tmp) (v : Value) (h0 : ops[i]? = some o) (hd : o.dst = some d) (hg : Region.wanted o (yielded ops a.tmps) = true) (hv : ∀ W, S W → (execOp a.eval o).run P W = .ok (.value v) W) (h : scrP P ops Q S l (a.put (some d) v) w) : scrP P ops Q S ((true, [i]) :: l) a w :=
  ⟨i, o, v, rfl, h0, .inl ⟨hg, hv⟩, by rw [hd]; exact h⟩
theorem scr_read (v : Value) (h0 : ops[i]? = some o) (hg : Region.wanted o (yielded ops a.tmps) = true) (hv : ∀ W, S W → (execOp a.eval o).run P W = .ok (.value v) W) (h : scrP P ops Q S l (a.put o.dst v) w) : scrP P ops Q S ((true, [i]) :: l) a w :=
  ⟨i, o, v, rfl, h0, .inl ⟨hg, hv⟩, h⟩
theorem scr_one (h : wpOp P ops Q i (fun a' w' => S w' ∧ scrP P ops Q S l a' w') a w) : scrP P ops Q S ((false, [i]) :: l) a w := by
  intro j hj
  obtain rfl : j = i := by simpa using hj
  exact h
theorem op_val {K : Act → World → Prop} (h0 : ops[i]? = some o) (hg : Region.wanted o (yielded ops a.tmps) = true) (hr : (execOp a.eval o).run P w = .ok (.value v) w2) (d : Tmp) (hd : o.dst = some d) (h : K (a.put (some d) v) w2) : wpOp P ops Q i K a w := by
  rw [← hd] at h
  unfold wpOp
  simp only [h0]
  rw [if_pos hg]
  refine .inl ?_
  simp only [Oper.wp, hr, Oper.upon]
  exact h
theorem op_call {K : Act → World → Prop} {f : FuncId} {args : Array Value} {R : Ending → World → Prop} (h0 : ops[i]? = some o) (hg : Region.wanted o (yielded ops a.tmps) = true) (hr : (execOp a.eval o).run P w = .ok (.enter f args) w) (hc : Calls P f args w R)
    (d : Tmp) (hd : o.dst = some d) (h : ∀ e w2, R e w2 → ∃ v, e = .returned v ∧ K (a.put (some d) v) w2) : wpOp P ops Q i K a w := by
  rw [← hd] at h
  unfold wpOp
  simp only [h0]
  rw [if_pos hg]
  refine .inl ?_
  simp only [Oper.wp, hr, Oper.upon]
  refine hc.mono ?_
  intro e w2 hR
  obtain ⟨v, rfl, hK⟩ := h e w2 hR
  exact hK
theorem forkP_inv (Inv : List Nat → Act → World → Prop) (step : ∀ (is : List Nat) (i : Nat) (a : Act) (w : World), i ∈ is → Inv is a w → wpOp P ops Q i (fun a' w' => S w' ∧ Inv (is.erase i) a' w') a w) :
    ∀ (n : Nat) (is : List Nat) (a : Act) (w : World), n = is.length → Inv is a w → forkP P ops Q S n is (Inv []) a w
  | 0, is, a, w, hn, h => by
    obtain rfl : is = [] := List.length_eq_zero_iff.1 hn.symm
    exact h
  | n + 1, is, a, w, hn, h => fun i hi => wpOp_mono (fun a' w' hh => ⟨hh.1, forkP_inv Inv step n (is.erase i) a' w' (by rw [List.length_erase_of_mem hi]; omega) hh.2⟩) (step is i a w hi h)
theorem forkP_mono {K K2 : Act → World → Prop} (hK : ∀ a w, K a w → K2 a w) : ∀ (n : Nat) (is : List Nat) (a : Act) (w : World), forkP P ops Q S n is K a w → forkP P ops Q S n is K2 a w
  | 0, _, a, w, h => hK a w h
  | n + 1, is, a, w, h => fun i hi => wpOp_mono (fun a' w' hh => ⟨hh.1, forkP_mono hK n _ a' w' hh.2⟩) (h i hi)
theorem scr_fork {is : List Nat} (Inv : List Nat → Act → World → Prop) (h0 : Inv is a w) (step : ∀ (is : List Nat) (i : Nat) (a : Act) (w : World), i ∈ is → Inv is a w → wpOp P ops Q i (fun a' w' => S w' ∧ Inv (is.erase i) a' w') a w)
    (h : ∀ a w, Inv [] a w → scrP P ops Q S l a w) : scrP P ops Q S ((false, is) :: l) a w :=
  forkP_mono h _ _ _ _ (forkP_inv Inv step is.length is a w rfl h0)
end
end Go.Proofs.YtpenkemabeonaaaDoor.Hand
