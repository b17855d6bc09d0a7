/- word.Do: what an operation makes of two words, or the error that is told. -/
import Derived.Test.YtpimackoadfcmaaDoorHprim1
import Derived.Test.YtpimackoadfcmaaDoorHrf
import Derived.Laws.Rows
import Derived.BigQuiet
namespace Go.Proofs.YtpimackoadfcmaaDoor.Hand
open Go.RowKit Go.Proofs.YtpimackoadfcmaaDoorW.PrintWords Go.Proofs.YtpimackoadfcmaaDoorW.PrintLast Go.Proofs.YtpimackoadfcmaaDoorW.PrintMore
set_option linter.unusedVariables false
set_option linter.unusedSimpArgs false
set_option maxHeartbeats 4000000
set_option maxRecDepth 100000
attribute [local go_sem] Oper.semAt_some
theorem word_wrap (n : Int) (w : World) : Calls Tryd.prog 125 #[.int .i64 n] w fun e w' => e = .returned (.int .i64 (wrap64 (wrap32 n))) ∧ Drawn0 w w' := by
  go_enter Tryd.func125, Tryd.ntmps125
  go_wp2
  go_ret
  exact ⟨rfl, ⟨0, rfl⟩⟩
def truthI (b : Bool) : Int := if b then 1 else 0
theorem word_truth (b : Bool) (w : World) : Calls Tryd.prog 127 #[.bool b] w fun e w' => e = .returned (.int .i64 (truthI b)) ∧ Drawn0 w w' := by
  cases b <;>
  · go_enter Tryd.func127, Tryd.ntmps127
    go_wp2
    go_ret
    exact ⟨rfl, ⟨0, rfl⟩⟩
def pairV (a b : Int) : Value := .agg #[.int .i64 a, .int .i64 b]
def W32 (n : Int) : Prop := -2147483648 ≤ n ∧ n ≤ 2147483647
theorem pair_add (a b : Int) (w : World) (ha : W32 a) (hb : W32 b) : Calls Tryd.prog 112 #[.agg #[.int .i64 a, .int .i64 b]] w fun e w' => e = .returned (.int .i64 (wrap64 (wrap32 (a + b)))) ∧ Below w.heap.size w w' := by
  obtain ⟨a1, a2⟩ := ha
  obtain ⟨b1, b2⟩ := hb
  go_enter Tryd.func112, Tryd.ntmps112
  go_wp2_with fail
  refine (word_wrap _ _).mono ?_
  rintro e w2 ⟨rfl, m2, rfl⟩
  go_wp2
  go_ret
  exact ⟨rfl, pw_below_drewN (below_alloc (Below.refl _ _) _) _⟩
theorem pair_sub (a b : Int) (w : World) (ha : W32 a) (hb : W32 b) : Calls Tryd.prog 114 #[.agg #[.int .i64 a, .int .i64 b]] w fun e w' => e = .returned (.int .i64 (wrap64 (wrap32 (a - b)))) ∧ Below w.heap.size w w' := by
  obtain ⟨a1, a2⟩ := ha
  obtain ⟨b1, b2⟩ := hb
  go_enter Tryd.func114, Tryd.ntmps114
  go_wp2_with fail
  refine (word_wrap _ _).mono ?_
  rintro e w2 ⟨rfl, m2, rfl⟩
  go_wp2
  go_ret
  exact ⟨rfl, pw_below_drewN (below_alloc (Below.refl _ _) _) _⟩
theorem pair_mul (a b : Int) (w : World) (ha : W32 a) (hb : W32 b) : Calls Tryd.prog 115 #[.agg #[.int .i64 a, .int .i64 b]] w fun e w' => e = .returned (.int .i64 (wrap64 (wrap32 (wrap64 (a * b))))) ∧ Below w.heap.size w w' := by
  obtain ⟨a1, a2⟩ := ha
  obtain ⟨b1, b2⟩ := hb
  go_enter Tryd.func115, Tryd.ntmps115
  go_wp2_with fail
  refine (word_wrap _ _).mono ?_
  rintro e w2 ⟨rfl, m2, rfl⟩
  go_wp2
  go_ret
  exact ⟨rfl, pw_below_drewN (below_alloc (Below.refl _ _) _) _⟩
theorem pair_less (a b : Int) (w : World) (ha : W32 a) (hb : W32 b) : Calls Tryd.prog 118 #[.agg #[.int .i64 a, .int .i64 b]] w fun e w' => e = .returned (.int .i64 (truthI (decide (a < b)))) ∧ Below w.heap.size w w' := by
  obtain ⟨a1, a2⟩ := ha
  obtain ⟨b1, b2⟩ := hb
  go_enter Tryd.func118, Tryd.ntmps118
  go_wp2_with fail
  refine (word_truth _ _).mono ?_
  rintro e w2 ⟨rfl, m2, rfl⟩
  go_wp2
  go_ret
  exact ⟨rfl, pw_below_drewN (below_alloc (Below.refl _ _) _) _⟩
theorem pair_same (a b : Int) (w : World) (ha : W32 a) (hb : W32 b) : Calls Tryd.prog 119 #[.agg #[.int .i64 a, .int .i64 b]] w fun e w' => e = .returned (.int .i64 (truthI (a == b))) ∧ Below w.heap.size w w' := by
  obtain ⟨a1, a2⟩ := ha
  obtain ⟨b1, b2⟩ := hb
  go_enter Tryd.func119, Tryd.ntmps119
  go_wp2_with fail
  refine (word_truth _ _).mono ?_
  rintro e w2 ⟨rfl, m2, rfl⟩
  go_wp2
  go_ret
  exact ⟨rfl, pw_below_drewN (below_alloc (Below.refl _ _) _) _⟩
theorem pair_min (a b : Int) (w : World) (ha : W32 a) (hb : W32 b) : Calls Tryd.prog 120 #[.agg #[.int .i64 a, .int .i64 b]] w fun e w' => e = .returned (.int .i64 (min a b)) ∧ Below w.heap.size w w' := by
  obtain ⟨a1, a2⟩ := ha
  obtain ⟨b1, b2⟩ := hb
  go_enter Tryd.func120, Tryd.ntmps120
  go_wp2
  all_goals go_ret
  all_goals (refine ⟨congrArg (fun n => Ending.returned (Value.int IntKind.i64 n)) ?_, below_alloc (Below.refl _ _) _⟩; omega)
theorem pair_max (a b : Int) (w : World) (ha : W32 a) (hb : W32 b) : Calls Tryd.prog 121 #[.agg #[.int .i64 a, .int .i64 b]] w fun e w' => e = .returned (.int .i64 (max a b)) ∧ Below w.heap.size w w' := by
  obtain ⟨a1, a2⟩ := ha
  obtain ⟨b1, b2⟩ := hb
  go_enter Tryd.func121, Tryd.ntmps121
  go_wp2
  all_goals go_ret
  all_goals (refine ⟨congrArg (fun n => Ending.returned (Value.int IntKind.i64 n)) ?_, below_alloc (Below.refl _ _) _⟩; omega)
theorem pair_and (a b : Int) (w : World) (ha : W32 a) (hb : W32 b) : Calls Tryd.prog 122 #[.agg #[.int .i64 a, .int .i64 b]] w fun e w' => e = .returned (.int .i64 (bits BinOp.and IntKind.i64 a b)) ∧ Below w.heap.size w w' := by
  obtain ⟨a1, a2⟩ := ha
  obtain ⟨b1, b2⟩ := hb
  go_enter Tryd.func122, Tryd.ntmps122
  go_wp2
  go_ret
  exact ⟨rfl, below_alloc (Below.refl _ _) _⟩
theorem pair_or (a b : Int) (w : World) (ha : W32 a) (hb : W32 b) : Calls Tryd.prog 123 #[.agg #[.int .i64 a, .int .i64 b]] w fun e w' => e = .returned (.int .i64 (bits BinOp.or IntKind.i64 a b)) ∧ Below w.heap.size w w' := by
  obtain ⟨a1, a2⟩ := ha
  obtain ⟨b1, b2⟩ := hb
  go_enter Tryd.func123, Tryd.ntmps123
  go_wp2
  go_ret
  exact ⟨rfl, below_alloc (Below.refl _ _) _⟩
theorem pair_xor (a b : Int) (w : World) (ha : W32 a) (hb : W32 b) : Calls Tryd.prog 124 #[.agg #[.int .i64 a, .int .i64 b]] w fun e w' => e = .returned (.int .i64 (bits BinOp.xor IntKind.i64 a b)) ∧ Below w.heap.size w w' := by
  obtain ⟨a1, a2⟩ := ha
  obtain ⟨b1, b2⟩ := hb
  go_enter Tryd.func124, Tryd.ntmps124
  go_wp2
  go_ret
  exact ⟨rfl, below_alloc (Below.refl _ _) _⟩
def quotB (a b : Int) : Bool := (a.tmod b != 0) && ((decide (a < 0)) != (decide (b < 0)))
def quot (a b : Int) : Int := if quotB a b = true then a.tdiv b - 1 else a.tdiv b
theorem tdiv_range (a b : Int) (ha : W32 a) : -2147483648 ≤ a.tdiv b ∧ a.tdiv b ≤ 2147483648 := by
  have h := Int.natAbs_tdiv_le_natAbs a b
  obtain ⟨a1, a2⟩ := ha
  omega
theorem pair_quotient (a b : Int) (w : World) (ha : W32 a) (hb : W32 b) (h0 : b ≠ 0) : Calls Tryd.prog 126 #[.agg #[.int .i64 a, .int .i64 b]] w fun e w' => e = .returned (.int .i64 (quot a b)) ∧ Below w.heap.size w w' := by
  obtain ⟨a1, a2⟩ := ha
  obtain ⟨b1, b2⟩ := hb
  have hr := tdiv_range a b ⟨a1, a2⟩
  have hz : (b == 0) = false := by simpa using h0
  obtain ⟨RR, hRR⟩ : ∃ RR, RR = quot a b := ⟨_, rfl⟩
  rw [← hRR]
  replace hRR := Aside0.mk hRR
  go_enter Tryd.func126, Tryd.ntmps126
  go_wp2
  all_goals go_ret
  all_goals (refine ⟨congrArg (fun n => Ending.returned (Value.int IntKind.i64 n)) ?_, below_alloc (Below.refl _ _) _⟩; rw [hRR.out]; clear hRR hr; first | (have hc : quotB a b = true := (by unfold quotB; simp_all); simp [quot, hc]; done) | (have hc : quotB a b = false := (by unfold quotB; simp_all); simp [quot, hc]; done))
theorem quot_range (a b : Int) (ha : W32 a) : -2147483649 ≤ quot a b ∧ quot a b ≤ 2147483648 := by
  have h := tdiv_range a b ha
  unfold quot
  split <;> omega
theorem pair_div (a b : Int) (w : World) (ha : W32 a) (hb : W32 b) (h0 : b ≠ 0) : Calls Tryd.prog 116 #[.agg #[.int .i64 a, .int .i64 b]] w fun e w' => e = .returned (.int .i64 (wrap64 (wrap32 (quot a b)))) ∧ Below w.heap.size w w' := by
  obtain ⟨a1, a2⟩ := ha
  obtain ⟨b1, b2⟩ := hb
  have HQ := Aside0.mk (pair_quotient a b ((w.alloc (Obj.cells #[Value.int .i64 a, Value.int .i64 b] 80))) ⟨a1, a2⟩ ⟨b1, b2⟩ h0)
  have hu := Tryd.underlying80
  go_enter Tryd.func116, Tryd.ntmps116
  go_wp2_with ((with_reducible refine (HQ.out).mono ?_); rintro e w2 ⟨rfl, hb2⟩)
  refine (word_wrap _ _).mono ?_
  rintro e w3 ⟨rfl, m3, rfl⟩
  go_wp2
  go_ret
  exact ⟨rfl, pw_below_drewN ((below_alloc (Below.refl _ _) _).trans (hb2.mono (by simp))) _⟩
theorem pair_mod (a b : Int) (w : World) (ha : W32 a) (hb : W32 b) (h0 : b ≠ 0) : Calls Tryd.prog 117 #[.agg #[.int .i64 a, .int .i64 b]] w fun e w' => e = .returned (.int .i64 (wrap64 (a - wrap64 (b * quot a b)))) ∧ Below w.heap.size w w' := by
  obtain ⟨a1, a2⟩ := ha
  obtain ⟨b1, b2⟩ := hb
  have hr := quot_range a b ⟨a1, a2⟩
  obtain ⟨q, hq⟩ : ∃ q, q = quot a b := ⟨_, rfl⟩
  rw [← hq] at hr ⊢
  have HQ := fun W => pair_quotient a b W ⟨a1, a2⟩ ⟨b1, b2⟩ h0
  rw [← hq] at HQ
  replace HQ := Aside0.mk HQ
  replace hq := Aside0.mk hq
  have hu := Tryd.underlying80
  refine calls_of_marks Tryd.func117 rfl ?_
  simp only [Tryd.ntmps117, List.size_toArray, List.length_cons, List.length_nil, Nat.reduceAdd, Nat.reduceSub, Array.replicate_succ, Array.replicate_zero, List.push_toArray, List.append_toArray, List.nil_append, List.cons_append]
  go_wp2
  have hk : (w.alloc (Obj.cells #[Value.int .i64 a, Value.int .i64 b] 80)).drew.heap[w.heap.size]? = some (.cells #[Value.int .i64 a, Value.int .i64 b] 80 (0, 0)) := blk_new w _
  refine wp_region_any (by kernel_rfl) ?_
  change wpAny _ _ _ _ _ _ _ (w.alloc (Obj.cells #[Value.int .i64 a, Value.int .i64 b] 80)).drew
  have hB : Below w.heap.size w (w.alloc (Obj.cells #[Value.int .i64 a, Value.int .i64 b] 80)).drew := below_drew (below_alloc (Below.refl _ _) _)
  generalize (w.alloc (Obj.cells #[Value.int .i64 a, Value.int .i64 b] 80)).drew = w1 at hk hB ⊢
  refine region_any (fun W => W.heap[w.heap.size]? = some (.cells #[Value.int .i64 a, Value.int .i64 b] 80 (0, 0))) 5 [5, 6, 7, 8] (by kernel_rfl) (by kernel_rfl) (by kernel_rfl) rfl (fun _ _ _ h => h) hk ?_
  simp only [List.take_succ_cons, List.take_zero]
  refine Reads.step _ rfl (fun W hW => by go_simp; rfl) ?_
  refine Reads.step _ rfl (fun W hW => by have k0 := blk_cell hW 0; go_simp; rfl) ?_
  refine Reads.step _ rfl (fun W hW => by go_simp; rfl) ?_
  refine Reads.step _ rfl (fun W hW => by have k1 := blk_cell hW 1; go_simp; rfl) ?_
  refine Reads.step (.agg #[.int .i64 a, .int .i64 b]) rfl (fun W hW => by have k0 := blk_cell hW 0; have k1 := blk_cell hW 1; go_simp) ?_
  change Tail _ _ _ _ _ _ _
  refine Tail.call rfl rfl (by go_simp) (HQ.out _) ?_
  rintro e w2 ⟨rfl, hb2⟩
  refine ⟨_, rfl, blk_below hk hb2, ?_⟩
  refine Tail.val rfl rfl (by go_simp; first | rfl | exact ⟨rfl, rfl⟩) (blk_below hk hb2) ?_
  refine Tail.val rfl rfl (by go_simp; first | rfl | exact ⟨rfl, rfl⟩) (blk_below hk hb2) ?_
  refine Tail.val rfl rfl (by go_simp; first | rfl | exact ⟨rfl, rfl⟩) (blk_below hk hb2) ?_
  unfold Tail
  go_wp2
  simp only [List.getElem_toArray, List.getElem_cons_succ, List.getElem_cons_zero, Act.put, List.setIfInBounds_toArray, List.set_cons_zero, List.set_cons_succ, i64_w]
  unfold MarksPost
  refine Marks.zero _ (results_tmp rfl _ _ _) ?_
  exact ⟨rfl, hB.trans (hb2.mono hB.size)⟩

/-- The table of the operations lies in the first block. -/
def Deeds (w : World) : Prop := ∀ (j : Nat) (k : Nat), [112, 114, 115, 116, 117, 118, 119, 120, 121, 122, 123, 124][j]? = some k → w.cell? ⟨0, j, none⟩ = some (.func (.func k) #[] #[])
theorem Deeds.below {w w1 : World} (h : Deeds w) (hb : Below w.heap.size w w1) : Deeds w1 := fun j k hj => pw_cell_below hb (h j k hj)
/-- What an operation makes of two words. -/
def deed (op a b : Int) : Int :=
  if op = 0 then wrap64 (wrap32 (a + b)) else if op = 1 then wrap64 (wrap32 (a - b)) else if op = 2 then wrap64 (wrap32 (wrap64 (a * b))) else if op = 3 then wrap64 (wrap32 (quot a b))
  else if op = 4 then wrap64 (a - wrap64 (b * quot a b)) else if op = 5 then truthI (decide (a < b)) else if op = 6 then truthI (a == b) else if op = 7 then min a b else if op = 8 then max a b
  else if op = 9 then bits BinOp.and IntKind.i64 a b else if op = 10 then bits BinOp.or IntKind.i64 a b else bits BinOp.xor IntKind.i64 a b
def isOpB (op : Int) : Bool := decide (0 ≤ op) && decide (op < 12)
def zeroB (op b : Int) : Bool := (b == 0) && ((op == 3) || (op == 4))
def word_Do.g (op a b : Int) : Int × Int := if isOpB op then (if isWordB a && isWordB b then (if zeroB op b then (0, 14) else (deed op a b, 0)) else (0, 2)) else (0, 1)
theorem word_isOp (op : Int) (w : World) : Calls Tryd.prog 86 #[.int .i64 op] w fun e w' => e = .returned (.bool (isOpB op)) ∧ Drawn0 w w' := by
  obtain ⟨RR, hRR⟩ : ∃ RR, RR = isOpB op := ⟨_, rfl⟩
  rw [← hRR]
  replace hRR := Aside0.mk hRR
  go_enter Tryd.func86, Tryd.ntmps86
  go_wp2
  all_goals go_ret
  all_goals (refine ⟨congrArg (fun n => Ending.returned (Value.bool n)) ?_, ⟨0, rfl⟩⟩; rw [hRR.out]; unfold isOpB; simp_all <;> (intros; omega))
theorem deeds_call (op a b : Int) (h : isOpB op = true) (ha : W32 a) (hb : W32 b) (h0 : zeroB op b = false) :
    ∃ k, [112, 114, 115, 116, 117, 118, 119, 120, 121, 122, 123, 124][op.toNat]? = some k
      ∧ (∀ args W, Sem.run Tryd.prog (callFunc k args) W = .ok (.enter k args) W) ∧ ∀ W, Calls Tryd.prog k #[.agg #[.int .i64 a, .int .i64 b]] W fun e w' => e = .returned (.int .i64 (deed op a b)) ∧ Below W.heap.size W w' := by
  have h1 : 0 ≤ op ∧ op < 12 := by simpa [isOpB] using h
  have hz : op = 3 ∨ op = 4 → b ≠ 0 := by
    intro h3 h4
    subst h4
    rcases h3 with rfl | rfl <;> simp [zeroB] at h0
  clear h h0
  obtain ⟨p, q⟩ := h1
  have e : op = 0 ∨ op = 1 ∨ op = 2 ∨ op = 3 ∨ op = 4 ∨ op = 5 ∨ op = 6 ∨ op = 7 ∨ op = 8 ∨ op = 9 ∨ op = 10 ∨ op = 11 := by omega
  rcases e with rfl | rfl | rfl | rfl | rfl | rfl | rfl | rfl | rfl | rfl | rfl | rfl
  · exact ⟨_, rfl, Tryd.call112, fun W => pair_add a b W ha hb⟩
  · exact ⟨_, rfl, Tryd.call114, fun W => pair_sub a b W ha hb⟩
  · exact ⟨_, rfl, Tryd.call115, fun W => pair_mul a b W ha hb⟩
  · exact ⟨_, rfl, Tryd.call116, fun W => pair_div a b W ha hb (hz (.inl rfl))⟩
  · exact ⟨_, rfl, Tryd.call117, fun W => pair_mod a b W ha hb (hz (.inr rfl))⟩
  · exact ⟨_, rfl, Tryd.call118, fun W => pair_less a b W ha hb⟩
  · exact ⟨_, rfl, Tryd.call119, fun W => pair_same a b W ha hb⟩
  · exact ⟨_, rfl, Tryd.call120, fun W => pair_min a b W ha hb⟩
  · exact ⟨_, rfl, Tryd.call121, fun W => pair_max a b W ha hb⟩
  · exact ⟨_, rfl, Tryd.call122, fun W => pair_and a b W ha hb⟩
  · exact ⟨_, rfl, Tryd.call123, fun W => pair_or a b W ha hb⟩
  · exact ⟨_, rfl, Tryd.call124, fun W => pair_xor a b W ha hb⟩
theorem word_Do (op a b : Int) (w : World) (hG : Deeds w) : Calls Tryd.prog 59 #[.int .i64 op, .int .i64 a, .int .i64 b] w fun e w' => e = .returned (.tuple #[.int .i64 (word_Do.g op a b).1, .int .i64 (word_Do.g op a b).2]) ∧ Below w.heap.size w w' := by
  obtain ⟨RR, hRR⟩ : ∃ RR, RR = word_Do.g op a b := ⟨_, rfl⟩
  rw [← hRR]
  replace hRR := Aside0.mk hRR
  have h1 := Aside0.mk (word_isOp op w)
  have h2 := Aside0.mk (fun W => word_Is a W)
  have h3 := Aside0.mk (fun W => word_Is b W)
  have HG := Aside0.mk hG
  clear hG
  cases e1 : isOpB op
  · rw [e1] at h1
    have hR : Aside0 (RR = (0, 1)) := ⟨by rw [hRR.out]; simp [word_Do.g, e1]⟩
    clear e1
    go_enter Tryd.func59, Tryd.ntmps59
    go_wp2_with ((with_reducible refine (h1.out).mono ?_); rintro e w2 ⟨rfl, m2, rfl⟩)
    go_ret2
    exact ⟨by rw [hR.out]; rfl, pw_below_drewN (Below.refl _ _) _⟩
  · rw [e1] at h1
    cases e2 : isWordB a
    · rw [e2] at h2
      have hR : Aside0 (RR = (0, 2)) := ⟨by rw [hRR.out]; simp [word_Do.g, e1, e2]⟩
      clear e1 e2
      go_enter Tryd.func59, Tryd.ntmps59
      go_wp2_with fail
      refine (h1.out).mono ?_
      rintro e w2 ⟨rfl, m2, rfl⟩
      go_wp2_with fail
      refine (h2.out _).mono ?_
      rintro e w2 ⟨rfl, m3, rfl⟩
      go_wp2
      go_ret2
      exact ⟨by rw [hR.out]; rfl, by repeat (first | exact Below.refl _ _ | apply pw_below_drewN)⟩
    · rw [e2] at h2
      cases e3 : isWordB b
      · rw [e3] at h3
        have hR : Aside0 (RR = (0, 2)) := ⟨by rw [hRR.out]; simp [word_Do.g, e1, e2, e3]⟩
        clear e1 e2 e3
        go_enter Tryd.func59, Tryd.ntmps59
        go_wp2_with fail
        refine (h1.out).mono ?_
        rintro e w2 ⟨rfl, m2, rfl⟩
        go_wp2_with fail
        refine (h2.out _).mono ?_
        rintro e w2 ⟨rfl, m3, rfl⟩
        go_wp2_with fail
        refine (h3.out _).mono ?_
        rintro e w2 ⟨rfl, m4, rfl⟩
        go_wp2
        go_ret2
        exact ⟨by rw [hR.out]; rfl, by repeat (first | exact Below.refl _ _ | apply pw_below_drewN)⟩
      · rw [e3] at h3
        cases e4 : zeroB op b
        · have hR : Aside0 (RR = (deed op a b, 0)) := ⟨by rw [hRR.out]; simp [word_Do.g, e1, e2, e3, e4]⟩
          have wa : W32 a := by simp [isWordB] at e2; exact e2
          have wb : W32 b := by simp [isWordB] at e3; exact e3
          obtain ⟨k, hk, hg, HC⟩ := deeds_call op a b e1 wa wb e4
          have hop : 0 ≤ op ∧ op < 12 := by simpa [isOpB] using e1
          obtain ⟨p0, p1⟩ := hop
          have HGk := Aside0.mk (fun (W : World) (hW : Below w.heap.size w W) => (HG.out.below hW) op.toNat k hk)
          replace HC := Aside0.mk HC
          have E4 := Aside0.mk e4
          clear e1 e2 e3 hk wa wb e4
          by_cases hb0 : b = 0
          · have y1 : (b == 0) = true := by simpa using hb0
            have y23 : (op == 3) = false ∧ (op == 4) = false := by have := E4.out; simpa [zeroB, hb0] using this
            obtain ⟨y2, y3⟩ := y23
            clear hb0
            go_enter Tryd.func59, Tryd.ntmps59
            go_wp2_with fail
            refine (h1.out).mono ?_
            rintro e w2 ⟨rfl, m2, rfl⟩
            go_wp2_with fail
            refine (h2.out _).mono ?_
            rintro e w2 ⟨rfl, m3, rfl⟩
            go_wp2_with fail
            refine (h3.out _).mono ?_
            rintro e w2 ⟨rfl, m4, rfl⟩
            have hcell := HGk.out (w.drewN (m2 + m3 + m4)) (pw_below_drewN (Below.refl _ _) _)
            go_wp2_with ((with_reducible refine (HC.out _).mono ?_); rintro e w5 ⟨rfl, hb5⟩)
            go_ret2
            exact ⟨by rw [hR.out]; rfl, (pw_below_drewN (Below.refl _ _) _).trans hb5⟩
          · have y1 : (b == 0) = false := by simpa using hb0
            clear hb0
            go_enter Tryd.func59, Tryd.ntmps59
            go_wp2_with fail
            refine (h1.out).mono ?_
            rintro e w2 ⟨rfl, m2, rfl⟩
            go_wp2_with fail
            refine (h2.out _).mono ?_
            rintro e w2 ⟨rfl, m3, rfl⟩
            go_wp2_with fail
            refine (h3.out _).mono ?_
            rintro e w2 ⟨rfl, m4, rfl⟩
            have hcell := HGk.out (w.drewN (m2 + m3 + m4)) (pw_below_drewN (Below.refl _ _) _)
            go_wp2_with ((with_reducible refine (HC.out _).mono ?_); rintro e w5 ⟨rfl, hb5⟩)
            go_ret2
            exact ⟨by rw [hR.out]; rfl, (pw_below_drewN (Below.refl _ _) _).trans hb5⟩
        · have hR : Aside0 (RR = (0, 14)) := ⟨by rw [hRR.out]; simp [word_Do.g, e1, e2, e3, e4]⟩
          have hz : b = 0 ∧ (op = 3 ∨ op = 4) := by simpa [zeroB] using e4
          obtain ⟨y1, y2⟩ := hz
          subst y1
          clear e1 e2 e3 e4 hRR
          rcases y2 with rfl | rfl
          · go_enter Tryd.func59, Tryd.ntmps59
            go_wp2_with fail
            refine (h1.out).mono ?_
            rintro e w2 ⟨rfl, m2, rfl⟩
            go_wp2_with fail
            refine (h2.out _).mono ?_
            rintro e w2 ⟨rfl, m3, rfl⟩
            go_wp2_with fail
            refine (h3.out _).mono ?_
            rintro e w2 ⟨rfl, m4, rfl⟩
            go_wp2
            go_ret2
            exact ⟨by rw [hR.out]; rfl, pw_below_drewN (Below.refl _ _) _⟩
          · go_enter Tryd.func59, Tryd.ntmps59
            go_wp2_with fail
            refine (h1.out).mono ?_
            rintro e w2 ⟨rfl, m2, rfl⟩
            go_wp2_with fail
            refine (h2.out _).mono ?_
            rintro e w2 ⟨rfl, m3, rfl⟩
            go_wp2_with fail
            refine (h3.out _).mono ?_
            rintro e w2 ⟨rfl, m4, rfl⟩
            go_wp2
            go_ret2
            exact ⟨by rw [hR.out]; rfl, pw_below_drewN (Below.refl _ _) _⟩
end Go.Proofs.YtpimackoadfcmaaDoor.Hand
