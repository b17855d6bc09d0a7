/- A range over a function whose rounds must keep what the iterator reads. -/
import Derived.Test.YtpenkemabeonaaaDoorG1
import Derived.WalkMore
namespace Go.Proofs.YtpenkemabeonaaaDoor.Hand
open Go.RowKit Go.Proofs.YtpenkemabeonaaaDoorW.PrintWords Go.Proofs.YtpenkemabeonaaaDoorW.PrintLast Go.Proofs.YtpenkemabeonaaaDoorW.PrintMore
set_option linter.unusedVariables false
set_option linter.unusedSimpArgs false
/-- As IterC; between rounds K0 holds. -/
def IterK (P : Program) (gf : Nat) (lb : Array Value) (L : List (Array Value)) (B : Nat) (w0 : World) (K0 : World → Prop) : Prop :=
  ∀ (l : Nat) (J : Nat → World → Prop) (Jx : World → Prop) (W : World), Below w0.heap.size w0 W → (∀ i W1, J i W1 → K0 W1) →
    (∀ i W1 W2, J i W1 → Below W1.heap.size W1 W2 → J i W2) → (∀ W1 W2, Jx W1 → Below W1.heap.size W1 W2 → Jx W2) →
    (∀ i args W1, L[i]? = some args → J i W1 → YieldAt Fence.wide 0 P l args W1 fun e W' => (e = .returned (.bool true) ∧ J (i + 1) W' ∧ Below B W1 W') ∨ (e = .returned (.bool false) ∧ Jx W')) →
    J 0 W → CallsIn Fence.wide 0 P gf (#[.func (.yield l) #[] #[]] ++ lb) W fun e W' => (∃ v, e = .returned v) ∧ (J L.length W' ∨ Jx W')
theorem wp_rangeSeqK {P : Program} {g : Operand} {ps : Array Tmp} {assign body : Code} {Q : Exit → Act → World → Prop} {a : Act} {w : World}
    {gf : Nat} {lb : Array Value} {L : List (Array Value)} {B : Nat} {w0 : World} {K0 : World → Prop} (hg : a.eval g = .func (.func gf) #[] lb) (eg : ∀ args w, (callFunc gf args).run P w = .ok (.enter gf args) w)
    (hit : IterK P gf lb L B w0 K0) (hb0 : Below w0.heap.size w0 w) (hB : B ≤ w.heap.size) (hps : ∀ args ∈ L, args.size = ps.size)
    (I : Nat → World → Prop) (Ix : Code → World → Prop) (hI : OwnFrom w.heap.size I) (hIx : OwnFrom w.heap.size Ix) (h0 : I 0 w) (hK0 : ∀ i W, I i W → K0 W)
    (hround : ∀ (l i : Nat) (args : Array Value) (W : World), L[i]? = some args → I i W → ∀ K : Act → World → Prop,
      (∀ a', (∀ W2, I i W2 → body.wpIn (Fence.wide.inRound l) 0 P (RfPost w.heap.size B I Ix i W2) a' W2) → K a' W) → assign.wpIn (Fence.wide.inRound l) 0 P (Exit.then K (fun _ _ _ => False)) { tmps := (ps.zip args).foldl (fun t (p, v) => t.setIfInBounds p v) a.tmps, defers := [] } W)
    (hdone : ∀ (D : Nat) (W : World), w.heap.size ≤ D → I L.length W → W.heap[D]? = some (.deferred (some [])) → Q .normal { a with defers := { target := .collected D, args := #[] } :: a.defers } W)
    (hstop : ∀ (D : Nat) (c : Code) (W : World), w.heap.size ≤ D → Ix c W → W.heap[D]? = some (.deferred (some [])) → c.wp P Q { a with defers := { target := .collected D, args := #[] } :: a.defers } W) :
    (Code.rangeFunc g ps assign body).wp P Q a w := by
  refine (wpIn_wide (n := 0)).1 (wpIn_rangeFunc ?_)
  intro fn hfn
  obtain ⟨rc, hrc⟩ : ∃ rc : LoopState → Option Code → Loop, rc = fun st pe => { state := st, pending := pe, fn, tmps := a.tmps, params := ps, assign, body, defers := w.heap.size } := ⟨_, rfl⟩
  obtain ⟨D, hD⟩ : ∃ D, D = w.heap.size := ⟨_, rfl⟩
  obtain ⟨V, hV⟩ : ∃ V, V = (w.alloc (.deferred (some []))).alloc (.loop (rc .ready none)) := ⟨_, rfl⟩
  have vl : V.heap[D + 1]? = some (.loop (rc .ready none)) := by rw [hV]; exact blk_new_at (by simp [hD]) _
  have vd : V.heap[D]? = some (.deferred (some [])) := by rw [hV]; exact blk_alloc (blk_new_at hD.symm _) _
  have vi : I 0 V := by rw [hV]; exact hI.alloc _ (hI.alloc _ h0)
  have vb : Below w.heap.size w V := by rw [hV]; exact below_alloc (below_alloc (Below.refl _ _) _) _
  have nocell : ∀ {W1 W2 : World}, Below W1.heap.size W1 W2 → W1.grownBy W2 none := fun h => grown_of_below h none
  refine ⟨D + 1, [{ target := .collected w.heap.size, args := #[] }], V, { target := .fn (.func gf) lb, args := #[.func (.yield (D + 1)) #[] #[]] }, V, gf, #[.func (.yield (D + 1)) #[] #[]] ++ lb, V, ?_, ?_, ?_, ?_, ?_, ?_⟩
  · rw [hV, hrc, hD]
    exact run_enterLoop_outer _ _ _ _ _
  · simp only [resolve, hg]
    simp [go_sem]
  · exact fun _ _ => trivial
  · simp [invoke, go_sem, eg]
  · intro h
    simp [Fence.wide] at h
  · refine (hit (D + 1) (fun i W => I i W ∧ W.heap[D + 1]? = some (.loop (rc .ready none)) ∧ W.heap[D]? = some (.deferred (some [])))
      (fun W => ∃ c, Ix c W ∧ W.heap[D + 1]? = some (.loop (rc .done (some c))) ∧ W.heap[D]? = some (.deferred (some []))) V (hb0.trans (vb.mono hb0.size)) (fun i W h => hK0 i W h.1) ?_ ?_ ?_ ⟨vi, vl, vd⟩).mono ?_
    · rintro i W1 W2 ⟨h1, h2, h3⟩ hb
      exact ⟨hI i W1 W2 none h1 (nocell hb) (fun r e => by cases e), blk_below h2 hb, blk_below h3 hb⟩
    · rintro W1 W2 ⟨c, h1, h2, h3⟩ hb
      exact ⟨c, hIx c W1 W2 none h1 (nocell hb) (fun r e => by cases e), blk_below h2 hb, blk_below h3 hb⟩
    · -- a round
      rintro i args W hi ⟨h1, h2, h3⟩
      have hy := run_yield (P := P) (args := args) h2 (by rw [hrc]; exact hps args (List.mem_of_getElem? hi))
      rw [hrc] at hy
      refine ⟨fn, _, assign, body, hy, roundIn_of_wpIn hfn (wpIn_mono (hround _ i args W hi h1 (fun a' W' => W' = W ∧ ∀ W2, I i W2 → body.wpIn (Fence.wide.inRound (D + 1)) 0 P (RfPost w.heap.size B I Ix i W2) a' W2) (fun a' h => ⟨rfl, h⟩)) ?_)⟩
      rintro e0 a0 W0 hp0
      cases e0 with
      | exit _ => exact hp0.elim
      | goto _ => exact hp0.elim
      | ret => exact hp0.elim
      | panic _ => exact hp0.elim
      | outgrown => exact hp0.elim
      | normal =>
      obtain ⟨rfl, hbody⟩ : W0 = W ∧ ∀ W2, I i W2 → body.wpIn (Fence.wide.inRound (D + 1)) 0 P (RfPost w.heap.size B I Ix i W2) a0 W2 := hp0
      refine ⟨_, run_beginRound h2 (by rw [hrc]), ?_⟩
      obtain ⟨W', hW'⟩ : ∃ W', W' = W0.putObj (D + 1) (.loop { rc .ready none with state := .busy }) := ⟨_, rfl⟩
      have b1 : W'.heap[D + 1]? = some (.loop { rc .ready none with state := .busy }) := by rw [hW']; exact World.putObj_heap_same (blk_lt h2)
      have b2 : W'.heap[D]? = some (.deferred (some [])) := by rw [hW']; exact (World.putObj_heap_other (by omega)).trans h3
      have b3 : Below B W0 W' := by rw [hW']; exact below_putObj W0 _ (by omega)
      have b4 : I i W' := by rw [hW']; exact hI.putObj _ h1 (by omega) h2 rfl
      rw [← hW']
      refine wpIn_mono (hbody W' b4) ?_
      have last : ∀ (jump : Option Code) (W3 : World), KeepsFrom w.heap.size W' W3 →
          (Instr.endRound (D + 1) jump).run P W3 = .ok (.bool jump.isNone) (W3.putObj (D + 1) (.loop (rc (if jump.isNone then .ready else .done) jump))) ∧ W3.heap[D + 1]? = some (.loop { rc .ready none with state := .busy }) ∧
          (W3.putObj (D + 1) (.loop (rc (if jump.isNone then .ready else .done) jump))).heap[D + 1]? = some (.loop (rc (if jump.isNone then .ready else .done) jump)) ∧
          (W3.putObj (D + 1) (.loop (rc (if jump.isNone then .ready else .done) jump))).heap[D]? = some (.deferred (some [])) := by
        intro jump W3 hk
        have c1 := hk.same _ _ (by omega) b1 rfl
        have c2 := hk.same _ _ (by omega) b2 rfl
        have c3 := run_endRound (P := P) jump c1
        rw [hrc] at c3 ⊢
        exact ⟨c3, by rw [hrc] at c1; exact c1, World.putObj_heap_same (blk_lt c1), (World.putObj_heap_other (by omega)).trans c2⟩
      have stop : ∀ (c : Code) (W3 : World), KeepsFrom w.heap.size W' W3 → Ix c W3 → ∃ (v : Value) (W4 : World), (Instr.endRound (D + 1) (some c)).run P W3 = .ok v W4 ∧
          ((Ending.returned v = .returned (.bool true) ∧ (I (i + 1) W4 ∧ W4.heap[D + 1]? = some (.loop (rc .ready none)) ∧ W4.heap[D]? = some (.deferred (some []))) ∧ Below B W0 W4) ∨
          (Ending.returned v = .returned (.bool false) ∧ ∃ c, Ix c W4 ∧ W4.heap[D + 1]? = some (.loop (rc .done (some c))) ∧ W4.heap[D]? = some (.deferred (some [])))) := by
        intro c W3 hk hx
        obtain ⟨d1, d2, d3, d4⟩ := last (some c) W3 hk
        exact ⟨_, _, d1, .inr ⟨rfl, c, hIx.putObj _ hx (by omega) d2 rfl, d3, d4⟩⟩
      rintro e a3 W3 hp
      cases e with
      | normal =>
        obtain ⟨hk, hbl, hi3⟩ := hp
        obtain ⟨d1, d2, d3, d4⟩ := last none W3 hk
        exact ⟨_, _, d1, .inl ⟨rfl, ⟨hI.putObj _ hi3 (by omega) d2 rfl, d3, d4⟩, (b3.trans hbl).trans (below_putObj W3 _ (by omega))⟩⟩
      | ret => exact stop _ W3 hp.1 hp.2
      | exit id => exact stop _ W3 hp.1 hp.2
      | goto t => exact stop _ W3 hp.1 hp.2
      | panic ch => exact hp.elim
      | outgrown => exact hp.elim
    · rintro e W2 ⟨⟨v, rfl⟩, (⟨h1, h2, h3⟩ | ⟨c, h1, h2, h3⟩)⟩
      · refine ⟨none, _, by have z := run_endLoop (P := P) h2 (by rw [hrc]; simp); rw [hrc] at z; exact z, ?_⟩
        rw [← hD]
        exact hdone D _ (by omega) (hI.putObj _ h1 (by omega) h2 rfl) ((World.putObj_heap_other (by omega)).trans h3)
      · refine ⟨some c, _, by have z := run_endLoop (P := P) h2 (by rw [hrc]; simp); rw [hrc] at z; exact z, ?_⟩
        rw [← hD]
        exact (wpIn_wide (n := 0)).2 (hstop D c _ (by omega) (hIx.putObj _ h1 (by omega) h2 rfl) ((World.putObj_heap_other (by omega)).trans h3))

end Go.Proofs.YtpenkemabeonaaaDoor.Hand
/- A region that draws its order, whose last operation writes what its reads read: reads first, in the text's order, then operations one by one. -/
namespace Go.Proofs.YtpenkemabeonaaaDoor.Hand
open Go.RowKit Go.Proofs.YtpenkemabeonaaaDoorW.PrintWords Go.Proofs.YtpenkemabeonaaaDoorW.PrintLast Go.Proofs.YtpenkemabeonaaaDoorW.PrintMore
set_option linter.unusedVariables false
set_option linter.unusedSimpArgs false
def headBL (ops : Array Oper) (ds : List Nat) : Nat → Nat → Array Bool → Bool
  | 0, _, _ => true
  | n + 1, k, listed => (Region.ready .any ops listed).contains k && Region.free .any ops listed k && Region.closedB .any ops listed && Region.lastB .any ops listed ds k && headBL ops ds n (k + 1) (listed.setIfInBounds k true)
theorem wpAnyL_heads {P : Program} {ops : Array Oper} {Q : Exit → Act → World → Prop} {S : World → Prop} {ds : List Nat} {w : World} (hs : Region.noSelect ops = true) (hQ : ∀ c a w, ¬ Q (.panic c) a w) (hS : S w) (fuel : Nat) :
    ∀ (l : List Oper) (k : Nat) (listed : Array Bool) (a : Act), (∀ j, j < l.length → l[j]? = ops[k + j]?) → headBL ops ds l.length k listed = true →
      Reads P ops S l a (fun a' => wpAnyLast P .any ops Q S ds fuel (markedB l.length k listed) a' w) → wpAnyLast P .any ops Q S ds (fuel + l.length) listed a w
  | [], _, _, _, _, _, h => h
  | o :: l, k, listed, a, hl, hB, h => by
    obtain ⟨v, hy, h⟩ := h
    simp only [List.length_cons, headBL, Bool.and_eq_true] at hB
    have h0 : ops[k]? = some o := by simpa using (hl 0 (by simp)).symm
    have ih := wpAnyL_heads (ds := ds) hs hQ hS fuel l (k + 1) (listed.setIfInBounds k true) (a.put o.dst v) (fun j hj => by
      have := hl (j + 1) (by simp; omega)
      simpa [Nat.add_assoc, Nat.add_comm 1 j] using this) hB.2 h
    exact wpAnyLast_take h0 hs hB.1.1.1.2 hB.1.1.1.1 hB.1.1.2 hB.1.2 (fun c a w h => (hQ _ _ _ h).elim) hy hS ih
/-- The operations that are left come one by one; behind the last one nothing is kept. -/
def TailL (P : Program) (ops : Array Oper) (Q : Exit → Act → World → Prop) (S : World → Prop) : List Nat → Act → World → Prop
  | [], a, w => Q .normal a w
  | i :: l, a, w => wpOp P ops Q i (fun a' w' => (l ≠ [] → S w') ∧ TailL P ops Q S l a' w') a w
def lastOnly (ds : List Nat) : List Nat → Bool
  | [] => true
  | i :: l => (ds.contains i || !l.isEmpty) && lastOnly ds l
theorem wpAnyL_tail {P : Program} {ops : Array Oper} {Q : Exit → Act → World → Prop} {S : World → Prop} {ds : List Nat} : ∀ (l : List Nat) (listed : Array Bool) (a : Act) (w : World), tailB ops l listed = true → lastOnly ds l = true → TailL P ops Q S l a w → wpAnyLast P .any ops Q S ds l.length listed a w
  | [], listed, a, w, hB, _, h => wpAnyLast_done (by simpa [tailB] using hB) h 0
  | i :: l, listed, a, w, hB, hO, h => by
    simp only [tailB, Bool.and_eq_true] at hB
    simp only [lastOnly, Bool.and_eq_true, Bool.or_eq_true] at hO
    refine wpAnyLast_all (rs := [i]) (by simpa using hB.1) (by simp) (fun j hj => ?_)
    obtain rfl : j = i := by simpa using hj
    refine wpOp_mono (fun a' w' hh => ⟨fun hni _ => hh.1 (fun e => ?_), wpAnyL_tail l _ a' w' hB.2 hO.2 hh.2⟩) h
    rcases hO.1 with h1 | h1
    · exact hni (by simpa using h1)
    · rw [e] at h1; simp at h1
theorem region_anyL {P : Program} {l : List Oper} {Q : Exit → Act → World → Prop} {a : Act} {w : World} (S : World → Prop) (n : Nat) (tl ds : List Nat) (hs : Region.noSelect l.toArray = true) (hB : headBL l.toArray ds n 0 (Array.replicate l.toArray.size false) = true)
    (hT : tailB l.toArray tl (markedB n 0 (Array.replicate l.toArray.size false)) = true) (hO : lastOnly ds tl = true) (hn : tl.length + n = l.toArray.size) (hQ : ∀ c a w, ¬ Q (.panic c) a w) (hS : S w)
    (h : Reads P l.toArray S (l.take n) a (fun a' => TailL P l.toArray Q S tl a' w)) : wpAny P .any l.toArray Q l.toArray.size (Array.replicate l.toArray.size false) a w := by
  have hn2 : (l.take n).length = n := by simp at hn ⊢; omega
  have H := wpAnyL_heads (P := P) (Q := Q) (ds := ds) hs hQ hS tl.length (l.take n) 0 (Array.replicate l.toArray.size false) a (fun j hj => by
    have hj' : j < n := by rw [hn2] at hj; exact hj
    simp [hj']) (by rw [hn2]; exact hB) (Reads.imp _ _ _ _ (fun a' ha => by rw [hn2]; exact wpAnyL_tail tl _ a' w hT hO ha) h)
  rw [hn2, hn] at H
  exact wpAny_of_last _ _ _ _ H
theorem TailL.val {P : Program} {ops : Array Oper} {Q : Exit → Act → World → Prop} {S : World → Prop} {i : Nat} {l : List Nat} {a : Act} {w w2 : World} {o : Oper} {v : Value} (ho : ops[i]? = some o) (hg : o.guard = none)
    (hr : (execOp a.eval o).run P w = .ok (.value v) w2) (hS : l ≠ [] → S w2) (h : TailL P ops Q S l (a.put o.dst v) w2) : TailL P ops Q S (i :: l) a w := by
  unfold TailL wpOp
  simp only [ho]
  rw [if_pos (by simp [Region.wanted, hg])]
  refine .inl ?_
  simp only [Oper.wp, hr, Oper.upon]
  exact ⟨hS, h⟩
theorem TailL.skip {P : Program} {ops : Array Oper} {Q : Exit → Act → World → Prop} {S : World → Prop} {i : Nat} {l : List Nat} {a : Act} {w w2 : World} {o : Oper} (ho : ops[i]? = some o) (hg : o.guard = none) (hd : o.dst = none)
    (hr : (execOp a.eval o).run P w = .ok .skip w2) (hS : l ≠ [] → S w2) (h : TailL P ops Q S l a w2) : TailL P ops Q S (i :: l) a w := by
  unfold TailL wpOp
  simp only [ho]
  rw [if_pos (by simp [Region.wanted, hg])]
  refine .inl ?_
  simp only [Oper.wp, hr, Oper.upon]
  rw [hd]
  exact ⟨hS, h⟩
theorem TailL.call {P : Program} {ops : Array Oper} {Q : Exit → Act → World → Prop} {S : World → Prop} {i : Nat} {l : List Nat} {a : Act} {w : World} {o : Oper} {f : FuncId} {args : Array Value} {R : Ending → World → Prop} (ho : ops[i]? = some o) (hg : o.guard = none)
    (hr : (execOp a.eval o).run P w = .ok (.enter f args) w) (hc : Calls P f args w R) (h : ∀ e w2, R e w2 → ∃ v, e = .returned v ∧ (l ≠ [] → S w2) ∧ TailL P ops Q S l (a.put o.dst v) w2) : TailL P ops Q S (i :: l) a w := by
  unfold TailL wpOp
  simp only [ho]
  rw [if_pos (by simp [Region.wanted, hg])]
  refine .inl ?_
  simp only [Oper.wp, hr, Oper.upon]
  refine hc.mono ?_
  intro e w2 hR
  obtain ⟨v, rfl, hS, hT⟩ := h e w2 hR
  exact ⟨hS, hT⟩
/-- A word appended, behind a literal of it. -/
theorem TailL.append {P : Program} {ops : Array Oper} {Q : Exit → Act → World → Prop} {S : World → Prop} {i : Nat} {l : List Nat} {a : Act} {W : World} {o : Oper} (t e : TypeId) (base : Nat) (s x : Operand) (v : Value) (xs : List Int) (p : Int) (ok : Nat → Prop)
    (hoi : ops[i]? = some o) (hg : o.guard = none) (ho : o.op = .call { callee := .builtin .append, args := #[s, x], argTypes := #[t, t] })
    (ht : P.underlying t = some (.slice e)) (hinfo : (P.info? e).map (fun i => (i.zero, i.size, i.bytes)) = some (some (.int .i64 0), 1, 8)) (hs : a.eval s = v) (hx : a.eval x = .slice (some ⟨W.heap.size, 0, none⟩) 1 1) (hfresh : ∀ k, W.heap.size ≤ k → ok k)
    (HO : (Kd.int .i64).R e W base ok v xs) (hbase : base ≤ W.heap.size) (hl : (xs.length + 1) * 8 ≤ 140737488355328)
    (h : ∀ v1 w1, (Kd.int .i64).R e w1 base ok v1 (xs ++ [p]) → Below base W w1 → W.grownBy w1 v.ownBlock → (v1.ownBlock = v.ownBlock ∨ ∃ b, v1.ownBlock = some b ∧ W.heap.size ≤ b) → (l ≠ [] → S w1) ∧ TailL P ops Q S l (a.put o.dst v1) w1) :
    TailL P ops Q S (i :: l) a (W.alloc (.cells #[.int .i64 p] e)) := by
  unfold TailL wpOp
  simp only [hoi]
  have hw : ∀ q, Region.wanted o q = true := fun q => by simp [Region.wanted, hg]
  have H := Kd.R_append_step (P := P) (ops := ops) (o := o) (a := a) (Q := Q) (Kc := fun a' w' => (l ≠ [] → S w') ∧ TailL P ops Q S l a' w') (Kd.int .i64) (w0 := W) (W := W) base (hw _) s x t e (.int .i64 0) 8 ho ht hinfo rfl (by decide) (by decide) v xs p [.int .i64 p] ok (fun _ => False) hs hx rfl (fun k hk => hk.elim) hfresh HO (Below.refl _ _) hbase hl h
  rw [if_pos (hw _)] at H
  rw [if_pos (hw _)]
  exact .inl H
/-- A word appended inside a fence, behind a literal of it. -/
theorem wpListIn_append_int {F : Fence} {n : Nat} {P : Program} {ops : Array Oper} {rest : List Oper} {o : Oper} {a : Act} {Q : Exit → Act → World → Prop} {W : World} (t e : TypeId) (base : Nat) (hgd : o.guard = none) (s x : Operand)
    (v : Value) (xs : List Int) (p : Int) (ok : Nat → Prop) (ho : o.op = .call { callee := .builtin .append, args := #[s, x], argTypes := #[t, t] })
    (ht : P.underlying t = some (.slice e)) (hinfo : (P.info? e).map (fun i => (i.zero, i.size, i.bytes)) = some (some (.int .i64 0), 1, 8)) (hs : a.eval s = v) (hx : a.eval x = .slice (some ⟨W.heap.size, 0, none⟩) 1 1) (hfresh : ∀ k, W.heap.size ≤ k → ok k)
    (HO : (Kd.int .i64).R e W base ok v xs) (hbase : base ≤ W.heap.size) (hl : (xs.length + 1) * 8 ≤ 140737488355328)
    (h : ∀ v1 w1, (Kd.int .i64).R e w1 base ok v1 (xs ++ [p]) → W.grownBy w1 v.ownBlock → (v1.ownBlock = v.ownBlock ∨ ∃ b, v1.ownBlock = some b ∧ W.heap.size ≤ b) → wpListIn F n P ops Q rest (a.put o.dst v1) w1) :
    wpListIn F n P ops Q (o :: rest) a (W.alloc (.cells #[.int .i64 p] e)) := by
  obtain ⟨i0, hi, hzz⟩ := Option.map_eq_some_iff.1 hinfo
  simp only [Prod.mk.injEq] at hzz
  obtain ⟨hz0, hz1, hz2⟩ := hzz
  have hown := Kd.own_of_R (enc := Value.int .i64) (h1 := fun _ => rfl) HO
  have hok := HO.1
  refine wpListIn_plain hgd fun K hK' => ?_
  obtain ⟨v', w', hrun, r1, r2, r3, r4⟩ := run_append_own_at (P := P) (W.alloc (.cells #[.int .i64 p] e)) base t o.type e i0 (.int .i64 0) 1 8 ht hi hz0 hz1 hz2 rfl (by omega) v xs.length (encs (Value.int .i64) xs) (hown.alloc _) ⟨W.heap.size, 0, none⟩ 1 1 [.int .i64 p] rfl
    (World.news_of_block (cs := #[.int .i64 p]) (t := e) (fr := (0, 0)) (heap_alloc_new W _)) (by simp [Value.oneCell']) (by simp only [maxLen]; omega) hl (by simp; omega)
  have hgw : W.grownBy w' v.ownBlock := World.grownBy.trans (World.grownBy_alloc W _ _) r2
  have hat : v'.ownBlock = v.ownBlock ∨ ∃ b, v'.ownBlock = some b ∧ W.heap.size ≤ b := by
    rcases r4 with r4 | r4
    · exact .inl r4
    · exact .inr ⟨_, r4, by simp⟩
  have hR : (Kd.int .i64).R e w' base ok v' (xs ++ [p]) := by
    refine Kd.R_of_own (enc := Value.int .i64) (h1 := fun _ => rfl) (by simpa [encs] using r1) (fun k hk => ?_)
    rcases hat with h2 | ⟨b, h2, h3⟩
    · exact hok k (h2 ▸ hk)
    · rw [h2] at hk
      injection hk with hk
      exact hfresh k (by omega)
  unfold Oper.wpIn
  refine ⟨?_, ?_⟩
  · simp [Oper.about, ho, resolve, Target.leads, Sem.run_pure]
  · rw [Oper.semAt_plain F _ _ (by rw [ho]; intro c hc'; cases hc')]
    simp [execOp, ho, resolve, invoke, builtin, hs, hx, hrun, Result.andThen]
    exact hK' _ _ (h v' w' hR hgw hat)
end Go.Proofs.YtpenkemabeonaaaDoor.Hand
/- scan: segments yields all segments of a list. -/
namespace Go.Proofs.YtpenkemabeonaaaDoor.Hand
open Go.RowKit Go.Proofs.YtpenkemabeonaaaDoorW.PrintWords Go.Proofs.YtpenkemabeonaaaDoorW.PrintLast Go.Proofs.YtpenkemabeonaaaDoorW.PrintMore
set_option linter.unusedVariables false
set_option linter.unusedSimpArgs false
theorem infoInt : (Tryd.prog.info? 3).map (fun i => (i.zero, i.size, i.bytes)) = some (some (.int .i64 0), 1, 8) := by kernel_rfl
/-- Where the slice of a list begins that a segment is. -/
def segA (A : Option Addr) (at_ n : Nat) : Option Addr := if at_ + n = at_ then A else A.map (·.add at_)
theorem seg_slice (A : Option Addr) (c : Nat) (l : List Int) (at_ n : Nat) (hm : at_ + n ≤ l.length) (hc : l.length ≤ c) :
    (∀ W : World, (Instr.slice 22 (.slice A l.length c) (some (.int .i64 (at_ : Int))) (some (.int .i64 ((at_ : Int) + (n : Int)))) (some (.int .i64 ((at_ : Int) + (n : Int))))).run Tryd.prog W = .ok (.slice (segA A at_ n) n n) W) ∧
      (∀ W : World, (Kd.int .i64).C W A l.length l → (Kd.int .i64).C W (segA A at_ n) n ((l.drop at_).take n)) := by
  obtain ⟨i, hi, hs⟩ : ∃ i, Tryd.prog.info? 3 = some i ∧ i.size = 1 := by
    have h := infoInt
    cases hq : Tryd.prog.info? 3 with
    | none => rw [hq] at h; exact absurd h (by simp)
    | some i => rw [hq] at h; exact ⟨i, rfl, by simp at h; exact h.2.1⟩
  constructor
  · intro W
    have ht := Tryd.underlying22
    have hel : Tryd.prog.elem 22 = 3 := by simp [Program.elem, ht]
    have hu : Tryd.prog.underlying 22 = some (.slice (Tryd.prog.elem 22)) := by rw [hel]; exact ht
    rw [run_slice_lhm W 22 A l.length c hu .i64 .i64 .i64 (at_ : Int) ((at_ : Int) + (n : Int)) ((at_ : Int) + (n : Int)) (by omega) (by omega) (by omega) (by omega), hel]
    have e1 : ((at_ : Int) + (n : Int)).toNat = at_ + n := by omega
    simp [sizeOf, typeInfo, hi, hs, sliced, Result.andThen, segA, e1]
  · intro W h
    have h1 := Kd.reads_of_C (enc := Value.int .i64) (d := (0 : Int)) (h1 := fun _ => rfl) h
    have h2 := (h1.take_ (at_ + n) hm).drop_ (c := at_ + n) at_ (by omega) (by omega)
    have e : at_ + n - at_ = n := by omega
    rw [e, List.drop_take, e] at h2
    exact Kd.C_of_reads (d := (0 : Int)) (h1 := fun _ => rfl) h2
/-- Where the segment i begins. -/
def startOf (lens : List Int) (x : Int) : Nat := (lens.take x.toNat).foldl (fun s n => s + n.toNat) 0
theorem startOf_zero (lens : List Int) : startOf lens 0 = 0 := rfl
theorem startOf_succ (lens : List Int) (x : Int) (h0 : 0 ≤ x) (hx : x < lens.length) : startOf lens (x + 1) = startOf lens x + (rd lens x).toNat := by
  unfold startOf
  have e : (x + 1).toNat = x.toNat + 1 := by omega
  have hlt : x.toNat < lens.length := by omega
  rw [e, List.take_add_one, List.getElem?_eq_getElem hlt, List.foldl_append]
  simp [rd, hlt]
theorem startOf_mono (lens : List Int) (x : Int) (h0 : 0 ≤ x) (k : Nat) (hx : x + k ≤ lens.length) : startOf lens x ≤ startOf lens (x + k) := by
  induction k with
  | zero => simp
  | succ k ih =>
    have h1 := ih (by omega)
    have h2 := startOf_succ lens (x + k) (by omega) (by omega)
    have e : x + ((k + 1 : Nat) : Int) = x + k + 1 := by omega
    rw [e, h2]; omega
/-- What segments yields. -/
def segL (A : Option Addr) (lens : List Int) : List (Array Value) := (List.range lens.length).map fun (i : Nat) => #[.slice (segA A (startOf lens i) (rd lens (i : Int)).toNat) (rd lens (i : Int)).toNat (rd lens (i : Int)).toNat]
theorem segL_at (A : Option Addr) (lens : List Int) (x : Int) (h0 : 0 ≤ x) (hx : x < lens.length) : (segL A lens)[x.toNat]? = some #[.slice (segA A (startOf lens x) (rd lens x).toNat) (rd lens x).toNat (rd lens x).toNat] := by
  have e : ((x.toNat : Nat) : Int) = x := by omega
  simp only [segL, List.getElem?_map, List.getElem?_range (show x.toNat < lens.length by omega), Option.map_some, e]
theorem segL_length (A : Option Addr) (lens : List Int) : (segL A lens).length = lens.length := by simp [segL]
theorem segL_get {A : Option Addr} {lens : List Int} {i : Nat} {args : Array Value} (h : (segL A lens)[i]? = some args) : i < lens.length ∧ args = #[.slice (segA A (startOf lens i) (rd lens (i : Int)).toNat) (rd lens (i : Int)).toNat (rd lens (i : Int)).toNat] := by
  have hi : i < lens.length := by have := (List.getElem?_eq_some_iff.1 h).1; rwa [segL_length] at this
  have e := segL_at A lens (i : Int) (by omega) (by omega)
  rw [Int.toNat_natCast, h] at e
  exact ⟨hi, Option.some.inj e⟩
theorem segL_size (A : Option Addr) (lens : List Int) : ∀ args ∈ segL A lens, args.size = 1 := by
  intro args h
  obtain ⟨i, _, rfl⟩ := List.mem_map.1 h
  rfl
theorem scan_segments (v v2 : Value) (w : World) (A A2 : Option Addr) (n c n2 c2 : Nat) (hv : v = .slice A n c) (hv2 : v2 = .slice A2 n2 c2) :
    Calls Tryd.prog 70 #[v, v2] w fun e w' => e = .returned (.func (.func 83) #[] #[.pointer (some ⟨w.heap.size + 1, 0, none⟩), .pointer (some ⟨w.heap.size, 0, none⟩)]) ∧ w' = (w.alloc (.cells #[v] 22)).alloc (.cells #[v2] 22) := by
  subst hv
  subst hv2
  go_enter Tryd.func70, Tryd.ntmps70
  go_wp2
  go_ret
  exact ⟨by simp, rfl⟩
set_option maxHeartbeats 4000000 in
set_option maxRecDepth 100000 in
theorem scan_segments_it (Bl Bs : Nat) (A : Option Addr) (c : Nat) (l : List Int) (A2 : Option Addr) (c2 : Nat) (lens : List Int) (B : Nat) (w0 : World) (hcs : w0.cell? ⟨Bs, 0, none⟩ = some (.slice A2 lens.length c2))
    (hc : l.length ≤ c) (hr2 : ∀ W, Below B w0 W → (Kd.int .i64).C W A2 lens.length lens) (hB : B ≤ w0.heap.size) (hpos : ∀ n ∈ lens, 0 ≤ n) (htot : startOf lens lens.length = l.length) (hbig : l.length ≤ 1048576) :
    IterK Tryd.prog 83 #[.pointer (some ⟨Bs, 0, none⟩), .pointer (some ⟨Bl, 0, none⟩)] (segL A lens) B w0 (fun W => W.cell? ⟨Bl, 0, none⟩ = some (.slice A l.length c)) := by
  intro lp J Jx W hW hK hJ hJx hY h0
  have HK := Aside0.mk hK
  clear hK
  have hm : lens.length ≤ 9223372036854775807 := (hr2 w0 (Below.refl _ _)).2.1
  have hc2 : W.cell? ⟨Bs, 0, none⟩ = some (.slice A2 lens.length c2) := pw_cell_below hW hcs
  have HR := Aside0.mk hr2
  have HW := Aside0.mk (hW.mono hB)
  have HJ := Aside0.mk hJ
  have HY := Aside0.mk hY
  have H0 := Aside0.mk h0
  have HP := Aside0.mk hpos
  have HT := Aside0.mk htot
  have HC := Aside0.mk hc
  have HBg := Aside0.mk hbig
  clear hcs hr2 hJ hY h0 hJx hW hpos htot hc hbig
  refine callsIn_of_wp Tryd.func83 rfl trivial ?_
  simp only [Tryd.ntmps83, List.size_toArray, List.length_cons, List.length_nil, Nat.reduceAdd, Nat.reduceSub, Array.replicate_succ, Array.replicate_zero, List.push_toArray, List.append_toArray, List.nil_append, List.cons_append]
  gi_wp2
  gi_loopw [4, 6, 9] (fun a _ i wr => ∃ x : Int, i = .int .i64 x ∧ a = .int .i64 ((startOf lens x : Nat) : Int) ∧ 0 ≤ x ∧ x ≤ lens.length ∧ Aside0 (J x.toNat wr) ∧ Aside0 (Below B w0 wr) ) (fun _ _ i _ => lens.length - (intOf i).toNat)
  case atStart => exact ⟨0, rfl, rfl, by omega, by omega, H0, HW⟩
  case round =>
    obtain ⟨x, rfl, rfl, p0, p1, hj, hb⟩ := hrel
    by_cases hlt : x < lens.length
    · obtain ⟨ad, e1, hx⟩ := Kd.at_int (HR.out _ hb.out) x p0 hlt
      cases e1
      have hn0 := HP.out _ (rd_mem lens x p0 hlt)
      obtain ⟨n, hn⟩ : ∃ n : Nat, rd lens x = n := ⟨(rd lens x).toNat, by omega⟩
      have hs := startOf_succ lens x p0 hlt
      have hmono := startOf_mono lens (x + 1) (by omega) (lens.length - (x + 1).toNat) (by omega)
      rw [show x + 1 + ((lens.length - (x + 1).toNat : Nat) : Int) = lens.length by omega, HT.out, hs, hn, Int.toNat_natCast] at hmono
      rw [hn, Int.toNat_natCast] at hs
      obtain ⟨q1, q2⟩ := seg_slice A c l (startOf lens x) n hmono HC.out
      have hyy := segL_at A lens x p0 hlt
      rw [hn, Int.toNat_natCast] at hyy
      rw [hn] at hx
      obtain ⟨fn, tmps, assign, body, hy, hR⟩ := HY.out _ _ wr hyy hj.out
      have HRd := Aside0.mk hR
      have hbg := HBg.out
      generalize hst : startOf lens x = st at *
      have HS := Aside0.mk hs
      have hsl := q1 wr
      have hc1 := HK.out _ _ hj.out
      clear hR hs q1 q2 hyy hn hn0 hst
      gi_wp2
      refine ⟨rfl, ?_⟩
      refine HRd.out.mono ?_
      rintro e W2 (⟨rfl, hj2, hk⟩ | ⟨rfl, hj2⟩)
      · have e1 : x.toNat + 1 = (x + 1).toNat := by omega
        rw [e1] at hj2
        have h3 := Aside0.mk (hb.out.trans hk)
        replace hj2 := Aside0.mk hj2
        clear hk e1 hsl hy
        gi_wp2
        go_roundw
        case rel => exact ⟨x + 1, rfl, by rw [HS.out]; rfl, by omega, by omega, hj2, h3⟩
        case measure => simp [intOf]; omega
      · replace hj2 := Aside0.mk hj2
        clear hsl hy
        gi_wp2
        refine bodyPost_ret (results_none rfl _ _ _) rfl ?_
        exact ⟨⟨_, rfl⟩, .inr hj2.out⟩
    · have e1 : x.toNat = (segL A lens).length := by rw [segL_length]; omega
      replace e1 := Aside0.mk e1
      gi_wp2
      go_end0
      exact ⟨⟨_, rfl⟩, .inl (by rw [← e1.out]; exact hj.out)⟩
end Go.Proofs.YtpenkemabeonaaaDoor.Hand
/- scan.told goes through all segments: what it returns, for any operation, list, lengths and way; new memory. -/
namespace Go.Proofs.YtpenkemabeonaaaDoor.Hand
open Go.RowKit Go.Proofs.YtpenkemabeonaaaDoorW.PrintWords Go.Proofs.YtpenkemabeonaaaDoorW.PrintLast Go.Proofs.YtpenkemabeonaaaDoorW.PrintMore
set_option linter.unusedVariables false
set_option linter.unusedSimpArgs false
attribute [local go_sem] Oper.semAt_some store_func store_nilFunc
set_option maxRecDepth 100000 in
theorem neq_none (W : World) : (binOp BinOp.neq 51 .nilFunc .nilFunc).run Tryd.prog W = .ok (.bool false) W := by rfl
set_option maxRecDepth 100000 in
theorem neq_some (g : Nat) (W : World) : (binOp BinOp.neq 51 (.func (.func g) #[] #[]) .nilFunc).run Tryd.prog W = .ok (.bool true) W := by rfl
/-- All words of a segment ahead of a place, joined. -/
def nowAt (op nn : Int) (l : List Int) (st : Nat) : Nat → Int
  | 0 => nn
  | k + 1 => joinI op (nowAt op nn l st k) (rd l ((st + k : Nat) : Int))
attribute [local go_sem] neq_none neq_some
/-- What is told at the places of a segment. -/
def outsAt (op nn : Int) (l : List Int) (st : Nat) (has : Bool) (f : Int → Int → Int) : Nat → List Int
  | 0 => []
  | k + 1 => if has then outsAt op nn l st has f k ++ [f (nowAt op nn l st k) (nowAt op nn l st (k + 1))] else outsAt op nn l st has f k
theorem outsAt_length (op nn : Int) (l : List Int) (st : Nat) (has : Bool) (f : Int → Int → Int) : ∀ k, (outsAt op nn l st has f k).length ≤ k
  | 0 => by simp [outsAt]
  | k + 1 => by
    have := outsAt_length op nn l st has f k
    unfold outsAt
    split
    · simp; omega
    · omega
/-- What is told of so many segments. -/
def segTo (op nn : Int) (l lens : List Int) (has : Bool) (f : Int → Int → Int) (en : Bool) : Nat → List Int
  | 0 => []
  | i + 1 => segTo op nn l lens has f en i ++ outsAt op nn l (startOf lens i) has f (rd lens (i : Int)).toNat ++ (if en then [nowAt op nn l (startOf lens i) (rd lens (i : Int)).toNat] else [])
theorem segTo_length (op nn : Int) (l lens : List Int) (has : Bool) (f : Int → Int → Int) (en : Bool) : ∀ i : Nat, i ≤ lens.length → (segTo op nn l lens has f en i).length ≤ startOf lens (i : Int) + i
  | 0, _ => by simp [segTo]
  | i + 1, hi => by
    have h1 := segTo_length op nn l lens has f en i (by omega)
    have h2 := startOf_succ lens (i : Int) (by omega) (by omega)
    have h3 := outsAt_length op nn l (startOf lens i) has f (rd lens (i : Int)).toNat
    have e : ((i + 1 : Nat) : Int) = (i : Int) + 1 := by omega
    rw [e, h2]
    unfold segTo
    rw [List.length_append, List.length_append]
    have h4 : (if en then [nowAt op nn l (startOf lens i) (rd lens (i : Int)).toNat] else []).length ≤ 1 := by split <;> simp
    omega
/-- Lengths that fit a list. -/
def okLens (l lens : List Int) : Bool := lens.all (fun n => decide (0 ≤ n)) && (startOf lens lens.length == l.length)
def told_g (op : Int) (l lens : List Int) (has : Bool) (f : Int → Int → Int) (en : Bool) : List Int × Int :=
  if (neutG op).2 = 0 then (if decide (1048576 < l.length) || decide (1048576 < lens.length) then ([], 3) else if (wsE l != 0) || (wsE lens != 0) then ([], 2) else if okLens l lens then (segTo op (neutG op).1 l lens has f en lens.length, 0) else ([], 6)) else ([], (neutG op).2)
/-- A list is returned, in new memory, and an error. -/
def Ret2 (w : World) (R : List Int × Int) (e : Ending) (w' : World) : Prop := ∃ v, e = .returned (.tuple #[v, .int .i64 R.2]) ∧ Kd.V (Kd.int .i64) 3 w' w.heap.size (fun k => w.heap.size ≤ k) v R.1 ∧ Below w.heap.size w w'
/-- A way's function value: none, or one that returns f. -/
def EachV (F : Value) (has : Bool) (f : Int → Int → Int) : Prop := if has then ∃ g, F = .func (.func g) #[] #[] ∧ (∀ args W, Sem.run Tryd.prog (callFunc g args) W = .ok (.enter g args) W) ∧ ∀ x y W, Calls Tryd.prog g #[.int .i64 x, .int .i64 y] W fun e W' => e = .returned (.int .i64 (f x y)) ∧ Below W.heap.size W W' else F = .nilFunc
structure Tabs (w : World) : Prop where
  laws : LawT w
  neut : NeutT w
  deeds : Deeds w
theorem Tabs.below {w w1 : World} (h : Tabs w) (hb : Below w.heap.size w w1) : Tabs w1 := ⟨h.laws.below hb, h.neut.below hb, h.deeds.below hb⟩
/-- The list that is made, behind some rounds of a segment's loop. -/
def InSt (bo : Nat) (v : Value) (W2 : World) (xs : List Int) (W : World) : Prop := ∃ u, W.heap[bo]? = some (.cells #[u] 22 (0, 0)) ∧ (Kd.int .i64).R 3 W (bo + 3) (fun k => some k = v.ownBlock ∨ W2.heap.size ≤ k) u xs ∧ Kp (fun k => k = bo ∨ some k = v.ownBlock ∨ W2.heap.size ≤ k) W2 W
theorem rd_seg (l : List Int) (st n k : Nat) (hk : k < n) : rd ((l.drop st).take n) (k : Int) = rd l ((st + k : Nat) : Int) := by
  unfold rd
  rw [Int.toNat_natCast, Int.toNat_natCast, List.getD_eq_getElem?_getD, List.getD_eq_getElem?_getD, List.getElem?_take_of_lt hk, List.getElem?_drop]
/-- What lies in memory when the checks are done: the way, the joiner, its operation. -/
structure ToldSt (w : World) (F : Value) (en : Bool) (op nn : Int) (O bJ : Nat) (W : World) : Prop where
  below : Below w.heap.size w W
  way : W.heap[w.heap.size]? = some (.cells #[F, .bool en] 63 (0, 0))
  jn : W.heap[bJ]? = some (.cells #[.int .i64 op, .int .i64 nn, .func (.func 77) #[] #[.pointer (some ⟨O, 0, none⟩)]] 70 (0, 0))
  opAt : OpAt W O op nn
theorem ToldSt.next {w : World} {F : Value} {en : Bool} {op nn : Int} {O bJ : Nat} {W W2 : World} (h : ToldSt w F en op nn O bJ W) (hb : Below W.heap.size W W2) : ToldSt w F en op nn O bJ W2 :=
  ⟨h.below.trans (hb.mono h.below.size), blk_below h.way hb, blk_below h.jn hb, blk_below h.opAt hb⟩
theorem ToldSt.drewN {w : World} {F : Value} {en : Bool} {op nn : Int} {O bJ : Nat} {W : World} (h : ToldSt w F en op nn O bJ W) (m : Nat) : ToldSt w F en op nn O bJ (W.drewN m) := h.next (pw_below_drewN (Below.refl _ _) m)
theorem okLens_pos {l lens : List Int} (h : okLens l lens = true) : (∀ n ∈ lens, 0 ≤ n) ∧ startOf lens lens.length = l.length := by
  unfold okLens at h
  rw [Bool.and_eq_true, List.all_eq_true, beq_iff_eq] at h
  exact ⟨fun n hn => by have := h.1 n hn; simpa using this, h.2⟩
set_option maxHeartbeats 8000000 in
set_option maxRecDepth 100000 in
theorem scan_told_yes (op nn : Int) (A : Option Addr) (c : Nat) (l : List Int) (A2 : Option Addr) (c2 : Nat) (lens : List Int) (F : Value) (has : Bool) (f : Int → Int → Int) (en : Bool) (w : World) (hT : Tabs w) (hF : EachV F has f)
    (hr : Kd.C (Kd.int .i64) w A l.length l) (hc : l.length ≤ c) (hr2 : Kd.C (Kd.int .i64) w A2 lens.length lens) (hc2 : lens.length ≤ c2)
    (h1 : neutG op = (nn, 0)) (h2 : l.length ≤ 1048576) (h3 : lens.length ≤ 1048576) (h4 : wsE l = 0) (h5 : wsE lens = 0) (h6 : okLens l lens = true) :
    Calls Tryd.prog 43 #[.int .i64 op, .slice A l.length c, .slice A2 lens.length c2, .agg #[F, .bool en]] w (Ret2 w (segTo op nn l lens has f en lens.length, 0)) := by
  have hq1 := scan_of_ok op nn (w.alloc (Obj.cells #[F, .bool en] 63)) (hT.laws.below (below_alloc (Below.refl _ _) _)) (hT.neut.below (below_alloc (Below.refl _ _) _)) h1
  have HOf := Aside0.mk hq1
  have HW1 : Aside0 (∀ W, Below w.heap.size w W → Calls Tryd.prog 51 #[.slice A l.length c] W fun e w' => e = .returned (.int .i64 0) ∧ Drawn0 W w') := ⟨fun W hW => by have := scan_words A c l W (Kd.C_below hr hW); rwa [h4] at this⟩
  have HW2 : Aside0 (∀ W, Below w.heap.size w W → Calls Tryd.prog 51 #[.slice A2 lens.length c2] W fun e w' => e = .returned (.int .i64 0) ∧ Drawn0 W w') := ⟨fun W hW => by have := scan_words A2 c2 lens W (Kd.C_below hr2 hW); rwa [h5] at this⟩
  have HR := Aside0.mk hr
  have HR2 := Aside0.mk hr2
  have HC := Aside0.mk hc
  have HC2 := Aside0.mk hc2
  have HT := Aside0.mk hT
  have HF := Aside0.mk hF
  have H6 := Aside0.mk h6
  have H4 := Aside0.mk h4
  have H5 := Aside0.mk h5
  clear hr hr2 hc hc2 hT hF hq1 h1 h4 h5 h6
  refine calls_of_marks Tryd.func43 rfl ?_
  simp only [Tryd.ntmps43, List.size_toArray, List.length_cons, List.length_nil, Nat.reduceAdd, Nat.reduceSub, Array.replicate_succ, Array.replicate_zero, List.push_toArray, List.append_toArray, List.nil_append, List.cons_append]
  go_wp2_with (first | (go_at_call 50; (with_reducible refine (HOf.out).mono ?_); rintro e w1 ⟨O, rfl, hO1, hO2, hb⟩; have HB1 := Aside0.mk (below_alloc ((below_alloc (Below.refl _ _) _).trans (hb.mono (by simp))) (Obj.cells #[.int .i64 op, .int .i64 nn, .func (.func 77) #[] #[.pointer (some ⟨O, 0, none⟩)]] 70)); have HST : Aside0 (ToldSt w F en op nn O w1.heap.size (w1.alloc (Obj.cells #[.int .i64 op, .int .i64 nn, .func (.func 77) #[] #[.pointer (some ⟨O, 0, none⟩)]] 70))) := ⟨⟨HB1.out, blk_alloc (blk_below (blk_new w _) hb) _, blk_new w1 _, blk_alloc hO2 _⟩⟩; have hw1 : w.heap.size + 1 ≤ w1.heap.size := (by have := hb.size; simpa using this); have hO3 : w.heap.size + 1 ≤ O := (by simpa using hO1); clear hO1; replace hO2 := Aside0.mk hO2; replace hb := Aside0.mk hb; replace hw1 := Aside0.mk hw1; replace hO3 := Aside0.mk hO3) | (go_at_call 51; (first | (with_reducible refine (HW1.out _ (by repeat (first | exact HB1.out | apply pw_below_drewN))).mono ?_) | (with_reducible refine (HW2.out _ (by repeat (first | exact HB1.out | apply pw_below_drewN))).mono ?_)); rintro e w2 ⟨rfl, m, rfl⟩))
  go_loopw [12, 14, 47] (fun a _ i wr => ∃ x : Int, i = .int .i64 x ∧ a = .int .i64 ((startOf lens x : Nat) : Int) ∧ 0 ≤ x ∧ x ≤ lens.length ∧ Aside0 (ToldSt w F en op nn O w1.heap.size wr)) (fun _ _ i _ => lens.length - (intOf i).toNat)
  case atStart => exact ⟨0, rfl, rfl, by omega, by omega, ⟨by repeat (first | exact HST.out | apply ToldSt.drewN)⟩⟩
  case round =>
    obtain ⟨x, rfl, rfl, p0, p1, hst⟩ := hrel
    clear HB1 HST
    have hpos := okLens_pos H6.out
    by_cases hlt : x < lens.length
    · obtain ⟨ad, e1, hx⟩ := Kd.at_int (Kd.C_below HR2.out hst.out.below) x p0 hlt
      cases e1
      have hn0 := hpos.1 _ (rd_mem lens x p0 hlt)
      obtain ⟨n, hn⟩ : ∃ n : Nat, rd lens x = n := ⟨(rd lens x).toNat, by omega⟩
      have hs := startOf_succ lens x p0 hlt
      have hmono := startOf_mono lens (x + 1) (by omega) (lens.length - (x + 1).toNat) (by omega)
      rw [show x + 1 + ((lens.length - (x + 1).toNat : Nat) : Int) = lens.length by omega, hpos.2, hs, hn, Int.toNat_natCast] at hmono
      rw [hn, Int.toNat_natCast] at hs
      rw [hn] at hx
      generalize hgs : startOf lens x = st at *
      have HS := Aside0.mk hs
      clear hs hn hn0 hgs hpos
      go_wp2
      go_roundw
      case rel => exact ⟨x + 1, rfl, by rw [HS.out]; rfl, by omega, by omega, hst⟩
      case measure => simp [intOf]; omega
    · obtain rfl : x = lens.length := by omega
      have e2 : startOf lens (lens.length : Int) = l.length := hpos.2
      rw [e2]
      have H7 := Aside0.mk hpos
      clear hpos e2 hlt
      go_wp2_with (go_at_call 70; refine (scan_segments _ _ _ A A2 l.length c lens.length c2 rfl rfl).mono ?_; rintro e w7 ⟨rfl, hw7⟩; replace hw7 := Aside0.mk hw7)
      replace hw7 := hw7.out
      have z0 : (wr.alloc (Obj.cells #[Value.slice none 0 0] 22)).heap.size = wr.heap.size + 1 := by simp
      rw [z0] at *
      have s7 : w7.heap.size = wr.heap.size + 3 := by rw [hw7]; simp
      have m7 : w7.heap[wr.heap.size]? = some (.cells #[.slice none 0 0] 22 (0, 0)) := by rw [hw7]; exact blk_alloc (blk_alloc (blk_new wr _) _) _
      have l7 : w7.cell? ⟨wr.heap.size + 1, 0, none⟩ = some (.slice A l.length c) := by rw [hw7]; exact (blk_cell (blk_alloc (blk_new_at (by simp) _) _) 0).trans rfl
      have n7 : w7.cell? ⟨wr.heap.size + 1 + 1, 0, none⟩ = some (.slice A2 lens.length c2) := by rw [hw7]; exact (blk_cell (blk_new_at (by simp) _) 0).trans rfl
      have b7 : Below wr.heap.size wr w7 := by rw [hw7]; exact below_alloc (below_alloc (below_alloc (Below.refl _ _) _) _) _
      have st7 := hst.out.next b7
      clear hw7 z0
      have hle := hst.out.below.size
      have hposl := H7.out
      have hj := blk_lt hst.out.jn
      have ho := blk_lt hst.out.opAt
      have hww := blk_lt hst.out.way
      have hb4 := st7.below
      clear b7
      generalize wr.heap.size = bo at *
      go_wp2
      refine wp_rangeSeqK rfl Tryd.call83 (scan_segments_it (bo + 1) (bo + 1 + 1) A c l A2 c2 lens w.heap.size w7 n7 HC.out (fun W hW => Kd.C_below HR2.out (hb4.trans hW)) hb4.size hposl.1 hposl.2 h2) (Below.refl _ _) hb4.size (segL_size A lens)
        (fun i W => ∃ v, W.heap[bo]? = some (.cells #[v] 22 (0, 0)) ∧ (Kd.int .i64).R 3 W (bo + 3) (fun k => bo + 3 ≤ k) v (segTo op nn l lens has f en i) ∧ Kp (fun k => k = bo ∨ bo + 3 ≤ k) w7 W) (fun _ _ => False) ?own ?ownx ?start ?keep
        ?round ?done ?stop
      case own =>
        rintro i W1 W2 row ⟨v, h1, h2, h3⟩ hg hr
        exact ⟨v, blk_own h1 hg (fun r e => (hr r e).2), R_own h2 hg (fun r e => (hr r e).2), h3.own hg (fun r e => .inr (by have := (hr r e).1; omega))⟩
      case ownx => exact fun _ _ _ _ h _ _ => h.elim
      case start => exact ⟨_, m7, Kd.R_nil _ _ _ _ _, Kp.refl _ _⟩
      case keep =>
        rintro i W ⟨v, h1, h2, h3⟩
        exact h3.cell l7 (by show ¬ (bo + 1 = bo ∨ bo + 3 ≤ bo + 1); omega)
      case stop => exact fun _ _ _ _ h _ => h.elim
      case round =>
        intro l0 i args W hi hI K hK
        obtain ⟨hlt, rfl⟩ := segL_get hi
        clear hI
        replace hK := Aside0.mk hK
        gi_wp2
        refine hK.out _ ?_
        rintro W2 ⟨v, hM, hR, hK2⟩
        have hn0 := hposl.1 _ (rd_mem lens (i : Int) (by omega) (by omega))
        have hs := startOf_succ lens (i : Int) (by omega) (by omega)
        have hmono := startOf_mono lens ((i : Int) + 1) (by omega) (lens.length - (i + 1)) (by omega)
        rw [show (i : Int) + 1 + ((lens.length - (i + 1) : Nat) : Int) = lens.length by omega, hposl.2, hs] at hmono
        have hsl := segTo_length op nn l lens has f en i (by omega)
        have hsg : segTo op nn l lens has f en (i + 1) = segTo op nn l lens has f en i ++ outsAt op nn l (startOf lens i) has f (rd lens (i : Int)).toNat ++ (if en then [nowAt op nn l (startOf lens i) (rd lens (i : Int)).toNat] else []) := rfl
        generalize (rd lens (i : Int)).toNat = n at *
        generalize startOf lens (i : Int) = st at *
        generalize segTo op nn l lens has f en i = xs0 at *
        have hq := (seg_slice A c l st n hmono HC.out).2
        generalize segA A st n = SA at *
        have HQ := Aside0.mk hq
        have HLen : Aside0 (xs0.length ≤ 2097152) := ⟨by omega⟩
        have jn2 := hK2.blk st7.jn (by omega)
        have op2 : OpAt W2 O op nn := hK2.blk st7.opAt (by omega)
        have way2 := hK2.blk st7.way (by omega)
        have HW2 : Below w.heap.size w W2 := hb4.trans (hK2.below (fun k hk => ⟨by omega, by omega⟩))
        have hs2 : bo + 3 ≤ W2.heap.size := by have := hK2.size; rw [s7] at this; exact this
        have R2 := Kd.R_tight2 (rfl : (Kd.int .i64).E = []) hR
        have HIn : InSt bo v W2 xs0 W2 := ⟨v, hM, Kd.R_mono R2 (fun k hk => .inl hk.1), Kp.refl _ _⟩
        have hown : ∀ k, some k = v.ownBlock → bo + 3 ≤ k ∧ ∃ cs t fr, W2.heap[k]? = some (.cells cs t fr) := fun k hk => ⟨(R_cells hR hk).1, (R_cells hR hk).2.2⟩
        have cj1 : W2.cell? ⟨w1.heap.size, 1, none⟩ = some (.int .i64 nn) := blk_cell jn2 1
        have JN := Aside0.mk jn2
        have OP := Aside0.mk op2
        have WY := Aside0.mk way2
        replace HW2 := Aside0.mk HW2
        replace HIn := Aside0.mk HIn
        have HOwn := Aside0.mk hown
        have HM2 := Aside0.mk hM
        have HK2 := Aside0.mk hK2
        have HR2' := Aside0.mk hR
        have hnb : n ≤ 1048576 := by omega
        have S7 := Aside0.mk s7
        have ST7 := Aside0.mk st7
        have B4 := Aside0.mk hb4
        have HS2 := Aside0.mk hs2
        have HMo := Aside0.mk hmono
        have HSg := Aside0.mk hsg
        clear hn0 hs hmono hsl hsg hq jn2 op2 way2 R2 hown hM hR hK2 hs2 s7 m7 l7 n7 st7 hb4 hposl hK K
        gi_wp2
        gi_loopw [17, 19, 20, 70] (fun a _ _ i wr => ∃ k : Nat, i = .int .i64 (k : Int) ∧ a = .int .i64 (nowAt op nn l st k) ∧ k ≤ n ∧ Aside0 (InSt bo v W2 (xs0 ++ outsAt op nn l st has f k) wr)) (fun _ _ _ i _ => n - (intOf i).toNat)
        case atStart => exact ⟨0, rfl, rfl, by omega, ⟨by simpa [outsAt] using HIn.out⟩⟩
        case round =>
          obtain ⟨k, rfl, rfl, p1, hin⟩ := hrel
          obtain ⟨u, hM, hR, hKp⟩ := hin.out
          clear hin HIn
          have HWr : Below w.heap.size w wr := HW2.out.trans (hKp.below (fun k hk => ⟨by have := HW2.out.size; omega, by have := HW2.out.size; have := HOwn.out; have := HS2.out; exact fun h => h.elim (fun h => by omega) (fun h => h.elim (fun h => by have := (HOwn.out k h).1; omega) (fun h => by omega))⟩))
          by_cases hlt : k < n
          · obtain ⟨ad, e1, hx⟩ := Kd.at_int (HQ.out _ (Kd.C_below HR.out HWr)) (k : Int) (by omega) (by omega)
            cases e1
            rw [rd_seg l st n k hlt, Int.toNat_natCast] at hx
            have hnS : ∀ b, b < bo → ¬ (b = bo ∨ some b = v.ownBlock ∨ W2.heap.size ≤ b) := fun b hb h => h.elim (fun h => by omega) (fun h => h.elim (fun h => by have := (HOwn.out b h).1; omega) (fun h => by have := HS2.out; omega))
            have jn3 := hKp.blk JN.out (hnS _ (by omega))
            have op3 : OpAt wr O op nn := hKp.blk OP.out (hnS _ (by omega))
            have way3 := hKp.blk WY.out (hnS _ (by omega))
            have cjb : wr.cell? ⟨w1.heap.size, 2, none⟩ = some (.func (.func 77) #[] #[.pointer (some ⟨O, 0, none⟩)]) := blk_cell jn3 2
            have HJ := Aside0.mk (joiner_by op nn (nowAt op nn l st k) (rd l ((st + k : Nat) : Int)) O wr op3 (HT.out.below HWr).deeds)
            have WY3 := Aside0.mk way3
            have hN : nowAt op nn l st (k + 1) = joinI op (nowAt op nn l st k) (rd l ((st + k : Nat) : Int)) := rfl
            have hNow : nowAt op nn l st k = nowAt op nn l st k := rfl
            generalize hnw : nowAt op nn l st k = now at *
            generalize rd l ((st + k : Nat) : Int) = el at *
            replace hN := Aside0.mk hN
            replace hNow := Aside0.mk hnw
            clear hnw
            replace HWr := Aside0.mk HWr
            replace hM := Aside0.mk hM
            replace hR := Aside0.mk hR
            replace hKp := Aside0.mk hKp
            clear jn3 op3 way3 hnS
            gi_wp2_with fail
            refine ⟨trivial, rfl, (CallsIn.inRound l0 (callsIn_wide.2 HJ.out)).mono ?_⟩
            rintro e w3 ⟨rfl, hb3⟩
            have way4 := blk_below WY3.out hb3
            have M3 := blk_below hM.out hb3
            have R3 := Kd.R_below hR.out hb3
            have K3 := hKp.out.thenBelow hb3
            have cw0 : w3.cell? ⟨w.heap.size, 0, none⟩ = some F := blk_cell way4 0
            have cB : w3.cell? ⟨bo, 0, none⟩ = some u := blk_cell M3 0
            have hsz3 : W2.heap.size ≤ w3.heap.size := K3.size
            replace M3 := Aside0.mk M3
            replace R3 := Aside0.mk R3
            replace K3 := Aside0.mk K3
            replace way4 := Aside0.mk way4
            replace hsz3 := Aside0.mk hsz3
            clear hb3 hx
            have hF := HF.out
            cases has
            · have hF2 : F = .nilFunc := hF
              subst hF2
              gi_wp2_with fail
              go_roundw
              case rel => exact ⟨k + 1, by simp, by rw [hN.out], by omega, ⟨u, M3.out, by simpa [outsAt] using R3.out, K3.out⟩⟩
              case measure => simp [intOf]; omega
            · obtain ⟨g, rfl, hg1, hg2⟩ : ∃ g, F = .func (.func g) #[] #[] ∧ (∀ args W, Sem.run Tryd.prog (callFunc g args) W = .ok (.enter g args) W) ∧ ∀ x y W, Calls Tryd.prog g #[.int .i64 x, .int .i64 y] W fun e W' => e = .returned (.int .i64 (f x y)) ∧ Below W.heap.size W W' := hF
              have HG1 := Aside0.mk hg1
              have HG2 := Aside0.mk hg2
              clear hg1 hg2
              obtain ⟨A5, c5, rfl⟩ := Kd.R_slice R3.out
              have hxl : (xs0 ++ outsAt op nn l st true f k).length ≤ 4194304 := by have := outsAt_length op nn l st true f k; have := HLen.out; rw [List.length_append]; omega
              have hxs : outsAt op nn l st true f (k + 1) = outsAt op nn l st true f k ++ [f now (joinI op now el)] := by have h1 := hN.out; have h2 := hNow.out; show (if true = true then outsAt op nn l st true f k ++ [f (nowAt op nn l st k) (nowAt op nn l st (k + 1))] else outsAt op nn l st true f k) = _; rw [if_pos rfl, h1, h2]
              generalize outsAt op nn l st true f k = ys at *
              generalize hxd : xs0 ++ ys = xs at *
              replace hxd := Aside0.mk hxd
              gi_wp2_with fail
              refine wpIn_region_any0 (by kernel_rfl) (by kernel_rfl) (fun _ _ h => h) ?_
              change wpAny _ _ _ _ _ _ _ w3.drew
              refine region_anyL (fun W => W.cell? ⟨bo, 0, none⟩ = some (.slice A5 xs.length c5) ∧ W.cell? ⟨w.heap.size, 0, none⟩ = some (.func (.func g) #[] #[])) 5 [5, 6, 7, 8] [8] (by kernel_rfl) (by kernel_rfl) (by kernel_rfl) (by kernel_rfl) rfl (fun _ _ _ h => h) ⟨cB, cw0⟩ ?_
              simp only [List.take_succ_cons, List.take_zero]
              refine Reads.step _ rfl (fun W hW => by obtain ⟨k1, k2⟩ := hW; go_simp; rfl) ?_
              refine Reads.step _ rfl (fun W hW => by obtain ⟨k1, k2⟩ := hW; go_simp; rfl) ?_
              refine Reads.step _ rfl (fun W hW => by obtain ⟨k1, k2⟩ := hW; go_simp; rfl) ?_
              refine Reads.step _ rfl (fun W hW => by obtain ⟨k1, k2⟩ := hW; go_simp; rfl) ?_
              refine Reads.step _ rfl (fun W hW => by obtain ⟨k1, k2⟩ := hW; go_simp; rfl) ?_
              change TailL _ _ _ _ _ _ _
              refine TailL.call rfl rfl (by have hq := HG1.out; go_simp) (HG2.out now (joinI op now el) _) ?_
              rintro e w4 ⟨rfl, hb4⟩
              have cB4 := pw_cell_below hb4 (show w3.drew.cell? ⟨bo, 0, none⟩ = _ from cB)
              have cw4 := pw_cell_below hb4 (show w3.drew.cell? ⟨w.heap.size, 0, none⟩ = _ from cw0)
              have M4 := blk_below (blk_drew M3.out) hb4
              have R4 := Kd.R_below (Kd.R_drew R3.out) hb4
              have K4 := K3.out.drew.thenBelow hb4
              have hsz4 : W2.heap.size ≤ w4.heap.size := K4.size
              have hs2 := HS2.out
              refine ⟨_, rfl, fun _ => ⟨cB4, cw4⟩, ?_⟩
              refine TailL.val rfl rfl (by go_simp; first | rfl | exact ⟨rfl, rfl⟩) (fun _ => ⟨pw_cell_below (below_alloc (Below.refl _ _) _) cB4, pw_cell_below (below_alloc (Below.refl _ _) _) cw4⟩) ?_
              refine TailL.append 22 3 (bo + 3) _ _ (.slice A5 xs.length c5) xs (f now (joinI op now el)) (fun k => some k = v.ownBlock ∨ W2.heap.size ≤ k) rfl rfl rfl Tryd.underlying22 infoInt (by go_simp; first | rfl | done) (by go_simp; first | rfl | done) (fun k hk => .inr (by omega)) R4 (by omega) (by omega) ?_
              intro v1 w5 R5 hb5 hg5 hat5
              have hne : ∀ b, b < bo + 1 → some b ≠ (Value.slice A5 xs.length c5).ownBlock := fun b hb e => by
                rcases R4.1 b e.symm with h | h
                · have := (HOwn.out b h).1; omega
                · omega
              have M5 := blk_grown M4 hg5 (hne _ (by omega))
              have way5 := blk_grown (blk_below (blk_drew way4.out) hb4) hg5 (hne _ (by omega))
              have cB5 : w5.cell? ⟨bo, 0, none⟩ = some (.slice A5 xs.length c5) := blk_cell M5 0
              have fB5 := blk_frozen M5 0
              have cw5 : w5.cell? ⟨w.heap.size, 0, none⟩ = some (.func (.func g) #[] #[]) := blk_cell way5 0
              have K5 := K4.grown hg5 (fun b e => .inl (.inr (R4.1 b e)))
              refine ⟨fun _ => ⟨cB5, cw5⟩, ?_⟩
              obtain ⟨A6, c6, rfl⟩ := Kd.R_slice R5
              refine TailL.skip (w2 := w5.setCell ⟨bo, 0, none⟩ (.slice A6 (xs ++ [f now (joinI op now el)]).length c6)) rfl rfl rfl (by go_simp; first | rfl | done) (fun h => absurd rfl h) ?_
              unfold TailL
              have HI6 : Aside0 (InSt bo v W2 (xs0 ++ outsAt op nn l st true f (k + 1)) (w5.setCell ⟨bo, 0, none⟩ (.slice A6 (xs ++ [f now (joinI op now el)]).length c6))) := ⟨_, blk_set M5 0 _, (by rw [hxs, ← List.append_assoc, hxd.out]; exact Kd.R_set R5 M5 (by decide) 0 _), K5.setCell _ (.inl (.inl rfl)) _⟩
              clear hb5 hb4 hg5 hat5 hne M5 way5 cB5 fB5 cw5 K5 R5 cB4 cw4 M4 R4 K4 hsz4 hs2 hxs hxl cB cw0
              (try dsimp only)
              simp only [Act.put, List.setIfInBounds_toArray, List.set_cons_zero, List.set_cons_succ]
              gi_wp2_with fail
              go_roundw
              case rel => exact ⟨k + 1, by simp, by rw [hN.out], by omega, ⟨by have h := HI6.out; rw [List.length_append] at h; exact h⟩⟩
              case measure => simp [intOf]; omega
          · obtain rfl : k = n := by omega
            have way3 := hKp.blk WY.out (fun h => h.elim (fun h => by omega) (fun h => h.elim (fun h => by have := (HOwn.out _ h).1; omega) (fun h => by have := HS2.out; omega)))
            have cw1 : wr.cell? ⟨w.heap.size, 1, none⟩ = some (.bool en) := blk_cell way3 1
            have cB : wr.cell? ⟨bo, 0, none⟩ = some u := blk_cell hM 0
            have hs2 := HS2.out
            replace hM := Aside0.mk hM
            replace hR := Aside0.mk hR
            replace hKp := Aside0.mk hKp
            replace HWr := Aside0.mk HWr
            clear way3 hlt
            have hon : ∀ b, (b = bo ∨ some b = v.ownBlock ∨ W2.heap.size ≤ b) → b = bo ∨ bo + 3 ≤ b := fun b h => h.elim .inl (fun h => h.elim (fun h => .inr (HOwn.out b h).1) (fun h => .inr (by omega)))
            have hkeep : ∀ W' : World, Kp (fun b => b = bo ∨ some b = v.ownBlock ∨ W2.heap.size ≤ b) W2 W' → KeepsFrom w7.heap.size W2 W' ∧ Below w.heap.size W2 W' := fun W' h =>
              ⟨h.keepsFrom (fun b hb hlt => by
                rcases hb with rfl | hb | hb
                · exact ⟨_, _, _, HM2.out⟩
                · exact (HOwn.out b hb).2
                · omega), h.below (fun b hb => ⟨by have := HW2.out.size; omega, fun hS => by have := hon b hS; have := B4.out.size; omega⟩)⟩
            cases en
            · gi_wp2_with fail
              obtain ⟨g1, g2⟩ := hkeep _ hKp.out
              refine ⟨g1, g2, u, hM.out, ?_, HK2.out.trans hKp.out (fun b h => .inl (hon b h))⟩
              rw [HSg.out]
              have h := Kd.R_mono hR.out (ok' := fun b => bo + 3 ≤ b) (fun b hb => (hon b (.inr hb)).resolve_left (fun e => hb.elim (fun hb => by have := (HOwn.out _ hb).1; omega) (fun hb => by omega)))
              simpa using h
            · have hxl : (xs0 ++ outsAt op nn l st has f k).length ≤ 4194304 := by have := outsAt_length op nn l st has f k; have := HLen.out; rw [List.length_append]; omega
              have hsz : W2.heap.size ≤ wr.heap.size := hKp.out.size
              replace hxl := Aside0.mk hxl
              replace hsz := Aside0.mk hsz
              replace hkeep := Aside0.mk hkeep
              replace hon := Aside0.mk hon
              have HS2' := Aside0.mk hs2
              clear hs2
              gi_wp2_with (gi_at_builtin; refine wpListIn_append_int 22 3 (bo + 3) rfl _ _ u (xs0 ++ outsAt op nn l st has f k) (nowAt op nn l st k) (fun b => some b = v.ownBlock ∨ W2.heap.size ≤ b) rfl Tryd.underlying22 infoInt rfl rfl (fun b hb => .inr (Nat.le_trans hsz.out hb)) hR.out (by have := HS2'.out; have := hsz.out; omega) (by have := hxl.out; omega) ?_; intro v1 w5 R5 hg5 hat5; have M5 := blk_grown hM.out hg5 (fun e => (hR.out.1 bo e.symm).elim (fun h => by have := (HOwn.out _ h).1; omega) (fun h => by have := HS2'.out; omega)); have c5 : w5.cell? ⟨bo, 0, none⟩ = some u := blk_cell M5 0; have f5 := blk_frozen M5 0; obtain ⟨A6, c6, rfl⟩ := Kd.R_slice R5; have K6 := (hKp.out.grown hg5 (fun b e => .inl (.inr (hR.out.1 b e)))); replace M5 := Aside0.mk M5; replace R5 := Aside0.mk R5; replace K6 := Aside0.mk K6; clear hg5 hat5)
              have K7 := K6.out.setCell ⟨bo, 0, none⟩ (.inl (.inl rfl)) (.slice A6 (xs0 ++ outsAt op nn l st has f k ++ [nowAt op nn l st k]).length c6)
              have R7 := Kd.R_set R5.out M5.out (by decide) 0 (.slice A6 (xs0 ++ outsAt op nn l st has f k ++ [nowAt op nn l st k]).length c6)
              have M7 := blk_set M5.out 0 (.slice A6 (xs0 ++ outsAt op nn l st has f k ++ [nowAt op nn l st k]).length c6)
              have elen : (xs0 ++ outsAt op nn l st has f k ++ [nowAt op nn l st k]).length = xs0.length + ((outsAt op nn l st has f k).length + 1) := by simp
              rw [elen] at K7 R7 M7
              obtain ⟨g1, g2⟩ := hkeep.out _ K7
              refine ⟨g1, g2, _, M7, ?_, HK2.out.trans K7 (fun b h => .inl (hon.out b h))⟩
              rw [HSg.out]
              (try simp only [if_true])
              exact Kd.R_mono R7 (fun b hb => (hon.out b (.inr hb)).resolve_left (fun e => hb.elim (fun hb => by have := (HOwn.out _ hb).1; omega) (fun hb => by have := HS2'.out; omega)))
      case done =>
        rintro D W hD ⟨v, h1, h2', h3'⟩ hd
        have cO : W.cell? ⟨bo, 0, none⟩ = some v := blk_cell h1 0
        obtain ⟨A9, c9, rfl⟩ := Kd.R_slice h2'
        have hq := (Kd.R_reads' h2').2.1
        have H1 := Aside0.mk h1
        have H2 := Aside0.mk h2'
        have H3 := Aside0.mk h3'
        have HQ := Aside0.mk (scan_cut A9 _ c9 W hq (R_cap h2'))
        have HD := Aside0.mk hd
        have S7 := Aside0.mk s7
        have B4 := Aside0.mk hb4
        clear h1 h2' h3' hq hd
        go_wp2_with (go_at_call 57; (with_reducible refine (HQ.out).mono ?_); rintro e w5 ⟨rfl, m5, rfl⟩)
        (try rw [Exit.noGoto_ret])
        have hd5 : (W.drewN m5).heap[D]? = some (.deferred (some [])) := HD.out
        refine Marks.one hd5 _ (results_tmp2 rfl _ _ _) ?_
        have r5 := R_own (Kd.R_drewN H2.out m5) (grownBy_putObj' (W.drewN m5) D (.deferred none)) (fun r e => by cases e; exact ⟨_, hd5, rfl⟩)
        have v5 := V_cut (base2 := w.heap.size) r5
        have hb5 : Below w.heap.size w ((W.drewN m5).putObj D (.deferred none)) := (pw_below_drewN (B4.out.trans (H3.out.below (fun k hk => ⟨by have := B4.out.size; omega, fun h => by omega⟩))) m5).trans (below_putObj (l := D) (B := w.heap.size) (W.drewN m5) (.deferred none) (by have := B4.out.size; omega))
        rw [segL_length] at v5
        refine ⟨_, rfl, ?_, hb5⟩
        have v6 := Kd.V_mono v5 (ok' := fun k => w.heap.size ≤ k) (fun k hk => by omega)
        simpa [segL_length] using v6
end Go.Proofs.YtpenkemabeonaaaDoor.Hand
/- scan.told where it answers an error; Fold, Scan, Through. -/
namespace Go.Proofs.YtpenkemabeonaaaDoor.Hand
open Go.RowKit Go.Proofs.YtpenkemabeonaaaDoorW.PrintWords Go.Proofs.YtpenkemabeonaaaDoorW.PrintLast Go.Proofs.YtpenkemabeonaaaDoorW.PrintMore
set_option linter.unusedVariables false
set_option linter.unusedSimpArgs false
attribute [local go_sem] store_func store_nilFunc
theorem Ret2.nil {w w' : World} (E : Int) (h : Below w.heap.size w w') : Ret2 w ([], E) (.returned (.tuple #[.slice none 0 0, .int .i64 E])) w' := ⟨_, rfl, Kd.V_nil _ _ _ _ _, h⟩
set_option maxHeartbeats 8000000 in
set_option maxRecDepth 100000 in
theorem scan_told_noA (op err : Int) (A : Option Addr) (c : Nat) (l : List Int) (A2 : Option Addr) (c2 : Nat) (lens : List Int) (F : Value) (en : Bool) (w : World) (hT : Tabs w) (h1 : (neutG op).2 = err) (he : err ≠ 0) :
    Calls Tryd.prog 43 #[.int .i64 op, .slice A l.length c, .slice A2 lens.length c2, .agg #[F, .bool en]] w (Ret2 w ([], err)) := by
  have hq1 := scan_of_no op err (w.alloc (Obj.cells #[F, .bool en] 63)) (hT.laws.below (below_alloc (Below.refl _ _) _)) (hT.neut.below (below_alloc (Below.refl _ _) _)) h1 he
  have HOf := Aside0.mk hq1
  have z : (err != 0) = true := bne_iff_ne.mpr he
  clear hT hq1 h1 he
  go_enter Tryd.func43, Tryd.ntmps43
  go_wp2_with (go_at_call 50; (with_reducible refine (HOf.out).mono ?_); rintro e w1 ⟨rfl, hb⟩; replace hb := Aside0.mk hb)
  go_ret2
  exact Ret2.nil err (below_alloc ((below_alloc (Below.refl _ _) _).trans (hb.out.mono (by simp))) _)
set_option maxHeartbeats 8000000 in
set_option maxRecDepth 100000 in
theorem scan_told_noB (op nn : Int) (A : Option Addr) (c : Nat) (l : List Int) (A2 : Option Addr) (c2 : Nat) (lens : List Int) (F : Value) (en : Bool) (w : World) (hT : Tabs w) (h1 : neutG op = (nn, 0)) (h2 : 1048576 < l.length ∨ 1048576 < lens.length) :
    Calls Tryd.prog 43 #[.int .i64 op, .slice A l.length c, .slice A2 lens.length c2, .agg #[F, .bool en]] w (Ret2 w ([], 3)) := by
  have hq1 := scan_of_ok op nn (w.alloc (Obj.cells #[F, .bool en] 63)) (hT.laws.below (below_alloc (Below.refl _ _) _)) (hT.neut.below (below_alloc (Below.refl _ _) _)) h1
  have HOf := Aside0.mk hq1
  have H2 := Aside0.mk h2
  clear hT hq1 h1 h2
  go_enter Tryd.func43, Tryd.ntmps43
  go_wp2_with (first | (go_at_call 50; (with_reducible refine (HOf.out).mono ?_); rintro e w1 ⟨O, rfl, hO1, hO2, hb⟩; replace hO1 := Aside0.mk hO1; replace hO2 := Aside0.mk hO2; replace hb := Aside0.mk hb) | (go_at_call 51; exfalso; have := H2.out; omega))
  all_goals first | (go_ret2; exact Ret2.nil 3 (below_alloc ((below_alloc (Below.refl _ _) _).trans (hb.out.mono (by simp))) _)) | (exfalso; have := H2.out; omega)
set_option maxHeartbeats 8000000 in
set_option maxRecDepth 100000 in
theorem scan_told_noC (op nn E1 E2 : Int) (A : Option Addr) (c : Nat) (l : List Int) (A2 : Option Addr) (c2 : Nat) (lens : List Int) (F : Value) (en : Bool) (w : World) (hT : Tabs w)
    (hr : Kd.C (Kd.int .i64) w A l.length l) (hr2 : Kd.C (Kd.int .i64) w A2 lens.length lens)
    (h1 : neutG op = (nn, 0)) (h2 : l.length ≤ 1048576) (h3 : lens.length ≤ 1048576) (h4 : wsE l = E1) (h5 : wsE lens = E2) (h6 : ((E1 != 0) || (E2 != 0)) = true) :
    Calls Tryd.prog 43 #[.int .i64 op, .slice A l.length c, .slice A2 lens.length c2, .agg #[F, .bool en]] w (Ret2 w ([], 2)) := by
  have hq1 := scan_of_ok op nn (w.alloc (Obj.cells #[F, .bool en] 63)) (hT.laws.below (below_alloc (Below.refl _ _) _)) (hT.neut.below (below_alloc (Below.refl _ _) _)) h1
  have HOf := Aside0.mk hq1
  have HW1 : Aside0 (∀ W, Below w.heap.size w W → Calls Tryd.prog 51 #[.slice A l.length c] W fun e w' => e = .returned (.int .i64 E1) ∧ Drawn0 W w') := ⟨fun W hW => by have := scan_words A c l W (Kd.C_below hr hW); rwa [h4] at this⟩
  have HW2 : Aside0 (∀ W, Below w.heap.size w W → Calls Tryd.prog 51 #[.slice A2 lens.length c2] W fun e w' => e = .returned (.int .i64 E2) ∧ Drawn0 W w') := ⟨fun W hW => by have := scan_words A2 c2 lens W (Kd.C_below hr2 hW); rwa [h5] at this⟩
  clear hr hr2 hT hq1 h1 h4 h5
  cases z1 : (E1 != 0)
  · have z2 : (E2 != 0) = true := by rw [z1] at h6; exact h6
    clear h6
    go_enter Tryd.func43, Tryd.ntmps43
    go_wp2_with (first | (go_at_call 50; (with_reducible refine (HOf.out).mono ?_); rintro e w1 ⟨O, rfl, hO1, hO2, hb⟩; replace hO1 := Aside0.mk hO1; replace hO2 := Aside0.mk hO2; have HB1 := Aside0.mk (below_alloc ((below_alloc (Below.refl _ _) _).trans (hb.mono (by simp))) (Obj.cells #[.int .i64 op, .int .i64 nn, .func (.func 77) #[] #[.pointer (some ⟨O, 0, none⟩)]] 70)); replace hb := Aside0.mk hb) | (go_at_call 51; (first | (with_reducible refine (HW1.out _ (by repeat (first | exact HB1.out | apply pw_below_drewN))).mono ?_) | (with_reducible refine (HW2.out _ (by repeat (first | exact HB1.out | apply pw_below_drewN))).mono ?_)); rintro e w2 ⟨rfl, m, rfl⟩))
    all_goals (go_ret2; exact Ret2.nil 2 (by repeat (first | exact HB1.out | apply pw_below_drewN)))
  · clear h6
    go_enter Tryd.func43, Tryd.ntmps43
    go_wp2_with (first | (go_at_call 50; (with_reducible refine (HOf.out).mono ?_); rintro e w1 ⟨O, rfl, hO1, hO2, hb⟩; replace hO1 := Aside0.mk hO1; replace hO2 := Aside0.mk hO2; have HB1 := Aside0.mk (below_alloc ((below_alloc (Below.refl _ _) _).trans (hb.mono (by simp))) (Obj.cells #[.int .i64 op, .int .i64 nn, .func (.func 77) #[] #[.pointer (some ⟨O, 0, none⟩)]] 70)); replace hb := Aside0.mk hb) | (go_at_call 51; (first | (with_reducible refine (HW1.out _ (by repeat (first | exact HB1.out | apply pw_below_drewN))).mono ?_) | (with_reducible refine (HW2.out _ (by repeat (first | exact HB1.out | apply pw_below_drewN))).mono ?_)); rintro e w2 ⟨rfl, m, rfl⟩))
    all_goals (go_ret2; exact Ret2.nil 2 (by repeat (first | exact HB1.out | apply pw_below_drewN)))
theorem startOf_words (lens : List Int) (hw : ∀ n ∈ lens, isWordB n = true) : ∀ x : Nat, x ≤ lens.length → startOf lens (x : Int) ≤ x * 2147483648
  | 0, _ => by simp [startOf]
  | x + 1, hx => by
    have ih := startOf_words lens hw x (by omega)
    have hs := startOf_succ lens (x : Int) (by omega) (by omega)
    have h1 := hw _ (rd_mem lens (x : Int) (by omega) (by omega))
    simp only [isWordB, Bool.and_eq_true, decide_eq_true_eq] at h1
    have e : ((x + 1 : Nat) : Int) = (x : Int) + 1 := by omega
    rw [e, hs]
    omega
theorem okLens_no {l lens : List Int} (h : okLens l lens = false) (hp : ∀ j : Nat, j < lens.length → 0 ≤ rd lens (j : Int)) : startOf lens lens.length ≠ l.length := by
  intro e
  unfold okLens at h
  rw [e, BEq.rfl, Bool.and_true] at h
  have : lens.all (fun n => decide (0 ≤ n)) = true := by
    rw [List.all_eq_true]
    intro n hn
    obtain ⟨i, hi, rfl⟩ := List.getElem_of_mem hn
    have := hp i hi
    unfold rd at this
    simpa [hi] using this
  rw [this] at h
  cases h
set_option maxHeartbeats 8000000 in
set_option maxRecDepth 100000 in
theorem scan_told_noD (op nn : Int) (A : Option Addr) (c : Nat) (l : List Int) (A2 : Option Addr) (c2 : Nat) (lens : List Int) (F : Value) (en : Bool) (w : World) (hT : Tabs w)
    (hr : Kd.C (Kd.int .i64) w A l.length l) (hr2 : Kd.C (Kd.int .i64) w A2 lens.length lens)
    (h1 : neutG op = (nn, 0)) (h2 : l.length ≤ 1048576) (h3 : lens.length ≤ 1048576) (h4 : wsE l = 0) (h5 : wsE lens = 0) (h6 : okLens l lens = false) :
    Calls Tryd.prog 43 #[.int .i64 op, .slice A l.length c, .slice A2 lens.length c2, .agg #[F, .bool en]] w (Ret2 w ([], 6)) := by
  have hq1 := scan_of_ok op nn (w.alloc (Obj.cells #[F, .bool en] 63)) (hT.laws.below (below_alloc (Below.refl _ _) _)) (hT.neut.below (below_alloc (Below.refl _ _) _)) h1
  have HOf := Aside0.mk hq1
  have HW1 : Aside0 (∀ W, Below w.heap.size w W → Calls Tryd.prog 51 #[.slice A l.length c] W fun e w' => e = .returned (.int .i64 0) ∧ Drawn0 W w') := ⟨fun W hW => by have := scan_words A c l W (Kd.C_below hr hW); rwa [h4] at this⟩
  have HW2 : Aside0 (∀ W, Below w.heap.size w W → Calls Tryd.prog 51 #[.slice A2 lens.length c2] W fun e w' => e = .returned (.int .i64 0) ∧ Drawn0 W w') := ⟨fun W hW => by have := scan_words A2 c2 lens W (Kd.C_below hr2 hW); rwa [h5] at this⟩
  have HR2 := Aside0.mk hr2
  have H6 := Aside0.mk h6
  have H5 := Aside0.mk (wsE_ok h5).2
  clear hr hr2 hT hq1 h1 h4 h5 h6
  go_enter Tryd.func43, Tryd.ntmps43
  go_wp2_with (first | (go_at_call 50; (with_reducible refine (HOf.out).mono ?_); rintro e w1 ⟨O, rfl, hO1, hO2, hb⟩; replace hO1 := Aside0.mk hO1; replace hO2 := Aside0.mk hO2; have HB1 := Aside0.mk (below_alloc ((below_alloc (Below.refl _ _) _).trans (hb.mono (by simp))) (Obj.cells #[.int .i64 op, .int .i64 nn, .func (.func 77) #[] #[.pointer (some ⟨O, 0, none⟩)]] 70)); replace hb := Aside0.mk hb) | (go_at_call 51; (first | (with_reducible refine (HW1.out _ (by repeat (first | exact HB1.out | apply pw_below_drewN))).mono ?_) | (with_reducible refine (HW2.out _ (by repeat (first | exact HB1.out | apply pw_below_drewN))).mono ?_)); rintro e w2 ⟨rfl, m, rfl⟩))
  go_loopw [12, 14, 47] (fun a _ i wr => ∃ x : Nat, i = .int .i64 (x : Int) ∧ a = .int .i64 ((startOf lens (x : Int) : Nat) : Int) ∧ x ≤ lens.length ∧ Aside0 (∀ j : Nat, j < x → 0 ≤ rd lens (j : Int)) ∧ Aside0 (Below w.heap.size w wr)) (fun _ _ i _ => lens.length - (intOf i).toNat)
  case atStart => exact ⟨0, rfl, rfl, by omega, ⟨fun j hj => by omega⟩, ⟨by repeat (first | exact HB1.out | apply pw_below_drewN)⟩⟩
  case round =>
    obtain ⟨x, rfl, rfl, p1, hp, hst⟩ := hrel
    clear HB1
    have hbnd := startOf_words lens H5.out x p1
    by_cases hlt : x < lens.length
    · obtain ⟨ad, e1, hx⟩ := Kd.at_int (Kd.C_below HR2.out hst.out) (x : Int) (by omega) (by omega)
      cases e1
      rw [Int.toNat_natCast] at hx
      have hs := startOf_succ lens (x : Int) (by omega) (by omega)
      have hw1 := H5.out _ (rd_mem lens (x : Int) (by omega) (by omega))
      simp only [isWordB, Bool.and_eq_true, decide_eq_true_eq] at hw1
      by_cases hneg : rd lens (x : Int) < 0
      · generalize rd lens (x : Int) = n at *
        generalize startOf lens (x : Int) = st at *
        clear hs
        go_wp2
        go_ret2
        exact Ret2.nil 6 hst.out
      · have hp2 : Aside0 (∀ j : Nat, j < x + 1 → 0 ≤ rd lens (j : Int)) := ⟨fun j hj => by
          by_cases e : j = x
          · subst e; omega
          · exact hp.out j (by omega)⟩
        obtain ⟨n, hn⟩ : ∃ n : Nat, rd lens (x : Int) = n := ⟨(rd lens (x : Int)).toNat, by omega⟩
        rw [hn] at hx hw1 hneg hs
        rw [Int.toNat_natCast] at hs
        generalize startOf lens (x : Int) = st at *
        have HS := Aside0.mk hs
        clear hs hn
        go_wp2
        go_roundw
        case rel => exact ⟨x + 1, by simp, by have h := HS.out; rw [show ((x + 1 : Nat) : Int) = (x : Int) + 1 by omega, h]; simp, by omega, hp2, hst⟩
        case measure => simp [intOf]; omega
    · obtain rfl : x = lens.length := by omega
      have hne := okLens_no H6.out hp.out
      generalize startOf lens (lens.length : Int) = st at *
      have hne2 : ((st : Int) != (l.length : Int)) = true := by simp; omega
      clear hne hlt
      go_wp2
      go_ret2
      exact Ret2.nil 6 hst.out
theorem scan_told (op : Int) (A : Option Addr) (c : Nat) (l : List Int) (A2 : Option Addr) (c2 : Nat) (lens : List Int) (F : Value) (has : Bool) (f : Int → Int → Int) (en : Bool) (w : World) (hT : Tabs w) (hF : EachV F has f)
    (hr : Kd.C (Kd.int .i64) w A l.length l) (hc : l.length ≤ c) (hr2 : Kd.C (Kd.int .i64) w A2 lens.length lens) (hc2 : lens.length ≤ c2) :
    Calls Tryd.prog 43 #[.int .i64 op, .slice A l.length c, .slice A2 lens.length c2, .agg #[F, .bool en]] w (Ret2 w (told_g op l lens has f en)) := by
  unfold told_g
  by_cases h1 : (neutG op).2 = 0
  · rw [if_pos h1]
    have e1 : neutG op = ((neutG op).1, 0) := Prod.ext rfl h1
    by_cases h2 : (decide (1048576 < l.length) || decide (1048576 < lens.length)) = true
    · rw [if_pos h2]
      exact scan_told_noB op _ A c l A2 c2 lens F en w hT e1 (by simpa using h2)
    · rw [if_neg h2]
      have h2' : l.length ≤ 1048576 ∧ lens.length ≤ 1048576 := by simpa using h2
      by_cases h3 : ((wsE l != 0) || (wsE lens != 0)) = true
      · rw [if_pos h3]
        exact scan_told_noC op _ _ _ A c l A2 c2 lens F en w hT hr hr2 e1 h2'.1 h2'.2 rfl rfl h3
      · rw [if_neg h3]
        have h3' : wsE l = 0 ∧ wsE lens = 0 := by simpa using h3
        cases h4 : okLens l lens
        · exact scan_told_noD op _ A c l A2 c2 lens F en w hT hr hr2 e1 h2'.1 h2'.2 h3'.1 h3'.2 h4
        · exact scan_told_yes op _ A c l A2 c2 lens F has f en w hT hF hr hc hr2 hc2 e1 h2'.1 h2'.2 h3'.1 h3'.2 h4
  · rw [if_neg h1]
    exact scan_told_noA op _ A c l A2 c2 lens F en w hT rfl h1
end Go.Proofs.YtpenkemabeonaaaDoor.Hand
/- scan: Fold, Scan and Through: what each returns; new memory. -/
namespace Go.Proofs.YtpenkemabeonaaaDoor.Hand
open Go.RowKit Go.Proofs.YtpenkemabeonaaaDoorW.PrintWords Go.Proofs.YtpenkemabeonaaaDoorW.PrintLast Go.Proofs.YtpenkemabeonaaaDoorW.PrintMore
set_option linter.unusedVariables false
set_option linter.unusedSimpArgs false
def scan_Fold.g (op : Int) (l lens : List Int) : List Int × Int := told_g op l lens false (fun _ _ => 0) true
def scan_Scan.g (op : Int) (l lens : List Int) : List Int × Int := told_g op l lens true (fun a _ => a) false
def scan_Through.g (op : Int) (l lens : List Int) : List Int × Int := told_g op l lens true (fun _ b => b) false
theorem scan_Scan1 (x y : Int) (w : World) : Calls Tryd.prog 46 #[.int .i64 x, .int .i64 y] w fun e w' => e = .returned (.int .i64 x) ∧ Below w.heap.size w w' := by
  go_enter Tryd.func46, Tryd.ntmps46
  go_wp2
  go_ret
  exact ⟨rfl, Below.refl _ _⟩
theorem scan_Through1 (x y : Int) (w : World) : Calls Tryd.prog 49 #[.int .i64 x, .int .i64 y] w fun e w' => e = .returned (.int .i64 y) ∧ Below w.heap.size w w' := by
  go_enter Tryd.func49, Tryd.ntmps49
  go_wp2
  go_ret
  exact ⟨rfl, Below.refl _ _⟩
theorem scan_Fold.run (op : Int) (A : Option Addr) (c : Nat) (l : List Int) (A2 : Option Addr) (c2 : Nat) (lens : List Int) (w : World) (hT : Tabs w)
    (hr : Kd.C (Kd.int .i64) w A l.length l) (hc : l.length ≤ c) (hr2 : Kd.C (Kd.int .i64) w A2 lens.length lens) (hc2 : lens.length ≤ c2) :
    Calls Tryd.prog 12 #[.int .i64 op, .slice A l.length c, .slice A2 lens.length c2] w (Ret2 w (scan_Fold.g op l lens)) := by
  have H := scan_told op A c l A2 c2 lens .nilFunc false (fun _ _ => 0) true w hT rfl hr hc hr2 hc2
  have e : told_g op l lens false (fun _ _ => 0) true = scan_Fold.g op l lens := rfl
  rw [e] at H
  generalize scan_Fold.g op l lens = R at *
  replace H := Aside0.mk H
  clear hT hr hc hr2 hc2 e
  go_enter Tryd.func12, Tryd.ntmps12
  go_wp2_with (go_at_call 43; (with_reducible refine (H.out).mono ?_); rintro e w1 ⟨v, rfl, hv, hb⟩; replace hv := Aside0.mk hv; replace hb := Aside0.mk hb)
  go_ret2
  exact ⟨_, rfl, hv.out, hb.out⟩
theorem scan_Scan.run (op : Int) (A : Option Addr) (c : Nat) (l : List Int) (A2 : Option Addr) (c2 : Nat) (lens : List Int) (w : World) (hT : Tabs w)
    (hr : Kd.C (Kd.int .i64) w A l.length l) (hc : l.length ≤ c) (hr2 : Kd.C (Kd.int .i64) w A2 lens.length lens) (hc2 : lens.length ≤ c2) :
    Calls Tryd.prog 14 #[.int .i64 op, .slice A l.length c, .slice A2 lens.length c2] w (Ret2 w (scan_Scan.g op l lens)) := by
  have H := scan_told op A c l A2 c2 lens (.func (.func 46) #[] #[]) true (fun a _ => a) false w hT ⟨_, rfl, Tryd.call46, scan_Scan1⟩ hr hc hr2 hc2
  have e : told_g op l lens true (fun a _ => a) false = scan_Scan.g op l lens := rfl
  rw [e] at H
  generalize scan_Scan.g op l lens = R at *
  replace H := Aside0.mk H
  clear hT hr hc hr2 hc2 e
  go_enter Tryd.func14, Tryd.ntmps14
  go_wp2_with (go_at_call 43; (with_reducible refine (H.out).mono ?_); rintro e w1 ⟨v, rfl, hv, hb⟩; replace hv := Aside0.mk hv; replace hb := Aside0.mk hb)
  go_ret2
  exact ⟨_, rfl, hv.out, hb.out⟩
theorem scan_Through.run (op : Int) (A : Option Addr) (c : Nat) (l : List Int) (A2 : Option Addr) (c2 : Nat) (lens : List Int) (w : World) (hT : Tabs w)
    (hr : Kd.C (Kd.int .i64) w A l.length l) (hc : l.length ≤ c) (hr2 : Kd.C (Kd.int .i64) w A2 lens.length lens) (hc2 : lens.length ≤ c2) :
    Calls Tryd.prog 16 #[.int .i64 op, .slice A l.length c, .slice A2 lens.length c2] w (Ret2 w (scan_Through.g op l lens)) := by
  have H := scan_told op A c l A2 c2 lens (.func (.func 49) #[] #[]) true (fun _ b => b) false w hT ⟨_, rfl, Tryd.call49, scan_Through1⟩ hr hc hr2 hc2
  have e : told_g op l lens true (fun _ b => b) false = scan_Through.g op l lens := rfl
  rw [e] at H
  generalize scan_Through.g op l lens = R at *
  replace H := Aside0.mk H
  clear hT hr hc hr2 hc2 e
  go_enter Tryd.func16, Tryd.ntmps16
  go_wp2_with (go_at_call 43; (with_reducible refine (H.out).mono ?_); rintro e w1 ⟨v, rfl, hv, hb⟩; replace hv := Aside0.mk hv; replace hb := Aside0.mk hb)
  go_ret2
  exact ⟨_, rfl, hv.out, hb.out⟩
end Go.Proofs.YtpenkemabeonaaaDoor.Hand
