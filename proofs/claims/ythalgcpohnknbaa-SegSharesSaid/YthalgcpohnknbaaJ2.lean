/- A region that draws its order, whose last operation writes what its reads read: reads first, in the text's order, then operations one by one. -/
import Derived.Test.YthalgcpohnknbaaJ1
import Derived.Maps.OwnSet
import Derived.WalkKit
import Derived.WalkMore
namespace Go.Proofs.Ythalgcpohnknbaa.Hand
open Go.RowKit Go.Proofs.YthalgcpohnknbaaW.PrintWords Go.Proofs.YthalgcpohnknbaaW.PrintLast Go.Proofs.YthalgcpohnknbaaW.PrintMore
set_option linter.unusedVariables false
set_option linter.unusedSimpArgs false
def headBL (ops : Array Oper) (ds : List Nat) : Nat → Nat → Array Bool → Bool
  | 0, _, _ => true
  | n + 1, k, listed => (Region.ready .any ops listed).contains k && Region.free .any ops listed k && Region.closedB .any ops listed && Region.lastB .any ops listed ds k && headBL ops ds n (k + 1) (listed.setIfInBounds k true)
theorem wpAnyL_heads {P : Program} {ops : Array Oper} {Q : Exit → Act → World → Prop} {S : World → Prop} {ds : List Nat} {w : World} (hs : Region.noSelect ops = true) (hQ : ∀ c a w, ¬ Q (.panic c) a w) (hS : S w) (fuel : Nat) :
    ∀ (l : List Oper) (k : Nat) (listed : Array Bool) (a : Act), (∀ j, j < l.length → l[j]? = ops[k + j]?) → headBL ops ds l.length k listed = true →
      Reads P ops S l a (fun a' => wpAnyLast P .any ops Q S ds fuel (markedB l.length k listed) a' w) → wpAnyLast P .any ops Q S ds (fuel + l.length) listed a w
  | [], _, _, _, _, _, h => h
  | o :: l, k, listed, a, hl, hB, h => by
    obtain ⟨v, hy, h⟩ := h
    simp only [List.length_cons, headBL, Bool.and_eq_true] at hB
    have h0 : ops[k]? = some o := by simpa using (hl 0 (by simp)).symm
    have ih := wpAnyL_heads (ds := ds) hs hQ hS fuel l (k + 1) (listed.setIfInBounds k true) (a.put o.dst v) (fun j hj => by
      have := hl (j + 1) (by simp; omega)
      simpa [Nat.add_assoc, Nat.add_comm 1 j] using this) hB.2 h
    exact wpAnyLast_take h0 hs hB.1.1.1.2 hB.1.1.1.1 hB.1.1.2 hB.1.2 (fun c a w h => (hQ _ _ _ h).elim) hy hS ih
/-- The operations that are left come one by one; behind the last one nothing is kept. -/
def TailL (P : Program) (ops : Array Oper) (Q : Exit → Act → World → Prop) (S : World → Prop) : List Nat → Act → World → Prop
  | [], a, w => Q .normal a w
  | i :: l, a, w => wpOp P ops Q i (fun a' w' => (l ≠ [] → S w') ∧ TailL P ops Q S l a' w') a w
def lastOnly (ds : List Nat) : List Nat → Bool
  | [] => true
  | i :: l => (ds.contains i || !l.isEmpty) && lastOnly ds l
theorem wpAnyL_tail {P : Program} {ops : Array Oper} {Q : Exit → Act → World → Prop} {S : World → Prop} {ds : List Nat} : ∀ (l : List Nat) (listed : Array Bool) (a : Act) (w : World), tailB ops l listed = true → lastOnly ds l = true → TailL P ops Q S l a w → wpAnyLast P .any ops Q S ds l.length listed a w
  | [], listed, a, w, hB, _, h => wpAnyLast_done (by simpa [tailB] using hB) h 0
  | i :: l, listed, a, w, hB, hO, h => by
    simp only [tailB, Bool.and_eq_true] at hB
    simp only [lastOnly, Bool.and_eq_true, Bool.or_eq_true] at hO
    refine wpAnyLast_all (rs := [i]) (by simpa using hB.1) (by simp) (fun j hj => ?_)
    obtain rfl : j = i := by simpa using hj
    refine wpOp_mono (fun a' w' hh => ⟨fun hni _ => hh.1 (fun e => ?_), wpAnyL_tail l _ a' w' hB.2 hO.2 hh.2⟩) h
    rcases hO.1 with h1 | h1
    · exact hni (by simpa using h1)
    · rw [e] at h1; simp at h1
theorem region_anyL {P : Program} {l : List Oper} {Q : Exit → Act → World → Prop} {a : Act} {w : World} (S : World → Prop) (n : Nat) (tl ds : List Nat) (hs : Region.noSelect l.toArray = true) (hB : headBL l.toArray ds n 0 (Array.replicate l.toArray.size false) = true)
    (hT : tailB l.toArray tl (markedB n 0 (Array.replicate l.toArray.size false)) = true) (hO : lastOnly ds tl = true) (hn : tl.length + n = l.toArray.size) (hQ : ∀ c a w, ¬ Q (.panic c) a w) (hS : S w)
    (h : Reads P l.toArray S (l.take n) a (fun a' => TailL P l.toArray Q S tl a' w)) : wpAny P .any l.toArray Q l.toArray.size (Array.replicate l.toArray.size false) a w := by
  have hn2 : (l.take n).length = n := by simp at hn ⊢; omega
  have H := wpAnyL_heads (P := P) (Q := Q) (ds := ds) hs hQ hS tl.length (l.take n) 0 (Array.replicate l.toArray.size false) a (fun j hj => by
    have hj' : j < n := by rw [hn2] at hj; exact hj
    simp [hj']) (by rw [hn2]; exact hB) (Reads.imp _ _ _ _ (fun a' ha => by rw [hn2]; exact wpAnyL_tail tl _ a' w hT hO ha) h)
  rw [hn2, hn] at H
  exact wpAny_of_last _ _ _ _ H
theorem TailL.val {P : Program} {ops : Array Oper} {Q : Exit → Act → World → Prop} {S : World → Prop} {i : Nat} {l : List Nat} {a : Act} {w w2 : World} {o : Oper} {v : Value} (ho : ops[i]? = some o) (hg : o.guard = none)
    (hr : (execOp a.eval o).run P w = .ok (.value v) w2) (hS : l ≠ [] → S w2) (h : TailL P ops Q S l (a.put o.dst v) w2) : TailL P ops Q S (i :: l) a w := by
  unfold TailL wpOp
  simp only [ho]
  rw [if_pos (by simp [Region.wanted, hg])]
  refine .inl ?_
  simp only [Oper.wp, hr, Oper.upon]
  exact ⟨hS, h⟩
theorem TailL.skip {P : Program} {ops : Array Oper} {Q : Exit → Act → World → Prop} {S : World → Prop} {i : Nat} {l : List Nat} {a : Act} {w w2 : World} {o : Oper} (ho : ops[i]? = some o) (hg : o.guard = none) (hd : o.dst = none)
    (hr : (execOp a.eval o).run P w = .ok .skip w2) (hS : l ≠ [] → S w2) (h : TailL P ops Q S l a w2) : TailL P ops Q S (i :: l) a w := by
  unfold TailL wpOp
  simp only [ho]
  rw [if_pos (by simp [Region.wanted, hg])]
  refine .inl ?_
  simp only [Oper.wp, hr, Oper.upon]
  rw [hd]
  exact ⟨hS, h⟩
theorem TailL.call {P : Program} {ops : Array Oper} {Q : Exit → Act → World → Prop} {S : World → Prop} {i : Nat} {l : List Nat} {a : Act} {w : World} {o : Oper} {f : FuncId} {args : Array Value} {R : Ending → World → Prop} (ho : ops[i]? = some o) (hg : o.guard = none)
    (hr : (execOp a.eval o).run P w = .ok (.enter f args) w) (hc : Calls P f args w R) (h : ∀ e w2, R e w2 → ∃ v, e = .returned v ∧ (l ≠ [] → S w2) ∧ TailL P ops Q S l (a.put o.dst v) w2) : TailL P ops Q S (i :: l) a w := by
  unfold TailL wpOp
  simp only [ho]
  rw [if_pos (by simp [Region.wanted, hg])]
  refine .inl ?_
  simp only [Oper.wp, hr, Oper.upon]
  refine hc.mono ?_
  intro e w2 hR
  obtain ⟨v, rfl, hS, hT⟩ := h e w2 hR
  exact ⟨hS, hT⟩
/-- A word appended, behind a literal of it. -/
theorem TailL.append {P : Program} {ops : Array Oper} {Q : Exit → Act → World → Prop} {S : World → Prop} {i : Nat} {l : List Nat} {a : Act} {W : World} {o : Oper} (t e : TypeId) (base : Nat) (s x : Operand) (v : Value) (xs : List Int) (p : Int) (ok : Nat → Prop)
    (hoi : ops[i]? = some o) (hg : o.guard = none) (ho : o.op = .call { callee := .builtin .append, args := #[s, x], argTypes := #[t, t] })
    (ht : P.underlying t = some (.slice e)) (hinfo : (P.info? e).map (fun i => (i.zero, i.size, i.bytes)) = some (some (.int .i64 0), 1, 8)) (hs : a.eval s = v) (hx : a.eval x = .slice (some ⟨W.heap.size, 0, none⟩) 1 1) (hfresh : ∀ k, W.heap.size ≤ k → ok k)
    (HO : (Kd.int .i64).R e W base ok v xs) (hbase : base ≤ W.heap.size) (hl : (xs.length + 1) * 8 ≤ 140737488355328)
    (h : ∀ v1 w1, (Kd.int .i64).R e w1 base ok v1 (xs ++ [p]) → Below base W w1 → W.grownBy w1 v.ownBlock → (v1.ownBlock = v.ownBlock ∨ ∃ b, v1.ownBlock = some b ∧ W.heap.size ≤ b) → (l ≠ [] → S w1) ∧ TailL P ops Q S l (a.put o.dst v1) w1) :
    TailL P ops Q S (i :: l) a (W.alloc (.cells #[.int .i64 p] e)) := by
  unfold TailL wpOp
  simp only [hoi]
  have hw : ∀ q, Region.wanted o q = true := fun q => by simp [Region.wanted, hg]
  have H := Kd.R_append_step (P := P) (ops := ops) (o := o) (a := a) (Q := Q) (Kc := fun a' w' => (l ≠ [] → S w') ∧ TailL P ops Q S l a' w') (Kd.int .i64) (w0 := W) (W := W) base (hw _) s x t e (.int .i64 0) 8 ho ht hinfo rfl (by decide) (by decide) v xs p [.int .i64 p] ok (fun _ => False) hs hx rfl (fun k hk => hk.elim) hfresh HO (Below.refl _ _) hbase hl h
  rw [if_pos (hw _)] at H
  rw [if_pos (hw _)]
  exact .inl H
/-- A word appended inside a fence, behind a literal of it. -/
theorem wpListIn_append_int {F : Fence} {n : Nat} {P : Program} {ops : Array Oper} {rest : List Oper} {o : Oper} {a : Act} {Q : Exit → Act → World → Prop} {W : World} (t e : TypeId) (base : Nat) (hgd : o.guard = none) (s x : Operand)
    (v : Value) (xs : List Int) (p : Int) (ok : Nat → Prop) (ho : o.op = .call { callee := .builtin .append, args := #[s, x], argTypes := #[t, t] })
    (ht : P.underlying t = some (.slice e)) (hinfo : (P.info? e).map (fun i => (i.zero, i.size, i.bytes)) = some (some (.int .i64 0), 1, 8)) (hs : a.eval s = v) (hx : a.eval x = .slice (some ⟨W.heap.size, 0, none⟩) 1 1) (hfresh : ∀ k, W.heap.size ≤ k → ok k)
    (HO : (Kd.int .i64).R e W base ok v xs) (hbase : base ≤ W.heap.size) (hl : (xs.length + 1) * 8 ≤ 140737488355328)
    (h : ∀ v1 w1, (Kd.int .i64).R e w1 base ok v1 (xs ++ [p]) → W.grownBy w1 v.ownBlock → (v1.ownBlock = v.ownBlock ∨ ∃ b, v1.ownBlock = some b ∧ W.heap.size ≤ b) → wpListIn F n P ops Q rest (a.put o.dst v1) w1) :
    wpListIn F n P ops Q (o :: rest) a (W.alloc (.cells #[.int .i64 p] e)) := by
  obtain ⟨i0, hi, hzz⟩ := Option.map_eq_some_iff.1 hinfo
  simp only [Prod.mk.injEq] at hzz
  obtain ⟨hz0, hz1, hz2⟩ := hzz
  have hown := Kd.own_of_R (enc := Value.int .i64) (h1 := fun _ => rfl) HO
  have hok := HO.1
  refine wpListIn_plain hgd fun K hK' => ?_
  obtain ⟨v', w', hrun, r1, r2, r3, r4⟩ := run_append_own_at (P := P) (W.alloc (.cells #[.int .i64 p] e)) base t o.type e i0 (.int .i64 0) 1 8 ht hi hz0 hz1 hz2 rfl (by omega) v xs.length (encs (Value.int .i64) xs) (hown.alloc _) ⟨W.heap.size, 0, none⟩ 1 1 [.int .i64 p] rfl
    (World.news_of_block (cs := #[.int .i64 p]) (t := e) (fr := (0, 0)) (heap_alloc_new W _)) (by simp [Value.oneCell']) (by simp only [maxLen]; omega) hl (by simp; omega)
  have hgw : W.grownBy w' v.ownBlock := World.grownBy.trans (World.grownBy_alloc W _ _) r2
  have hat : v'.ownBlock = v.ownBlock ∨ ∃ b, v'.ownBlock = some b ∧ W.heap.size ≤ b := by
    rcases r4 with r4 | r4
    · exact .inl r4
    · exact .inr ⟨_, r4, by simp⟩
  have hR : (Kd.int .i64).R e w' base ok v' (xs ++ [p]) := by
    refine Kd.R_of_own (enc := Value.int .i64) (h1 := fun _ => rfl) (by simpa [encs] using r1) (fun k hk => ?_)
    rcases hat with h2 | ⟨b, h2, h3⟩
    · exact hok k (h2 ▸ hk)
    · rw [h2] at hk
      injection hk with hk
      exact hfresh k (by omega)
  unfold Oper.wpIn
  refine ⟨?_, ?_⟩
  · simp [Oper.about, ho, resolve, Target.leads, Sem.run_pure]
  · rw [Oper.semAt_plain F _ _ (by rw [ho]; intro c hc'; cases hc')]
    simp [execOp, ho, resolve, invoke, builtin, hs, hx, hrun, Result.andThen]
    exact hK' _ _ (h v' w' hR hgw hat)
end Go.Proofs.Ythalgcpohnknbaa.Hand
/- A region that draws its order: reads anywhere in the text first, then operations one by one. -/
namespace Go.Proofs.Ythalgcpohnknbaa.Hand
open Go.RowKit Go.Proofs.YthalgcpohnknbaaW.PrintWords Go.Proofs.YthalgcpohnknbaaW.PrintLast Go.Proofs.YthalgcpohnknbaaW.PrintMore
set_option linter.unusedVariables false
set_option linter.unusedSimpArgs false
def ReadsI (P : Program) (ops : Array Oper) (S : World → Prop) : List Nat → Act → (Act → Prop) → Prop
  | [], a, K => K a
  | k :: l, a, K => ∃ o v, ops[k]? = some o ∧ YieldsIf P ops S o v a ∧ ReadsI P ops S l (a.put o.dst v) K
def headBI (ops : Array Oper) (ds : List Nat) : List Nat → Array Bool → Bool
  | [], _ => true
  | k :: l, listed => (Region.ready .any ops listed).contains k && Region.free .any ops listed k && Region.closedB .any ops listed && Region.lastB .any ops listed ds k && headBI ops ds l (listed.setIfInBounds k true)
def markedI : List Nat → Array Bool → Array Bool
  | [], listed => listed
  | k :: l, listed => markedI l (listed.setIfInBounds k true)
theorem wpAnyI_heads {P : Program} {ops : Array Oper} {Q : Exit → Act → World → Prop} {S : World → Prop} {ds : List Nat} {w : World} (hs : Region.noSelect ops = true) (hQ : ∀ c a w, ¬ Q (.panic c) a w) (hS : S w) (fuel : Nat) :
    ∀ (l : List Nat) (listed : Array Bool) (a : Act), headBI ops ds l listed = true →
      ReadsI P ops S l a (fun a' => wpAnyLast P .any ops Q S ds fuel (markedI l listed) a' w) → wpAnyLast P .any ops Q S ds (fuel + l.length) listed a w
  | [], _, _, _, h => h
  | k :: l, listed, a, hB, h => by
    obtain ⟨o, v, h0, hy, h⟩ := h
    simp only [headBI, Bool.and_eq_true] at hB
    have ih := wpAnyI_heads (ds := ds) hs hQ hS fuel l (listed.setIfInBounds k true) (a.put o.dst v) hB.2 h
    exact wpAnyLast_take h0 hs hB.1.1.1.2 hB.1.1.1.1 hB.1.1.2 hB.1.2 (fun c a w h => (hQ _ _ _ h).elim) hy hS ih
theorem ReadsI.imp {P : Program} {ops : Array Oper} {S : World → Prop} {K K2 : Act → Prop} : ∀ (l : List Nat) (a : Act), (∀ a, K a → K2 a) → ReadsI P ops S l a K → ReadsI P ops S l a K2
  | [], _, hk, h => hk _ h
  | _ :: l, _, hk, h => by
    obtain ⟨o, v, h0, hy, h⟩ := h
    exact ⟨o, v, h0, hy, ReadsI.imp l _ hk h⟩
theorem region_anyI {P : Program} {l : List Oper} {Q : Exit → Act → World → Prop} {a : Act} {w : World} (S : World → Prop) (ks tl ds : List Nat) (hs : Region.noSelect l.toArray = true) (hB : headBI l.toArray ds ks (Array.replicate l.toArray.size false) = true)
    (hT : tailB l.toArray tl (markedI ks (Array.replicate l.toArray.size false)) = true) (hO : lastOnly ds tl = true) (hn : tl.length + ks.length = l.toArray.size) (hQ : ∀ c a w, ¬ Q (.panic c) a w) (hS : S w)
    (h : ReadsI P l.toArray S ks a (fun a' => TailL P l.toArray Q S tl a' w)) : wpAny P .any l.toArray Q l.toArray.size (Array.replicate l.toArray.size false) a w := by
  have H := wpAnyI_heads (P := P) (Q := Q) (ds := ds) hs hQ hS tl.length ks (Array.replicate l.toArray.size false) a hB (ReadsI.imp _ _ (fun a' ha => wpAnyL_tail tl _ a' w hT hO ha) h)
  rw [hn] at H
  exact wpAny_of_last _ _ _ _ H
theorem ReadsI.step {P : Program} {ops : Array Oper} {S : World → Prop} {k : Nat} {l : List Nat} {a : Act} {K : Act → Prop} {o : Oper} (v : Value) (h0 : ops[k]? = some o) (hg : o.guard = none) (hv : ∀ W, S W → (execOp a.eval o).run P W = .ok (.value v) W)
    (h : ReadsI P ops S l (a.put o.dst v) K) : ReadsI P ops S (k :: l) a K :=
  ⟨o, v, h0, .inl ⟨by simp [Region.wanted, hg], hv⟩, h⟩
end Go.Proofs.Ythalgcpohnknbaa.Hand
/- A region that draws its order: reads, operations that come alone, and operations that come in any order, told in a list. Frames that are letters. -/
namespace Go.Proofs.Ythalgcpohnknbaa.Hand
open Go.RowKit Go.Proofs.YthalgcpohnknbaaW.PrintWords Go.Proofs.YthalgcpohnknbaaW.PrintLast Go.Proofs.YthalgcpohnknbaaW.PrintMore
set_option linter.unusedVariables false
set_option linter.unusedSimpArgs false
theorem eval_same {a : Act} {d : Nat} {v : Value} (h : d < a.tmps.size) : (a.put (some d) v).eval (.tmp d) = v := by
  show (a.tmps.setIfInBounds d v).getD d undef = v
  simp [Array.getD, h]
theorem eval_ne {a : Act} {d e : Nat} {v : Value} (h : e ≠ d) : (a.put (some d) v).eval (.tmp e) = a.eval (.tmp e) := by
  show (a.tmps.setIfInBounds d v).getD e undef = a.tmps.getD e undef
  simp only [Array.getD_eq_getD_getElem?]
  rw [Array.getElem?_setIfInBounds_ne (Ne.symm h)]
theorem size_put (a : Act) (d : Option Tmp) (v : Value) : (a.put d v).tmps.size = a.tmps.size := by
  cases d <;> simp [Act.put]
theorem defers_put (a : Act) (d : Option Tmp) (v : Value) : (a.put d v).defers = a.defers := by
  cases d <;> rfl
theorem wanted_of {ops : Array Oper} {o : Oper} {a : Act} {j d : Nat} {b : Bool} (hg : o.guard = some (j, b)) (hj : (ops[j]?).bind (·.dst) = some d) (hd : d < a.tmps.size) (hv : a.eval (.tmp d) = .bool b) : Region.wanted o (yielded ops a.tmps) = true := by
  have h2 : a.tmps[d]? = some (.bool b) := by
    have h3 : a.tmps.getD d undef = .bool b := hv
    rw [Array.getD_eq_getD_getElem?] at h3
    rw [Array.getElem?_eq_getElem hd] at h3 ⊢
    simpa using h3
  simp [Region.wanted, hg, yielded, hj, h2]
theorem tmp_of_eval {a : Act} {s : Nat} {v : Value} (h : s < a.tmps.size) (he : a.eval (.tmp s) = v) : a.tmps[s] = v := by
  rw [← he]
  show _ = a.tmps.getD s undef
  simp [Array.getD, h]
def forkP (P : Program) (ops : Array Oper) (Q : Exit → Act → World → Prop) (S : World → Prop) : Nat → List Nat → (Act → World → Prop) → Act → World → Prop
  | 0, _, K, a, w => K a w
  | n + 1, is, K, a, w => ∀ i ∈ is, wpOp P ops Q i (fun a' w' => S w' ∧ forkP P ops Q S n (is.erase i) K a' w') a w
def scrP (P : Program) (ops : Array Oper) (Q : Exit → Act → World → Prop) (S : World → Prop) : List (Bool × List Nat) → Act → World → Prop
  | [], a, w => Q .normal a w
  | (true, is) :: l, a, w => ∃ i o v, is = [i] ∧ ops[i]? = some o ∧ YieldsIf P ops S o v a ∧ scrP P ops Q S l (a.put o.dst v) w
  | (false, is) :: l, a, w => forkP P ops Q S is.length is (fun a' w' => scrP P ops Q S l a' w') a w
def forkB (ops : Array Oper) : Nat → List Nat → (Array Bool → Bool) → Array Bool → Bool
  | 0, _, k, listed => k listed
  | n + 1, is, k, listed => Region.ready .any ops listed == is && is.all fun i => forkB ops n (is.erase i) k (listed.setIfInBounds i true)
def scrB (ops : Array Oper) : List (Bool × List Nat) → Array Bool → Bool
  | [], listed => Region.ready .any ops listed == []
  | (true, is) :: l, listed => is.length == 1 && (Region.ready .any ops listed).contains (is.headD 0) && Region.free .any ops listed (is.headD 0) && scrB ops l (listed.setIfInBounds (is.headD 0) true)
  | (false, is) :: l, listed => forkB ops is.length is (scrB ops l) listed
def scrN : List (Bool × List Nat) → Nat
  | [] => 0
  | (_, is) :: l => scrN l + is.length
theorem fork_sound {P : Program} {ops : Array Oper} {Q : Exit → Act → World → Prop} {S : World → Prop} {k : Array Bool → Bool} {K : Act → World → Prop} {fuel : Nat}
    (hk : ∀ (listed : Array Bool) (a : Act) (w : World), k listed = true → S w → K a w → wpAnyH P .any ops Q S fuel listed a w) :
    ∀ (n : Nat) (is : List Nat) (listed : Array Bool) (a : Act) (w : World), n = is.length → forkB ops n is k listed = true → forkP P ops Q S n is K a w → S w → wpAnyH P .any ops Q S (fuel + n) listed a w
  | 0, is, listed, a, w, hn, hB, h, hS => hk listed a w hB hS h
  | n + 1, is, listed, a, w, hn, hB, h, hS => by
    simp only [forkB, Bool.and_eq_true, beq_iff_eq, List.all_eq_true] at hB
    refine wpAnyH_all (rs := is) hB.1 (fun h0 => by rw [h0] at hn; simp at hn) (fun i hi => ?_)
    refine wpOp_mono (fun a' w' hh => ⟨hh.1, fork_sound hk n (is.erase i) _ a' w' ?_ (hB.2 i hi) hh.2 hh.1⟩) (h i hi)
    rw [List.length_erase_of_mem hi]
    omega
theorem scr_sound {P : Program} {ops : Array Oper} {Q : Exit → Act → World → Prop} {S : World → Prop} (hs : Region.noSelect ops = true) (hQ : ∀ c a w, ¬ Q (.panic c) a w) :
    ∀ (l : List (Bool × List Nat)) (listed : Array Bool) (a : Act) (w : World), scrB ops l listed = true → S w → scrP P ops Q S l a w → wpAnyH P .any ops Q S (scrN l) listed a w
  | [], listed, a, w, hB, hS, h => wpAnyH_done (by simpa [scrB] using hB) h 0
  | (true, is) :: l, listed, a, w, hB, hS, h => by
    obtain ⟨i, o, v, rfl, h0, hy, h⟩ := h
    simp only [scrB, List.headD_cons, Bool.and_eq_true] at hB
    exact wpAnyH_take h0 hs hB.1.2 hB.1.1.2 (fun c a w h => (hQ _ _ _ h).elim) hy hS (scr_sound hs hQ l _ _ w hB.2 hS h)
  | (false, is) :: l, listed, a, w, hB, hS, h => fork_sound (fun listed' a' w' hB' hS' h' => scr_sound hs hQ l listed' a' w' hB' hS' h') is.length is listed a w rfl hB h hS
theorem region_scr {P : Program} {l : List Oper} {Q : Exit → Act → World → Prop} {a : Act} {w : World} (S : World → Prop) (sc : List (Bool × List Nat)) (hs : Region.noSelect l.toArray = true) (hB : scrB l.toArray sc (Array.replicate l.toArray.size false) = true)
    (hn : scrN sc = l.toArray.size) (hQ : ∀ c a w, ¬ Q (.panic c) a w) (hS : S w) (h : scrP P l.toArray Q S sc a w) : wpAny P .any l.toArray Q l.toArray.size (Array.replicate l.toArray.size false) a w := by
  have H := scr_sound hs hQ sc _ a w hB hS h
  rw [hn] at H
  exact wpAny_of_held _ _ _ _ H
section
variable {P : Program} {ops : Array Oper} {Q : Exit → Act → World → Prop} {S : World → Prop} {i : Nat} {l : List (Bool × List Nat)} {a : Act} {w w2 : World} {o : Oper} {v : Value}
theorem scr_letter (h : ∀ a0, a0 = a → scrP P ops Q S l a0 w) : scrP P ops Q S l a w := h a rfl
theorem scr_get (d : Tmp) (v : Value) (h0 : ops[i]? = some o) (hd : o.dst = some d) (hg : Region.wanted o (yielded ops a.tmps) = true) (hv : ∀ W, S W → (execOp a.eval o).run P W = .ok (.value v) W) (h : scrP P ops Q S l (a.put (some d) v) w) : scrP P ops Q S ((true, [i]) :: l) a w :=
  ⟨i, o, v, rfl, h0, .inl ⟨hg, hv⟩, by rw [hd]; exact h⟩
theorem scr_read (v : Value) (h0 : ops[i]? = some o) (hg : Region.wanted o (yielded ops a.tmps) = true) (hv : ∀ W, S W → (execOp a.eval o).run P W = .ok (.value v) W) (h : scrP P ops Q S l (a.put o.dst v) w) : scrP P ops Q S ((true, [i]) :: l) a w :=
  ⟨i, o, v, rfl, h0, .inl ⟨hg, hv⟩, h⟩
theorem scr_one (h : wpOp P ops Q i (fun a' w' => S w' ∧ scrP P ops Q S l a' w') a w) : scrP P ops Q S ((false, [i]) :: l) a w := by
  intro j hj
  obtain rfl : j = i := by simpa using hj
  exact h
theorem op_val {K : Act → World → Prop} (h0 : ops[i]? = some o) (hg : Region.wanted o (yielded ops a.tmps) = true) (hr : (execOp a.eval o).run P w = .ok (.value v) w2) (d : Tmp) (hd : o.dst = some d) (h : K (a.put (some d) v) w2) : wpOp P ops Q i K a w := by
  rw [← hd] at h
  unfold wpOp
  simp only [h0]
  rw [if_pos hg]
  refine .inl ?_
  simp only [Oper.wp, hr, Oper.upon]
  exact h
theorem op_call {K : Act → World → Prop} {f : FuncId} {args : Array Value} {R : Ending → World → Prop} (h0 : ops[i]? = some o) (hg : Region.wanted o (yielded ops a.tmps) = true) (hr : (execOp a.eval o).run P w = .ok (.enter f args) w) (hc : Calls P f args w R)
    (d : Tmp) (hd : o.dst = some d) (h : ∀ e w2, R e w2 → ∃ v, e = .returned v ∧ K (a.put (some d) v) w2) : wpOp P ops Q i K a w := by
  rw [← hd] at h
  unfold wpOp
  simp only [h0]
  rw [if_pos hg]
  refine .inl ?_
  simp only [Oper.wp, hr, Oper.upon]
  refine hc.mono ?_
  intro e w2 hR
  obtain ⟨v, rfl, hK⟩ := h e w2 hR
  exact hK
theorem forkP_inv (Inv : List Nat → Act → World → Prop) (step : ∀ (is : List Nat) (i : Nat) (a : Act) (w : World), i ∈ is → Inv is a w → wpOp P ops Q i (fun a' w' => S w' ∧ Inv (is.erase i) a' w') a w) :
    ∀ (n : Nat) (is : List Nat) (a : Act) (w : World), n = is.length → Inv is a w → forkP P ops Q S n is (Inv []) a w
  | 0, is, a, w, hn, h => by
    obtain rfl : is = [] := List.length_eq_zero_iff.1 hn.symm
    exact h
  | n + 1, is, a, w, hn, h => fun i hi => wpOp_mono (fun a' w' hh => ⟨hh.1, forkP_inv Inv step n (is.erase i) a' w' (by rw [List.length_erase_of_mem hi]; omega) hh.2⟩) (step is i a w hi h)
theorem forkP_mono {K K2 : Act → World → Prop} (hK : ∀ a w, K a w → K2 a w) : ∀ (n : Nat) (is : List Nat) (a : Act) (w : World), forkP P ops Q S n is K a w → forkP P ops Q S n is K2 a w
  | 0, _, a, w, h => hK a w h
  | n + 1, is, a, w, h => fun i hi => wpOp_mono (fun a' w' hh => ⟨hh.1, forkP_mono hK n _ a' w' hh.2⟩) (h i hi)
theorem scr_fork {is : List Nat} (Inv : List Nat → Act → World → Prop) (h0 : Inv is a w) (step : ∀ (is : List Nat) (i : Nat) (a : Act) (w : World), i ∈ is → Inv is a w → wpOp P ops Q i (fun a' w' => S w' ∧ Inv (is.erase i) a' w') a w)
    (h : ∀ a w, Inv [] a w → scrP P ops Q S l a w) : scrP P ops Q S ((false, is) :: l) a w :=
  forkP_mono h _ _ _ _ (forkP_inv Inv step is.length is a w rfl h0)
end
/-! Reads anywhere, then operations in any order, then operations one by one; the last one may write what the reads read. -/
def forkBL (ops : Array Oper) (tl : List Nat) : Nat → List Nat → Array Bool → Bool
  | 0, _, listed => tailB ops tl listed
  | n + 1, is, listed => Region.ready .any ops listed == is && is.all fun i => forkBL ops tl n (is.erase i) (listed.setIfInBounds i true)
theorem wpAnyL_fork {P : Program} {ops : Array Oper} {Q : Exit → Act → World → Prop} {S : World → Prop} {ds tl : List Nat} (hO : lastOnly ds tl = true) :
    ∀ (n : Nat) (is : List Nat) (listed : Array Bool) (a : Act) (w : World), n = is.length → forkBL ops tl n is listed = true → forkP P ops Q S n is (fun a' w' => TailL P ops Q S tl a' w') a w → wpAnyLast P .any ops Q S ds (tl.length + n) listed a w
  | 0, is, listed, a, w, hn, hB, h => wpAnyL_tail tl listed a w hB hO h
  | n + 1, is, listed, a, w, hn, hB, h => by
    simp only [forkBL, Bool.and_eq_true, beq_iff_eq, List.all_eq_true] at hB
    refine wpAnyLast_all (rs := is) hB.1 (fun h0 => by rw [h0] at hn; simp at hn) (fun i hi => ?_)
    refine wpOp_mono (fun a' w' hh => ⟨fun _ _ => hh.1, wpAnyL_fork hO n (is.erase i) _ a' w' ?_ (hB.2 i hi) hh.2⟩) (h i hi)
    rw [List.length_erase_of_mem hi]
    omega
theorem region_anyF {P : Program} {l : List Oper} {Q : Exit → Act → World → Prop} {a : Act} {w : World} (S : World → Prop) (ks is tl ds : List Nat) (hs : Region.noSelect l.toArray = true) (hB : headBI l.toArray ds ks (Array.replicate l.toArray.size false) = true)
    (hF : forkBL l.toArray tl is.length is (markedI ks (Array.replicate l.toArray.size false)) = true) (hO : lastOnly ds tl = true) (hn : tl.length + is.length + ks.length = l.toArray.size) (hQ : ∀ c a w, ¬ Q (.panic c) a w) (hS : S w)
    (h : ReadsI P l.toArray S ks a (fun a' => forkP P l.toArray Q S is.length is (fun a2 w2 => TailL P l.toArray Q S tl a2 w2) a' w)) : wpAny P .any l.toArray Q l.toArray.size (Array.replicate l.toArray.size false) a w := by
  have H := wpAnyI_heads (P := P) (Q := Q) (ds := ds) hs hQ hS (tl.length + is.length) ks (Array.replicate l.toArray.size false) a hB (ReadsI.imp _ _ (fun a' ha => wpAnyL_fork hO is.length is _ a' w rfl hF ha) h)
  rw [hn] at H
  exact wpAny_of_last _ _ _ _ H
theorem unwanted_of {ops : Array Oper} {o : Oper} {a : Act} {j d : Nat} {b : Bool} (hg : o.guard = some (j, b)) (hj : (ops[j]?).bind (·.dst) = some d) (hd : d < a.tmps.size) (hv : a.eval (.tmp d) = .bool (!b)) : Region.wanted o (yielded ops a.tmps) = false := by
  have h2 : a.tmps[d]? = some (.bool (!b)) := by
    have h3 : a.tmps.getD d undef = .bool (!b) := hv
    rw [Array.getD_eq_getD_getElem?] at h3
    rw [Array.getElem?_eq_getElem hd] at h3 ⊢
    simpa using h3
  cases b <;> simp [Region.wanted, hg, yielded, hj, h2]
theorem ReadsI.stepW {P : Program} {ops : Array Oper} {S : World → Prop} {k : Nat} {l : List Nat} {a : Act} {K : Act → Prop} {o : Oper} (v : Value) (h0 : ops[k]? = some o) (hg : Region.wanted o (yielded ops a.tmps) = true) (hv : ∀ W, S W → (execOp a.eval o).run P W = .ok (.value v) W)
    (h : ReadsI P ops S l (a.put o.dst v) K) : ReadsI P ops S (k :: l) a K :=
  ⟨o, v, h0, .inl ⟨hg, hv⟩, h⟩
theorem ReadsI.stepN {P : Program} {ops : Array Oper} {S : World → Prop} {k : Nat} {l : List Nat} {a : Act} {K : Act → Prop} {o : Oper} (h0 : ops[k]? = some o) (hg : Region.wanted o (yielded ops a.tmps) = false)
    (h : ReadsI P ops S l (a.put o.dst undef) K) : ReadsI P ops S (k :: l) a K :=
  ⟨o, undef, h0, .inr ⟨hg, rfl⟩, h⟩
end Go.Proofs.Ythalgcpohnknbaa.Hand
/- What chapter 02 takes over from chapter 07: lists, segments, places in a call's own slices. No condition. -/
namespace Go.Proofs.Ythalgcpohnknbaa.Hand
open Go.RowKit Go.Proofs.YthalgcpohnknbaaW.PrintWords Go.Proofs.YthalgcpohnknbaaW.PrintLast Go.Proofs.YthalgcpohnknbaaW.PrintMore
open Go.Maps
set_option linter.unusedVariables false
set_option linter.unusedSimpArgs false
theorem infoInt : (Try.prog.info? 3).map (fun i => (i.zero, i.size, i.bytes)) = some (some (.int .i64 0), 1, 8) := by kernel_rfl
/-- A list is returned, in new memory, and an error. -/
def Ret2 (w : World) (R : List Int × Int) (e : Ending) (w' : World) : Prop := ∃ v, e = .returned (.tuple #[v, .int .i64 R.2]) ∧ Kd.V (Kd.int .i64) 3 w' w.heap.size (fun k => w.heap.size ≤ k) v R.1 ∧ Below w.heap.size w w'
theorem Ret2.lift {w W w' : World} {R : List Int × Int} {e : Ending} (h : Ret2 W R e w') (hb : Below w.heap.size w W) : Ret2 w R e w' := by
  obtain ⟨v, he, hv, hb2⟩ := h
  exact ⟨v, he, Kd.V_mono (Kd.V_lower hv hb.size) (fun k hk => Nat.le_trans hb.size hk), hb.trans (hb2.mono hb.size)⟩
theorem Ret2.nil {w w' : World} (n : Int) (hb : Below w.heap.size w w') : Ret2 w ([], n) (.returned (.tuple #[.slice none 0 0, .int .i64 n])) w' := ⟨_, rfl, Kd.V_nil _ _ _ _ _, hb⟩
/-- A list is returned, in new memory. -/
def Ret1 (w : World) (R : List Int) (e : Ending) (w' : World) : Prop := ∃ v, e = .returned v ∧ Kd.V (Kd.int .i64) 3 w' w.heap.size (fun k => w.heap.size ≤ k) v R ∧ Below w.heap.size w w'
def upTo (val : Int → Int) (x : Int) : List Int := (List.range x.toNat).map (fun (i : Nat) => val (i : Int))
theorem upTo_succ (val : Int → Int) (x : Int) (h0 : 0 ≤ x) : upTo val (x + 1) = upTo val x ++ [val x] := by
  have e : (x + 1).toNat = x.toNat + 1 := by omega
  have e2 : ((x.toNat : Nat) : Int) = x := by omega
  simp only [upTo, e, List.range_succ, List.map_append, List.map_cons, List.map_nil, e2]
theorem upTo_length (val : Int → Int) (x : Int) : (upTo val x).length = x.toNat := by simp [upTo]
theorem keysInt : Keyed Try.prog 3 := int_keyed Try.underlying3
theorem zeroInt (w : World) : (zeroValue 3).run Try.prog w = .ok (.int .i64 0) w := by kernel_rfl
theorem R_addr {e base n c : Nat} {ok : Nat → Prop} {w : World} {A : Option Addr} {l : List Int} (h : (Kd.int .i64).R e w base ok (.slice A n c) l) (h0 : 0 < n) : ∃ g, A = some ⟨g, 0, none⟩ ∧ base ≤ g := by
  have ho := Kd.own_of_R (enc := Value.int .i64) (h1 := fun _ => rfl) h
  rcases ho.2 with ⟨hv, hn⟩ | ⟨g, cap, cur, hv, hb, _⟩
  · cases hv; omega
  · cases hv; exact ⟨g, rfl, hb⟩
theorem addr0_add (g p : Nat) : (⟨g, 0, none⟩ : Addr).add p = ⟨g, p, none⟩ := by rw [add_plain]
theorem R_some {e base n c : Nat} {ok : Nat → Prop} {w : World} {A : Option Addr} {l : List Int} (h : (Kd.int .i64).R e w base ok (.slice A n c) l) (h0 : 0 < n) : ∃ adr, A = some adr := by
  obtain ⟨g, hg, _⟩ := R_addr h h0
  exact ⟨_, hg⟩
/-- A word is written into a slice of the call's own. -/
theorem R_store {e base n c : Nat} {ok : Nat → Prop} {w : World} {adr : Addr} {xs : List Int} (h : (Kd.int .i64).R e w base ok (.slice (some adr) n c) xs) (k : Nat) (hk : k < n) (v : Int) :
    w.cell? (adr.add k) = some (.int .i64 (rd xs (k : Int))) ∧ w.frozen? (adr.add k) = false ∧ (Kd.int .i64).R e (w.setCell (adr.add k) (.int .i64 v)) base ok (.slice (some adr) n c) (xs.set k v) ∧ ∃ g, (adr.add k).block = g ∧ (Value.slice (some adr) n c).ownBlock = some g ∧ base ≤ g := by
  obtain ⟨g, hg, hb⟩ := R_addr h (by omega)
  injection hg with hg
  subst hg
  have h1 := Kd.R_celln (0 : Int) h (k : Int) (by omega) (by omega)
  have h2 := (Kd.R_putg h (k : Int) v).1
  rw [Int.toNat_natCast] at h1 h2
  rw [addr0_add]
  exact ⟨h1.1, h1.2, h2, g, rfl, rfl, hb⟩
theorem upTo_rd (f : Int → Int) (n : Nat) (k : Nat) (hk : k < n) : rd (upTo f n) (k : Int) = f k := by
  simp [rd, upTo, hk]
theorem upTo_ext (f g : Int → Int) (n : Nat) (h : ∀ k : Nat, k < n → f k = g k) : upTo f n = upTo g n := by
  unfold upTo
  refine List.map_congr_left fun i hi => h i ?_
  rw [List.mem_range] at hi
  simpa using hi
theorem upTo_set (f g : Int → Int) (n i : Nat) (v : Int) (hi : g i = v) (h : ∀ k : Nat, k < n → k ≠ i → g k = f k) : (upTo f n).set i v = upTo g n := by
  apply List.ext_getElem?
  intro k
  rw [List.getElem?_set]
  by_cases hki : i = k
  · subst hki
    by_cases hn : i < n
    · rw [if_pos rfl, if_pos (by rw [upTo_length]; simpa using hn)]
      simp [upTo, hn, hi]
    · rw [if_pos rfl, if_neg (by rw [upTo_length]; simpa using hn)]
      simp [upTo, hn]
  · rw [if_neg hki]
    by_cases hn : k < n
    · simp [upTo, hn]
      exact (h k hn (fun e => hki e.symm)).symm
    · simp [upTo, hn]
theorem upTo_zero (n : Nat) (f : Int → Int) (h : ∀ k : Nat, k < n → f k = 0) : upTo f n = List.replicate n 0 := by
  rw [upTo_ext f (fun _ => 0) n h]
  apply List.ext_getElem
  · simp [upTo]
  · intro i h1 h2
    simp [upTo]
/-- Where the slice of a list begins that a segment is. -/
def segA (A : Option Addr) (at_ n : Nat) : Option Addr := if at_ + n = at_ then A else A.map (·.add at_)
theorem seg_slice (A : Option Addr) (c : Nat) (l : List Int) (at_ n : Nat) (hm : at_ + n ≤ l.length) (hc : l.length ≤ c) :
    (∀ W : World, (Instr.slice 22 (.slice A l.length c) (some (.int .i64 (at_ : Int))) (some (.int .i64 ((at_ : Int) + (n : Int)))) (some (.int .i64 ((at_ : Int) + (n : Int))))).run Try.prog W = .ok (.slice (segA A at_ n) n n) W) ∧
      (∀ W : World, (Kd.int .i64).C W A l.length l → (Kd.int .i64).C W (segA A at_ n) n ((l.drop at_).take n)) := by
  obtain ⟨i, hi, hs⟩ : ∃ i, Try.prog.info? 3 = some i ∧ i.size = 1 := by
    have h := infoInt
    cases hq : Try.prog.info? 3 with
    | none => rw [hq] at h; exact absurd h (by simp)
    | some i => rw [hq] at h; exact ⟨i, rfl, by simp at h; exact h.2.1⟩
  constructor
  · intro W
    have ht := Try.underlying22
    have hel : Try.prog.elem 22 = 3 := by simp [Program.elem, ht]
    have hu : Try.prog.underlying 22 = some (.slice (Try.prog.elem 22)) := by rw [hel]; exact ht
    rw [run_slice_lhm W 22 A l.length c hu .i64 .i64 .i64 (at_ : Int) ((at_ : Int) + (n : Int)) ((at_ : Int) + (n : Int)) (by omega) (by omega) (by omega) (by omega), hel]
    have e1 : ((at_ : Int) + (n : Int)).toNat = at_ + n := by omega
    simp [sizeOf, typeInfo, hi, hs, sliced, Result.andThen, segA, e1]
  · intro W h
    have h1 := Kd.reads_of_C (enc := Value.int .i64) (d := (0 : Int)) (h1 := fun _ => rfl) h
    have h2 := (h1.take_ (at_ + n) hm).drop_ (c := at_ + n) at_ (by omega) (by omega)
    have e : at_ + n - at_ = n := by omega
    rw [e, List.drop_take, e] at h2
    exact Kd.C_of_reads (d := (0 : Int)) (h1 := fun _ => rfl) h2
/-- Where the segment i begins. -/
def startOf (lens : List Int) (x : Int) : Nat := (lens.take x.toNat).foldl (fun s n => s + n.toNat) 0
theorem startOf_zero (lens : List Int) : startOf lens 0 = 0 := rfl
theorem startOf_succ (lens : List Int) (x : Int) (h0 : 0 ≤ x) (hx : x < lens.length) : startOf lens (x + 1) = startOf lens x + (rd lens x).toNat := by
  unfold startOf
  have e : (x + 1).toNat = x.toNat + 1 := by omega
  have hlt : x.toNat < lens.length := by omega
  rw [e, List.take_add_one, List.getElem?_eq_getElem hlt, List.foldl_append]
  simp [rd, hlt]
theorem startOf_mono (lens : List Int) (x : Int) (h0 : 0 ≤ x) (k : Nat) (hx : x + k ≤ lens.length) : startOf lens x ≤ startOf lens (x + k) := by
  induction k with
  | zero => simp
  | succ k ih =>
    have h1 := ih (by omega)
    have h2 := startOf_succ lens (x + k) (by omega) (by omega)
    have e : x + ((k + 1 : Nat) : Int) = x + k + 1 := by omega
    rw [e, h2]; omega
theorem rd_seg (l : List Int) (st n k : Nat) (hk : k < n) : rd ((l.drop st).take n) (k : Int) = rd l ((st + k : Nat) : Int) := by
  unfold rd
  rw [Int.toNat_natCast, Int.toNat_natCast, List.getD_eq_getElem?_getD, List.getD_eq_getElem?_getD, List.getElem?_take_of_lt hk, List.getElem?_drop]
theorem store_func (P : Program) (w : World) (a : Addr) (f : Fn) (x y : Array Value) (m : Mode) : (store a (.func f x y) m).run P w = stored P w a (.func f x y) m := run_store P w a _ m rfl
theorem store_nilFunc (P : Program) (w : World) (a : Addr) (m : Mode) : (store a .nilFunc m).run P w = stored P w a .nilFunc m := run_store P w a _ m rfl
attribute [local go_sem] store_func store_nilFunc
/-- Where the slice of a list begins, to which the whole capacity is left. -/
def segB (A : Option Addr) (c at_ : Nat) : Option Addr := if c = at_ then A else A.map (·.add at_)
theorem seg_slice2 (A : Option Addr) (c : Nat) (l : List Int) (at_ hi : Nat) (h0 : at_ ≤ hi) (hm : hi ≤ l.length) (hc : l.length ≤ c) :
    (∀ W : World, (Instr.slice 22 (.slice A l.length c) (some (.int .i64 (at_ : Int))) (some (.int .i64 (hi : Int))) none).run Try.prog W = .ok (.slice (segB A c at_) (hi - at_) (c - at_)) W) ∧
      (∀ W : World, (Kd.int .i64).C W A l.length l → (Kd.int .i64).C W (segB A c at_) (hi - at_) ((l.drop at_).take (hi - at_))) := by
  obtain ⟨i, hi', hs⟩ : ∃ i, Try.prog.info? 3 = some i ∧ i.size = 1 := by
    have h := infoInt
    cases hq : Try.prog.info? 3 with
    | none => rw [hq] at h; exact absurd h (by simp)
    | some i => rw [hq] at h; exact ⟨i, rfl, by simp at h; exact h.2.1⟩
  constructor
  · intro W
    have ht := Try.underlying22
    have hel : Try.prog.elem 22 = 3 := by simp [Program.elem, ht]
    have hu : Try.prog.underlying 22 = some (.slice (Try.prog.elem 22)) := by rw [hel]; exact ht
    rw [run_slice_lh W 22 A l.length c hu .i64 .i64 (at_ : Int) (hi : Int) (by omega) (by omega) (by omega), hel]
    simp [sizeOf, typeInfo, hi', hs, sliced, Result.andThen, segB]
  · intro W h
    by_cases hz : c = at_
    · have e : hi - at_ = 0 := by omega
      rw [e]
      have h1 := Kd.reads_of_C (enc := Value.int .i64) (d := (0 : Int)) (h1 := fun _ => rfl) h
      have h2 := h1.take_ 0 (by omega)
      have : segB A c at_ = A := if_pos hz
      rw [this]
      have h3 := Kd.C_of_reads (d := (0 : Int)) (h1 := fun _ => rfl) h2
      rw [List.take_zero] at h3 ⊢
      exact h3
    · have e1 : segB A c at_ = A.map (·.add at_) := if_neg hz
      rw [e1]
      have h1 := Kd.reads_of_C (enc := Value.int .i64) (d := (0 : Int)) (h1 := fun _ => rfl) h
      have h2 := (h1.take_ hi hm).drop_ (c := hi) at_ (by omega) (by omega)
      rw [List.drop_take] at h2
      by_cases hq : hi = at_
      · subst hq
        simp only [Nat.sub_self, if_true, List.take_zero] at h2 ⊢
        exact ⟨rfl, by decide, fun h => absurd h (Nat.lt_irrefl _)⟩
      · rw [if_neg hq] at h2
        exact Kd.C_of_reads (d := (0 : Int)) (h1 := fun _ => rfl) h2
/-- A list, filled up with zeros. -/
def padTo (L : Nat) (ys : List Int) : List Int := ys ++ List.replicate (L - ys.length) 0
theorem padTo_length (L : Nat) (ys : List Int) (h : ys.length ≤ L) : (padTo L ys).length = L := by simp [padTo]; omega
theorem padTo_set (L : Nat) (ys : List Int) (v : Int) (k : Nat) (hk : ys.length = k) (h : k < L) : (padTo L ys).set k v = padTo L (ys ++ [v]) := by
  subst hk
  unfold padTo
  have e : L - ys.length = (L - (ys ++ [v]).length) + 1 := by simp; omega
  rw [e, List.replicate_succ, List.set_append_right _ _ (Nat.le_refl _)]
  simp
theorem padTo_nil (L : Nat) : padTo L [] = List.replicate L 0 := by simp [padTo]
theorem padTo_full (L : Nat) (ys : List Int) (h : ys.length = L) : padTo L ys = ys := by simp [padTo, h]
theorem V_kp {e base : Nat} {ok S : Nat → Prop} {w w1 : World} {v : Value} {xs : List Int} (h : Kd.V (Kd.int .i64) e w base ok v xs) (hk : Kp S w w1) (hne : ∀ k, ok k → ¬ S k) : Kd.V (Kd.int .i64) e w1 base ok v xs := by
  obtain ⟨A, c, hv, hl, hF⟩ := h
  refine ⟨A, c, hv, hl, fun W' hW => hF W' fun k ho hlt => ?_⟩
  exact (hW k ho (Nat.lt_of_lt_of_le hlt hk.size)).trans (hk.block k hlt (hne k ho))
theorem V_now {e base : Nat} {ok : Nat → Prop} {w : World} {A : Option Addr} {n c : Nat} {xs : List Int} (h : Kd.V (Kd.int .i64) e w base ok (.slice A n c) xs) : n = xs.length ∧ n ≤ c ∧ (Kd.int .i64).C w A xs.length xs := by
  obtain ⟨A', c', hv, hl, hF⟩ := h
  injection hv with h1 h2 h3
  subst h1
  subst h2
  subst h3
  exact ⟨rfl, hl, Kd.F_now hF⟩
theorem cmp_isNaN (n : Int) (w : World) : Calls Try.prog 83 #[.int .i64 n] w fun e w' => e = .returned (.bool false) ∧ Drawn0 w w' := by
  go_enter Try.func83, Try.ntmps83
  go_wp2
  go_ret
  exact ⟨by simp, ⟨0, rfl⟩⟩
def cmpI (x y : Int) : Int := if x < y then -1 else if y < x then 1 else 0
set_option maxRecDepth 100000 in
theorem cmp_Compare (x y : Int) (w : World) : Calls Try.prog 79 #[.int .i64 x, .int .i64 y] w fun e w' => e = .returned (.int .i64 (cmpI x y)) ∧ Drawn0 w w' := by
  have HE : Aside0 (cmpI x y = if x < y then -1 else if y < x then 1 else 0) := ⟨rfl⟩
  generalize cmpI x y = E at HE ⊢
  by_cases h1 : x < y
  · replace HE : Aside0 (E = -1) := ⟨by rw [HE.out, if_pos h1]⟩
    go_enter Try.func79, Try.ntmps79
    go_wp2_with (go_at_call 83; refine (cmp_isNaN _ _).mono ?_; rintro e w' ⟨rfl, m, rfl⟩)
    go_ret
    exact ⟨by rw [HE.out]; rfl, ⟨_, rfl⟩⟩
  · by_cases h2 : y < x
    · replace HE : Aside0 (E = 1) := ⟨by rw [HE.out, if_neg h1, if_pos h2]⟩
      go_enter Try.func79, Try.ntmps79
      go_wp2_with (go_at_call 83; refine (cmp_isNaN _ _).mono ?_; rintro e w' ⟨rfl, m, rfl⟩)
      go_ret
      exact ⟨by rw [HE.out]; rfl, ⟨_, rfl⟩⟩
    · replace HE : Aside0 (E = 0) := ⟨by rw [HE.out, if_neg h1, if_neg h2]⟩
      go_enter Try.func79, Try.ntmps79
      go_wp2_with (go_at_call 83; refine (cmp_isNaN _ _).mono ?_; rintro e w' ⟨rfl, m, rfl⟩)
      go_ret
      exact ⟨by rw [HE.out]; rfl, ⟨_, rfl⟩⟩
set_option maxRecDepth 100000 in
theorem cmp_Less (x y : Int) (w : World) : Calls Try.prog 75 #[.int .i64 x, .int .i64 y] w fun e w' => e = .returned (.bool (decide (x < y))) ∧ Drawn0 w w' := by
  go_enter Try.func75, Try.ntmps75
  go_wp2_with (go_at_call 83; refine (cmp_isNaN _ _).mono ?_; rintro e w' ⟨rfl, m, rfl⟩)
  go_ret
  exact ⟨rfl, ⟨_, rfl⟩⟩
/-- The first one of two that is not 0. -/
def orI (x y : Int) : Int := if x = 0 then y else x
set_option maxHeartbeats 4000000 in
set_option maxRecDepth 100000 in
theorem cmp_Or (g : Nat) (c : Nat) (x y : Int) (w : World) (hx : w.cell? ⟨g, 0, none⟩ = some (.int .i64 x)) (hy : w.cell? ⟨g, 1, none⟩ = some (.int .i64 y)) :
    Calls Try.prog 78 #[.slice (some ⟨g, 0, none⟩) 2 c] w fun e w' => e = .returned (.int .i64 (orI x y)) ∧ Drawn0 w w' := by
  have HE : Aside0 (orI x y = if x = 0 then y else x) := ⟨rfl⟩
  generalize orI x y = E at HE ⊢
  by_cases h0 : x = 0
  · subst h0
    replace HE : Aside0 (E = y) := ⟨by rw [HE.out, if_pos rfl]⟩
    by_cases h1 : y = 0
    · subst h1
      replace HE : Aside0 (E = 0) := HE
      go_enter Try.func78, Try.ntmps78
      go_wp2
      refine wp_loop_rounds 3 ?_
      rw [rounds_succ]
      go_wp2
      rw [rounds_succ]
      go_wp2
      rw [rounds_succ]
      go_wp2
      go_ret
      exact ⟨by rw [HE.out]; rfl, ⟨0, rfl⟩⟩
    · have z : (y != 0) = true := bne_iff_ne.mpr h1
      replace h1 := Aside0.mk h1
      go_enter Try.func78, Try.ntmps78
      go_wp2
      refine wp_loop_rounds 3 ?_
      rw [rounds_succ]
      go_wp2
      rw [rounds_succ]
      go_wp2
      go_ret
      exact ⟨by rw [HE.out]; rfl, ⟨0, rfl⟩⟩
  · have z : (x != 0) = true := bne_iff_ne.mpr h0
    replace HE : Aside0 (E = x) := ⟨by rw [HE.out, if_neg h0]⟩
    replace h0 := Aside0.mk h0
    go_enter Try.func78, Try.ntmps78
    go_wp2
    refine wp_loop_rounds 3 ?_
    rw [rounds_succ]
    go_wp2
    go_ret
    exact ⟨by rw [HE.out]; rfl, ⟨0, rfl⟩⟩
/-- Two lists are returned, in new memory, and an error. -/
def Ret3 (w : World) (R : List Int × List Int × Int) (e : Ending) (w' : World) : Prop := ∃ v v2, e = .returned (.tuple #[v, v2, .int .i64 R.2.2]) ∧ Kd.V (Kd.int .i64) 3 w' w.heap.size (fun k => w.heap.size ≤ k) v R.1 ∧ Kd.V (Kd.int .i64) 3 w' w.heap.size (fun k => w.heap.size ≤ k) v2 R.2.1 ∧ Below w.heap.size w w'
theorem Ret3.nil {w w' : World} (E : Int) (h : Below w.heap.size w w') : Ret3 w ([], [], E) (.returned (.tuple #[.slice none 0 0, .slice none 0 0, .int .i64 E])) w' := ⟨_, _, rfl, Kd.V_nil _ _ _ _ _, Kd.V_nil _ _ _ _ _, h⟩
theorem loadVar_cell {P : Program} {ty : TypeId} (w : World) (g : Nat) (d : TypeDesc) (v : Value) (hc : w.cell? ⟨g, 0, none⟩ = some v) (hu : P.underlying ty = some d) (hd : (match d with | .struct _ | .array _ _ => true | _ => false) = false) :
    (loadVar ty ⟨g, 0, none⟩).run P w = .ok v w := by
  have hagg : (isAgg ty).run P w = .ok false w := by
    unfold isAgg
    rw [Sem.run_bind, run_underlying hu w]
    cases d <;> simp_all
  simp [loadVar, Sem.run_bind, hagg]
  split
  · rename_i v' hv'
    have e := hv'.symm.trans hc
    injection e with e
    rw [e]
  · rename_i hv'
    have e := hv'.symm.trans hc
    exact absurd e (by simp)
theorem results_cct {P : Program} {fn : Func} {p p2 u : Tmp} {ty ty2 : TypeId} (h : fn.results = #[.cell p ty, .cell p2 ty2, .tmp u]) (tmps : Array Value) (w : World) (g g2 : Nat) (d d2 : TypeDesc) (v v2 : Value)
    (hp : tmps.getD p undef = .pointer (some ⟨g, 0, none⟩)) (hc : w.cell? ⟨g, 0, none⟩ = some v) (hu : P.underlying ty = some d) (hd : (match d with | .struct _ | .array _ _ => true | _ => false) = false)
    (hp2 : tmps.getD p2 undef = .pointer (some ⟨g2, 0, none⟩)) (hc2 : w.cell? ⟨g2, 0, none⟩ = some v2) (hu2 : P.underlying ty2 = some d2) (hd2 : (match d2 with | .struct _ | .array _ _ => true | _ => false) = false) :
    (results fn tmps).run P w = .ok (.tuple #[v, v2, tmps.getD u undef]) w := by
  have hp' : tmps[p]?.getD undef = .pointer (some ⟨g, 0, none⟩) := by simpa using hp
  have hp2' : tmps[p2]?.getD undef = .pointer (some ⟨g2, 0, none⟩) := by simpa using hp2
  have l1 := loadVar_cell w g d v hc hu hd
  have l2 := loadVar_cell w g2 d2 v2 hc2 hu2 hd2
  simp [results, h, hp', hp2', asAddr, Sem.run_bind, l1, l2]
def sortedB (l : List Int) : Bool := (List.range (l.length - 1)).all fun (i : Nat) => !decide (rd l ((i : Int) + 1) < rd l (i : Int))
set_option maxHeartbeats 4000000 in
set_option maxRecDepth 100000 in
theorem slices_IsSorted (A : Option Addr) (c : Nat) (l : List Int) (w : World) (hr : Kd.C (Kd.int .i64) w A l.length l) (hl : l.length ≤ 1048576) :
    Calls Try.prog 64 #[.slice A l.length c] w fun e w' => e = .returned (.bool (sortedB l)) ∧ Drawn0 w w' := by
  have HR := Aside0.mk hr
  clear hr
  have HE : Aside0 (sortedB l = (List.range (l.length - 1)).all fun (i : Nat) => !decide (rd l ((i : Int) + 1) < rd l (i : Int))) := ⟨rfl⟩
  generalize sortedB l = E at HE ⊢
  refine calls_of_marks Try.func64 rfl ?_
  simp only [Try.ntmps64, List.size_toArray, List.length_cons, List.length_nil, Nat.reduceAdd, Nat.reduceSub, Array.replicate_succ, Array.replicate_zero, List.push_toArray, List.append_toArray, List.nil_append, List.cons_append]
  go_wp2
  go_loopw [3] (fun i W => ∃ x : Int, i = .int .i64 x ∧ -1 ≤ x ∧ x < l.length ∧ (l.length = 0 ∨ 0 ≤ x) ∧ Aside0 (∀ j : Nat, x ≤ j → j < l.length - 1 → ¬ rd l ((j : Int) + 1) < rd l (j : Int)) ∧ Drawn0 w W) (fun i _ => (intOf i).toNat)
  case atStart => exact ⟨(l.length : Int) - 1, rfl, by omega, by omega, by omega, ⟨fun j h0 h1 => by omega⟩, ⟨0, rfl⟩⟩
  case round =>
    obtain ⟨x, rfl, p0, p1, p2, H0, m, rfl⟩ := hrel
    by_cases hx : 0 < x
    · obtain ⟨ad, e1, hx1⟩ := Kd.at_int HR.out x (by omega) (by omega)
      cases e1
      obtain ⟨ad2, e2, hx2⟩ := Kd.at_int HR.out (x - 1) (by omega) (by omega)
      cases e2
      rw [show (x - 1).toNat = x.toNat - 1 by omega] at hx2
      have hS : Aside0 (∀ W, Below w.heap.size w W → W.cell? (ad.add x.toNat) = some (.int .i64 (rd l x)) ∧ W.cell? (ad.add (x.toNat - 1)) = some (.int .i64 (rd l (x - 1)))) := ⟨fun W hW => ⟨pw_cell_below hW hx1, pw_cell_below hW hx2⟩⟩
      have hwx : IntKind.i64.wrap (x - 1) = x - 1 := by rw [i64_w]; unfold wrap64; omega
      have HL := Aside0.mk (fun W => cmp_Less (rd l x) (rd l (x - 1)) W)
      have HX : Aside0 (∀ j : Nat, ¬ (x ≤ j) → x - 1 ≤ j → rd l ((j : Int) + 1) = rd l x ∧ rd l (j : Int) = rd l (x - 1)) := ⟨fun j h1 h2 => by
        have : (j : Int) = x - 1 := by omega
        rw [this]
        exact ⟨by rw [show x - 1 + 1 = x by omega], rfl⟩⟩
      have HF : Aside0 (rd l x < rd l (x - 1) → E = false) := ⟨fun h => by
        rw [HE.out, List.all_eq_false]
        refine ⟨(x - 1).toNat, List.mem_range.2 (by omega), ?_⟩
        rw [show (((x - 1).toNat : Nat) : Int) = x - 1 by omega, show x - 1 + 1 = x by omega]
        simp [h]⟩
      generalize rd l x = a at *
      generalize rd l (x - 1) = b at *
      clear hx1 hx2
      go_wp2_with fail
      refine wp_region_any (by kernel_rfl) ?_
      change wpAny _ _ _ _ _ _ _ (w.drewN m).drew
      have hbd : Below w.heap.size w (w.drewN m).drew := below_drew (pw_below_drewN (Below.refl _ _) m)
      refine region_anyI (fun W => W.cell? (ad.add x.toNat) = some (.int .i64 a) ∧ W.cell? (ad.add (x.toNat - 1)) = some (.int .i64 b)) [0, 1, 2, 3, 4, 5, 6, 7, 8] [9] [9] (by kernel_rfl) (by kernel_rfl) (by kernel_rfl) (by kernel_rfl) rfl (fun _ _ _ h => h) (hS.out _ hbd) ?_
      iterate 9 refine ReadsI.step _ rfl rfl (fun W hW => by obtain ⟨k1, k2⟩ := hW; go_simp; first | rfl | done | (rw [if_pos (by omega)])) ?_
      change TailL _ _ _ _ _ _ _
      refine TailL.call rfl rfl (by go_simp) (HL.out _) ?_
      rintro en w2 ⟨rfl, m2, rfl⟩
      refine ⟨_, rfl, fun h => absurd rfl h, ?_⟩
      unfold TailL
      simp only [List.getElem_toArray, List.getElem_cons_succ, List.getElem_cons_zero, Act.put, List.setIfInBounds_toArray, List.set_cons_zero, List.set_cons_succ]
      have hdd : Aside0 (Drawn0 w ((w.drewN m).drew.drewN m2)) := ⟨⟨m + 1 + m2, by rw [← World.drewN_drewN, ← World.drewN_drewN]; rfl⟩⟩
      generalize (w.drewN m).drew.drewN m2 = w3 at *
      by_cases hab : a < b
      · have z : decide (a < b) = true := decide_eq_true hab
        have hE0 := HF.out hab
        replace hE0 := Aside0.mk hE0
        go_wp2
        unfold MarksPost
        refine Marks.zero _ (results_tmp rfl _ _ _) ?_
        exact ⟨by rw [hE0.out]; rfl, hdd.out⟩
      · have z : decide (a < b) = false := decide_eq_false hab
        go_wp2
        go_roundw
        case rel => exact ⟨x - 1, rfl, by omega, by omega, by omega, ⟨fun j h0 h1 => by
          by_cases hj : x ≤ (j : Int)
          · have := H0.out j hj h1
            omega
          · have h2 := HX.out j (by omega) h0
            rw [h2.1, h2.2]
            omega⟩, hdd.out⟩
        case measure => simp [intOf]; omega
    · have hE1 : Aside0 (E = true) := ⟨by
        rw [HE.out, List.all_eq_true]
        intro j hj
        rw [List.mem_range] at hj
        have := H0.out j (by omega) hj
        simpa using this⟩
      go_wp2
      unfold MarksPost
      refine Marks.zero _ (results_tmp rfl _ _ _) ?_
      exact ⟨by rw [hE1.out]; rfl, ⟨_, rfl⟩⟩
/-- A slice, as long as what is there stays. -/
def Sk (w : World) (v : Value) (l : List Int) : Prop := ∀ W, Below w.heap.size w W → Sl W v l
theorem Sk.mono {w w2 : World} {v : Value} {l : List Int} (h : Sk w v l) (hb : Below w.heap.size w w2) : Sk w2 v l := fun W hW => h W (hb.trans (hW.mono hb.size))
theorem V_Sk {w : World} {v : Value} {e base : Nat} {ok : Nat → Prop} {l : List Int} (h : Kd.V (Kd.int .i64) e w base ok v l) : Sk w v l := fun W hW => by
  have h2 := Kd.V_below h hW
  obtain ⟨A, c, rfl⟩ := Kd.V_slice h2
  obtain ⟨_, h3, h4⟩ := Kd.V_reads' h2
  exact ⟨A, c, rfl, h3, h4⟩
def RetA (w : World) (R : List Int × Int) (e : Ending) (w' : World) : Prop := ∃ v, e = .returned (.tuple #[v, .int .i64 R.2]) ∧ Sk w' v R.1 ∧ Below w.heap.size w w'
def RetB (w : World) (R : List Int × List Int × Int) (e : Ending) (w' : World) : Prop := ∃ v v2, e = .returned (.tuple #[v, v2, .int .i64 R.2.2]) ∧ Sk w' v R.1 ∧ Sk w' v2 R.2.1 ∧ Below w.heap.size w w'
theorem Ret2.A {w w' : World} {R : List Int × Int} {e : Ending} (h : Ret2 w R e w') : RetA w R e w' := by
  obtain ⟨v, he, hv, hb⟩ := h
  exact ⟨v, he, V_Sk hv, hb⟩
theorem Ret3.B {w w' : World} {R : List Int × List Int × Int} {e : Ending} (h : Ret3 w R e w') : RetB w R e w' := by
  obtain ⟨v, v2, he, hv, hv2, hb⟩ := h
  exact ⟨v, v2, he, V_Sk hv, V_Sk hv2, hb⟩
theorem skEqual (v : Value) (l : List Int) (v2 : Value) (l2 : List Int) (R : Bool) (hR : (l == l2) = R) (w : World) (h1 : Sl w v l) (h2 : Sl w v2 l2) : Calls Try.prog 22 #[v, v2] w fun e w' => e = .returned (.bool R) ∧ Below w.heap.size w w' := by
  obtain ⟨A, c, rfl, p1, p2⟩ := h1
  obtain ⟨A2, c2, rfl, q1, q2⟩ := h2
  subst hR
  exact (ref_Equal A c l A2 c2 l2 w p2 q2).mono fun e w' ⟨he, hd⟩ => ⟨he, hd.below⟩
theorem below_allocs1 {w W : World} {o : Obj} (h : Below (w.alloc o).heap.size (w.alloc o) W) : Below w.heap.size w W := (below_alloc (Below.refl _ _) _).trans (h.mono (by simp))
theorem below_allocs2 {w W : World} {o o2 : Obj} (h : Below ((w.alloc o).alloc o2).heap.size ((w.alloc o).alloc o2) W) : Below w.heap.size w W := below_allocs1 (below_allocs1 h)
end Go.Proofs.Ythalgcpohnknbaa.Hand
