/- A region that draws its order, whose last operation writes what its reads read: reads first, in the text's order, then operations one by one. -/
import Derived.Test.YtnkepaenpoadpaaK1
import Derived.Maps.OwnSet
import Derived.WalkKit
import Derived.WalkMore
namespace Go.Proofs.Ytnkepaenpoadpaa.Hand
open Go.RowKit Go.Proofs.YtnkepaenpoadpaaW.PrintWords Go.Proofs.YtnkepaenpoadpaaW.PrintLast Go.Proofs.YtnkepaenpoadpaaW.PrintMore
set_option linter.unusedVariables false
set_option linter.unusedSimpArgs false
def headBL (ops : Array Oper) (ds : List Nat) : Nat → Nat → Array Bool → Bool
  | 0, _, _ => true
  | n + 1, k, listed => (Region.ready .any ops listed).contains k && Region.free .any ops listed k && Region.closedB .any ops listed && Region.lastB .any ops listed ds k && headBL ops ds n (k + 1) (listed.setIfInBounds k true)
theorem wpAnyL_heads {P : Program} {ops : Array Oper} {Q : Exit → Act → World → Prop} {S : World → Prop} {ds : List Nat} {w : World} (hs : Region.noSelect ops = true) (hQ : ∀ c a w, ¬ Q (.panic c) a w) (hS : S w) (fuel : Nat) :
    ∀ (l : List Oper) (k : Nat) (listed : Array Bool) (a : Act), (∀ j, j < l.length → l[j]? = ops[k + j]?) → headBL ops ds l.length k listed = true →
      Reads P ops S l a (fun a' => wpAnyLast P .any ops Q S ds fuel (markedB l.length k listed) a' w) → wpAnyLast P .any ops Q S ds (fuel + l.length) listed a w
  | [], _, _, _, _, _, h => h
  | o :: l, k, listed, a, hl, hB, h => by
    obtain ⟨v, hy, h⟩ := h
    simp only [List.length_cons, headBL, Bool.and_eq_true] at hB
    have h0 : ops[k]? = some o := by simpa using (hl 0 (by simp)).symm
    have ih := wpAnyL_heads (ds := ds) hs hQ hS fuel l (k + 1) (listed.setIfInBounds k true) (a.put o.dst v) (fun j hj => by
      have := hl (j + 1) (by simp; omega)
      simpa [Nat.add_assoc, Nat.add_comm 1 j] using this) hB.2 h
    exact wpAnyLast_take h0 hs hB.1.1.1.2 hB.1.1.1.1 hB.1.1.2 hB.1.2 (fun c a w h => (hQ _ _ _ h).elim) hy hS ih
/-- The operations that are left come one by one; behind the last one nothing is kept. -/
def TailL (P : Program) (ops : Array Oper) (Q : Exit → Act → World → Prop) (S : World → Prop) : List Nat → Act → World → Prop
  | [], a, w => Q .normal a w
  | i :: l, a, w => wpOp P ops Q i (fun a' w' => (l ≠ [] → S w') ∧ TailL P ops Q S l a' w') a w
def lastOnly (ds : List Nat) : List Nat → Bool
  | [] => true
  | i :: l => (ds.contains i || !l.isEmpty) && lastOnly ds l
theorem wpAnyL_tail {P : Program} {ops : Array Oper} {Q : Exit → Act → World → Prop} {S : World → Prop} {ds : List Nat} : ∀ (l : List Nat) (listed : Array Bool) (a : Act) (w : World), tailB ops l listed = true → lastOnly ds l = true → TailL P ops Q S l a w → wpAnyLast P .any ops Q S ds l.length listed a w
  | [], listed, a, w, hB, _, h => wpAnyLast_done (by simpa [tailB] using hB) h 0
  | i :: l, listed, a, w, hB, hO, h => by
    simp only [tailB, Bool.and_eq_true] at hB
    simp only [lastOnly, Bool.and_eq_true, Bool.or_eq_true] at hO
    refine wpAnyLast_all (rs := [i]) (by simpa using hB.1) (by simp) (fun j hj => ?_)
    obtain rfl : j = i := by simpa using hj
    refine wpOp_mono (fun a' w' hh => ⟨fun hni _ => hh.1 (fun e => ?_), wpAnyL_tail l _ a' w' hB.2 hO.2 hh.2⟩) h
    rcases hO.1 with h1 | h1
    · exact hni (by simpa using h1)
    · rw [e] at h1; simp at h1
theorem region_anyL {P : Program} {l : List Oper} {Q : Exit → Act → World → Prop} {a : Act} {w : World} (S : World → Prop) (n : Nat) (tl ds : List Nat) (hs : Region.noSelect l.toArray = true) (hB : headBL l.toArray ds n 0 (Array.replicate l.toArray.size false) = true)
    (hT : tailB l.toArray tl (markedB n 0 (Array.replicate l.toArray.size false)) = true) (hO : lastOnly ds tl = true) (hn : tl.length + n = l.toArray.size) (hQ : ∀ c a w, ¬ Q (.panic c) a w) (hS : S w)
    (h : Reads P l.toArray S (l.take n) a (fun a' => TailL P l.toArray Q S tl a' w)) : wpAny P .any l.toArray Q l.toArray.size (Array.replicate l.toArray.size false) a w := by
  have hn2 : (l.take n).length = n := by simp at hn ⊢; omega
  have H := wpAnyL_heads (P := P) (Q := Q) (ds := ds) hs hQ hS tl.length (l.take n) 0 (Array.replicate l.toArray.size false) a (fun j hj => by
    have hj' : j < n := by rw [hn2] at hj; exact hj
    simp [hj']) (by rw [hn2]; exact hB) (Reads.imp _ _ _ _ (fun a' ha => by rw [hn2]; exact wpAnyL_tail tl _ a' w hT hO ha) h)
  rw [hn2, hn] at H
  exact wpAny_of_last _ _ _ _ H
theorem TailL.val {P : Program} {ops : Array Oper} {Q : Exit → Act → World → Prop} {S : World → Prop} {i : Nat} {l : List Nat} {a : Act} {w w2 : World} {o : Oper} {v : Value} (ho : ops[i]? = some o) (hg : o.guard = none)
    (hr : (execOp a.eval o).run P w = .ok (.value v) w2) (hS : l ≠ [] → S w2) (h : TailL P ops Q S l (a.put o.dst v) w2) : TailL P ops Q S (i :: l) a w := by
  unfold TailL wpOp
  simp only [ho]
  rw [if_pos (by simp [Region.wanted, hg])]
  refine .inl ?_
  simp only [Oper.wp, hr, Oper.upon]
  exact ⟨hS, h⟩
theorem TailL.skip {P : Program} {ops : Array Oper} {Q : Exit → Act → World → Prop} {S : World → Prop} {i : Nat} {l : List Nat} {a : Act} {w w2 : World} {o : Oper} (ho : ops[i]? = some o) (hg : o.guard = none) (hd : o.dst = none)
    (hr : (execOp a.eval o).run P w = .ok .skip w2) (hS : l ≠ [] → S w2) (h : TailL P ops Q S l a w2) : TailL P ops Q S (i :: l) a w := by
  unfold TailL wpOp
  simp only [ho]
  rw [if_pos (by simp [Region.wanted, hg])]
  refine .inl ?_
  simp only [Oper.wp, hr, Oper.upon]
  rw [hd]
  exact ⟨hS, h⟩
theorem TailL.call {P : Program} {ops : Array Oper} {Q : Exit → Act → World → Prop} {S : World → Prop} {i : Nat} {l : List Nat} {a : Act} {w : World} {o : Oper} {f : FuncId} {args : Array Value} {R : Ending → World → Prop} (ho : ops[i]? = some o) (hg : o.guard = none)
    (hr : (execOp a.eval o).run P w = .ok (.enter f args) w) (hc : Calls P f args w R) (h : ∀ e w2, R e w2 → ∃ v, e = .returned v ∧ (l ≠ [] → S w2) ∧ TailL P ops Q S l (a.put o.dst v) w2) : TailL P ops Q S (i :: l) a w := by
  unfold TailL wpOp
  simp only [ho]
  rw [if_pos (by simp [Region.wanted, hg])]
  refine .inl ?_
  simp only [Oper.wp, hr, Oper.upon]
  refine hc.mono ?_
  intro e w2 hR
  obtain ⟨v, rfl, hS, hT⟩ := h e w2 hR
  exact ⟨hS, hT⟩
/-- A word appended, behind a literal of it. -/
theorem TailL.append {P : Program} {ops : Array Oper} {Q : Exit → Act → World → Prop} {S : World → Prop} {i : Nat} {l : List Nat} {a : Act} {W : World} {o : Oper} (t e : TypeId) (base : Nat) (s x : Operand) (v : Value) (xs : List Int) (p : Int) (ok : Nat → Prop)
    (hoi : ops[i]? = some o) (hg : o.guard = none) (ho : o.op = .call { callee := .builtin .append, args := #[s, x], argTypes := #[t, t] })
    (ht : P.underlying t = some (.slice e)) (hinfo : (P.info? e).map (fun i => (i.zero, i.size, i.bytes)) = some (some (.int .i64 0), 1, 8)) (hs : a.eval s = v) (hx : a.eval x = .slice (some ⟨W.heap.size, 0, none⟩) 1 1) (hfresh : ∀ k, W.heap.size ≤ k → ok k)
    (HO : (Kd.int .i64).R e W base ok v xs) (hbase : base ≤ W.heap.size) (hl : (xs.length + 1) * 8 ≤ 140737488355328)
    (h : ∀ v1 w1, (Kd.int .i64).R e w1 base ok v1 (xs ++ [p]) → Below base W w1 → W.grownBy w1 v.ownBlock → (v1.ownBlock = v.ownBlock ∨ ∃ b, v1.ownBlock = some b ∧ W.heap.size ≤ b) → (l ≠ [] → S w1) ∧ TailL P ops Q S l (a.put o.dst v1) w1) :
    TailL P ops Q S (i :: l) a (W.alloc (.cells #[.int .i64 p] e)) := by
  unfold TailL wpOp
  simp only [hoi]
  have hw : ∀ q, Region.wanted o q = true := fun q => by simp [Region.wanted, hg]
  have H := Kd.R_append_step (P := P) (ops := ops) (o := o) (a := a) (Q := Q) (Kc := fun a' w' => (l ≠ [] → S w') ∧ TailL P ops Q S l a' w') (Kd.int .i64) (w0 := W) (W := W) base (hw _) s x t e (.int .i64 0) 8 ho ht hinfo rfl (by decide) (by decide) v xs p [.int .i64 p] ok (fun _ => False) hs hx rfl (fun k hk => hk.elim) hfresh HO (Below.refl _ _) hbase hl h
  rw [if_pos (hw _)] at H
  rw [if_pos (hw _)]
  exact .inl H
/-- A word appended inside a fence, behind a literal of it. -/
theorem wpListIn_append_int {F : Fence} {n : Nat} {P : Program} {ops : Array Oper} {rest : List Oper} {o : Oper} {a : Act} {Q : Exit → Act → World → Prop} {W : World} (t e : TypeId) (base : Nat) (hgd : o.guard = none) (s x : Operand)
    (v : Value) (xs : List Int) (p : Int) (ok : Nat → Prop) (ho : o.op = .call { callee := .builtin .append, args := #[s, x], argTypes := #[t, t] })
    (ht : P.underlying t = some (.slice e)) (hinfo : (P.info? e).map (fun i => (i.zero, i.size, i.bytes)) = some (some (.int .i64 0), 1, 8)) (hs : a.eval s = v) (hx : a.eval x = .slice (some ⟨W.heap.size, 0, none⟩) 1 1) (hfresh : ∀ k, W.heap.size ≤ k → ok k)
    (HO : (Kd.int .i64).R e W base ok v xs) (hbase : base ≤ W.heap.size) (hl : (xs.length + 1) * 8 ≤ 140737488355328)
    (h : ∀ v1 w1, (Kd.int .i64).R e w1 base ok v1 (xs ++ [p]) → W.grownBy w1 v.ownBlock → (v1.ownBlock = v.ownBlock ∨ ∃ b, v1.ownBlock = some b ∧ W.heap.size ≤ b) → wpListIn F n P ops Q rest (a.put o.dst v1) w1) :
    wpListIn F n P ops Q (o :: rest) a (W.alloc (.cells #[.int .i64 p] e)) := by
  obtain ⟨i0, hi, hzz⟩ := Option.map_eq_some_iff.1 hinfo
  simp only [Prod.mk.injEq] at hzz
  obtain ⟨hz0, hz1, hz2⟩ := hzz
  have hown := Kd.own_of_R (enc := Value.int .i64) (h1 := fun _ => rfl) HO
  have hok := HO.1
  refine wpListIn_plain hgd fun K hK' => ?_
  obtain ⟨v', w', hrun, r1, r2, r3, r4⟩ := run_append_own_at (P := P) (W.alloc (.cells #[.int .i64 p] e)) base t o.type e i0 (.int .i64 0) 1 8 ht hi hz0 hz1 hz2 rfl (by omega) v xs.length (encs (Value.int .i64) xs) (hown.alloc _) ⟨W.heap.size, 0, none⟩ 1 1 [.int .i64 p] rfl
    (World.news_of_block (cs := #[.int .i64 p]) (t := e) (fr := (0, 0)) (heap_alloc_new W _)) (by simp [Value.oneCell']) (by simp only [maxLen]; omega) hl (by simp; omega)
  have hgw : W.grownBy w' v.ownBlock := World.grownBy.trans (World.grownBy_alloc W _ _) r2
  have hat : v'.ownBlock = v.ownBlock ∨ ∃ b, v'.ownBlock = some b ∧ W.heap.size ≤ b := by
    rcases r4 with r4 | r4
    · exact .inl r4
    · exact .inr ⟨_, r4, by simp⟩
  have hR : (Kd.int .i64).R e w' base ok v' (xs ++ [p]) := by
    refine Kd.R_of_own (enc := Value.int .i64) (h1 := fun _ => rfl) (by simpa [encs] using r1) (fun k hk => ?_)
    rcases hat with h2 | ⟨b, h2, h3⟩
    · exact hok k (h2 ▸ hk)
    · rw [h2] at hk
      injection hk with hk
      exact hfresh k (by omega)
  unfold Oper.wpIn
  refine ⟨?_, ?_⟩
  · simp [Oper.about, ho, resolve, Target.leads, Sem.run_pure]
  · rw [Oper.semAt_plain F _ _ (by rw [ho]; intro c hc'; cases hc')]
    simp [execOp, ho, resolve, invoke, builtin, hs, hx, hrun, Result.andThen]
    exact hK' _ _ (h v' w' hR hgw hat)
end Go.Proofs.Ytnkepaenpoadpaa.Hand
/- A region that draws its order: reads anywhere in the text first, then operations one by one. -/
namespace Go.Proofs.Ytnkepaenpoadpaa.Hand
open Go.RowKit Go.Proofs.YtnkepaenpoadpaaW.PrintWords Go.Proofs.YtnkepaenpoadpaaW.PrintLast Go.Proofs.YtnkepaenpoadpaaW.PrintMore
set_option linter.unusedVariables false
set_option linter.unusedSimpArgs false
def ReadsI (P : Program) (ops : Array Oper) (S : World → Prop) : List Nat → Act → (Act → Prop) → Prop
  | [], a, K => K a
  | k :: l, a, K => ∃ o v, ops[k]? = some o ∧ YieldsIf P ops S o v a ∧ ReadsI P ops S l (a.put o.dst v) K
def headBI (ops : Array Oper) (ds : List Nat) : List Nat → Array Bool → Bool
  | [], _ => true
  | k :: l, listed => (Region.ready .any ops listed).contains k && Region.free .any ops listed k && Region.closedB .any ops listed && Region.lastB .any ops listed ds k && headBI ops ds l (listed.setIfInBounds k true)
def markedI : List Nat → Array Bool → Array Bool
  | [], listed => listed
  | k :: l, listed => markedI l (listed.setIfInBounds k true)
theorem wpAnyI_heads {P : Program} {ops : Array Oper} {Q : Exit → Act → World → Prop} {S : World → Prop} {ds : List Nat} {w : World} (hs : Region.noSelect ops = true) (hQ : ∀ c a w, ¬ Q (.panic c) a w) (hS : S w) (fuel : Nat) :
    ∀ (l : List Nat) (listed : Array Bool) (a : Act), headBI ops ds l listed = true →
      ReadsI P ops S l a (fun a' => wpAnyLast P .any ops Q S ds fuel (markedI l listed) a' w) → wpAnyLast P .any ops Q S ds (fuel + l.length) listed a w
  | [], _, _, _, h => h
  | k :: l, listed, a, hB, h => by
    obtain ⟨o, v, h0, hy, h⟩ := h
    simp only [headBI, Bool.and_eq_true] at hB
    have ih := wpAnyI_heads (ds := ds) hs hQ hS fuel l (listed.setIfInBounds k true) (a.put o.dst v) hB.2 h
    exact wpAnyLast_take h0 hs hB.1.1.1.2 hB.1.1.1.1 hB.1.1.2 hB.1.2 (fun c a w h => (hQ _ _ _ h).elim) hy hS ih
theorem ReadsI.imp {P : Program} {ops : Array Oper} {S : World → Prop} {K K2 : Act → Prop} : ∀ (l : List Nat) (a : Act), (∀ a, K a → K2 a) → ReadsI P ops S l a K → ReadsI P ops S l a K2
  | [], _, hk, h => hk _ h
  | _ :: l, _, hk, h => by
    obtain ⟨o, v, h0, hy, h⟩ := h
    exact ⟨o, v, h0, hy, ReadsI.imp l _ hk h⟩
theorem region_anyI {P : Program} {l : List Oper} {Q : Exit → Act → World → Prop} {a : Act} {w : World} (S : World → Prop) (ks tl ds : List Nat) (hs : Region.noSelect l.toArray = true) (hB : headBI l.toArray ds ks (Array.replicate l.toArray.size false) = true)
    (hT : tailB l.toArray tl (markedI ks (Array.replicate l.toArray.size false)) = true) (hO : lastOnly ds tl = true) (hn : tl.length + ks.length = l.toArray.size) (hQ : ∀ c a w, ¬ Q (.panic c) a w) (hS : S w)
    (h : ReadsI P l.toArray S ks a (fun a' => TailL P l.toArray Q S tl a' w)) : wpAny P .any l.toArray Q l.toArray.size (Array.replicate l.toArray.size false) a w := by
  have H := wpAnyI_heads (P := P) (Q := Q) (ds := ds) hs hQ hS tl.length ks (Array.replicate l.toArray.size false) a hB (ReadsI.imp _ _ (fun a' ha => wpAnyL_tail tl _ a' w hT hO ha) h)
  rw [hn] at H
  exact wpAny_of_last _ _ _ _ H
theorem ReadsI.step {P : Program} {ops : Array Oper} {S : World → Prop} {k : Nat} {l : List Nat} {a : Act} {K : Act → Prop} {o : Oper} (v : Value) (h0 : ops[k]? = some o) (hg : o.guard = none) (hv : ∀ W, S W → (execOp a.eval o).run P W = .ok (.value v) W)
    (h : ReadsI P ops S l (a.put o.dst v) K) : ReadsI P ops S (k :: l) a K :=
  ⟨o, v, h0, .inl ⟨by simp [Region.wanted, hg], hv⟩, h⟩
end Go.Proofs.Ytnkepaenpoadpaa.Hand
/- A region that draws its order: reads, operations that come alone, and operations that come in any order, told in a list. Frames that are letters. -/
namespace Go.Proofs.Ytnkepaenpoadpaa.Hand
open Go.RowKit Go.Proofs.YtnkepaenpoadpaaW.PrintWords Go.Proofs.YtnkepaenpoadpaaW.PrintLast Go.Proofs.YtnkepaenpoadpaaW.PrintMore
set_option linter.unusedVariables false
set_option linter.unusedSimpArgs false
theorem eval_same {a : Act} {d : Nat} {v : Value} (h : d < a.tmps.size) : (a.put (some d) v).eval (.tmp d) = v := by
  show (a.tmps.setIfInBounds d v).getD d undef = v
  simp [Array.getD, h]
theorem eval_ne {a : Act} {d e : Nat} {v : Value} (h : e ≠ d) : (a.put (some d) v).eval (.tmp e) = a.eval (.tmp e) := by
  show (a.tmps.setIfInBounds d v).getD e undef = a.tmps.getD e undef
  simp only [Array.getD_eq_getD_getElem?]
  rw [Array.getElem?_setIfInBounds_ne (Ne.symm h)]
theorem size_put (a : Act) (d : Option Tmp) (v : Value) : (a.put d v).tmps.size = a.tmps.size := by
  cases d <;> simp [Act.put]
theorem defers_put (a : Act) (d : Option Tmp) (v : Value) : (a.put d v).defers = a.defers := by
  cases d <;> rfl
theorem wanted_of {ops : Array Oper} {o : Oper} {a : Act} {j d : Nat} {b : Bool} (hg : o.guard = some (j, b)) (hj : (ops[j]?).bind (·.dst) = some d) (hd : d < a.tmps.size) (hv : a.eval (.tmp d) = .bool b) : Region.wanted o (yielded ops a.tmps) = true := by
  have h2 : a.tmps[d]? = some (.bool b) := by
    have h3 : a.tmps.getD d undef = .bool b := hv
    rw [Array.getD_eq_getD_getElem?] at h3
    rw [Array.getElem?_eq_getElem hd] at h3 ⊢
    simpa using h3
  simp [Region.wanted, hg, yielded, hj, h2]
theorem tmp_of_eval {a : Act} {s : Nat} {v : Value} (h : s < a.tmps.size) (he : a.eval (.tmp s) = v) : a.tmps[s] = v := by
  rw [← he]
  show _ = a.tmps.getD s undef
  simp [Array.getD, h]
def forkP (P : Program) (ops : Array Oper) (Q : Exit → Act → World → Prop) (S : World → Prop) : Nat → List Nat → (Act → World → Prop) → Act → World → Prop
  | 0, _, K, a, w => K a w
  | n + 1, is, K, a, w => ∀ i ∈ is, wpOp P ops Q i (fun a' w' => S w' ∧ forkP P ops Q S n (is.erase i) K a' w') a w
def scrP (P : Program) (ops : Array Oper) (Q : Exit → Act → World → Prop) (S : World → Prop) : List (Bool × List Nat) → Act → World → Prop
  | [], a, w => Q .normal a w
  | (true, is) :: l, a, w => ∃ i o v, is = [i] ∧ ops[i]? = some o ∧ YieldsIf P ops S o v a ∧ scrP P ops Q S l (a.put o.dst v) w
  | (false, is) :: l, a, w => forkP P ops Q S is.length is (fun a' w' => scrP P ops Q S l a' w') a w
def forkB (ops : Array Oper) : Nat → List Nat → (Array Bool → Bool) → Array Bool → Bool
  | 0, _, k, listed => k listed
  | n + 1, is, k, listed => Region.ready .any ops listed == is && is.all fun i => forkB ops n (is.erase i) k (listed.setIfInBounds i true)
def scrB (ops : Array Oper) : List (Bool × List Nat) → Array Bool → Bool
  | [], listed => Region.ready .any ops listed == []
  | (true, is) :: l, listed => is.length == 1 && (Region.ready .any ops listed).contains (is.headD 0) && Region.free .any ops listed (is.headD 0) && scrB ops l (listed.setIfInBounds (is.headD 0) true)
  | (false, is) :: l, listed => forkB ops is.length is (scrB ops l) listed
def scrN : List (Bool × List Nat) → Nat
  | [] => 0
  | (_, is) :: l => scrN l + is.length
theorem fork_sound {P : Program} {ops : Array Oper} {Q : Exit → Act → World → Prop} {S : World → Prop} {k : Array Bool → Bool} {K : Act → World → Prop} {fuel : Nat}
    (hk : ∀ (listed : Array Bool) (a : Act) (w : World), k listed = true → S w → K a w → wpAnyH P .any ops Q S fuel listed a w) :
    ∀ (n : Nat) (is : List Nat) (listed : Array Bool) (a : Act) (w : World), n = is.length → forkB ops n is k listed = true → forkP P ops Q S n is K a w → S w → wpAnyH P .any ops Q S (fuel + n) listed a w
  | 0, is, listed, a, w, hn, hB, h, hS => hk listed a w hB hS h
  | n + 1, is, listed, a, w, hn, hB, h, hS => by
    simp only [forkB, Bool.and_eq_true, beq_iff_eq, List.all_eq_true] at hB
    refine wpAnyH_all (rs := is) hB.1 (fun h0 => by rw [h0] at hn; simp at hn) (fun i hi => ?_)
    refine wpOp_mono (fun a' w' hh => ⟨hh.1, fork_sound hk n (is.erase i) _ a' w' ?_ (hB.2 i hi) hh.2 hh.1⟩) (h i hi)
    rw [List.length_erase_of_mem hi]
    omega
theorem scr_sound {P : Program} {ops : Array Oper} {Q : Exit → Act → World → Prop} {S : World → Prop} (hs : Region.noSelect ops = true) (hQ : ∀ c a w, ¬ Q (.panic c) a w) :
    ∀ (l : List (Bool × List Nat)) (listed : Array Bool) (a : Act) (w : World), scrB ops l listed = true → S w → scrP P ops Q S l a w → wpAnyH P .any ops Q S (scrN l) listed a w
  | [], listed, a, w, hB, hS, h => wpAnyH_done (by simpa [scrB] using hB) h 0
  | (true, is) :: l, listed, a, w, hB, hS, h => by
    obtain ⟨i, o, v, rfl, h0, hy, h⟩ := h
    simp only [scrB, List.headD_cons, Bool.and_eq_true] at hB
    exact wpAnyH_take h0 hs hB.1.2 hB.1.1.2 (fun c a w h => (hQ _ _ _ h).elim) hy hS (scr_sound hs hQ l _ _ w hB.2 hS h)
  | (false, is) :: l, listed, a, w, hB, hS, h => fork_sound (fun listed' a' w' hB' hS' h' => scr_sound hs hQ l listed' a' w' hB' hS' h') is.length is listed a w rfl hB h hS
theorem region_scr {P : Program} {l : List Oper} {Q : Exit → Act → World → Prop} {a : Act} {w : World} (S : World → Prop) (sc : List (Bool × List Nat)) (hs : Region.noSelect l.toArray = true) (hB : scrB l.toArray sc (Array.replicate l.toArray.size false) = true)
    (hn : scrN sc = l.toArray.size) (hQ : ∀ c a w, ¬ Q (.panic c) a w) (hS : S w) (h : scrP P l.toArray Q S sc a w) : wpAny P .any l.toArray Q l.toArray.size (Array.replicate l.toArray.size false) a w := by
  have H := scr_sound hs hQ sc _ a w hB hS h
  rw [hn] at H
  exact wpAny_of_held _ _ _ _ H
section
variable {P : Program} {ops : Array Oper} {Q : Exit → Act → World → Prop} {S : World → Prop} {i : Nat} {l : List (Bool × List Nat)} {a : Act} {w w2 : World} {o : Oper} {v : Value}
theorem scr_letter (h : ∀ a0, a0 = a → scrP P ops Q S l a0 w) : scrP P ops Q S l a w := h a rfl
theorem scr_get (d : Tmp) (v : Value) (h0 : ops[i]? = some o) (hd : o.dst = some d) (hg : Region.wanted o (yielded ops a.tmps) = true) (hv : ∀ W, S W → (execOp a.eval o).run P W = .ok (.value v) W) (h : scrP P ops Q S l (a.put (some d) v) w) : scrP P ops Q S ((true, [i]) :: l) a w :=
  ⟨i, o, v, rfl, h0, .inl ⟨hg, hv⟩, by rw [hd]; exact h⟩
theorem scr_read (v : Value) (h0 : ops[i]? = some o) (hg : Region.wanted o (yielded ops a.tmps) = true) (hv : ∀ W, S W → (execOp a.eval o).run P W = .ok (.value v) W) (h : scrP P ops Q S l (a.put o.dst v) w) : scrP P ops Q S ((true, [i]) :: l) a w :=
  ⟨i, o, v, rfl, h0, .inl ⟨hg, hv⟩, h⟩
theorem scr_one (h : wpOp P ops Q i (fun a' w' => S w' ∧ scrP P ops Q S l a' w') a w) : scrP P ops Q S ((false, [i]) :: l) a w := by
  intro j hj
  obtain rfl : j = i := by simpa using hj
  exact h
theorem op_val {K : Act → World → Prop} (h0 : ops[i]? = some o) (hg : Region.wanted o (yielded ops a.tmps) = true) (hr : (execOp a.eval o).run P w = .ok (.value v) w2) (d : Tmp) (hd : o.dst = some d) (h : K (a.put (some d) v) w2) : wpOp P ops Q i K a w := by
  rw [← hd] at h
  unfold wpOp
  simp only [h0]
  rw [if_pos hg]
  refine .inl ?_
  simp only [Oper.wp, hr, Oper.upon]
  exact h
theorem op_call {K : Act → World → Prop} {f : FuncId} {args : Array Value} {R : Ending → World → Prop} (h0 : ops[i]? = some o) (hg : Region.wanted o (yielded ops a.tmps) = true) (hr : (execOp a.eval o).run P w = .ok (.enter f args) w) (hc : Calls P f args w R)
    (d : Tmp) (hd : o.dst = some d) (h : ∀ e w2, R e w2 → ∃ v, e = .returned v ∧ K (a.put (some d) v) w2) : wpOp P ops Q i K a w := by
  rw [← hd] at h
  unfold wpOp
  simp only [h0]
  rw [if_pos hg]
  refine .inl ?_
  simp only [Oper.wp, hr, Oper.upon]
  refine hc.mono ?_
  intro e w2 hR
  obtain ⟨v, rfl, hK⟩ := h e w2 hR
  exact hK
theorem forkP_inv (Inv : List Nat → Act → World → Prop) (step : ∀ (is : List Nat) (i : Nat) (a : Act) (w : World), i ∈ is → Inv is a w → wpOp P ops Q i (fun a' w' => S w' ∧ Inv (is.erase i) a' w') a w) :
    ∀ (n : Nat) (is : List Nat) (a : Act) (w : World), n = is.length → Inv is a w → forkP P ops Q S n is (Inv []) a w
  | 0, is, a, w, hn, h => by
    obtain rfl : is = [] := List.length_eq_zero_iff.1 hn.symm
    exact h
  | n + 1, is, a, w, hn, h => fun i hi => wpOp_mono (fun a' w' hh => ⟨hh.1, forkP_inv Inv step n (is.erase i) a' w' (by rw [List.length_erase_of_mem hi]; omega) hh.2⟩) (step is i a w hi h)
theorem forkP_mono {K K2 : Act → World → Prop} (hK : ∀ a w, K a w → K2 a w) : ∀ (n : Nat) (is : List Nat) (a : Act) (w : World), forkP P ops Q S n is K a w → forkP P ops Q S n is K2 a w
  | 0, _, a, w, h => hK a w h
  | n + 1, is, a, w, h => fun i hi => wpOp_mono (fun a' w' hh => ⟨hh.1, forkP_mono hK n _ a' w' hh.2⟩) (h i hi)
theorem scr_fork {is : List Nat} (Inv : List Nat → Act → World → Prop) (h0 : Inv is a w) (step : ∀ (is : List Nat) (i : Nat) (a : Act) (w : World), i ∈ is → Inv is a w → wpOp P ops Q i (fun a' w' => S w' ∧ Inv (is.erase i) a' w') a w)
    (h : ∀ a w, Inv [] a w → scrP P ops Q S l a w) : scrP P ops Q S ((false, is) :: l) a w :=
  forkP_mono h _ _ _ _ (forkP_inv Inv step is.length is a w rfl h0)
end
/-! Reads anywhere, then operations in any order, then operations one by one; the last one may write what the reads read. -/
def forkBL (ops : Array Oper) (tl : List Nat) : Nat → List Nat → Array Bool → Bool
  | 0, _, listed => tailB ops tl listed
  | n + 1, is, listed => Region.ready .any ops listed == is && is.all fun i => forkBL ops tl n (is.erase i) (listed.setIfInBounds i true)
theorem wpAnyL_fork {P : Program} {ops : Array Oper} {Q : Exit → Act → World → Prop} {S : World → Prop} {ds tl : List Nat} (hO : lastOnly ds tl = true) :
    ∀ (n : Nat) (is : List Nat) (listed : Array Bool) (a : Act) (w : World), n = is.length → forkBL ops tl n is listed = true → forkP P ops Q S n is (fun a' w' => TailL P ops Q S tl a' w') a w → wpAnyLast P .any ops Q S ds (tl.length + n) listed a w
  | 0, is, listed, a, w, hn, hB, h => wpAnyL_tail tl listed a w hB hO h
  | n + 1, is, listed, a, w, hn, hB, h => by
    simp only [forkBL, Bool.and_eq_true, beq_iff_eq, List.all_eq_true] at hB
    refine wpAnyLast_all (rs := is) hB.1 (fun h0 => by rw [h0] at hn; simp at hn) (fun i hi => ?_)
    refine wpOp_mono (fun a' w' hh => ⟨fun _ _ => hh.1, wpAnyL_fork hO n (is.erase i) _ a' w' ?_ (hB.2 i hi) hh.2⟩) (h i hi)
    rw [List.length_erase_of_mem hi]
    omega
theorem region_anyF {P : Program} {l : List Oper} {Q : Exit → Act → World → Prop} {a : Act} {w : World} (S : World → Prop) (ks is tl ds : List Nat) (hs : Region.noSelect l.toArray = true) (hB : headBI l.toArray ds ks (Array.replicate l.toArray.size false) = true)
    (hF : forkBL l.toArray tl is.length is (markedI ks (Array.replicate l.toArray.size false)) = true) (hO : lastOnly ds tl = true) (hn : tl.length + is.length + ks.length = l.toArray.size) (hQ : ∀ c a w, ¬ Q (.panic c) a w) (hS : S w)
    (h : ReadsI P l.toArray S ks a (fun a' => forkP P l.toArray Q S is.length is (fun a2 w2 => TailL P l.toArray Q S tl a2 w2) a' w)) : wpAny P .any l.toArray Q l.toArray.size (Array.replicate l.toArray.size false) a w := by
  have H := wpAnyI_heads (P := P) (Q := Q) (ds := ds) hs hQ hS (tl.length + is.length) ks (Array.replicate l.toArray.size false) a hB (ReadsI.imp _ _ (fun a' ha => wpAnyL_fork hO is.length is _ a' w rfl hF ha) h)
  rw [hn] at H
  exact wpAny_of_last _ _ _ _ H
theorem unwanted_of {ops : Array Oper} {o : Oper} {a : Act} {j d : Nat} {b : Bool} (hg : o.guard = some (j, b)) (hj : (ops[j]?).bind (·.dst) = some d) (hd : d < a.tmps.size) (hv : a.eval (.tmp d) = .bool (!b)) : Region.wanted o (yielded ops a.tmps) = false := by
  have h2 : a.tmps[d]? = some (.bool (!b)) := by
    have h3 : a.tmps.getD d undef = .bool (!b) := hv
    rw [Array.getD_eq_getD_getElem?] at h3
    rw [Array.getElem?_eq_getElem hd] at h3 ⊢
    simpa using h3
  cases b <;> simp [Region.wanted, hg, yielded, hj, h2]
theorem ReadsI.stepW {P : Program} {ops : Array Oper} {S : World → Prop} {k : Nat} {l : List Nat} {a : Act} {K : Act → Prop} {o : Oper} (v : Value) (h0 : ops[k]? = some o) (hg : Region.wanted o (yielded ops a.tmps) = true) (hv : ∀ W, S W → (execOp a.eval o).run P W = .ok (.value v) W)
    (h : ReadsI P ops S l (a.put o.dst v) K) : ReadsI P ops S (k :: l) a K :=
  ⟨o, v, h0, .inl ⟨hg, hv⟩, h⟩
theorem ReadsI.stepN {P : Program} {ops : Array Oper} {S : World → Prop} {k : Nat} {l : List Nat} {a : Act} {K : Act → Prop} {o : Oper} (h0 : ops[k]? = some o) (hg : Region.wanted o (yielded ops a.tmps) = false)
    (h : ReadsI P ops S l (a.put o.dst undef) K) : ReadsI P ops S (k :: l) a K :=
  ⟨o, undef, h0, .inr ⟨hg, rfl⟩, h⟩
end Go.Proofs.Ytnkepaenpoadpaa.Hand
/- A scope whose labels nobody jumps to, inside a fence. -/
namespace Go.Proofs.Ytnkepaenpoadpaa.Hand
open Go.RowKit Go.Proofs.YtnkepaenpoadpaaW.PrintWords Go.Proofs.YtnkepaenpoadpaaW.PrintLast Go.Proofs.YtnkepaenpoadpaaW.PrintMore
set_option linter.unusedVariables false
set_option linter.unusedSimpArgs false
theorem stepR_scope {P : Program} {b : Frame} {a : Act} {k : List Item} {cs : List Frame} {w : World} {c : Code} : step P (lone (b.atR a (.code (.scope c) :: k)) cs w) = .next (lone (b.atR a (.code c :: .inScope c :: k)) cs w) :=
  step_lone_go (by simp [stepG, stepG.exec, Frame.atR])
theorem stepR_inScope {P : Program} {b : Frame} {a : Act} {k : List Item} {cs : List Frame} {w : World} {c : Code} : step P (lone (b.atR a (.inScope c :: k)) cs w) = .next (lone (b.atR a k) cs w) :=
  step_lone_go (by simp [stepG, stepG.exec, Frame.atR])
theorem wpIn_scope {F : Fence} {n : Nat} {P : Program} {Q : Exit → Act → World → Prop} {a : Act} {w : World} {c : Code} (h : c.wpIn F n P (Exit.noGoto Q) a w) : (Code.scope c).wpIn F n P Q a w := by
  intro b k cs hro hb hr
  have h0 : (lone (b.atR a (.code (.scope c) :: k)) cs w).fenced P F := fenced_calm hb hr rfl
  obtain ⟨e, a₁, w₁, hq, harr⟩ := h b (.inScope c :: k) cs hro hb hr
  cases e with
  | normal => exact ⟨.normal, a₁, w₁, hq, .head h0 stepR_scope (StepsIn.trans harr (.one (fenced_calm hb hr rfl) stepR_inScope))⟩
  | exit id =>
    have hx : exitTo id (.inScope c :: k) = exitTo id k := by simp [exitTo]
    exact ⟨.exit id, a₁, w₁, hq, fun k' hk => .head h0 stepR_scope (harr.1 k' (by rw [hx]; exact hk)), fun hr' hk => let ⟨k₁, h1, h2⟩ := harr.2 hr' (by rw [hx]; exact hk); ⟨k₁, h1, .head h0 stepR_scope h2⟩⟩
  | goto l => exact hq.elim
  | ret => exact ⟨_, a₁, w₁, hq, .of_steps (.one h0 stepR_scope) harr⟩
  | panic ch => exact ⟨_, a₁, w₁, hq, .of_steps (.one h0 stepR_scope) harr⟩
  | outgrown => exact ⟨_, a₁, w₁, hq, .of_steps (.one h0 stepR_scope) harr⟩
end Go.Proofs.Ytnkepaenpoadpaa.Hand
/- A region that draws its order: reads anywhere first, then operations one by one; behind some of them (ds) nothing is kept. -/
namespace Go.Proofs.Ytnkepaenpoadpaa.Hand
open Go.RowKit Go.Proofs.YtnkepaenpoadpaaW.PrintWords Go.Proofs.YtnkepaenpoadpaaW.PrintLast Go.Proofs.YtnkepaenpoadpaaW.PrintMore
set_option linter.unusedVariables false
set_option linter.unusedSimpArgs false
def TailD (P : Program) (ops : Array Oper) (Q : Exit → Act → World → Prop) (S : World → Prop) (ds : List Nat) : List Nat → Act → World → Prop
  | [], a, w => Q .normal a w
  | i :: l, a, w => wpOp P ops Q i (fun a' w' => (ds.contains i = false → S w') ∧ TailD P ops Q S ds l a' w') a w
theorem wpAnyD_tail {P : Program} {ops : Array Oper} {Q : Exit → Act → World → Prop} {S : World → Prop} {ds : List Nat} : ∀ (l : List Nat) (listed : Array Bool) (a : Act) (w : World), tailB ops l listed = true → TailD P ops Q S ds l a w → wpAnyLast P .any ops Q S ds l.length listed a w
  | [], listed, a, w, hB, h => wpAnyLast_done (by simpa [tailB] using hB) h 0
  | i :: l, listed, a, w, hB, h => by
    simp only [tailB, Bool.and_eq_true] at hB
    refine wpAnyLast_all (rs := [i]) (by simpa using hB.1) (by simp) (fun j hj => ?_)
    obtain rfl : j = i := by simpa using hj
    exact wpOp_mono (fun a' w' hh => ⟨fun hni _ => hh.1 (by simpa using hni), wpAnyD_tail l _ a' w' hB.2 hh.2⟩) h
theorem region_anyD {P : Program} {l : List Oper} {Q : Exit → Act → World → Prop} {a : Act} {w : World} (S : World → Prop) (ks tl ds : List Nat) (hs : Region.noSelect l.toArray = true) (hB : headBI l.toArray ds ks (Array.replicate l.toArray.size false) = true)
    (hT : tailB l.toArray tl (markedI ks (Array.replicate l.toArray.size false)) = true) (hn : tl.length + ks.length = l.toArray.size) (hQ : ∀ c a w, ¬ Q (.panic c) a w) (hS : S w)
    (h : ReadsI P l.toArray S ks a (fun a' => TailD P l.toArray Q S ds tl a' w)) : wpAny P .any l.toArray Q l.toArray.size (Array.replicate l.toArray.size false) a w := by
  have H := wpAnyI_heads (P := P) (Q := Q) (ds := ds) hs hQ hS tl.length ks (Array.replicate l.toArray.size false) a hB (ReadsI.imp _ _ (fun a' ha => wpAnyD_tail tl _ a' w hT ha) h)
  rw [hn] at H
  exact wpAny_of_last _ _ _ _ H
theorem TailD.val {P : Program} {ops : Array Oper} {Q : Exit → Act → World → Prop} {S : World → Prop} {ds : List Nat} {i : Nat} {l : List Nat} {a : Act} {w w2 : World} {o : Oper} {v : Value} (ho : ops[i]? = some o) (hg : o.guard = none)
    (hr : (execOp a.eval o).run P w = .ok (.value v) w2) (hS : ds.contains i = false → S w2) (h : TailD P ops Q S ds l (a.put o.dst v) w2) : TailD P ops Q S ds (i :: l) a w := by
  unfold TailD wpOp
  simp only [ho]
  rw [if_pos (by simp [Region.wanted, hg])]
  refine .inl ?_
  simp only [Oper.wp, hr, Oper.upon]
  exact ⟨hS, h⟩
theorem TailD.skip {P : Program} {ops : Array Oper} {Q : Exit → Act → World → Prop} {S : World → Prop} {ds : List Nat} {i : Nat} {l : List Nat} {a : Act} {w w2 : World} {o : Oper} (ho : ops[i]? = some o) (hg : o.guard = none) (hd : o.dst = none)
    (hr : (execOp a.eval o).run P w = .ok .skip w2) (hS : ds.contains i = false → S w2) (h : TailD P ops Q S ds l a w2) : TailD P ops Q S ds (i :: l) a w := by
  unfold TailD wpOp
  simp only [ho]
  rw [if_pos (by simp [Region.wanted, hg])]
  refine .inl ?_
  simp only [Oper.wp, hr, Oper.upon]
  rw [hd]
  exact ⟨hS, h⟩
theorem TailD.call {P : Program} {ops : Array Oper} {Q : Exit → Act → World → Prop} {S : World → Prop} {ds : List Nat} {i : Nat} {l : List Nat} {a : Act} {w : World} {o : Oper} {f : FuncId} {args : Array Value} {R : Ending → World → Prop} (ho : ops[i]? = some o) (hg : o.guard = none)
    (hr : (execOp a.eval o).run P w = .ok (.enter f args) w) (hc : Calls P f args w R) (h : ∀ e w2, R e w2 → ∃ v, e = .returned v ∧ (ds.contains i = false → S w2) ∧ TailD P ops Q S ds l (a.put o.dst v) w2) : TailD P ops Q S ds (i :: l) a w := by
  unfold TailD wpOp
  simp only [ho]
  rw [if_pos (by simp [Region.wanted, hg])]
  refine .inl ?_
  simp only [Oper.wp, hr, Oper.upon]
  refine hc.mono ?_
  intro e w2 hR
  obtain ⟨v, rfl, hS, hT⟩ := h e w2 hR
  exact ⟨hS, hT⟩
end Go.Proofs.Ytnkepaenpoadpaa.Hand
/- rank: the small functions: word.Is, cut, words (of any lists). What each returns, for any input; nothing that was there is written. -/
namespace Go.Proofs.Ytnkepaenpoadpaa.Hand
open Go.RowKit Go.Proofs.YtnkepaenpoadpaaW.PrintWords Go.Proofs.YtnkepaenpoadpaaW.PrintLast Go.Proofs.YtnkepaenpoadpaaW.PrintMore
set_option linter.unusedVariables false
set_option linter.unusedSimpArgs false
theorem infoInt : (Try.prog.info? 3).map (fun i => (i.zero, i.size, i.bytes)) = some (some (.int .i64 0), 1, 8) := by kernel_rfl
theorem word_Is (n : Int) (w : World) : Calls Try.prog 78 #[.int .i64 n] w fun e w' => e = .returned (.bool (isWordB n)) ∧ Drawn0 w w' := by
  go_enter Try.func78, Try.ntmps78
  go_wp2
  all_goals
    go_ret
    exact ⟨by simp [isWordB, *] <;> omega, ⟨0, rfl⟩⟩
theorem rank_words1 (A : Option Addr) (c : Nat) (l : List Int) (w : World) :
    Calls Try.prog 75 #[.slice A l.length c] w fun e w' => e = .returned (.bool (decide (1048576 < l.length))) ∧ Drawn0 w w' := by
  go_enter Try.func75, Try.ntmps75
  go_wp2
  go_ret
  exact ⟨by simp; omega, ⟨0, rfl⟩⟩
theorem rank_words2 (n : Int) (w : World) : Calls Try.prog 77 #[.int .i64 n] w fun e w' => e = .returned (.bool (!isWordB n)) ∧ Drawn0 w w' := by
  go_enter Try.func77, Try.ntmps77
  go_wp2_with (go_at_call 78; refine (word_Is _ _).mono ?_; rintro e w' ⟨rfl, m, rfl⟩)
  go_ret
  exact ⟨rfl, ⟨_, rfl⟩⟩
def noWords (l : List Int) : Bool := l.any (fun n => !isWordB n)
/-- What rank.words answers. -/
def wordsE (ls : List (List Int)) : Int := if ls.any (fun l => decide (1048576 < l.length)) then 3 else if ls.any noWords then 2 else 0
theorem wordsE_ok {ls : List (List Int)} (h : wordsE ls = 0) : (∀ l ∈ ls, l.length ≤ 1048576) ∧ (∀ l ∈ ls, ∀ n ∈ l, isWordB n = true) := by
  unfold wordsE at h
  cases h1 : ls.any (fun l => decide (1048576 < l.length))
  · rw [h1] at h
    cases h2 : ls.any noWords
    · refine ⟨fun l hl => ?_, fun l hl n hn => ?_⟩
      · have := List.any_eq_false.1 h1 l hl
        simp at this
        omega
      · have := List.any_eq_false.1 h2 l hl
        have h3 := List.any_eq_false.1 (Bool.eq_false_iff.2 this) n hn
        simpa using h3
    · rw [h2] at h
      simp at h
  · rw [h1] at h
    simp at h
set_option maxHeartbeats 4000000 in
set_option maxRecDepth 100000 in
theorem rank_words (A : Option Addr) (c : Nat) (ls : List (List Int)) (w : World) (hr : Kd.C (Kd.slice 3 (Kd.int .i64)) w A ls.length ls) :
    Calls Try.prog 60 #[.slice A ls.length c] w fun e w' => e = .returned (.int .i64 (wordsE ls)) ∧ Drawn0 w w' := by
  have H1 : ∀ W, Drawn0 w W → Calls Try.prog 74 #[.slice A ls.length c, .func (.func 75) #[] #[]] W fun e w' => e = .returned (.bool (ls.any (fun l => decide (1048576 < l.length)))) ∧ Drawn0 W w' := fun W hW =>
    slices_ContainsFunc2 75 #[] #[] A c ls _ W Try.call75 (kdC_drawn hr hW) (fun x _ W1 hW1 A1 c1 _ _ => (rank_words1 A1 c1 x W1).mono fun e W' ⟨he, hd⟩ => ⟨he, drawn_trans hW1 hd⟩)
  have H2 : ∀ (l : List Int) A1 c1 W, Kd.C (Kd.int .i64) W A1 l.length l → Calls Try.prog 76 #[.slice A1 l.length c1, .func (.func 77) #[] #[]] W fun e w' => e = .returned (.bool (noWords l)) ∧ Drawn0 W w' := fun l A1 c1 W hr1 =>
    slices_ContainsFunc 77 #[] #[] A1 c1 l (fun n => !isWordB n) W Try.call77 hr1 (fun x _ W2 hW2 => (rank_words2 x W2).mono fun e W' ⟨he, hd⟩ => ⟨he, drawn_trans hW2 hd⟩)
  replace H1 := Aside0.mk H1
  replace H2 := Aside0.mk H2
  have HR := Aside0.mk hr
  have hm : ls.length ≤ 9223372036854775807 := HR.out.2.1
  clear hr
  have HE : Aside0 (wordsE ls = if ls.any (fun l => decide (1048576 < l.length)) then 3 else if ls.any noWords then 2 else 0) := ⟨rfl⟩
  generalize wordsE ls = E at HE ⊢
  cases h1 : ls.any (fun l => decide (1048576 < l.length))
  · rw [h1] at H1 HE
    clear h1
    replace HE : Aside0 (E = if ls.any noWords then 2 else 0) := ⟨HE.out⟩
    go_enter Try.func60, Try.ntmps60
    go_wp2_with (go_at_call 74; refine (H1.out _ ⟨0, rfl⟩).mono ?_; rintro e w' ⟨rfl, m1, rfl⟩)
    go_loopw [4, 9] (fun _ i W => ∃ x : Int, i = .int .i64 x ∧ 0 ≤ x ∧ x ≤ ls.length ∧ Aside0 (∀ j, 0 ≤ j → j < x → noWords (ls.getD j.toNat []) = false) ∧ Drawn0 w W) (fun _ i _ => ls.length - (intOf i).toNat)
    case atStart => exact ⟨0, rfl, by omega, by omega, ⟨by omega⟩, ⟨_, rfl⟩⟩
    case round =>
      obtain ⟨x, rfl, p0, p1, H0, HD⟩ := hrel
      obtain ⟨m, rfl⟩ := HD
      by_cases hlt : x < ls.length
      · obtain ⟨ad, A0, c0, e1, hx, hcc, hrr⟩ := rows_at HR.out x p0 hlt
        cases e1
        have HPk := Aside0.mk (H2.out (ls.getD x.toNat []) A0 c0 (w.drewN m) (kdC_drawn hrr ⟨m, rfl⟩))
        have HM := Aside0.mk (getD_mem_rows ls x p0 hlt)
        clear hcc hrr
        obtain ⟨y, hy⟩ : ∃ y, y = ls.getD x.toNat [] := ⟨_, rfl⟩
        rw [← hy] at hx HPk HM
        cases hb : noWords y
        · have Hb := Aside0.mk hb
          replace hy := Aside0.mk hy
          go_wp2_with (go_at_call 76; (with_reducible refine (HPk.out).mono ?_); rintro e w2 ⟨rfl, m, rfl⟩)
          go_roundw
          case rel => exact ⟨x + 1, rfl, by omega, by omega, ⟨fun j h0 h1 => by
            by_cases hj : j < x
            · exact H0.out j h0 hj
            · obtain rfl : j = x := by omega
              rw [← hy.out]
              exact Hb.out⟩, ⟨_, rfl⟩⟩
          case measure => simp [intOf]; omega
        · have Hb := Aside0.mk hb
          replace hy := Aside0.mk hy
          go_wp2_with (go_at_call 76; (with_reducible refine (HPk.out).mono ?_); rintro e w2 ⟨rfl, m, rfl⟩)
          go_ret
          refine ⟨?_, ⟨_, rfl⟩⟩
          rw [HE.out, if_pos (List.any_eq_true.2 ⟨y, HM.out, Hb.out⟩)]
          rfl
      · go_wp2
        go_ret
        refine ⟨?_, ⟨_, rfl⟩⟩
        have hneg : ¬ ls.any noWords = true := by
          intro h
          obtain ⟨y, hy, hn⟩ := List.any_eq_true.1 h
          obtain ⟨j, hj, rfl⟩ := List.getElem_of_mem hy
          have := H0.out (j : Int) (by omega) (by omega)
          rw [Int.toNat_natCast, List.getD_eq_getElem?_getD, List.getElem?_eq_getElem hj, Option.getD_some] at this
          rw [this] at hn
          cases hn
        rw [HE.out, if_neg hneg]
        rfl
  · rw [h1] at H1 HE
    clear h1
    go_enter Try.func60, Try.ntmps60
    go_wp2_with (go_at_call 74; refine (H1.out _ ⟨0, rfl⟩).mono ?_; rintro e w' ⟨rfl, m1, rfl⟩)
    go_ret
    exact ⟨by rw [HE.out]; rfl, ⟨_, rfl⟩⟩
theorem rank_cut (A : Option Addr) (n c : Nat) (w : World) (hn : n ≤ c) (hc : c ≤ 9223372036854775807) :
    Calls Try.prog 57 #[.slice A n c] w fun e w' => e = .returned (.slice A n n) ∧ Drawn0 w w' := by
  go_enter Try.func57, Try.ntmps57
  go_wp2
  go_ret
  exact ⟨rfl, ⟨0, rfl⟩⟩
/-- A list is returned, in new memory, and an error. -/
def Ret2 (w : World) (R : List Int × Int) (e : Ending) (w' : World) : Prop := ∃ v, e = .returned (.tuple #[v, .int .i64 R.2]) ∧ Kd.V (Kd.int .i64) 3 w' w.heap.size (fun k => w.heap.size ≤ k) v R.1 ∧ Below w.heap.size w w'
theorem Ret2.lift {w W w' : World} {R : List Int × Int} {e : Ending} (h : Ret2 W R e w') (hb : Below w.heap.size w W) : Ret2 w R e w' := by
  obtain ⟨v, he, hv, hb2⟩ := h
  exact ⟨v, he, Kd.V_mono (Kd.V_lower hv hb.size) (fun k hk => Nat.le_trans hb.size hk), hb.trans (hb2.mono hb.size)⟩
theorem Ret2.nil {w w' : World} (n : Int) (hb : Below w.heap.size w w') : Ret2 w ([], n) (.returned (.tuple #[.slice none 0 0, .int .i64 n])) w' := ⟨_, rfl, Kd.V_nil _ _ _ _ _, hb⟩
/-- A list is returned, in new memory. -/
def Ret1 (w : World) (R : List Int) (e : Ending) (w' : World) : Prop := ∃ v, e = .returned v ∧ Kd.V (Kd.int .i64) 3 w' w.heap.size (fun k => w.heap.size ≤ k) v R ∧ Below w.heap.size w w'
def upTo (val : Int → Int) (x : Int) : List Int := (List.range x.toNat).map (fun (i : Nat) => val (i : Int))
theorem upTo_succ (val : Int → Int) (x : Int) (h0 : 0 ≤ x) : upTo val (x + 1) = upTo val x ++ [val x] := by
  have e : (x + 1).toNat = x.toNat + 1 := by omega
  have e2 : ((x.toNat : Nat) : Int) = x := by omega
  simp only [upTo, e, List.range_succ, List.map_append, List.map_cons, List.map_nil, e2]
theorem upTo_length (val : Int → Int) (x : Int) : (upTo val x).length = x.toNat := by simp [upTo]
end Go.Proofs.Ytnkepaenpoadpaa.Hand
/- rank: sets in maps; Check: places, each once. -/
namespace Go.Proofs.Ytnkepaenpoadpaa.Hand
open Go.RowKit Go.Proofs.YtnkepaenpoadpaaW.PrintWords Go.Proofs.YtnkepaenpoadpaaW.PrintLast Go.Proofs.YtnkepaenpoadpaaW.PrintMore
open Go.Maps
set_option linter.unusedVariables false
set_option linter.unusedSimpArgs false
theorem keysInt : Keyed Try.prog 3 := int_keyed Try.underlying3
theorem zeroInt (w : World) : (zeroValue 3).run Try.prog w = .ok (.int .i64 0) w := by kernel_rfl
/-- The first of the first m places at which k stands (0 if there is none). -/
def whereIs (p : List Int) (m : Nat) (k : Int) : Int := ((List.range m).find? (fun (j : Nat) => rd p (j : Int) == k)).elim 0 (fun (j : Nat) => (j : Int))
def stands (p : List Int) (m : Nat) (k : Int) : Bool := (List.range m).any (fun (j : Nat) => rd p (j : Int) == k)
/-- Each place is one of n, and none comes twice. -/
def okPlaces (n : Nat) (p : List Int) : Bool := (List.range p.length).all (fun (i : Nat) => decide (0 ≤ rd p (i : Int)) && decide (rd p (i : Int) < (n : Int)) && !stands p i (rd p (i : Int)))
theorem stands_succ (p : List Int) (m : Nat) (k : Int) : stands p (m + 1) k = (stands p m k || (rd p (m : Int) == k)) := by
  unfold stands
  rw [List.range_succ, List.any_append]
  simp
theorem whereIs_succ_old (p : List Int) (m : Nat) (k : Int) (h : rd p (m : Int) ≠ k) : whereIs p (m + 1) k = whereIs p m k := by
  unfold whereIs
  rw [List.range_succ, List.find?_append]
  have e : List.find? (fun (j : Nat) => rd p (j : Int) == k) [m] = none := by simp [h]
  rw [e, Option.or_none]
theorem whereIs_succ_new (p : List Int) (m : Nat) (k : Int) (h0 : stands p m k = false) (h : rd p (m : Int) = k) : whereIs p (m + 1) k = m := by
  unfold whereIs
  rw [List.range_succ, List.find?_append]
  have e0 : List.find? (fun (j : Nat) => rd p (j : Int) == k) (List.range m) = none := by
    rw [List.find?_eq_none]
    intro x hx
    unfold stands at h0
    rw [List.any_eq_false] at h0
    exact h0 x hx
  have e : List.find? (fun (j : Nat) => rd p (j : Int) == k) [m] = some m := by simp [h]
  rw [e0, e]
  rfl
theorem whereIs_range (p : List Int) (m : Nat) (k : Int) : 0 ≤ whereIs p m k ∧ (whereIs p m k < m ∨ whereIs p m k = 0) := by
  unfold whereIs
  cases h : (List.range m).find? (fun (j : Nat) => rd p (j : Int) == k) with
  | none => simp
  | some j =>
    have := List.mem_of_find?_eq_some h
    rw [List.mem_range] at this
    simp only [Option.elim]
    omega
/-- What the set holds behind m places. -/
def SetSt (p : List Int) (m : Nat) (D : DataW Unit) : Prop := IsMap D ∧ ∀ k : Int, D.atKey (.int .i64 k) (.lit (.bool false)) = .lit (.bool (stands p m k))
theorem SetSt.zero (p : List Int) : SetSt p 0 (.map []) := ⟨isMap_empty, fun k => rfl⟩
theorem SetSt.succ {p : List Int} {m : Nat} {D : DataW Unit} (h : SetSt p m D) : SetSt p (m + 1) (D.put (.int .i64 (rd p (m : Int))) (.lit (.bool true))) := by
  obtain ⟨h1, h3⟩ := h
  refine ⟨h1.put _ _, fun k => ?_⟩
  rw [stands_succ]
  by_cases hk : rd p (m : Int) = k
  · rw [← hk, atKey_put_same (k := .int .i64 (rd p (m : Int))) h1 trivial]
    simp
  · rw [atKey_put_other (by intro e; injection e with _ e; exact hk e.symm), h3 k]
    simp [hk]
/-- A word that stands already adds nothing. -/
theorem SetSt.skip {p : List Int} {m : Nat} {D : DataW Unit} (h : SetSt p m D) (h0 : stands p m (rd p (m : Int)) = true) : SetSt p (m + 1) D := by
  obtain ⟨h1, h3⟩ := h
  refine ⟨h1, fun k => ?_⟩
  rw [stands_succ, h3 k]
  by_cases hk : rd p (m : Int) = k
  · rw [← hk, h0]; simp
  · simp [hk]
theorem okPlaces_false (n : Nat) (p : List Int) (i : Nat) (hi : i < p.length) (h : (decide (0 ≤ rd p (i : Int)) && decide (rd p (i : Int) < (n : Int)) && !stands p i (rd p (i : Int))) = false) : okPlaces n p = false := by
  unfold okPlaces
  rw [List.all_eq_false]
  exact ⟨i, by rw [List.mem_range]; exact hi, by rw [h]; simp⟩
theorem okPlaces_true (n : Nat) (p : List Int) (h : ∀ i : Nat, i < p.length → (decide (0 ≤ rd p (i : Int)) && decide (rd p (i : Int) < (n : Int)) && !stands p i (rd p (i : Int))) = true) : okPlaces n p = true := by
  unfold okPlaces
  rw [List.all_eq_true]
  intro i hi
  rw [List.mem_range] at hi
  exact h i hi

abbrev SetAt (w : World) (B n : Nat) (D : DataW Unit) : Prop := w.ownsMap Try.prog 3 (plainElem Try.prog 4) B n D
theorem zeroBool (w : World) : (zeroValue 4).run Try.prog w = .ok (.bool false) w := by kernel_rfl
theorem plainElem_bool_inv {P : Program} {e : TypeId} (he : P.underlying e = some .bool) {v : Value} {z : DataW Unit × List MemPlace} (h : plainElem P e v = some z) : ∃ b, v = .bool b ∧ z = (.lit (.bool b), []) := by
  unfold plainElem at h
  rw [he] at h
  cases v <;> simp at h
  subst h
  exact ⟨_, rfl, rfl⟩
theorem look_bool {P : Program} {t k e : TypeId} (K : Keyed P k) (ht : P.underlying t = some (.map k e)) (he : P.underlying e = some .bool) {w : World} (hz0 : (zeroValue e).run P w = .ok (.bool false) w) {b n : Nat} {D : DataW Unit} (h : w.ownsMap P k (plainElem P e) b n D)
    {key : Value} {kl : Lit} (hkey : keyOf P k key = some kl) {r : Bool} (hat0 : D.atKey kl (.lit (.bool false)) = .lit (.bool r)) : (Instr.lookup t (.map (some b)) key false).run P w = .ok (.bool r) w := by
  obtain ⟨es, clock, hb, F, _, rfl⟩ := h
  rcases Maps.fit_look false K ht hz0 hb F hkey with ⟨hrun, _, hat⟩ | ⟨e0, y, _, _, hrun, hRv, hat, _⟩
  · rw [hat (.lit (.bool false))] at hat0
    injection hat0 with e
    injection e with e
    rw [← e]
    exact hrun
  · rw [hat (.lit (.bool false))] at hat0
    obtain ⟨b2, hv, hz⟩ := plainElem_bool_inv he hRv
    rw [hz] at hat0
    injection hat0 with e
    injection e with e
    rw [← e, ← hv]
    exact hrun
theorem look_set {p : List Int} {m : Nat} {D : DataW Unit} {w : World} {b n : Nat} (h : SetAt w b n D) (hD : SetSt p m D) (x : Int) (hx : -9223372036854775808 ≤ x ∧ x ≤ 9223372036854775807) :
    (Instr.lookup 47 (.map (some b)) (.int .i64 x) false).run Try.prog w = .ok (.bool (stands p m x)) w :=
  look_bool keysInt Try.underlying47 Try.underlying4 (zeroBool w) h (keyOf_int_mk Try.underlying3 (WalkArith.wf_i64 (by omega))) (hD.2 x)
def rank_Check.g (p : List Int) : Int := if 1048576 < p.length then 3 else if okPlaces p.length p then 0 else 1
set_option maxHeartbeats 4000000 in
set_option maxRecDepth 100000 in
theorem rank_Check.run (A : Option Addr) (c : Nat) (p : List Int) (w : World) (hr : Kd.C (Kd.int .i64) w A p.length p) :
    Calls Try.prog 17 #[.slice A p.length c] w fun e w' => e = .returned (.int .i64 (rank_Check.g p)) ∧ Below w.heap.size w w' := by
  have HR := Aside0.mk hr
  clear hr
  have hmm := @run_makeMap Try.prog
  obtain ⟨E, hE⟩ : ∃ E, E = rank_Check.g p := ⟨_, rfl⟩
  rw [← hE]
  have HE : Aside0 (E = if 1048576 < p.length then 3 else if okPlaces p.length p then 0 else 1) := ⟨hE⟩
  clear hE
  by_cases hlen : 1048576 < p.length
  · replace HE : Aside0 (E = 3) := ⟨by rw [HE.out, if_pos hlen]⟩
    go_enter Try.func17, Try.ntmps17
    go_wp2
    all_goals first
      | (go_ret; exact ⟨by rw [HE.out]; rfl, Below.refl _ _⟩)
      | (exfalso; omega)
  · replace HE : Aside0 (E = if okPlaces p.length p then 0 else 1) := ⟨by rw [HE.out, if_neg hlen]⟩
    go_enter Try.func17, Try.ntmps17
    go_wp2
    generalize hw1 : w.alloc (Obj.map #[] 0) = w1
    have o1 : Aside0 (SetAt w1 w.heap.size 0 (.map [])) := ⟨by rw [← hw1]; exact World.ownsMap_made _ _ _ _⟩
    have b1 : Aside0 (Below w.heap.size w w1) := ⟨by rw [← hw1]; exact below_alloc (Below.refl _ _) _⟩
    have s1 : w.heap.size < w1.heap.size := by rw [← hw1]; simp
    clear hw1
    go_loopw [12] (fun i W => ∃ (m : Nat) (D : DataW Unit), i = .int .i64 (m : Int) ∧ m ≤ p.length ∧ Aside0 (SetAt W w.heap.size m D) ∧ Aside0 (SetSt p m D) ∧ Aside0 (∀ j : Nat, j < m → (decide (0 ≤ rd p (j : Int)) && decide (rd p (j : Int) < (p.length : Int)) && !stands p j (rd p (j : Int))) = true) ∧ Aside0 (Below w.heap.size w W)) (fun i _ => p.length - (intOf i).toNat)
    case atStart => exact ⟨0, _, rfl, by omega, o1, ⟨SetSt.zero p⟩, ⟨by omega⟩, b1⟩
    case round =>
      obtain ⟨m, D, rfl, p0, HO, HD, HJ, HK⟩ := hrel
      by_cases hlt : (m : Int) < p.length
      · obtain ⟨ad, e1, hc⟩ := Kd.at_int (Kd.C_below HR.out HK.out) (m : Int) (by omega) hlt
        subst e1
        rw [Int.toNat_natCast] at hc
        have hlt2 : m < p.length := by omega
        obtain ⟨n, hn⟩ : ∃ n, n = rd p (m : Int) := ⟨_, rfl⟩
        rw [← hn] at hc
        have HN := Aside0.mk hn
        clear hn
        by_cases hn0 : n < 0
        · have z2 : decide (n < 0) = true := decide_eq_true hn0
          have hc1 : ¬ 0 ≤ n := by omega
          have hRE : Aside0 (E = 1) := ⟨by rw [HE.out, okPlaces_false p.length p m hlt2 (by rw [← HN.out]; simp [hc1])]; rfl⟩
          clear hc1 hn0
          go_wp2
          go_ret
          exact ⟨by rw [hRE.out]; rfl, HK.out⟩
        · have z2 : decide (n < 0) = false := decide_eq_false hn0
          by_cases hn1 : (p.length : Int) ≤ n
          · have z3 : decide ((p.length : Int) ≤ n) = true := decide_eq_true hn1
            have hc1 : ¬ n < (p.length : Int) := by omega
            have hRE : Aside0 (E = 1) := ⟨by rw [HE.out, okPlaces_false p.length p m hlt2 (by rw [← HN.out]; simp [hc1])]; rfl⟩
            clear hn0 hn1 hc1
            go_wp2
            go_ret
            exact ⟨by rw [hRE.out]; rfl, HK.out⟩
          · have z3 : decide ((p.length : Int) ≤ n) = false := decide_eq_false hn1
            have hlook := look_set HO.out HD.out n (by omega)
            cases hst : stands p m n
            · have Hst := Aside0.mk hst
              rw [hst] at hlook
              have hj2 : Aside0 ((decide (0 ≤ rd p (m : Int)) && decide (rd p (m : Int) < (p.length : Int)) && !stands p m (rd p (m : Int))) = true) := ⟨by
                rw [← HN.out, hst]
                have e1 : 0 ≤ n := by omega
                have e2 : n < (p.length : Int) := by omega
                simp [e1, e2]⟩
              have hml : Aside0 (m < maxLen) := ⟨by unfold maxLen; omega⟩
              have HKey := Aside0.mk (keyOf_int_mk (P := Try.prog) Try.underlying3 (WalkArith.wf_i64 (show -9223372036854775808 ≤ n ∧ n ≤ 9223372036854775807 by omega)))
              clear hn0 hn1 hst
              go_wp2_with (at_mapUpdate; refine wpList_mapUpdate_own _ rfl _ _ _ 47 rfl 3 4 keysInt Try.underlying47 _ w.heap.size m D rfl HO.out hml.out _ _ _ rfl rfl HKey.out _ [] (plainElem_bool Try.underlying4 true) ?_; intro w5 hown5 hgrow5; replace hown5 := Aside0.mk hown5; replace hgrow5 := Aside0.mk hgrow5)
              go_roundw
              case rel =>
                have hsucc := HD.out.succ
                rw [← HN.out] at hsucc
                refine ⟨m + 1, _, by simp, by omega, hown5, ⟨hsucc⟩, ⟨fun j hj => ?_⟩, ⟨HK.out.grown hgrow5.out HK.out.size (fun k e => by cases e; exact Nat.le_refl _)⟩⟩
                by_cases hjm : j < m
                · exact HJ.out j hjm
                · obtain rfl : j = m := by omega
                  exact hj2.out
              case measure => simp [intOf]; omega
            · rw [hst] at hlook
              have hRE : Aside0 (E = 1) := ⟨by rw [HE.out, okPlaces_false p.length p m hlt2 (by rw [← HN.out, hst]; simp)]; rfl⟩
              clear hn0 hn1 hst
              go_wp2
              go_ret
              exact ⟨by rw [hRE.out]; rfl, HK.out⟩
      · obtain rfl : m = p.length := by omega
        have hRE : Aside0 (E = 0) := ⟨by rw [HE.out, okPlaces_true p.length p HJ.out]; rfl⟩
        go_wp2
        go_ret
        exact ⟨by rw [hRE.out]; rfl, HK.out⟩
end Go.Proofs.Ytnkepaenpoadpaa.Hand
/- rank: inverse, compose, Inverse, Compose: places. -/
namespace Go.Proofs.Ytnkepaenpoadpaa.Hand
open Go.RowKit Go.Proofs.YtnkepaenpoadpaaW.PrintWords Go.Proofs.YtnkepaenpoadpaaW.PrintLast Go.Proofs.YtnkepaenpoadpaaW.PrintMore
set_option linter.unusedVariables false
set_option linter.unusedSimpArgs false
theorem R_addr {e base n c : Nat} {ok : Nat → Prop} {w : World} {A : Option Addr} {l : List Int} (h : (Kd.int .i64).R e w base ok (.slice A n c) l) (h0 : 0 < n) : ∃ g, A = some ⟨g, 0, none⟩ ∧ base ≤ g := by
  have ho := Kd.own_of_R (enc := Value.int .i64) (h1 := fun _ => rfl) h
  rcases ho.2 with ⟨hv, hn⟩ | ⟨g, cap, cur, hv, hb, _⟩
  · cases hv; omega
  · cases hv; exact ⟨g, rfl, hb⟩
theorem addr0_add (g p : Nat) : (⟨g, 0, none⟩ : Addr).add p = ⟨g, p, none⟩ := by rw [add_plain]
theorem R_some {e base n c : Nat} {ok : Nat → Prop} {w : World} {A : Option Addr} {l : List Int} (h : (Kd.int .i64).R e w base ok (.slice A n c) l) (h0 : 0 < n) : ∃ adr, A = some adr := by
  obtain ⟨g, hg, _⟩ := R_addr h h0
  exact ⟨_, hg⟩
/-- A word is written into a slice of the call's own. -/
theorem R_store {e base n c : Nat} {ok : Nat → Prop} {w : World} {adr : Addr} {xs : List Int} (h : (Kd.int .i64).R e w base ok (.slice (some adr) n c) xs) (k : Nat) (hk : k < n) (v : Int) :
    w.cell? (adr.add k) = some (.int .i64 (rd xs (k : Int))) ∧ w.frozen? (adr.add k) = false ∧ (Kd.int .i64).R e (w.setCell (adr.add k) (.int .i64 v)) base ok (.slice (some adr) n c) (xs.set k v) ∧ ∃ g, (adr.add k).block = g ∧ (Value.slice (some adr) n c).ownBlock = some g ∧ base ≤ g := by
  obtain ⟨g, hg, hb⟩ := R_addr h (by omega)
  injection hg with hg
  subst hg
  have h1 := Kd.R_celln (0 : Int) h (k : Int) (by omega) (by omega)
  have h2 := (Kd.R_putg h (k : Int) v).1
  rw [Int.toNat_natCast] at h1 h2
  rw [addr0_add]
  exact ⟨h1.1, h1.2, h2, g, rfl, rfl, hb⟩
theorem upTo_rd (f : Int → Int) (n : Nat) (k : Nat) (hk : k < n) : rd (upTo f n) (k : Int) = f k := by
  simp [rd, upTo, hk]
theorem upTo_ext (f g : Int → Int) (n : Nat) (h : ∀ k : Nat, k < n → f k = g k) : upTo f n = upTo g n := by
  unfold upTo
  refine List.map_congr_left fun i hi => h i ?_
  rw [List.mem_range] at hi
  simpa using hi
theorem upTo_set (f g : Int → Int) (n i : Nat) (v : Int) (hi : g i = v) (h : ∀ k : Nat, k < n → k ≠ i → g k = f k) : (upTo f n).set i v = upTo g n := by
  apply List.ext_getElem?
  intro k
  rw [List.getElem?_set]
  by_cases hki : i = k
  · subst hki
    by_cases hn : i < n
    · rw [if_pos rfl, if_pos (by rw [upTo_length]; simpa using hn)]
      simp [upTo, hn, hi]
    · rw [if_pos rfl, if_neg (by rw [upTo_length]; simpa using hn)]
      simp [upTo, hn]
  · rw [if_neg hki]
    by_cases hn : k < n
    · simp [upTo, hn]
      exact (h k hn (fun e => hki e.symm)).symm
    · simp [upTo, hn]
theorem okPlaces_pos {n : Nat} {p : List Int} (h : okPlaces n p = true) (i : Nat) (hi : i < p.length) : 0 ≤ rd p (i : Int) ∧ rd p (i : Int) < (n : Int) ∧ stands p i (rd p (i : Int)) = false := by
  unfold okPlaces at h
  rw [List.all_eq_true] at h
  have := h i (List.mem_range.2 hi)
  simp only [Bool.and_eq_true, decide_eq_true_eq, Bool.not_eq_true'] at this
  exact ⟨this.1.1, this.1.2, this.2⟩
theorem whereIs_zero (p : List Int) (k : Int) : whereIs p 0 k = 0 := rfl
def invG (p : List Int) : List Int := upTo (whereIs p p.length) p.length
theorem inv_step {n : Nat} {p : List Int} (h : okPlaces n p = true) (m : Nat) (hm : m < p.length) (q : Nat) (hq : rd p (m : Int) = q) (L : Nat) : (upTo (whereIs p m) L).set q (m : Int) = upTo (whereIs p (m + 1)) L := by
  obtain ⟨h1, h2, h3⟩ := okPlaces_pos h m hm
  rw [hq] at h3
  refine upTo_set _ _ _ _ _ (whereIs_succ_new p m _ h3 hq) fun k _ hk => whereIs_succ_old p m _ (fun e => hk ?_)
  have : (q : Int) = k := hq.symm.trans e
  omega
theorem upTo_zero (n : Nat) (f : Int → Int) (h : ∀ k : Nat, k < n → f k = 0) : upTo f n = List.replicate n 0 := by
  rw [upTo_ext f (fun _ => 0) n h]
  apply List.ext_getElem
  · simp [upTo]
  · intro i h1 h2
    simp [upTo]
set_option maxHeartbeats 4000000 in
set_option maxRecDepth 100000 in
theorem rank_inverse (A : Option Addr) (c : Nat) (p : List Int) (w : World) (hr : Kd.C (Kd.int .i64) w A p.length p) (hl : p.length ≤ 1048576) (hok : okPlaces p.length p = true) :
    Calls Try.prog 45 #[.slice A p.length c] w (Ret1 w (invG p)) := by
  have HR := Aside0.mk hr
  obtain ⟨st, hst⟩ : ∃ st : Nat → List Int, st = fun m => upTo (whereIs p m) p.length := ⟨_, rfl⟩
  have h0 : Aside0 (st 0 = List.replicate p.length 0) := ⟨by rw [hst]; exact upTo_zero _ _ fun k _ => whereIs_zero p k⟩
  have h1 : Aside0 (∀ m : Nat, m < p.length → ∃ q : Nat, rd p (m : Int) = q ∧ q < p.length ∧ st (m + 1) = (st m).set q (m : Int)) := ⟨fun m hm => by
    have h := okPlaces_pos hok m hm
    refine ⟨(rd p (m : Int)).toNat, by omega, by omega, ?_⟩
    rw [hst]
    exact (inv_step hok m hm _ (by omega) _).symm⟩
  have h2 : Aside0 (invG p = st p.length) := ⟨by rw [hst]; rfl⟩
  have h3 : Aside0 (∀ m, (st m).length = p.length) := ⟨fun m => by rw [hst]; simp [upTo_length]⟩
  rw [h2.out]
  clear hr hok hst h2
  go_enter Try.func45, Try.ntmps45
  go_wp2_with ((with_reducible refine gate_ (.makeSlice 22 (.tmp 7) (.tmp 7)) rfl ?_); refine Kd.R_make (Kd.int .i64) (w0 := w) w.heap.size 3 rfl rfl 22 (.tmp 7) (.tmp 7) rfl (p.length : Int) rfl rfl Try.underlying22 (.int .i64 0) 8 infoInt rfl (by decide) (by decide) 0 (ok := fun b => w.heap.size ≤ b) (okp := fun _ => False) rfl (fun _ h => h.elim) (Nat.le_refl _) (by omega) (by omega) (Below.refl _ _) (Nat.le_refl _) ?_; intro v6 w6 hR6 hb6 hg6 hat6; replace hR6 := Aside0.mk hR6; replace hb6 := Aside0.mk hb6; clear hg6 hat6)
  rw [Int.toNat_natCast, ← h0.out] at hR6
  obtain ⟨A6, c6, rfl⟩ := Kd.R_slice hR6.out
  rw [h3.out 0] at hR6 ⊢
  go_loopw [11] (fun i W => ∃ m : Nat, i = .int .i64 (m : Int) ∧ m ≤ p.length ∧ Aside0 (Below w.heap.size w W) ∧ Aside0 ((Kd.int .i64).R 3 W w.heap.size (fun b => w.heap.size ≤ b) (.slice A6 p.length c6) (st m))) (fun i _ => p.length - (intOf i).toNat)
  case atStart => exact ⟨0, rfl, by omega, hb6, hR6⟩
  case round =>
    obtain ⟨m, rfl, p0, hb, hR⟩ := hrel
    by_cases hlt : m < p.length
    · obtain ⟨q, hq, hq2, hs⟩ := h1.out m hlt
      obtain ⟨ad, e1, hx⟩ := Kd.at_int (Kd.C_below HR.out hb.out) (m : Int) (by omega) (by omega)
      cases e1
      rw [hq, Int.toNat_natCast] at hx
      obtain ⟨g, rfl, hg⟩ := R_addr hR.out (by omega)
      have hAdd : Aside0 ((⟨g, 0, none⟩ : Addr).add q = ⟨g, q, none⟩) := ⟨by by_cases hp0 : q = 0 <;> simp [Addr.add, hp0]⟩
      have hcf := Kd.R_celln (0 : Int) hR.out (q : Int) (by omega) (by omega)
      rw [Int.toNat_natCast, ← hAdd.out] at hcf
      obtain ⟨hc4, hf4⟩ := hcf
      have hR5 := (Kd.R_putg hR.out (q : Int) (m : Int)).1
      rw [Int.toNat_natCast, ← hAdd.out] at hR5
      have hB5 : Below w.heap.size w (wr.setCell ((⟨g, 0, none⟩ : Addr).add q) (.int .i64 (m : Int))) := by
        rw [hAdd.out]
        exact hb.out.setCell hg _
      replace hR5 := Aside0.mk hR5
      replace hB5 := Aside0.mk hB5
      replace hs := Aside0.mk hs
      replace hq := Aside0.mk hq
      clear hR hAdd hR6
      generalize (⟨g, 0, none⟩ : Addr) = adr at *
      go_wp2
      go_roundw
      case rel => exact ⟨m + 1, by simp, by omega, hB5, ⟨by rw [hs.out]; exact hR5.out⟩⟩
      case measure => simp [intOf]; omega
    · obtain rfl : m = p.length := by omega
      have hcp := R_cap hR.out
      have hcc := (Kd.R_reads' hR.out).2.1
      go_wp2_with (go_at_call 57; refine (rank_cut _ _ _ _ hcc hcp).mono ?_; rintro e w5 ⟨rfl, m5, rfl⟩)
      go_ret
      exact ⟨_, rfl, V_cut (Kd.R_drewN hR.out _), pw_below_drewN hb.out _⟩
def compG (f s : List Int) : List Int := upTo (fun k => rd s (rd f k)) f.length
def compAt (f s : List Int) (m : Nat) : List Int := upTo (fun k => if k < (m : Int) then rd s (rd f k) else 0) f.length
theorem comp_step (f s : List Int) (m : Nat) : (compAt f s m).set m (rd s (rd f (m : Int))) = compAt f s (m + 1) := by
  refine upTo_set _ _ _ _ _ ?_ fun k _ hk => ?_
  · rw [if_pos (by omega)]
  · by_cases h : (k : Int) < (m : Int)
    · rw [if_pos h, if_pos (by omega)]
    · rw [if_neg h, if_neg (by omega)]
set_option maxHeartbeats 4000000 in
set_option maxRecDepth 100000 in
theorem rank_compose (A : Option Addr) (c : Nat) (p : List Int) (A2 : Option Addr) (c2 : Nat) (s : List Int) (w : World) (hr : Kd.C (Kd.int .i64) w A p.length p) (hr2 : Kd.C (Kd.int .i64) w A2 s.length s) (hl : p.length ≤ 1048576) (hok : ∀ m : Nat, m < p.length → 0 ≤ rd p (m : Int) ∧ rd p (m : Int) < (s.length : Int)) :
    Calls Try.prog 47 #[.slice A p.length c, .slice A2 s.length c2] w (Ret1 w (compG p s)) := by
  have HR := Aside0.mk hr
  have HR2 := Aside0.mk hr2
  obtain ⟨st, hst⟩ : ∃ st : Nat → List Int, st = compAt p s := ⟨_, rfl⟩
  have h0 : Aside0 (st 0 = List.replicate p.length 0) := ⟨by rw [hst]; exact upTo_zero _ _ fun k _ => if_neg (by omega)⟩
  have h1 : Aside0 (∀ m : Nat, m < p.length → ∃ (q : Nat) (v : Int), rd p (m : Int) = q ∧ q < s.length ∧ rd s (q : Int) = v ∧ st (m + 1) = (st m).set m v) := ⟨fun m hm => by
    have h := hok m hm
    have e : (((rd p (m : Int)).toNat : Nat) : Int) = rd p (m : Int) := by omega
    refine ⟨(rd p (m : Int)).toNat, rd s (rd p (m : Int)), by omega, by omega, by rw [e], ?_⟩
    rw [hst]
    exact (comp_step p s m).symm⟩
  have h2 : Aside0 (compG p s = st p.length) := ⟨by rw [hst]; exact upTo_ext _ _ _ fun k hk => (if_pos (by omega)).symm⟩
  have h3 : Aside0 (∀ m, (st m).length = p.length) := ⟨fun m => by rw [hst]; simp [compAt, upTo_length]⟩
  have hs2 : s.length ≤ 9223372036854775807 := hr2.2.1
  rw [h2.out]
  clear hr hr2 hok hst h2
  go_enter Try.func47, Try.ntmps47
  go_wp2_with ((with_reducible refine gate_ (.makeSlice 22 (.tmp 9) (.tmp 9)) rfl ?_); refine Kd.R_make (Kd.int .i64) (w0 := w) w.heap.size 3 rfl rfl 22 (.tmp 9) (.tmp 9) rfl (p.length : Int) rfl rfl Try.underlying22 (.int .i64 0) 8 infoInt rfl (by decide) (by decide) 0 (ok := fun b => w.heap.size ≤ b) (okp := fun _ => False) rfl (fun _ h => h.elim) (Nat.le_refl _) (by omega) (by omega) (Below.refl _ _) (Nat.le_refl _) ?_; intro v6 w6 hR6 hb6 hg6 hat6; replace hR6 := Aside0.mk hR6; replace hb6 := Aside0.mk hb6; clear hg6 hat6)
  rw [Int.toNat_natCast, ← h0.out] at hR6
  obtain ⟨A6, c6, rfl⟩ := Kd.R_slice hR6.out
  rw [h3.out 0] at hR6 ⊢
  go_loopw [13] (fun i W => ∃ m : Nat, i = .int .i64 (m : Int) ∧ m ≤ p.length ∧ Aside0 (Below w.heap.size w W) ∧ Aside0 ((Kd.int .i64).R 3 W w.heap.size (fun b => w.heap.size ≤ b) (.slice A6 p.length c6) (st m))) (fun i _ => p.length - (intOf i).toNat)
  case atStart => exact ⟨0, rfl, by omega, hb6, hR6⟩
  case round =>
    obtain ⟨m, rfl, p0, hb, hR⟩ := hrel
    by_cases hlt : m < p.length
    · obtain ⟨q, v, hq, hq2, hv, hs⟩ := h1.out m hlt
      obtain ⟨ad, e1, hx⟩ := Kd.at_int (Kd.C_below HR.out hb.out) (m : Int) (by omega) (by omega)
      cases e1
      rw [hq, Int.toNat_natCast] at hx
      obtain ⟨ad2, e2, hx2⟩ := Kd.at_int (Kd.C_below HR2.out hb.out) (q : Int) (by omega) (by omega)
      cases e2
      rw [hv, Int.toNat_natCast] at hx2
      obtain ⟨g, rfl, hg⟩ := R_addr hR.out (by omega)
      have hAdd : Aside0 ((⟨g, 0, none⟩ : Addr).add m = ⟨g, m, none⟩) := ⟨by by_cases hp0 : m = 0 <;> simp [Addr.add, hp0]⟩
      have hcf := Kd.R_celln (0 : Int) hR.out (m : Int) (by omega) (by omega)
      rw [Int.toNat_natCast, ← hAdd.out] at hcf
      obtain ⟨hc4, hf4⟩ := hcf
      have hR5 := (Kd.R_putg hR.out (m : Int) v).1
      rw [Int.toNat_natCast, ← hAdd.out] at hR5
      have hB5 : Below w.heap.size w (wr.setCell ((⟨g, 0, none⟩ : Addr).add m) (.int .i64 v)) := by
        rw [hAdd.out]
        exact hb.out.setCell hg _
      replace hR5 := Aside0.mk hR5
      replace hB5 := Aside0.mk hB5
      replace hs := Aside0.mk hs
      replace hq := Aside0.mk hq
      replace hv := Aside0.mk hv
      clear hR hAdd hR6
      generalize (⟨g, 0, none⟩ : Addr) = adr at *
      go_wp2
      go_roundw
      case rel => exact ⟨m + 1, by simp, by omega, hB5, ⟨by rw [hs.out]; exact hR5.out⟩⟩
      case measure => simp [intOf]; omega
    · obtain rfl : m = p.length := by omega
      have hcp := R_cap hR.out
      have hcc := (Kd.R_reads' hR.out).2.1
      go_wp2_with (go_at_call 57; refine (rank_cut _ _ _ _ hcc hcp).mono ?_; rintro e w5 ⟨rfl, m5, rfl⟩)
      go_ret
      exact ⟨_, rfl, V_cut (Kd.R_drewN hR.out _), pw_below_drewN hb.out _⟩

theorem checkG_ok {p : List Int} (h : rank_Check.g p = 0) : p.length ≤ 1048576 ∧ okPlaces p.length p = true := by
  unfold rank_Check.g at h
  split at h
  · cases h
  · rename_i h1
    split at h
    · rename_i h2
      exact ⟨by omega, h2⟩
    · cases h
def rank_Inverse.g (p : List Int) : List Int × Int := if rank_Check.g p = 0 then (invG p, 0) else ([], rank_Check.g p)
set_option maxHeartbeats 4000000 in
set_option maxRecDepth 100000 in
theorem rank_Inverse.run (A : Option Addr) (c : Nat) (p : List Int) (w : World) (hr : Kd.C (Kd.int .i64) w A p.length p) (hc : p.length ≤ c) :
    Calls Try.prog 13 #[.slice A p.length c] w (Ret2 w (rank_Inverse.g p)) := by
  have HC := Aside0.mk (rank_Check.run A c p w hr)
  unfold rank_Inverse.g
  obtain ⟨E, hE⟩ : ∃ E, E = rank_Check.g p := ⟨_, rfl⟩
  rw [← hE] at HC ⊢
  by_cases h0 : E = 0
  · rw [if_pos h0]
    obtain ⟨h1, h2⟩ := checkG_ok (hE.symm.trans h0)
    have HI : Aside0 (∀ W, Below w.heap.size w W → Calls Try.prog 45 #[.slice A p.length c] W (Ret1 W (invG p))) := ⟨fun W hW => rank_inverse A c p W (Kd.C_below hr hW) h1 h2⟩
    subst h0
    clear hr hE h2
    go_enter Try.func13, Try.ntmps13
    go_wp2_with (first | (go_at_call 17; refine (HC.out).mono ?_; rintro e w1 ⟨rfl, hb1⟩; replace hb1 := Aside0.mk hb1) | (go_at_call 45; refine (HI.out _ hb1.out).mono ?_; rintro e w2 ⟨v2, rfl, hV, hb2⟩; replace hV := Aside0.mk hV; replace hb2 := Aside0.mk hb2))
    go_ret2
    exact Ret2.lift ⟨_, rfl, hV.out, hb2.out⟩ hb1.out
  · rw [if_neg h0]
    have z : (E != 0) = true := bne_iff_ne.mpr h0
    clear hr hE h0
    go_enter Try.func13, Try.ntmps13
    go_wp2_with (go_at_call 17; refine (HC.out).mono ?_; rintro e w1 ⟨rfl, hb1⟩; replace hb1 := Aside0.mk hb1)
    go_ret2
    exact Ret2.nil E hb1.out
def rank_Compose.g (p s : List Int) : List Int × Int := if rank_Check.g p = 0 then (if rank_Check.g s = 0 then (if p.length = s.length then (compG p s, 0) else ([], 6)) else ([], rank_Check.g s)) else ([], rank_Check.g p)
set_option maxHeartbeats 4000000 in
set_option maxRecDepth 100000 in
theorem rank_Compose.run (A : Option Addr) (c : Nat) (p : List Int) (A2 : Option Addr) (c2 : Nat) (s : List Int) (w : World) (hr : Kd.C (Kd.int .i64) w A p.length p) (hc : p.length ≤ c) (hr2 : Kd.C (Kd.int .i64) w A2 s.length s) (hc2 : s.length ≤ c2) :
    Calls Try.prog 15 #[.slice A p.length c, .slice A2 s.length c2] w (Ret2 w (rank_Compose.g p s)) := by
  have HC := Aside0.mk (rank_Check.run A c p w hr)
  have HC2 : Aside0 (∀ W, Below w.heap.size w W → Calls Try.prog 17 #[.slice A2 s.length c2] W fun e w' => e = .returned (.int .i64 (rank_Check.g s)) ∧ Below W.heap.size W w') := ⟨fun W hW => rank_Check.run A2 c2 s W (Kd.C_below hr2 hW)⟩
  have hpl : p.length ≤ 9223372036854775807 := hr.2.1
  have hsl : s.length ≤ 9223372036854775807 := hr2.2.1
  unfold rank_Compose.g
  obtain ⟨E, hE⟩ : ∃ E, E = rank_Check.g p := ⟨_, rfl⟩
  obtain ⟨E2, hE2⟩ : ∃ E, E = rank_Check.g s := ⟨_, rfl⟩
  rw [← hE] at HC ⊢
  rw [← hE2] at HC2 ⊢
  by_cases h0 : E = 0
  · rw [if_pos h0]
    obtain ⟨h1, h2⟩ := checkG_ok (hE.symm.trans h0)
    subst h0
    by_cases h02 : E2 = 0
    · rw [if_pos h02]
      subst h02
      by_cases hll : p.length = s.length
      · rw [if_pos hll]
        have z : ((p.length : Int) != (s.length : Int)) = false := bne_eq_false_iff_eq.mpr (by omega)
        have HI : Aside0 (∀ W, Below w.heap.size w W → Calls Try.prog 47 #[.slice A p.length c, .slice A2 s.length c2] W (Ret1 W (compG p s))) := ⟨fun W hW => rank_compose A c p A2 c2 s W (Kd.C_below hr hW) (Kd.C_below hr2 hW) h1 (fun m hm => by have := okPlaces_pos h2 m hm; omega)⟩
        clear hr hr2 hE hE2 h2 hll
        go_enter Try.func15, Try.ntmps15
        go_wp2_with fail
        refine (HC.out).mono ?_
        rintro e w1 ⟨rfl, hb1⟩
        replace hb1 := Aside0.mk hb1
        go_wp2_with fail
        refine (HC2.out _ hb1.out).mono ?_
        rintro e w2 ⟨rfl, hb2⟩
        replace hb2 := Aside0.mk (hb1.out.trans (hb2.mono hb1.out.size))
        go_wp2_with fail
        refine (HI.out _ hb2.out).mono ?_
        rintro e w3 ⟨v2, rfl, hV, hb3⟩
        replace hV := Aside0.mk hV
        replace hb3 := Aside0.mk hb3
        go_wp2
        go_ret2
        exact Ret2.lift ⟨_, rfl, hV.out, hb3.out⟩ hb2.out
      · rw [if_neg hll]
        have z : ((p.length : Int) != (s.length : Int)) = true := bne_iff_ne.mpr (by omega)
        clear hr hr2 hE hE2 h2 hll
        go_enter Try.func15, Try.ntmps15
        go_wp2_with fail
        refine (HC.out).mono ?_
        rintro e w1 ⟨rfl, hb1⟩
        replace hb1 := Aside0.mk hb1
        go_wp2_with fail
        refine (HC2.out _ hb1.out).mono ?_
        rintro e w2 ⟨rfl, hb2⟩
        replace hb2 := Aside0.mk (hb1.out.trans (hb2.mono hb1.out.size))
        go_wp2
        go_ret2
        exact Ret2.nil 6 hb2.out
    · rw [if_neg h02]
      have z : (E2 != 0) = true := bne_iff_ne.mpr h02
      clear hr hr2 hE hE2 h2 h02
      go_enter Try.func15, Try.ntmps15
      go_wp2_with fail
      refine (HC.out).mono ?_
      rintro e w1 ⟨rfl, hb1⟩
      replace hb1 := Aside0.mk hb1
      go_wp2_with fail
      refine (HC2.out _ hb1.out).mono ?_
      rintro e w2 ⟨rfl, hb2⟩
      replace hb2 := Aside0.mk (hb1.out.trans (hb2.mono hb1.out.size))
      go_wp2
      go_ret2
      exact Ret2.nil E2 hb2.out
  · rw [if_neg h0]
    have z : (E != 0) = true := bne_iff_ne.mpr h0
    clear hr hr2 hE hE2 h0
    go_enter Try.func15, Try.ntmps15
    go_wp2_with fail
    refine (HC.out).mono ?_
    rintro e w1 ⟨rfl, hb1⟩
    replace hb1 := Aside0.mk hb1
    go_wp2
    go_ret2
    exact Ret2.nil E hb1.out
end Go.Proofs.Ytnkepaenpoadpaa.Hand
/- rank: open: a list in segments, or what is wrong with it. -/
namespace Go.Proofs.Ytnkepaenpoadpaa.Hand
open Go.RowKit Go.Proofs.YtnkepaenpoadpaaW.PrintWords Go.Proofs.YtnkepaenpoadpaaW.PrintLast Go.Proofs.YtnkepaenpoadpaaW.PrintMore
set_option linter.unusedVariables false
set_option linter.unusedSimpArgs false
/-- Where the slice of a list begins that a segment is. -/
def segA (A : Option Addr) (at_ n : Nat) : Option Addr := if at_ + n = at_ then A else A.map (·.add at_)
theorem seg_slice (A : Option Addr) (c : Nat) (l : List Int) (at_ n : Nat) (hm : at_ + n ≤ l.length) (hc : l.length ≤ c) :
    (∀ W : World, (Instr.slice 22 (.slice A l.length c) (some (.int .i64 (at_ : Int))) (some (.int .i64 ((at_ : Int) + (n : Int)))) (some (.int .i64 ((at_ : Int) + (n : Int))))).run Try.prog W = .ok (.slice (segA A at_ n) n n) W) ∧
      (∀ W : World, (Kd.int .i64).C W A l.length l → (Kd.int .i64).C W (segA A at_ n) n ((l.drop at_).take n)) := by
  obtain ⟨i, hi, hs⟩ : ∃ i, Try.prog.info? 3 = some i ∧ i.size = 1 := by
    have h := infoInt
    cases hq : Try.prog.info? 3 with
    | none => rw [hq] at h; exact absurd h (by simp)
    | some i => rw [hq] at h; exact ⟨i, rfl, by simp at h; exact h.2.1⟩
  constructor
  · intro W
    have ht := Try.underlying22
    have hel : Try.prog.elem 22 = 3 := by simp [Program.elem, ht]
    have hu : Try.prog.underlying 22 = some (.slice (Try.prog.elem 22)) := by rw [hel]; exact ht
    rw [run_slice_lhm W 22 A l.length c hu .i64 .i64 .i64 (at_ : Int) ((at_ : Int) + (n : Int)) ((at_ : Int) + (n : Int)) (by omega) (by omega) (by omega) (by omega), hel]
    have e1 : ((at_ : Int) + (n : Int)).toNat = at_ + n := by omega
    simp [sizeOf, typeInfo, hi, hs, sliced, Result.andThen, segA, e1]
  · intro W h
    have h1 := Kd.reads_of_C (enc := Value.int .i64) (d := (0 : Int)) (h1 := fun _ => rfl) h
    have h2 := (h1.take_ (at_ + n) hm).drop_ (c := at_ + n) at_ (by omega) (by omega)
    have e : at_ + n - at_ = n := by omega
    rw [e, List.drop_take, e] at h2
    exact Kd.C_of_reads (d := (0 : Int)) (h1 := fun _ => rfl) h2
/-- Where the segment i begins. -/
def startOf (lens : List Int) (x : Int) : Nat := (lens.take x.toNat).foldl (fun s n => s + n.toNat) 0
theorem startOf_zero (lens : List Int) : startOf lens 0 = 0 := rfl
theorem startOf_succ (lens : List Int) (x : Int) (h0 : 0 ≤ x) (hx : x < lens.length) : startOf lens (x + 1) = startOf lens x + (rd lens x).toNat := by
  unfold startOf
  have e : (x + 1).toNat = x.toNat + 1 := by omega
  have hlt : x.toNat < lens.length := by omega
  rw [e, List.take_add_one, List.getElem?_eq_getElem hlt, List.foldl_append]
  simp [rd, hlt]
theorem startOf_mono (lens : List Int) (x : Int) (h0 : 0 ≤ x) (k : Nat) (hx : x + k ≤ lens.length) : startOf lens x ≤ startOf lens (x + k) := by
  induction k with
  | zero => simp
  | succ k ih =>
    have h1 := ih (by omega)
    have h2 := startOf_succ lens (x + k) (by omega) (by omega)
    have e : x + ((k + 1 : Nat) : Int) = x + k + 1 := by omega
    rw [e, h2]; omega
/-- Lengths that fit a list. -/
def okLens (l lens : List Int) : Bool := lens.all (fun n => decide (0 ≤ n)) && (startOf lens lens.length == l.length)
theorem okLens_pos {l lens : List Int} (h : okLens l lens = true) : (∀ n ∈ lens, 0 ≤ n) ∧ startOf lens lens.length = l.length := by
  unfold okLens at h
  rw [Bool.and_eq_true, List.all_eq_true, beq_iff_eq] at h
  exact ⟨fun n hn => by have := h.1 n hn; simpa using this, h.2⟩
theorem rd_seg (l : List Int) (st n k : Nat) (hk : k < n) : rd ((l.drop st).take n) (k : Int) = rd l ((st + k : Nat) : Int) := by
  unfold rd
  rw [Int.toNat_natCast, Int.toNat_natCast, List.getD_eq_getElem?_getD, List.getD_eq_getElem?_getD, List.getElem?_take_of_lt hk, List.getElem?_drop]
theorem startOf_le (lens : List Int) (hw : ∀ n ∈ lens, isWordB n = true) (x : Nat) (hx : x ≤ lens.length) : startOf lens (x : Int) ≤ x * 2147483647 := by
  induction x with
  | zero => simp [startOf]
  | succ x ih =>
    have h1 := ih (by omega)
    have h2 := startOf_succ lens (x : Int) (by omega) (by omega)
    have h3 := hw _ (rd_mem lens (x : Int) (by omega) (by omega))
    simp only [isWordB, Bool.and_eq_true, decide_eq_true_eq] at h3
    rw [show ((x + 1 : Nat) : Int) = (x : Int) + 1 by omega, h2]
    omega
theorem okLens_neg {l lens : List Int} (x : Int) (h0 : 0 ≤ x) (hx : x < lens.length) (h : rd lens x < 0) : okLens l lens = false := by
  unfold okLens
  have : lens.all (fun n => decide (0 ≤ n)) = false := by
    rw [List.all_eq_false]
    exact ⟨_, rd_mem lens x h0 hx, by simp; exact h⟩
  rw [this]
  rfl
theorem okLens_sum {l lens : List Int} (h : ∀ j : Int, 0 ≤ j → j < lens.length → 0 ≤ rd lens j) : okLens l lens = (startOf lens lens.length == l.length) := by
  unfold okLens
  have : lens.all (fun n => decide (0 ≤ n)) = true := by
    rw [List.all_eq_true]
    intro n hn
    obtain ⟨j, hj, rfl⟩ := List.getElem_of_mem hn
    have := h (j : Int) (by omega) (by omega)
    simp only [rd, Int.toNat_natCast, List.getD_eq_getElem?_getD, List.getElem?_eq_getElem hj, Option.getD_some] at this
    simpa using this
  rw [this]
  rfl
/-- What rank.open answers. -/
def openE (l lens : List Int) : Int := if wordsE [l, lens] = 0 then (if okLens l lens then 0 else 6) else wordsE [l, lens]
abbrev ListV (v v2 : Value) : Value := .agg #[v, v2]
def OpenP (v v2 : Value) (E : Int) (e : Ending) : Prop := if E = 0 then e = .returned (.tuple #[ListV v v2, .int .i64 0]) else e = .returned (.tuple #[ListV (.slice none 0 0) (.slice none 0 0), .int .i64 E])
theorem OpenP.yes (v v2 : Value) : OpenP v v2 0 (.returned (.tuple #[ListV v v2, .int .i64 0])) := by unfold OpenP; rw [if_pos rfl]
theorem OpenP.no (v v2 : Value) (E : Int) (h : E ≠ 0) : OpenP v v2 E (.returned (.tuple #[ListV (.slice none 0 0) (.slice none 0 0), .int .i64 E])) := by unfold OpenP; rw [if_neg h]
set_option maxHeartbeats 4000000 in
set_option maxRecDepth 100000 in
theorem rank_open (A : Option Addr) (c : Nat) (l : List Int) (A2 : Option Addr) (c2 : Nat) (lens : List Int) (w : World) (hr : Kd.C (Kd.int .i64) w A l.length l) (hc : l.length ≤ c) (hr2 : Kd.C (Kd.int .i64) w A2 lens.length lens) (hc2 : lens.length ≤ c2) :
    Calls Try.prog 50 #[.slice A l.length c, .slice A2 lens.length c2] w fun e w' => OpenP (.slice A l.length c) (.slice A2 lens.length c2) (openE l lens) e ∧ Below w.heap.size w w' := by
  have HS := Aside0.mk (Sl.of hr hc)
  have HS2 := Aside0.mk (Sl.of hr2 hc2)
  have HR2 := Aside0.mk hr2
  have hml : l.length ≤ 9223372036854775807 := hr.2.1
  clear hr hc hr2 hc2
  have HOe : Aside0 (openE l lens = if wordsE [l, lens] = 0 then (if okLens l lens then 0 else 6) else wordsE [l, lens]) := ⟨rfl⟩
  generalize openE l lens = R at HOe ⊢
  obtain ⟨E, hE⟩ : ∃ E, E = wordsE [l, lens] := ⟨_, rfl⟩
  rw [← hE] at HOe
  have HE := Aside0.mk hE
  clear hE
  by_cases h0 : E = 0
  · rw [if_pos h0] at HOe
    have z1 : (E != 0) = false := bne_eq_false_iff_eq.mpr h0
    have OK := Aside0.mk (wordsE_ok (HE.out.symm.trans h0))
    clear h0
    have hl1 := OK.out.1 l (by simp)
    have hl2 := OK.out.1 lens (by simp)
    go_enter Try.func50, Try.ntmps50
    go_wp2_with fail
    refine (rank_words _ _ [l, lens] _ (lit_rows_at _ _ (by simp) _ _ _ _ rfl (rows_of2 (HS.out.alloc _) (HS2.out.alloc _)) (by simp))).mono ?_
    rw [← HE.out]
    rintro e w2 ⟨rfl, m2, rfl⟩
    go_wp2
    generalize hw3 : ((w.alloc (Obj.cells #[Value.slice none 0 0, Value.slice none 0 0] 49)).alloc (Obj.cells #[Value.slice A l.length c, Value.slice A2 lens.length c2] 22)).drewN m2 = w3
    have k3 : w3.heap[w.heap.size]? = some (.cells #[.slice none 0 0, .slice none 0 0] 49 (0, 0)) := by rw [← hw3]; exact blk_drewN (blk_alloc (blk_new w _) _) _
    have b3 : Below w.heap.size w w3 := by rw [← hw3]; exact pw_below_drewN (below_alloc (below_alloc (Below.refl _ _) _) _) _
    have f0 := blk_frozen k3 0
    have f1 := blk_frozen k3 1
    have c0 := blk_cell k3 0
    have c1 := blk_cell k3 1
    clear hw3
    replace k3 := Aside0.mk k3
    replace b3 := Aside0.mk b3
    go_loop [7, 20] (fun a i => ∃ x : Int, i = .int .i64 x ∧ a = .int .i64 ((startOf lens x : Nat) : Int) ∧ 0 ≤ x ∧ x ≤ lens.length ∧ Aside0 (∀ j : Int, 0 ≤ j → j < x → 0 ≤ rd lens j)) (fun _ i => lens.length - (intOf i).toNat)
    case atStart => exact ⟨0, rfl, rfl, by omega, by omega, ⟨by omega⟩⟩
    case round =>
      obtain ⟨x, rfl, rfl, p0, p1, H0⟩ := hrel
      have hle := startOf_le lens (OK.out.2 lens (by simp)) x.toNat (by omega)
      rw [show ((x.toNat : Nat) : Int) = x by omega] at hle
      by_cases hlt : x < lens.length
      · obtain ⟨ad, e1, hx⟩ := Kd.at_int (Kd.C_below HR2.out b3.out) x p0 hlt
        cases e1
        have hs := startOf_succ lens x p0 hlt
        have hw := OK.out.2 lens (by simp) _ (rd_mem lens x p0 hlt)
        simp only [isWordB, Bool.and_eq_true, decide_eq_true_eq] at hw
        by_cases hneg : rd lens x < 0
        · have hRE : Aside0 (R = 6) := ⟨by rw [HOe.out, okLens_neg x p0 hlt hneg]; rfl⟩
          generalize rd lens x = n at *
          generalize startOf lens x = st at *
          clear hle hs
          go_wp2
          refine bodyPost_ret (results_ct rfl _ _ w.heap.size 49 _ (0, 0) _ rfl (blk_set (blk_set k3.out 0 _) 1 _) Try.underlying49 rfl (by kernel_rfl)) rfl ?_
          refine ⟨?_, (b3.out.setCell (Nat.le_refl _) _).setCell (Nat.le_refl _) _⟩
          rw [hRE.out]
          exact OpenP.no _ _ 6 (by decide)
        · have H1 : Aside0 (0 ≤ rd lens x) := ⟨by omega⟩
          obtain ⟨q, hq⟩ : ∃ q : Nat, rd lens x = q := ⟨(rd lens x).toNat, by omega⟩
          rw [hq] at hx hw hneg hs H1
          rw [Int.toNat_natCast] at hs
          have hx20 : x.toNat * 2147483647 ≤ 2251799812636672 := Nat.le_trans (Nat.mul_le_mul_right _ (show x.toNat ≤ 1048576 by omega)) (by decide)
          have hle2 : startOf lens x ≤ 2251799812636672 := Nat.le_trans hle hx20
          generalize startOf lens x = st at *
          replace hs := Aside0.mk hs
          replace hq := Aside0.mk hq
          clear hle hx20
          go_wp2
          go_round
          case rel => exact ⟨x + 1, rfl, by rw [hs.out]; rfl, by omega, by omega, ⟨fun j h0 h1 => by
            by_cases hj : j < x
            · exact H0.out j h0 hj
            · obtain rfl : j = x := by omega
              rw [hq.out]
              exact H1.out⟩⟩
          case measure => simp [intOf]; omega
      · obtain rfl : x = lens.length := by omega
        have hok := okLens_sum (l := l) (lens := lens) (fun j h0 h1 => H0.out j h0 h1)
        have hx20 : (lens.length : Int).toNat * 2147483647 ≤ 2251799812636672 := Nat.le_trans (Nat.mul_le_mul_right _ (show (lens.length : Int).toNat ≤ 1048576 by omega)) (by decide)
        have hle2 : startOf lens lens.length ≤ 2251799812636672 := Nat.le_trans hle hx20
        generalize startOf lens lens.length = st at *
        clear hle hx20
        by_cases hst : st = l.length
        · have hRE : Aside0 (R = 0) := ⟨by rw [HOe.out, hok, beq_iff_eq.mpr hst]; rfl⟩
          have z : (((st : Nat) : Int) != (l.length : Int)) = false := bne_eq_false_iff_eq.mpr (by omega)
          replace hst := Aside0.mk hst
          clear hok
          go_wp2
          refine bodyPost_ret (results_ct rfl _ _ w.heap.size 49 _ (0, 0) _ rfl (blk_set (blk_set k3.out 0 _) 1 _) Try.underlying49 rfl (by kernel_rfl)) rfl ?_
          refine ⟨?_, (b3.out.setCell (Nat.le_refl _) _).setCell (Nat.le_refl _) _⟩
          rw [hRE.out]
          exact OpenP.yes _ _
        · have hRE : Aside0 (R = 6) := ⟨by rw [HOe.out, hok, beq_eq_false_iff_ne.mpr hst]; rfl⟩
          have z : (((st : Nat) : Int) != (l.length : Int)) = true := bne_iff_ne.mpr (by omega)
          replace hst := Aside0.mk hst
          clear hok
          go_wp2
          refine bodyPost_ret (results_ct rfl _ _ w.heap.size 49 _ (0, 0) _ rfl (blk_set (blk_set k3.out 0 _) 1 _) Try.underlying49 rfl (by kernel_rfl)) rfl ?_
          refine ⟨?_, (b3.out.setCell (Nat.le_refl _) _).setCell (Nat.le_refl _) _⟩
          rw [hRE.out]
          exact OpenP.no _ _ 6 (by decide)
  · rw [if_neg h0] at HOe
    have z1 : (E != 0) = true := bne_iff_ne.mpr h0
    replace h0 := Aside0.mk h0
    go_enter Try.func50, Try.ntmps50
    go_wp2_with fail
    refine (rank_words _ _ [l, lens] _ (lit_rows_at _ _ (by simp) _ _ _ _ rfl (rows_of2 (HS.out.alloc _) (HS2.out.alloc _)) (by simp))).mono ?_
    rw [← HE.out]
    rintro e w2 ⟨rfl, m2, rfl⟩
    go_wp2
    refine bodyPost_ret (results_ct rfl _ _ w.heap.size 49 _ (0, 0) _ rfl (blk_set (blk_set (blk_drewN (blk_alloc (blk_new w _) _) _) 0 _) 1 _) Try.underlying49 rfl (by kernel_rfl)) rfl ?_
    refine ⟨?_, ((pw_below_drewN (below_alloc (below_alloc (Below.refl _ _) _) _) _).setCell (Nat.le_refl _) _).setCell (Nat.le_refl _) _⟩
    rw [HOe.out]
    exact OpenP.no _ _ E h0.out
end Go.Proofs.Ytnkepaenpoadpaa.Hand
/- rank: segments yields where each segment begins, and its words. -/
namespace Go.Proofs.Ytnkepaenpoadpaa.Hand
open Go.RowKit Go.Proofs.YtnkepaenpoadpaaW.PrintWords Go.Proofs.YtnkepaenpoadpaaW.PrintLast Go.Proofs.YtnkepaenpoadpaaW.PrintMore
set_option linter.unusedVariables false
set_option linter.unusedSimpArgs false
theorem store_func (P : Program) (w : World) (a : Addr) (f : Fn) (x y : Array Value) (m : Mode) : (store a (.func f x y) m).run P w = stored P w a (.func f x y) m := run_store P w a _ m rfl
theorem store_nilFunc (P : Program) (w : World) (a : Addr) (m : Mode) : (store a .nilFunc m).run P w = stored P w a .nilFunc m := run_store P w a _ m rfl
/-- What segments yields. -/
def segL (A : Option Addr) (lens : List Int) : List (Array Value) := (List.range lens.length).map fun (i : Nat) => #[.int .i64 ((startOf lens i : Nat) : Int), .slice (segA A (startOf lens i) (rd lens (i : Int)).toNat) (rd lens (i : Int)).toNat (rd lens (i : Int)).toNat]
theorem segL_at (A : Option Addr) (lens : List Int) (x : Int) (h0 : 0 ≤ x) (hx : x < lens.length) : (segL A lens)[x.toNat]? = some #[.int .i64 ((startOf lens x : Nat) : Int), .slice (segA A (startOf lens x) (rd lens x).toNat) (rd lens x).toNat (rd lens x).toNat] := by
  have e : ((x.toNat : Nat) : Int) = x := by omega
  simp only [segL, List.getElem?_map, List.getElem?_range (show x.toNat < lens.length by omega), Option.map_some, e]
theorem segL_length (A : Option Addr) (lens : List Int) : (segL A lens).length = lens.length := by simp [segL]
theorem segL_get {A : Option Addr} {lens : List Int} {i : Nat} {args : Array Value} (h : (segL A lens)[i]? = some args) : i < lens.length ∧ args = #[.int .i64 ((startOf lens i : Nat) : Int), .slice (segA A (startOf lens i) (rd lens (i : Int)).toNat) (rd lens (i : Int)).toNat (rd lens (i : Int)).toNat] := by
  have hi : i < lens.length := by have := (List.getElem?_eq_some_iff.1 h).1; rwa [segL_length] at this
  have e := segL_at A lens (i : Int) (by omega) (by omega)
  rw [Int.toNat_natCast, h] at e
  exact ⟨hi, Option.some.inj e⟩
theorem segL_size (A : Option Addr) (lens : List Int) : ∀ args ∈ segL A lens, args.size = 2 := by
  intro args h
  obtain ⟨i, _, rfl⟩ := List.mem_map.1 h
  rfl
theorem rank_segments (v v2 : Value) (w : World) (A A2 : Option Addr) (n c n2 c2 : Nat) (hv : v = .slice A n c) (hv2 : v2 = .slice A2 n2 c2) :
    Calls Try.prog 58 #[ListV v v2] w fun e w' => e = .returned (.func (.func 69) #[] #[.pointer (some ⟨w.heap.size, 0, none⟩)]) ∧ w' = w.alloc (.cells #[v, v2] 49) := by
  subst hv
  subst hv2
  go_enter Try.func58, Try.ntmps58
  go_wp2
  go_ret
  exact ⟨by simp, rfl⟩
set_option maxHeartbeats 4000000 in
set_option maxRecDepth 100000 in
theorem rank_segments_it (Bx : Nat) (A : Option Addr) (c : Nat) (l : List Int) (A2 : Option Addr) (c2 : Nat) (lens : List Int) (B : Nat) (w0 : World) (hcs : w0.cell? ⟨Bx, 1, none⟩ = some (.slice A2 lens.length c2))
    (hc : l.length ≤ c) (hr2 : ∀ W, Below B w0 W → (Kd.int .i64).C W A2 lens.length lens) (hB : B ≤ w0.heap.size) (hpos : ∀ n ∈ lens, 0 ≤ n) (htot : startOf lens lens.length = l.length) (hbig : l.length ≤ 1048576) :
    IterK Try.prog 69 #[.pointer (some ⟨Bx, 0, none⟩)] (segL A lens) B w0 (fun W => W.cell? ⟨Bx, 0, none⟩ = some (.slice A l.length c)) := by
  intro lp J Jx W hW hK hJ hJx hY h0
  have HK := Aside0.mk hK
  clear hK
  have hm : lens.length ≤ 9223372036854775807 := (hr2 w0 (Below.refl _ _)).2.1
  have hc2 : W.cell? ⟨Bx, 1, none⟩ = some (.slice A2 lens.length c2) := pw_cell_below hW hcs
  have HR := Aside0.mk hr2
  have HW := Aside0.mk (hW.mono hB)
  have HJ := Aside0.mk hJ
  have HY := Aside0.mk hY
  have H0 := Aside0.mk h0
  have HP := Aside0.mk hpos
  have HT := Aside0.mk htot
  have HC := Aside0.mk hc
  have HBg := Aside0.mk hbig
  clear hcs hr2 hJ hY h0 hJx hW hpos htot hc hbig
  refine callsIn_of_wp Try.func69 rfl trivial ?_
  simp only [Try.ntmps69, List.size_toArray, List.length_cons, List.length_nil, Nat.reduceAdd, Nat.reduceSub, Array.replicate_succ, Array.replicate_zero, List.push_toArray, List.append_toArray, List.nil_append, List.cons_append]
  gi_wp2
  gi_loopw [3, 5, 9] (fun a _ i wr => ∃ x : Int, i = .int .i64 x ∧ a = .int .i64 ((startOf lens x : Nat) : Int) ∧ 0 ≤ x ∧ x ≤ lens.length ∧ Aside0 (J x.toNat wr) ∧ Aside0 (Below B w0 wr) ) (fun _ _ i _ => lens.length - (intOf i).toNat)
  case atStart => exact ⟨0, rfl, rfl, by omega, by omega, H0, HW⟩
  case round =>
    obtain ⟨x, rfl, rfl, p0, p1, hj, hb⟩ := hrel
    by_cases hlt : x < lens.length
    · obtain ⟨ad, e1, hx⟩ := Kd.at_int (HR.out _ hb.out) x p0 hlt
      cases e1
      have hn0 := HP.out _ (rd_mem lens x p0 hlt)
      obtain ⟨n, hn⟩ : ∃ n : Nat, rd lens x = n := ⟨(rd lens x).toNat, by omega⟩
      have hs := startOf_succ lens x p0 hlt
      have hmono := startOf_mono lens (x + 1) (by omega) (lens.length - (x + 1).toNat) (by omega)
      rw [show x + 1 + ((lens.length - (x + 1).toNat : Nat) : Int) = lens.length by omega, HT.out, hs, hn, Int.toNat_natCast] at hmono
      rw [hn, Int.toNat_natCast] at hs
      obtain ⟨q1, q2⟩ := seg_slice A c l (startOf lens x) n hmono HC.out
      have hyy := segL_at A lens x p0 hlt
      rw [hn, Int.toNat_natCast] at hyy
      rw [hn] at hx
      obtain ⟨fn, tmps, assign, body, hy, hR⟩ := HY.out _ _ wr hyy hj.out
      have HRd := Aside0.mk hR
      have hbg := HBg.out
      generalize hst : startOf lens x = st at *
      have HS := Aside0.mk hs
      have hsl := q1 wr
      have hc1 := HK.out _ _ hj.out
      clear hR hs q1 q2 hyy hn hn0 hst
      gi_wp2
      refine ⟨rfl, ?_⟩
      refine HRd.out.mono ?_
      rintro e W2 (⟨rfl, hj2, hk⟩ | ⟨rfl, hj2⟩)
      · have e1 : x.toNat + 1 = (x + 1).toNat := by omega
        rw [e1] at hj2
        have h3 := Aside0.mk (hb.out.trans hk)
        replace hj2 := Aside0.mk hj2
        clear hk e1 hsl hy
        gi_wp2
        go_roundw
        case rel => exact ⟨x + 1, rfl, by rw [HS.out]; rfl, by omega, by omega, hj2, h3⟩
        case measure => simp [intOf]; omega
      · replace hj2 := Aside0.mk hj2
        clear hsl hy
        gi_wp2
        refine bodyPost_ret (results_none rfl _ _ _) rfl ?_
        exact ⟨⟨_, rfl⟩, .inr hj2.out⟩
    · have e1 : x.toNat = (segL A lens).length := by rw [segL_length]; omega
      replace e1 := Aside0.mk e1
      gi_wp2
      go_end0
      exact ⟨⟨_, rfl⟩, .inl (by rw [← e1.out]; exact hj.out)⟩
end Go.Proofs.Ytnkepaenpoadpaa.Hand
