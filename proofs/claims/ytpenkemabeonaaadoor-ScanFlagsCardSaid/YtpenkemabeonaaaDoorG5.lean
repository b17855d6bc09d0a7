/- scan.raise: what a tower holds; the operations on a whole tower, one lemma each. -/
import Derived.Test.YtpenkemabeonaaaDoorG4
import Derived.BigRegion
import Derived.Deep.RegionHeld3
namespace Go.Proofs.YtpenkemabeonaaaDoor.Hand
open Go.RowKit Go.Proofs.YtpenkemabeonaaaDoorW.PrintWords Go.Proofs.YtpenkemabeonaaaDoorW.PrintLast Go.Proofs.YtpenkemabeonaaaDoorW.PrintMore
set_option linter.unusedVariables false
set_option linter.unusedSimpArgs false
theorem marksRet {P : Program} {fn : Func} {R : Ending → World → Prop} {a : Act} {w : World} (h : Marks P fn a.tmps R a.defers w) : MarksPost P fn R .ret a w := h
/-- So many neighbours of a level, joined. -/
def halvesTo (op : Int) (l : List Int) : Nat → List Int
  | 0 => []
  | k + 1 => halvesTo op l k ++ [joinI op (rd l ((2 * k : Nat) : Int)) (rd l ((2 * k + 1 : Nat) : Int))]
/-- A level of a tower. -/
def lvlI (op : Int) (l : List Int) : Nat → List Int
  | 0 => l
  | k + 1 => halvesTo op (lvlI op l k) ((lvlI op l k).length / 2)
theorem halvesTo_length (op : Int) (l : List Int) : ∀ k, (halvesTo op l k).length = k
  | 0 => rfl
  | k + 1 => by simp [halvesTo, halvesTo_length op l k]
theorem lvlI_length (op : Int) (l : List Int) (e : Nat) (h : l.length = 2 ^ e) : ∀ k, k ≤ e → (lvlI op l k).length = 2 ^ (e - k)
  | 0, _ => h
  | k + 1, hk => by
    have ih := lvlI_length op l e h k (by omega)
    rw [lvlI, halvesTo_length, ih, show e - k = (e - (k + 1)) + 1 by omega, Nat.pow_succ]
    omega
/-- A tower's cells: its levels up to k, and how many they are. -/
structure TowC (op : Int) (first : List Int) (A : Option Addr) (c g : Nat) (k : Nat) (W : World) (cs : Array Value) : Prop where
  size : cs.size = 22
  many : cs[21]? = some (.int .i64 ((k : Int) + 1))
  base : cs[0]? = some (.slice A first.length c)
  ones : cs.all (·.oneCell') = true
  more : ∀ j, 0 < j → j ≤ k → ∃ v, cs[j]? = some v ∧ (Kd.int .i64).R 3 W g (fun i => g < i) v (lvlI op first j)
theorem ones_set {cs : Array Value} {i : Nat} {v : Value} (h : cs.all (·.oneCell') = true) (hv : v.oneCell' = true) : (cs.setIfInBounds i v).all (·.oneCell') = true := by
  rw [Array.all_eq_true_iff_forall_mem] at h ⊢
  intro x hx
  rcases Array.mem_or_eq_of_mem_setIfInBounds hx with h1 | h1
  · exact h x h1
  · rw [h1]; exact hv
theorem TowC.below {op : Int} {first : List Int} {A : Option Addr} {c g k : Nat} {W W2 : World} {cs : Array Value} (h : TowC op first A c g k W cs) (hb : Below W.heap.size W W2) : TowC op first A c g k W2 cs :=
  ⟨h.size, h.many, h.base, h.ones, fun j h0 h1 => by
    obtain ⟨v, hv, hR⟩ := h.more j h0 h1
    exact ⟨v, hv, Kd.R_below hR hb⟩⟩
theorem TowC.move {op : Int} {first : List Int} {A : Option Addr} {c g k : Nat} {W W2 : World} {cs : Array Value} (h : TowC op first A c g k W cs) (hm : ∀ i, g < i → i < W.heap.size → W2.heap[i]? = W.heap[i]?) : TowC op first A c g k W2 cs :=
  ⟨h.size, h.many, h.base, h.ones, fun j h0 h1 => by
    obtain ⟨v, hv, hR⟩ := h.more j h0 h1
    exact ⟨v, hv, Kd.R_step hR (fun i hi hl => hm i hi hl)⟩⟩
theorem TowC.start {op : Int} {first : List Int} {A : Option Addr} {c g : Nat} {W : World} {cs : Array Value} (h1 : cs.size = 22) (h2 : cs[21]? = some (.int .i64 1)) (h3 : cs.all (·.oneCell') = true) : TowC op first A c g 0 W (cs.setIfInBounds 0 (.slice A first.length c)) :=
  ⟨by simp [h1], by rw [Array.getElem?_setIfInBounds_ne (by decide)]; exact h2, by simp [h1], ones_set h3 rfl, fun j h0 h1 => by omega⟩
theorem TowC.next {op : Int} {first : List Int} {A : Option Addr} {c g k : Nat} {W : World} {cs : Array Value} {v : Value} (h : TowC op first A c g k W cs) (hk : k + 1 ≤ 20) (hR : (Kd.int .i64).R 3 W g (fun i => g < i) v (lvlI op first (k + 1))) :
    TowC op first A c g (k + 1) ((W.setCell ⟨g, k + 1, none⟩ v).setCell ⟨g, 21, none⟩ (.int .i64 ((k : Int) + 1 + 1))) ((cs.setIfInBounds (k + 1) v).setIfInBounds 21 (.int .i64 ((k : Int) + 1 + 1))) := by
  have hs := h.size
  obtain ⟨A1, c1, rfl⟩ := Kd.R_slice hR
  refine ⟨by simp [hs], by simp [hs], ?_, ones_set (ones_set h.ones rfl) rfl, fun j h0 h1 => ?_⟩
  · rw [Array.getElem?_setIfInBounds_ne (by decide), Array.getElem?_setIfInBounds_ne (by omega)]
    exact h.base
  · rw [Array.getElem?_setIfInBounds_ne (by omega)]
    by_cases hj : j = k + 1
    · subst hj
      refine ⟨_, by rw [Array.getElem?_setIfInBounds_self_of_lt (by omega)], Kd.R_far (Kd.R_far hR (fun i hi => ?_) _) (fun i hi => ?_) _⟩
      · show i ≠ g
        omega
      · show i ≠ g
        omega
    · obtain ⟨v2, hv2, hR2⟩ := h.more j h0 (by omega)
      refine ⟨v2, by rw [Array.getElem?_setIfInBounds_ne (by omega)]; exact hv2, Kd.R_far (Kd.R_far hR2 (fun i hi => ?_) _) (fun i hi => ?_) _⟩
      · show i ≠ g
        omega
      · show i ≠ g
        omega
section
variable {ops : Array Oper} {rest : List Oper} {o : Oper} {a : Act} {Q : Exit → Act → World → Prop} {W : World}
def towZero : Array Value := Array.replicate 21 (.slice none 0 0) ++ #[.int .i64 0]
set_option maxRecDepth 100000 in
theorem run_towAlloc (ρ : Operand → Value) (o : Oper) (ho : o.op = .alloc 81) (W : World) : (execOp ρ o).run Tryd.prog W = .ok (.value (.pointer (some ⟨W.heap.size, 0, none⟩))) (W.alloc (.cells towZero 81 (0, 0))) := by
  unfold execOp
  rw [ho]
  rfl
theorem tow_alloc (N : Tmp) (hgd : o.guard = none) (hd : o.dst = some N) (ho : o.op = .alloc 81) (n : Nat) (hn : W.heap.size = n)
    (h : ∀ W1, W1.heap[n]? = some (.cells towZero 81 (0, 0)) → Below n W W1 → W1.heap.size = n + 1 → wpList Tryd.prog ops Q rest (a.put o.dst (.pointer (some ⟨n, 0, none⟩))) W1) :
    wpList Tryd.prog ops Q (o :: rest) a W := by
  subst hn
  refine Kd.event_run hgd (run_towAlloc _ o ho W) ?_
  exact h _ (blk_new W _) (below_alloc (Below.refl _ _) _) (by simp)
def towOne : Array Value := Array.replicate 21 (.slice none 0 0) ++ #[.int .i64 1]
theorem ones_one : towOne.all (·.oneCell') = true := by kernel_rfl
theorem built_tow : Tryd.prog.built 81 [(1, .int .i64 1)] = some towOne := by kernel_rfl
theorem tow_build (M : Tmp) (hgd : o.guard = none) (hd : o.dst = some M) (ho : o.op = .build 81 #[(1, .const (.int .i64 1))])
    (h : ∀ cs : Array Value, cs.size = 22 → cs[21]? = some (.int .i64 1) → cs.all (·.oneCell') = true → wpList Tryd.prog ops Q rest (a.put o.dst (.agg cs)) W) : wpList Tryd.prog ops Q (o :: rest) a W := by
  have e : ((#[(1, Operand.const (.int .i64 1))] : Array (Nat × Operand)).map fun (i, x) => (i, a.eval x)).toList = [(1, .int .i64 1)] := by simp [Act.eval]
  refine wpList_build hgd _ _ ho (by rw [e, built_tow]; rfl) ?_
  rw [e, built_tow]
  exact h _ rfl rfl ones_one
theorem infoTow : (Tryd.prog.info? 81).map (·.size) = some 22 := by kernel_rfl
theorem tow_store (N M : Tmp) (hgd : o.guard = none) (hd : o.dst = none) (ho : o.op = .store 81 (.tmp N) (.tmp M)) (g : Nat) (cells old : Array Value) (hx : a.eval (.tmp N) = .pointer (some ⟨g, 0, none⟩)) (hy : a.eval (.tmp M) = .agg cells)
    (hg : W.heap[g]? = some (.cells old 81 (0, 0))) (h0 : old.size = 22) (h2 : cells.size = 22) (h1 : cells.all (·.oneCell') = true)
    (h : ∀ W1, W1.heap[g]? = some (.cells cells 81 (0, 0)) → (∀ k, k ≠ g → W1.heap[k]? = W.heap[k]?) → W1.heap.size = W.heap.size → (∀ B w0, B ≤ g → Below B w0 W → Below B w0 W1) → wpList Tryd.prog ops Q rest a W1) :
    wpList Tryd.prog ops Q (o :: rest) a W := by
  refine wpList_store_row hgd _ _ _ ho g cells hx hy _ old hg (by rw [h2]; exact infoTow) (by rw [h0, h2]) h1 ?_
  rw [hd]
  exact h _ (setRow_heap W g old cells _ _ hg) (fun k hk => setRow_other W g k cells hk) (size_setRow W g cells) (fun B w0 hB hb => ⟨hb.os, hb.tape, hb.output, by rw [size_setRow]; exact hb.size, fun k hk => (setRow_other W g k cells (by omega)).trans (hb.block k hk)⟩)
theorem tow_load (N M : Tmp) (hgd : o.guard = none) (hd : o.dst = some M) (ho : o.op = .load 81 (.tmp N)) (g : Nat) (cells : Array Value) (hx : a.eval (.tmp N) = .pointer (some ⟨g, 0, none⟩))
    (hg : W.heap[g]? = some (.cells cells 81 (0, 0))) (h0 : cells.size = 22)
    (h : wpList Tryd.prog ops Q rest (a.put o.dst (.agg cells)) W) : wpList Tryd.prog ops Q (o :: rest) a W := by
  refine wpList_load_row hgd _ _ ho g hx _ cells _ _ hg Tryd.underlying81 rfl (by rw [h0]; exact infoTow) ?_
  exact h
end
/-- The world while a tower is raised: its levels up to k. -/
structure RaiSt (w : World) (op nn : Int) (O bJ r g : Nat) (first : List Int) (A : Option Addr) (c : Nat) (k : Nat) (W : World) : Prop where
  st : BlkSt w op nn O bJ W
  hfirst : Kd.C (Kd.int .i64) w A first.length first
  low : w.heap.size ≤ bJ
  bjr : bJ < r
  rg : r < g
  old : O < w.heap.size
  res : ∃ z, W.heap[r]? = some (.cells z 81 (0, 0)) ∧ z.size = 22
  tow : ∃ cs, W.heap[g]? = some (.cells cs 81 (0, 0)) ∧ TowC op first A c g k W cs
theorem RaiSt.next {w : World} {op nn : Int} {O bJ r g : Nat} {first : List Int} {A : Option Addr} {c k : Nat} {W W2 : World} (h : RaiSt w op nn O bJ r g first A c k W) (hb : Below W.heap.size W W2) : RaiSt w op nn O bJ r g first A c k W2 := by
  obtain ⟨z, hz, hs⟩ := h.res
  obtain ⟨cs, hc, ht⟩ := h.tow
  exact ⟨h.st.next hb, h.hfirst, h.low, h.bjr, h.rg, h.old, ⟨z, blk_below hz hb, hs⟩, ⟨cs, blk_below hc hb, ht.below hb⟩⟩
theorem RaiSt.level {w : World} {op nn : Int} {O bJ r g : Nat} {first : List Int} {A : Option Addr} {c k : Nat} {W : World} (h : RaiSt w op nn O bJ r g first A c k W) {j : Nat} (hj : j ≤ k) :
    ∃ A1 c1, W.cell? ⟨g, j, none⟩ = some (.slice A1 (lvlI op first j).length c1) ∧ Kd.C (Kd.int .i64) W A1 (lvlI op first j).length (lvlI op first j) := by
  obtain ⟨cs, hc, ht⟩ := h.tow
  by_cases h0 : j = 0
  · subst h0
    exact ⟨A, c, (blk_cell hc 0).trans ht.base, Kd.C_below h.hfirst h.st.below⟩
  · obtain ⟨v, hv, hR⟩ := ht.more j (by omega) hj
    obtain ⟨A1, c1, rfl⟩ := Kd.R_slice hR
    exact ⟨A1, c1, (blk_cell hc j).trans hv, (Kd.R_reads' hR).2.2⟩
theorem RaiSt.up {w : World} {op nn : Int} {O bJ r g : Nat} {first : List Int} {A : Option Addr} {c k : Nat} {W : World} {v : Value} (h : RaiSt w op nn O bJ r g first A c k W) (hk : k + 1 ≤ 20) (hR : (Kd.int .i64).R 3 W g (fun i => g < i) v (lvlI op first (k + 1))) :
    RaiSt w op nn O bJ r g first A c (k + 1) ((W.setCell ⟨g, k + 1, none⟩ v).setCell ⟨g, 21, none⟩ (.int .i64 ((k : Int) + 1 + 1))) := by
  obtain ⟨z, hz, hs⟩ := h.res
  obtain ⟨cs, hc, ht⟩ := h.tow
  have hlow := h.low
  have hbr := h.bjr
  have hrg := h.rg
  have hold := h.old
  have far : ∀ i, i ≠ g → ((W.setCell ⟨g, k + 1, none⟩ v).setCell ⟨g, 21, none⟩ (.int .i64 ((k : Int) + 1 + 1))).heap[i]? = W.heap[i]? := fun i hi => (heap_setCell_other _ _ i _ hi).trans (heap_setCell_other _ _ i _ hi)
  have hb : Below w.heap.size w ((W.setCell ⟨g, k + 1, none⟩ v).setCell ⟨g, 21, none⟩ (.int .i64 ((k : Int) + 1 + 1))) := below_set (below_set h.st.below (by show w.heap.size ≤ g; omega) _) (by show w.heap.size ≤ g; omega) _
  exact ⟨⟨hb, (far _ (by omega)).trans h.st.jn, (far _ (by omega)).trans h.st.opAt⟩, h.hfirst, hlow, hbr, hrg, hold, ⟨z, (far _ (by omega)).trans hz, hs⟩, ⟨_, blk_set (blk_set hc _ _) _ _, ht.next hk hR⟩⟩
theorem RaiSt.start {w : World} {op nn : Int} {O : Nat} {first : List Int} {A : Option Addr} {c : Nat} {W0 W1 W2 W3 : World} {cs : Array Value} (hO : OpAt w O op nn) (hr : Kd.C (Kd.int .i64) w A first.length first)
    (hj : W0.heap[w.heap.size]? = some (.cells #[.int .i64 op, .int .i64 nn, .func (.func 77) #[] #[.pointer (some ⟨O, 0, none⟩)]] 70 (0, 0))) (h0 : Below w.heap.size w W0) (s0 : W0.heap.size = w.heap.size + 1)
    (h1 : W1.heap[w.heap.size + 1]? = some (.cells towZero 81 (0, 0))) (b1 : Below (w.heap.size + 1) W0 W1) (s1 : W1.heap.size = w.heap.size + 1 + 1)
    (b2 : Below (w.heap.size + 1 + 1) W1 W2) (h3 : W3.heap[w.heap.size + 1 + 1]? = some (.cells cs 81 (0, 0))) (f3 : ∀ k, k ≠ w.heap.size + 1 + 1 → W3.heap[k]? = W2.heap[k]?) (b3 : Below w.heap.size w W2 → Below w.heap.size w W3)
    (c1 : cs.size = 22) (c2 : cs[21]? = some (.int .i64 1)) (c3 : cs.all (·.oneCell') = true) :
    RaiSt w op nn O w.heap.size (w.heap.size + 1) (w.heap.size + 1 + 1) first A c 0 (W3.setCell ⟨w.heap.size + 1 + 1, 0, none⟩ (.slice A first.length c)) := by
  have hold := blk_lt hO
  have far : ∀ i, i ≠ w.heap.size + 1 + 1 → (W3.setCell ⟨w.heap.size + 1 + 1, 0, none⟩ (.slice A first.length c)).heap[i]? = W2.heap[i]? := fun i hi => (heap_setCell_other _ _ i _ hi).trans (f3 i hi)
  have hW2 : Below w.heap.size w W2 := (h0.trans (b1.mono (by omega))).trans (b2.mono (by omega))
  have hb : Below w.heap.size w (W3.setCell ⟨w.heap.size + 1 + 1, 0, none⟩ (.slice A first.length c)) := below_set (b3 hW2) (by show w.heap.size ≤ w.heap.size + 1 + 1; omega) _
  refine ⟨⟨hb, ?_, ?_⟩, hr, Nat.le_refl _, by omega, by omega, hold, ⟨towZero, ?_, rfl⟩, ⟨_, blk_set h3 _ _, TowC.start c1 c2 c3⟩⟩
  · rw [far _ (by omega), b2.block _ (by omega), b1.block _ (by omega)]
    exact hj
  · exact (hb.block _ hold).trans hO
  · rw [far _ (by omega), b2.block _ (by omega)]
    exact h1
end Go.Proofs.YtpenkemabeonaaaDoor.Hand
/- scan.raise: the walk. -/
namespace Go.Proofs.YtpenkemabeonaaaDoor.Hand
open Go.RowKit Go.Proofs.YtpenkemabeonaaaDoorW.PrintWords Go.Proofs.YtpenkemabeonaaaDoorW.PrintLast Go.Proofs.YtpenkemabeonaaaDoorW.PrintMore
set_option linter.unusedVariables false
set_option linter.unusedSimpArgs false
attribute [local go_sem] store_func store_nilFunc
set_option maxHeartbeats 2000000 in
set_option maxRecDepth 100000 in
theorem scan_raise.run (op nn : Int) (O : Nat) (A : Option Addr) (c : Nat) (l : List Int) (e : Nat) (w : World) (hT : Tabs w) (hO : OpAt w O op nn) (hr : Kd.C (Kd.int .i64) w A l.length l) (he : l.length = 2 ^ e) (h20 : e ≤ 20) :
    Calls Tryd.prog 60 #[JV op nn O, .slice A l.length c] w fun en w' => ∃ cs g, en = .returned (.agg cs) ∧ w.heap.size ≤ g ∧ TowC op l A c g e w' cs ∧ Below w.heap.size w w' := by
  have HT := Aside0.mk hT
  have HO := Aside0.mk hO
  have HR := Aside0.mk hr
  have HE := Aside0.mk he
  have hold := blk_lt hO
  have hmax : l.length ≤ 9223372036854775807 := hr.2.1
  clear hT hO hr he
  refine calls_of_marks Tryd.func60 rfl ?_
  simp only [Tryd.ntmps60, List.size_toArray, List.length_cons, List.length_nil, Nat.reduceAdd, Nat.reduceSub, Array.replicate_succ, Array.replicate_zero, List.push_toArray, List.append_toArray, List.nil_append, List.cons_append]
  have hj0 := Aside0.mk (blk_new w (Obj.cells #[.int .i64 op, .int .i64 nn, .func (.func 77) #[] #[.pointer (some ⟨O, 0, none⟩)]] 70))
  have hb0 := Aside0.mk (below_alloc (Below.refl w.heap.size w) (Obj.cells #[.int .i64 op, .int .i64 nn, .func (.func 77) #[] #[.pointer (some ⟨O, 0, none⟩)]] 70))
  go_wp2_with ((with_reducible refine tow_alloc 4 rfl rfl rfl (w.heap.size + 1) (by simp) ?_); intro W1 h1 b1 s1; replace h1 := Aside0.mk h1; replace b1 := Aside0.mk b1; replace s1 := Aside0.mk s1)
  simp only [Act.put, List.setIfInBounds_toArray, List.set_cons_zero, List.set_cons_succ]
  go_step3
  go_wp2_with (first
    | ((with_reducible refine tow_alloc 5 rfl rfl rfl (w.heap.size + 1 + 1) (by exact s1.out) ?_); intro W2 h2 b2 s2; replace h2 := Aside0.mk h2; replace b2 := Aside0.mk b2; replace s2 := Aside0.mk s2)
    | ((with_reducible refine tow_build 10 rfl rfl rfl ?_); intro c1 k1 k2 k3; replace k1 := Aside0.mk k1; replace k2 := Aside0.mk k2; replace k3 := Aside0.mk k3)
    | ((with_reducible refine gate_store (t := 81) (p := 5) (v := .tmp 10) rfl ?_); refine tow_store 5 10 rfl rfl rfl (w.heap.size + 1 + 1) c1 towZero (by rfl) (by rfl) h2.out rfl k1.out k3.out ?_; intro W3 h3 f3 s3 b3; obtain ⟨x0, hx0⟩ : ∃ x, c1[0]? = some x := ⟨_, Array.getElem?_eq_getElem (by rw [k1.out]; decide)⟩; have c0 := (blk_cell h3 0).trans hx0; clear hx0; have f0 := blk_frozen h3 0; replace h3 := Aside0.mk h3; replace f3 := Aside0.mk f3; replace b3 := Aside0.mk b3; replace s3 := Aside0.mk s3))
  have hst := Aside0.mk (RaiSt.start (c := c) HO.out HR.out hj0.out hb0.out (by simp) h1.out b1.out s1.out b2.out h3.out f3.out (b3.out _ _ (by omega)) k1.out k2.out k3.out)
  clear hj0 hb0 h1 b1 s1 h2 b2 s2 h3 f3 b3 s3 k1 k2 k3
  generalize W3.setCell _ _ = W4 at *
  go_step3
  go_wp2
  go_loopw [14] (fun i W => ∃ k : Nat, i = .int .i64 (k : Int) ∧ k ≤ e ∧ Aside0 (RaiSt w op nn O w.heap.size (w.heap.size + 1) (w.heap.size + 1 + 1) l A c k W)) (fun i _ => e + 1 - (intOf i).toNat)
  case atStart => exact ⟨0, rfl, by omega, hst⟩
  case round =>
    revert wr
    intro wo hrel
    obtain ⟨k, rfl, hk, hs⟩ := hrel
    have hlen := lvlI_length op l e HE.out k hk
    obtain ⟨A1, l1, hc1, hC1⟩ := hs.out.level (Nat.le_refl k)
    by_cases hke : k = e
    · subst hke
      rw [Nat.sub_self, Nat.pow_zero] at hlen
      rw [hlen] at hc1
      clear hlen
      obtain ⟨cs, hcs, htc⟩ := hs.out.tow
      obtain ⟨z, hz, hzs⟩ := hs.out.res
      have htc := Aside0.mk htc
      have hcs := Aside0.mk hcs
      have hz := Aside0.mk hz
      have hzs := Aside0.mk hzs
      have hb := Aside0.mk hs.out.st.below
      clear hs hC1
      by_cases h2 : k < 20
      all_goals go_wp2_with (first
        | ((with_reducible refine gate_ (.load 81 (.tmp 5)) rfl ?_); refine tow_load 5 58 rfl rfl rfl (w.heap.size + 1 + 1) cs (by rfl) hcs.out htc.out.size ?_)
        | ((with_reducible refine gate_store (t := 81) (p := 4) (v := .tmp 58) rfl ?_); refine tow_store 4 58 rfl rfl rfl (w.heap.size + 1) cs z (by rfl) (by rfl) hz.out hzs.out htc.out.size htc.out.ones ?_; intro W5 h5 f5 s5 b5; replace h5 := Aside0.mk h5; replace f5 := Aside0.mk f5; replace b5 := Aside0.mk b5; replace s5 := Aside0.mk s5))
      all_goals
        (rw [Exit.noGoto_ret]
         refine marksRet ?_
         simp only [Act.put, List.setIfInBounds_toArray, List.set_cons_zero, List.set_cons_succ]
         refine Marks.zero _ (results_cell_row rfl _ _ (w.heap.size + 1) 81 cs (0, 0) _ (by rfl) h5.out Tryd.underlying81 rfl (by rw [htc.out.size]; exact infoTow)) ?_
         exact ⟨cs, w.heap.size + 1 + 1, rfl, by omega, htc.out.move (fun i hi _ => f5.out i (by omega)), b5.out _ _ (by omega) hb.out⟩)
    · obtain ⟨m, hn, hm0, hm1⟩ : ∃ m, (lvlI op l k).length = 2 * m ∧ 0 < m ∧ m ≤ 524288 := by
        refine ⟨2 ^ (e - (k + 1)), ?_, Nat.pos_of_ne_zero (by simp), ?_⟩
        · rw [hlen, show e - k = (e - (k + 1)) + 1 by omega, Nat.pow_succ, Nat.mul_comm]
        · exact Nat.le_trans (Nat.pow_le_pow_right (by decide) (show e - (k + 1) ≤ 19 by omega)) (by decide)
      have hup : Aside0 (lvlI op l (k + 1) = halvesTo op (lvlI op l k) m) := ⟨by rw [lvlI, hn, show 2 * m / 2 = m by omega]⟩
      clear hlen
      have hC1 := Aside0.mk hC1
      generalize lvlI op l k = x at *
      have hgl : w.heap.size + 1 + 1 < wo.heap.size := by
        obtain ⟨_, hcs0, _⟩ := hs.out.tow
        exact blk_lt hcs0
      have hn := Aside0.mk hn
      generalize x.length = n at *
      have h2 : k < 20 := by omega
      have hn1 : ((n : Int) == 1) = false := by rw [beq_eq_false_iff_ne]; have := hn.out; omega
      go_wp2
      go_loopw [8, 27] (fun v i W => ∃ q : Nat, i = .int .i64 (q : Int) ∧ q ≤ m ∧ Aside0 (Below wo.heap.size wo W) ∧ Aside0 ((Kd.int .i64).R 3 W wo.heap.size (fun b => wo.heap.size ≤ b) v (halvesTo op x q))) (fun _ i _ => m - (intOf i).toNat)
      case atStart => exact ⟨0, rfl, by omega, ⟨Below.refl _ _⟩, ⟨Kd.R_nil _ _ _ _ _⟩⟩
      case round =>
        obtain ⟨q, rfl, hq, hb, hR⟩ := hrel
        have hs2 := Aside0.mk (hs.out.next hb.out)
        by_cases hqm : q < m
        · obtain ⟨p, hp⟩ : ∃ p, p = 2 * q := ⟨_, rfl⟩
          have hwq : IntKind.i64.wrap (2 * (q : Int)) = (p : Int) := by rw [i64_w]; unfold wrap64; omega
          have hwr : IntKind.i64.wrap ((p : Int) + 1) = ((p + 1 : Nat) : Int) := by rw [i64_w]; unfold wrap64; omega
          have hp3 : p < 2 * m := by omega
          have hp4 : p + 1 < 2 * m := by omega
          obtain ⟨ad1, e1, hx1⟩ := Kd.at_int hC1.out (p : Int) (by omega) (by omega)
          obtain ⟨ad2, e2, hx2⟩ := Kd.at_int hC1.out ((p + 1 : Nat) : Int) (by omega) (by omega)
          have e3 := e1.symm.trans e2
          cases e3
          cases e1
          clear e2
          rw [Int.toNat_natCast] at hx1 hx2
          have hh : Aside0 (halvesTo op x (q + 1) = halvesTo op x q ++ [joinI op (rd x (p : Int)) (rd x ((p + 1 : Nat) : Int))]) := ⟨by rw [hp]; rfl⟩
          have hhl : (halvesTo op x q).length + 1 ≤ 2097152 := by rw [halvesTo_length]; omega
          have HJ : Aside0 (∀ W, BlkSt w op nn O w.heap.size W → Calls Tryd.prog 77 #[.int .i64 (rd x (p : Int)), .int .i64 (rd x ((p + 1 : Nat) : Int)), .pointer (some ⟨O, 0, none⟩)] W fun e W' => e = .returned (.int .i64 (joinI op (rd x (p : Int)) (rd x ((p + 1 : Nat) : Int)))) ∧ Below W.heap.size W W') := ⟨fun W hW => joiner_by op nn _ _ O W hW.opAt (HT.out.below hW.below).deeds⟩
          generalize joinI op (rd x (p : Int)) (rd x ((p + 1 : Nat) : Int)) = jj at *
          generalize rd x (p : Int) = a1 at *
          generalize rd x ((p + 1 : Nat) : Int) = a2 at *
          generalize halvesTo op x q = ys at *
          replace hhl := Aside0.mk hhl
          rw [show ad1.add (p + 1) = ⟨ad1.block, ad1.off + (p + 1), none⟩ by simp [Addr.add]] at hx2
          have HS : Aside0 (∀ W, Below wo.heap.size wo W → W.cell? ⟨w.heap.size, 2, none⟩ = some (.func (.func 77) #[] #[.pointer (some ⟨O, 0, none⟩)]) ∧ W.cell? (ad1.add p) = some (.int .i64 a1) ∧ W.cell? ⟨ad1.block, ad1.off + (p + 1), none⟩ = some (.int .i64 a2)) :=
            ⟨fun W hW => ⟨pw_cell_below hW (blk_cell hs.out.st.jn 2), pw_cell_below hW hx1, pw_cell_below hW hx2⟩⟩
          have hhp := Aside0.mk hp
          clear hx1 hx2 hp
          go_wp2
          refine wp_region_any (by kernel_rfl) ?_
          change wpAny _ _ _ _ _ _ _ wr.drew
          have hb2d : Below wo.heap.size wo wr.drew := hb.out.trans (below_drew (Below.refl _ _))
          have hszd : wo.heap.size ≤ wr.drew.heap.size := hb2d.size
          refine region_anyI (fun W => W.cell? ⟨w.heap.size, 2, none⟩ = some (.func (.func 77) #[] #[.pointer (some ⟨O, 0, none⟩)]) ∧ W.cell? (ad1.add p) = some (.int .i64 a1) ∧ W.cell? ⟨ad1.block, ad1.off + (p + 1), none⟩ = some (.int .i64 a2)) [0, 1, 2, 3, 4, 5, 6, 7, 8, 9, 10, 11, 12, 13] [14, 15, 16, 17] [17] (by kernel_rfl) (by kernel_rfl) (by kernel_rfl) (by kernel_rfl) rfl (fun _ _ _ h => h) (HS.out _ hb2d) ?_
          iterate 14 refine ReadsI.step _ rfl rfl (fun W hW => by obtain ⟨k1, k2, k3⟩ := hW; go_simp; first | rfl | done | (rw [if_pos (by omega)])) ?_
          change TailL _ _ _ _ _ _ _
          refine TailL.call rfl rfl (by go_simp) (HJ.out wr.drew (hs2.out.st.next (below_drew (Below.refl _ _)))) ?_
          rintro en w4 ⟨rfl, hb4⟩
          have hB4 : Below wo.heap.size wo w4 := hb2d.trans (hb4.mono hszd)
          refine ⟨_, rfl, fun _ => HS.out _ hB4, ?_⟩
          refine TailL.val rfl rfl (by go_simp; first | rfl | exact ⟨rfl, rfl⟩) (fun _ => HS.out _ (hB4.alloc hB4.size _)) ?_
          refine TailL.append 22 3 wo.heap.size (.tmp 30) (.tmp 45) u8 ys jj (fun k_ => wo.heap.size ≤ k_) rfl rfl rfl Tryd.underlying22 infoInt (by go_simp; first | rfl | done) (by go_simp; first | rfl | done) (fun k_ hk => Nat.le_trans hB4.size hk) (Kd.R_below (Kd.R_drew hR.out) hb4) hB4.size (by have := hhl.out; omega) ?_
          intro v6 w6 ho hb6 hg hat
          have hB6 : Below wo.heap.size wo w6 := hB4.trans hb6
          refine ⟨fun _ => HS.out _ hB6, ?_⟩
          replace ho := Aside0.mk ho
          replace hB6 := Aside0.mk hB6
          clear hg hat hb6 hb4 hB4 hb2d hszd
          refine TailL.val rfl rfl (by go_simp; first | rfl | exact ⟨rfl, rfl⟩) (fun h => absurd rfl h) ?_
          unfold TailL
          simp only [List.getElem_toArray, List.getElem_cons_succ, List.getElem_cons_zero, Act.put, List.setIfInBounds_toArray, List.set_cons_zero, List.set_cons_succ]
          go_wp2
          go_roundw
          case rel => exact ⟨q + 1, by simp, by omega, hB6, ⟨by rw [hh.out]; exact ho.out⟩⟩
          case measure => simp [intOf]; omega
        · obtain rfl : q = m := by omega
          obtain ⟨A6, c6, rfl⟩ := Kd.R_slice hR.out
          obtain ⟨cs, hcs, htc⟩ := hs2.out.tow
          obtain ⟨x1, hx1⟩ : ∃ x1, cs[k + 1]? = some x1 := ⟨_, Array.getElem?_eq_getElem (by rw [htc.size]; omega)⟩
          have c21 : wr.cell? ⟨w.heap.size + 1 + 1, 21, none⟩ = some (.int .i64 ((k : Int) + 1)) := (blk_cell hcs 21).trans htc.many
          have ck1 : wr.cell? ⟨w.heap.size + 1 + 1, k + 1, none⟩ = some x1 := (blk_cell hcs (k + 1)).trans hx1
          have fk1 : wr.frozen? ⟨w.heap.size + 1 + 1, k + 1, none⟩ = false := blk_frozen hcs (k + 1)
          have hset := blk_set hcs (k + 1) (.slice A6 (halvesTo op x q).length c6)
          have c22 : (wr.setCell ⟨w.heap.size + 1 + 1, k + 1, none⟩ (.slice A6 (halvesTo op x q).length c6)).cell? ⟨w.heap.size + 1 + 1, 21, none⟩ = some (.int .i64 ((k : Int) + 1)) := by
            rw [blk_cell hset 21, Array.getElem?_setIfInBounds_ne (by omega)]
            exact htc.many
          have f22 : (wr.setCell ⟨w.heap.size + 1 + 1, k + 1, none⟩ (.slice A6 (halvesTo op x q).length c6)).frozen? ⟨w.heap.size + 1 + 1, 21, none⟩ = false := blk_frozen hset 21
          clear hx1 hcs htc hset
          go_wp2
          go_roundw
          case rel => exact ⟨k + 1, by simp, by omega, ⟨hs2.out.up (by omega) (by rw [hup.out]; exact Kd.R_mono (Kd.R_lower hR.out (Nat.le_of_lt hgl)) (fun i hi => Nat.lt_of_lt_of_le hgl hi))⟩⟩
          case measure => simp [intOf]; omega
end Go.Proofs.YtpenkemabeonaaaDoor.Hand
/- scan.Levels: what it computes; what its walk needs. -/
namespace Go.Proofs.YtpenkemabeonaaaDoor.Hand
open Go.RowKit Go.Proofs.YtpenkemabeonaaaDoorW.PrintWords Go.Proofs.YtpenkemabeonaaaDoorW.PrintLast Go.Proofs.YtpenkemabeonaaaDoorW.PrintMore
set_option linter.unusedVariables false
set_option linter.unusedSimpArgs false
/-- How often 1 is doubled, until it is no less than a length. -/
def lvE (n : Nat) : Nat := if n ≤ 1 then 0 else Nat.log2 (n - 1) + 1
theorem lvE_le (n : Nat) : n ≤ 2 ^ lvE n := by
  unfold lvE
  split
  · simpa using ‹n ≤ 1›
  · have := @Nat.lt_log2_self (n - 1)
    omega
theorem lvE_lt {n e : Nat} (h : e < lvE n) : 2 ^ e < n := by
  unfold lvE at h
  split at h
  · omega
  · have h1 := Nat.log2_self_le (n := n - 1) (by omega)
    have h2 : 2 ^ e ≤ 2 ^ (n - 1).log2 := Nat.pow_le_pow_right (by decide) (by omega)
    omega
theorem lvE_20 {n : Nat} (h : n ≤ 1048576) : lvE n ≤ 20 := by
  rcases Nat.lt_or_ge 20 (lvE n) with h1 | h1
  · have := lvE_lt h1
    omega
  · exact h1
theorem lvE_is {n e : Nat} (h1 : n ≤ 2 ^ e) (h2 : e ≤ lvE n) : e = lvE n := by
  rcases Nat.lt_or_ge e (lvE n) with h | h
  · have := lvE_lt h
    omega
  · omega
/-- The lowest level: the list, filled up. -/
def lvFirst (nn : Int) (l : List Int) : List Int := l ++ List.replicate (2 ^ lvE l.length - l.length) nn
theorem lvFirst_length (nn : Int) (l : List Int) : (lvFirst nn l).length = 2 ^ lvE l.length := by
  have := lvE_le l.length
  unfold lvFirst
  rw [List.length_append, List.length_replicate]
  omega
/-- So many levels. -/
def lvsI (op : Int) (first : List Int) (k : Nat) : List (List Int) := (List.range k).map (lvlI op first)
theorem lvsI_succ (op : Int) (first : List Int) (k : Nat) : lvsI op first (k + 1) = lvsI op first k ++ [lvlI op first k] := by
  unfold lvsI
  rw [List.range_succ, List.map_append]
  rfl
theorem lvsI_length (op : Int) (first : List Int) (k : Nat) : (lvsI op first k).length = k := by simp [lvsI]
def scan_Levels.g (op : Int) (l : List Int) : List (List Int) × Int :=
  if (neutG op).2 = 0 then (if wsE l = 0 then (lvsI op (lvFirst (neutG op).1 l) (lvE l.length + 1), 0) else ([], wsE l)) else ([], (neutG op).2)
abbrev kL : Kd (List Int) := Kd.slice 3 (Kd.int .i64)
/-- A list of lists is returned, in new memory, and an error. -/
def RetL (w : World) (R : List (List Int) × Int) (e : Ending) (w' : World) : Prop := ∃ v, e = .returned (.tuple #[v, .int .i64 R.2]) ∧ Kd.V kL 22 w' w.heap.size (fun k => w.heap.size ≤ k) v R.1 ∧ Below w.heap.size w w'
theorem RetL.nil {w w' : World} (E : Int) (h : Below w.heap.size w w') : RetL w ([], E) (.returned (.tuple #[.slice none 0 0, .int .i64 E])) w' := ⟨_, rfl, Kd.V_nil _ _ _ _ _, h⟩
theorem infoSl : (Tryd.prog.info? 22).map (fun i => (i.zero, i.size, i.bytes)) = some (some (.slice none 0 0), 1, 24) := by kernel_rfl
/-- The levels that a tower's cells lead to, where a call that began in w may look at them. -/
def LevF (w : World) (op : Int) (first : List Int) (k : Nat) (W : World) (cs : Array Value) : Prop :=
  ∀ j, j ≤ k → ∃ A c, cs[j]? = some (.slice A (lvlI op first j).length c) ∧ (lvlI op first j).length ≤ c ∧ c ≤ 9223372036854775807 ∧ Kd.F (Kd.int .i64) W (fun q => w.heap.size ≤ q ∧ q < W.heap.size) A (lvlI op first j).length (lvlI op first j)
theorem LevF.of {w W0 W : World} {op : Int} {first : List Int} {A : Option Addr} {c g k : Nat} {cs : Array Value} (h : TowC op first A c g k W cs) (hb : Below W0.heap.size W0 W) (hg : W0.heap.size ≤ g) (hw : w.heap.size ≤ W0.heap.size)
    (h0 : (Kd.int .i64).R 3 W0 w.heap.size (fun q => w.heap.size ≤ q) (.slice A first.length c) first) : LevF w op first k W cs := by
  intro j hj
  by_cases hz : j = 0
  · subst hz
    have hR := Kd.R_below h0 hb
    exact ⟨A, c, h.base, (Kd.R_reads' hR).2.1, R_cap hR, Kd.F_bound (Kd.R_F hR)⟩
  · obtain ⟨v, hv, hR⟩ := h.more j (by omega) hj
    obtain ⟨A1, c1, rfl⟩ := Kd.R_slice hR
    exact ⟨A1, c1, hv, (Kd.R_reads' hR).2.1, R_cap hR, Kd.F_bound (Kd.R_F (Kd.R_mono hR (fun q hq => by omega)))⟩
theorem LevF.step {w W W2 : World} {op : Int} {first : List Int} {k : Nat} {cs : Array Value} (h : LevF w op first k W cs) (hs : W.heap.size ≤ W2.heap.size) (hm : ∀ q, q < W.heap.size → W2.heap[q]? = W.heap[q]?) : LevF w op first k W2 cs := by
  intro j hj
  obtain ⟨A, c, h1, h2, h3, h4⟩ := h j hj
  exact ⟨A, c, h1, h2, h3, Kd.F_mono (Kd.F_step h4 (fun q hq hlt => hm q hlt)) (fun q hq => ⟨hq.1, by omega⟩)⟩
def slLen : Value → Nat
  | .slice _ n _ => n
  | _ => 0
theorem rep_snoc (l : List Int) (q : Nat) (x : Int) : l ++ List.replicate q x ++ [x] = l ++ List.replicate (q + 1) x := by rw [List.append_assoc, List.replicate_succ']
end Go.Proofs.YtpenkemabeonaaaDoor.Hand
/- scan.Levels: the walk. -/
namespace Go.Proofs.YtpenkemabeonaaaDoor.Hand
open Go.RowKit Go.Proofs.YtpenkemabeonaaaDoorW.PrintWords Go.Proofs.YtpenkemabeonaaaDoorW.PrintLast Go.Proofs.YtpenkemabeonaaaDoorW.PrintMore
set_option linter.unusedVariables false
set_option linter.unusedSimpArgs false
attribute [local go_sem] store_func store_nilFunc
set_option maxHeartbeats 2000000 in
set_option maxRecDepth 100000 in
theorem scan_Levels_yes (op nn : Int) (A : Option Addr) (c : Nat) (l : List Int) (w : World) (hT : Tabs w) (hr : Kd.C (Kd.int .i64) w A l.length l) (h1 : neutG op = (nn, 0)) (h2 : wsE l = 0) :
    Calls Tryd.prog 24 #[.int .i64 op, .slice A l.length c] w (RetL w (lvsI op (lvFirst nn l) (lvE l.length + 1), 0)) := by
  have HOf := Aside0.mk (BlkSt.of w op nn hT h1)
  have HW1 : Aside0 (∀ W, Below w.heap.size w W → Calls Tryd.prog 51 #[.slice A l.length c] W fun e w' => e = .returned (.int .i64 0) ∧ Drawn0 W w') := ⟨fun W hW => by have := scan_words A c l W (Kd.C_below hr hW); rwa [h2] at this⟩
  have hlen := (wsE_ok h2).1
  have HR := Aside0.mk hr
  have HT := Aside0.mk hT
  have HCl : Aside0 (∀ W, Below w.heap.size w W → Calls Tryd.prog 52 #[.slice A l.length c] W fun e w' => ∃ v, e = .returned v ∧ (Kd.int .i64).R 3 w' W.heap.size (fun k => W.heap.size ≤ k) v l ∧ Below W.heap.size W w') := ⟨fun W hW => slices_Clone A c l W (Kd.C_below hr hW) hlen⟩
  have hE20 := lvE_20 hlen
  have HLe := Aside0.mk (lvE_le l.length)
  have HLt : Aside0 (∀ e, e < lvE l.length → 2 ^ e < l.length) := ⟨fun e he => lvE_lt he⟩
  have HFl := Aside0.mk (lvFirst_length nn l)
  have HFi : Aside0 (∀ p, p = 2 ^ lvE l.length → lvFirst nn l = l ++ List.replicate (p - l.length) nn) := ⟨fun p hp => by rw [hp]; rfl⟩
  generalize lvFirst nn l = fi at *
  generalize lvE l.length = E at *
  obtain ⟨RR, hRR⟩ : ∃ R, (lvsI op fi (E + 1), (0 : Int)) = R := ⟨_, rfl⟩
  have HRR := Aside0.mk hRR
  rw [hRR]
  clear hr hT h1 h2 hRR
  refine calls_of_marks Tryd.func24 rfl ?_
  simp only [Tryd.ntmps24, List.size_toArray, List.length_cons, List.length_nil, Nat.reduceAdd, Nat.reduceSub, Array.replicate_succ, Array.replicate_zero, List.push_toArray, List.append_toArray, List.nil_append, List.cons_append]
  go_wp2_with (first | (go_at_call 50; (with_reducible refine (HOf.out).mono ?_); rintro e w1 ⟨O, rfl, hst⟩; replace hst := Aside0.mk hst) | (go_at_call 51; (with_reducible refine (HW1.out _ (by exact BlkSt.below (Aside0.out (by assumption)))).mono ?_); rintro e w2 ⟨rfl, m2, rfl⟩))
  replace hst := Aside0.mk (hst.out.next (pw_below_drewN (Below.refl _ _) m2))
  generalize ((w1.alloc _).drewN m2) = w2 at *
  generalize w1.heap.size = bJ at *
  go_loopw [9] (fun v W => ∃ p : Nat, v = .int .i64 (p : Int) ∧ Aside0 (∃ e, p = 2 ^ e ∧ e ≤ E) ∧ 1 ≤ p ∧ W = w2) (fun v _ => l.length - (intOf v).toNat)
  case atStart => exact ⟨1, rfl, ⟨⟨0, rfl, by omega⟩⟩, by omega, rfl⟩
  case round =>
    revert wr
    intro wo hrel
    obtain ⟨p, rfl, hp, hp1, rfl⟩ := hrel
    by_cases hlt : p < l.length
    · go_wp2
      go_roundw
      case rel =>
        obtain ⟨e, he, he2⟩ := hp.out
        refine ⟨p * 2, by simp, ⟨⟨e + 1, by rw [he, Nat.pow_succ], ?_⟩⟩, by omega, by trivial⟩
        rcases Nat.lt_or_ge e E with h | h
        · omega
        · have : 2 ^ E ≤ 2 ^ e := Nat.pow_le_pow_right (by decide) h
          have := HLe.out
          omega
      case measure => simp [intOf]; omega
    · have hpE : p = 2 ^ E := by
        obtain ⟨e, he, he2⟩ := hp.out
        rcases Nat.lt_or_ge e E with h | h
        · have := HLt.out e h
          omega
        · rw [he, show e = E by omega]
      have hp20 : p ≤ 1048576 := by
        rw [hpE]
        exact Nat.le_trans (Nat.pow_le_pow_right (by decide) hE20) (by decide)
      have HpE := Aside0.mk hpE
      have hpl : l.length ≤ p := by omega
      have hfl : fi.length = p := by rw [HFl.out, hpE]
      have hfi := Aside0.mk (HFi.out p hpE)
      have c1 : wo.cell? ⟨bJ, 1, none⟩ = some (.int .i64 nn) := blk_cell hst.out.jn 1
      clear hpE hp
      go_wp2_with (go_at_call 52; (with_reducible refine (HCl.out _ (BlkSt.below hst.out)).mono ?_); rintro e w3 ⟨v3, rfl, hR3, hb3⟩; replace hR3 := Aside0.mk hR3; replace hb3 := Aside0.mk hb3)
      go_loopw [10] (fun v W => ∃ q : Nat, q ≤ p - l.length ∧ Aside0 (Below wo.heap.size wo W) ∧ Aside0 ((Kd.int .i64).R 3 W wo.heap.size (fun b => wo.heap.size ≤ b) v (l ++ List.replicate q nn))) (fun v _ => p - slLen v)
      case atStart => exact ⟨0, by omega, hb3, ⟨by rw [List.replicate_zero, List.append_nil]; exact hR3.out⟩⟩
      case round =>
        obtain ⟨q, hq, hb, hRq⟩ := hrel
        have hyl : (l ++ List.replicate q nn).length = l.length + q := by simp
        have hys := Aside0.mk (rep_snoc l q nn)
        have hend : Aside0 (q = p - l.length → l ++ List.replicate q nn = fi) := ⟨fun h => by rw [hfi.out, h]⟩
        have cn := pw_cell_below hb.out c1
        have hs4 := Aside0.mk (hst.out.next hb.out)
        generalize hYS : l ++ List.replicate q nn = ys at *
        replace hYS := Aside0.mk hYS
        obtain ⟨A6, c6, rfl⟩ := Kd.R_slice hRq.out
        by_cases hql : q < p - l.length
        · have hlt2 : ys.length < p := by omega
          have HLs := Aside0.mk (show (ys.length + 1) * 8 ≤ 140737488355328 by omega)
          replace hyl := Aside0.mk hyl
          go_wp2_with ((with_reducible refine gate_builtin (b := .append) (xs := #[.tmp 39, .tmp 43]) rfl ?_); at_builtin; refine Kd.R_append (Kd.int .i64) (w0 := wo) wo.heap.size rfl (.tmp 39) (.tmp 43) 22 3 (.int .i64 0) 8 rfl Tryd.underlying22 infoInt rfl (by decide) (by omega) (.slice A6 ys.length c6) ys nn [.int .i64 nn] (fun k_ => (wo.heap.size ≤ k_)) (fun _ => False) rfl rfl rfl (fun _ hk => hk.elim) (fun k_ hk => Nat.le_trans hb.out.size hk) hRq.out hb.out hb.out.size HLs.out ?_; intro v6 w6 ho hb6 hg hat; replace ho := Aside0.mk ho; replace hb6 := Aside0.mk hb6; clear hg hat)
          go_roundw
          case rel => exact ⟨q + 1, by omega, hb6, ⟨by rw [← hys.out]; exact ho.out⟩⟩
          case measure =>
            obtain ⟨A7, c7, rfl⟩ := Kd.R_slice ho.out
            have := hyl.out
            simp [slLen]
            omega
        · obtain rfl := hend.out (by omega)
          obtain rfl : ys.length = p := by rw [HFl.out, HpE.out]
          have HRa := Aside0.mk (scan_raise.run op nn O A6 c6 ys E wr (HT.out.below hs4.out.below) hs4.out.opAt (Kd.R_reads' hRq.out).2.2 HFl.out hE20)
          have c0 : wr.cell? ⟨bJ, 0, none⟩ = some (.int .i64 op) := blk_cell hs4.out.jn 0
          have cf : wr.cell? ⟨bJ, 2, none⟩ = some (.func (.func 77) #[] #[.pointer (some ⟨O, 0, none⟩)]) := blk_cell hs4.out.jn 2
          have hwo : w.heap.size ≤ wo.heap.size := hst.out.below.size
          clear hend hys hfi hYS c1 hyl
          go_wp2_with (first
            | (go_at_call 60; (with_reducible refine (HRa.out).mono ?_); rintro e w4 ⟨cs, g', rfl, hg', htc, hb4⟩; replace htc := Aside0.mk htc; replace hb4 := Aside0.mk hb4)
            | ((with_reducible refine tow_alloc 11 rfl rfl rfl w4.heap.size rfl ?_); intro W5 h5 b5 s5; replace h5 := Aside0.mk h5; replace b5 := Aside0.mk b5; replace s5 := Aside0.mk s5)
            | ((with_reducible refine gate_store (t := 81) (p := 11) (v := .tmp 47) rfl ?_); refine tow_store 11 47 rfl rfl rfl w4.heap.size cs towZero (by rfl) (by rfl) h5.out rfl htc.out.size htc.out.ones ?_; intro W6 h6 f6 s6 b6; have c21 := (blk_cell h6 21).trans htc.out.many; replace h6 := Aside0.mk h6; replace f6 := Aside0.mk f6; replace b6 := Aside0.mk b6; replace s6 := Aside0.mk s6))
          have hg5 : w4.heap.size < W5.heap.size := by have := s5.out; omega
          have hs64 : w4.heap.size < W6.heap.size := by have := s6.out; omega
          have hwr4 : wr.heap.size ≤ w4.heap.size := hb4.out.size
          have hwor : wo.heap.size ≤ wr.heap.size := hb.out.size
          have hf6 : ∀ q, q < w4.heap.size → W6.heap[q]? = w4.heap[q]? := fun q hq => (f6.out q (by omega)).trans (b5.out.block q hq)
          have HLv : Aside0 (LevF w op ys E W6 cs) := ⟨(LevF.of htc.out hb4.out hg' (by omega) (Kd.R_mono (Kd.R_lower hRq.out hwo) (fun q hq => by omega))).step (by omega) hf6⟩
          have HB6 : Aside0 (Below w.heap.size w W6) := ⟨b6.out _ _ (by omega) (((hs4.out.below.trans (hb4.out.mono (by omega))).trans (b5.out.mono (by omega))))⟩
          have htw := Aside0.mk htc.out.size
          clear hf6
          go_loopw [12, 50] (fun v i W => ∃ k : Nat, i = .int .i64 (k : Int) ∧ k ≤ E + 1 ∧ Aside0 (Below W6.heap.size W6 W) ∧ Aside0 (Kd.N kL 22 W W6.heap.size (fun q => w.heap.size ≤ q) v (lvsI op ys k))) (fun _ i _ => E + 1 - (intOf i).toNat)
          case atStart => exact ⟨0, rfl, by omega, ⟨Below.refl _ _⟩, ⟨Kd.N_nil _ _ _ _ _⟩⟩
          case round =>
            revert wr
            intro wz hrel
            obtain ⟨k, rfl, hk, hbz, hN⟩ := hrel
            by_cases hkE : k ≤ E
            · obtain ⟨A8, c8, hc8, hc9, hc10, hF8⟩ := HLv.out k hkE
              have ck : wz.cell? ⟨w4.heap.size, k, none⟩ = some (.slice A8 (lvlI op ys k).length c8) := pw_cell_below hbz.out ((blk_cell h6.out k).trans hc8)
              have HCu : Aside0 (∀ W, Calls Tryd.prog 57 #[.slice A8 (lvlI op ys k).length c8] W fun e w' => e = .returned (.slice A8 (lvlI op ys k).length (lvlI op ys k).length) ∧ Drawn0 W w') := ⟨fun W => scan_cut A8 _ c8 W hc9 hc10⟩
              have hsu := Aside0.mk (lvsI_succ op ys k)
              have HLs := Aside0.mk (show ((lvsI op ys k).length + 1) * 24 ≤ 140737488355328 by rw [lvsI_length]; omega)
              have HFk : Aside0 (∀ W, Below W6.heap.size W6 W → Kd.FK kL W (fun q => w.heap.size ≤ q ∧ q < W6.heap.size) (lvlI op ys k) [.slice A8 (lvlI op ys k).length (lvlI op ys k).length]) :=
                ⟨fun W hW => Foot.imp (Kd.F_below hF8 hW) (fun W' h => ⟨A8, _, rfl, Nat.le_refl _, h⟩)⟩
              generalize lvsI op ys k = xs at *
              generalize lvlI op ys k = lk at *
              clear hc8 hc9 hc10 hF8
              go_wp2_with (first
                | (go_at_call 57; (with_reducible refine (HCu.out _).mono ?_); rintro e w5 ⟨rfl, m5, rfl⟩)
                | ((with_reducible refine gate_builtin (b := .append) (xs := #[.tmp 53, .tmp 59]) rfl ?_); at_builtin; have hbz5 := hbz.out.trans (pw_below_drewN (Below.refl wz.heap.size wz) m5 |>.mono hbz.out.size); refine Kd.N_append kL (w0 := W6) W6.heap.size rfl (.tmp 53) (.tmp 59) 33 22 (.slice none 0 0) 24 rfl Tryd.underlying33 infoSl rfl (by decide) (by omega) u12 xs lk [.slice A8 lk.length lk.length] (fun q => w.heap.size ≤ q) (fun q => w.heap.size ≤ q ∧ q < W6.heap.size) rfl rfl (HFk.out _ hbz5) (fun q hq => ⟨hq.1, fun he => by have := Kd.N_base hN.out q he.symm; omega⟩) (fun q hq => by have := hbz5.size; omega) (Kd.N_drewN hN.out m5) hbz5 hbz5.size HLs.out ?_; intro v6 w6 ho hb6 hg hat; replace ho := Aside0.mk ho; replace hb6 := Aside0.mk hb6; clear hg hat))
              go_roundw
              case rel => exact ⟨k + 1, by simp, by omega, hb6, ⟨by rw [hsu.out]; exact ho.out⟩⟩
              case measure => simp [intOf]; omega
            · obtain rfl : k = E + 1 := by omega
              obtain ⟨A9, c9, rfl⟩ := Kd.N_slice hN.out
              have hN9 := Kd.N_reads' hN.out
              go_wp2
              unfold MarksPost
              refine Marks.zero _ (results_tmp2 rfl _ _ _) ?_
              rw [← HRR.out]
              exact ⟨_, rfl, Kd.V_mk hN9.2.1 (Kd.N_F hN.out), HB6.out.trans (hbz.out.mono HB6.out.size)⟩
set_option maxHeartbeats 2000000 in
set_option maxRecDepth 100000 in
theorem scan_Levels_noA (op err : Int) (A : Option Addr) (c : Nat) (l : List Int) (w : World) (hT : Tabs w) (h1 : (neutG op).2 = err) (he : err ≠ 0) :
    Calls Tryd.prog 24 #[.int .i64 op, .slice A l.length c] w (RetL w ([], err)) := by
  have HOf := Aside0.mk (scan_of_no op err w hT.laws hT.neut h1 he)
  have z : (err != 0) = true := bne_iff_ne.mpr he
  clear hT h1 he
  go_enter Tryd.func24, Tryd.ntmps24
  go_wp2_with (go_at_call 50; (with_reducible refine (HOf.out).mono ?_); rintro e w1 ⟨rfl, hb⟩; replace hb := Aside0.mk hb)
  go_ret2
  exact RetL.nil err (below_alloc hb.out _)
set_option maxHeartbeats 2000000 in
set_option maxRecDepth 100000 in
theorem scan_Levels_noB (op nn E : Int) (A : Option Addr) (c : Nat) (l : List Int) (w : World) (hT : Tabs w) (hr : Kd.C (Kd.int .i64) w A l.length l) (h1 : neutG op = (nn, 0)) (h2 : wsE l = E) (h3 : E ≠ 0) :
    Calls Tryd.prog 24 #[.int .i64 op, .slice A l.length c] w (RetL w ([], E)) := by
  have HOf := Aside0.mk (BlkSt.of w op nn hT h1)
  have HW1 : Aside0 (∀ W, Below w.heap.size w W → Calls Tryd.prog 51 #[.slice A l.length c] W fun e w' => e = .returned (.int .i64 E) ∧ Drawn0 W w') := ⟨fun W hW => by have := scan_words A c l W (Kd.C_below hr hW); rwa [h2] at this⟩
  have z : (E != 0) = true := bne_iff_ne.mpr h3
  clear hT hr h1 h2 h3
  go_enter Tryd.func24, Tryd.ntmps24
  go_wp2_with (first | (go_at_call 50; (with_reducible refine (HOf.out).mono ?_); rintro e w1 ⟨O, rfl, hst⟩; replace hst := Aside0.mk hst) | (go_at_call 51; (with_reducible refine (HW1.out _ (by exact BlkSt.below (Aside0.out (by assumption)))).mono ?_); rintro e w2 ⟨rfl, m2, rfl⟩))
  go_ret2
  exact RetL.nil E (pw_below_drewN hst.out.below _)
theorem scan_Levels.run (op : Int) (A : Option Addr) (c : Nat) (l : List Int) (w : World) (hT : Tabs w) (hr : Kd.C (Kd.int .i64) w A l.length l) :
    Calls Tryd.prog 24 #[.int .i64 op, .slice A l.length c] w (RetL w (scan_Levels.g op l)) := by
  unfold scan_Levels.g
  by_cases h1 : (neutG op).2 = 0
  · have e1 : neutG op = ((neutG op).1, 0) := Prod.ext rfl h1
    rw [if_pos h1]
    by_cases h2 : wsE l = 0
    · rw [if_pos h2]
      exact scan_Levels_yes op _ A c l w hT hr e1 h2
    · rw [if_neg h2]
      exact scan_Levels_noB op _ _ A c l w hT hr e1 rfl h2
  · rw [if_neg h1]
    exact scan_Levels_noA op _ A c l w hT rfl h1
end Go.Proofs.YtpenkemabeonaaaDoor.Hand
/- scan.isTower: what it answers; regions with guards, and with a block that may be laid before a call or behind it. -/
namespace Go.Proofs.YtpenkemabeonaaaDoor.Hand
open Go.RowKit Go.Proofs.YtpenkemabeonaaaDoorW.PrintWords Go.Proofs.YtpenkemabeonaaaDoorW.PrintLast Go.Proofs.YtpenkemabeonaaaDoorW.PrintMore
set_option linter.unusedVariables false
set_option linter.unusedSimpArgs false
theorem ReadsI.stepG {P : Program} {ops : Array Oper} {S : World → Prop} {k : Nat} {l : List Nat} {a : Act} {K : Act → Prop} {o : Oper} (v : Value) (h0 : ops[k]? = some o) (hg : Region.wanted o (yielded ops a.tmps) = true) (hv : ∀ W, S W → (execOp a.eval o).run P W = .ok (.value v) W)
    (h : ReadsI P ops S l (a.put o.dst v) K) : ReadsI P ops S (k :: l) a K :=
  ⟨o, v, h0, .inl ⟨hg, hv⟩, h⟩
theorem ReadsI.skipG {P : Program} {ops : Array Oper} {S : World → Prop} {k : Nat} {l : List Nat} {a : Act} {K : Act → Prop} {o : Oper} (h0 : ops[k]? = some o) (hg : Region.wanted o (yielded ops a.tmps) = false)
    (h : ReadsI P ops S l (a.put o.dst undef) K) : ReadsI P ops S (k :: l) a K :=
  ⟨o, undef, h0, .inr ⟨hg, rfl⟩, h⟩
theorem TailL.valG {P : Program} {ops : Array Oper} {Q : Exit → Act → World → Prop} {S : World → Prop} {i : Nat} {l : List Nat} {a : Act} {w w2 : World} {o : Oper} {v : Value} (ho : ops[i]? = some o) (hg : Region.wanted o (yielded ops a.tmps) = true)
    (hr : (execOp a.eval o).run P w = .ok (.value v) w2) (hS : l ≠ [] → S w2) (h : TailL P ops Q S l (a.put o.dst v) w2) : TailL P ops Q S (i :: l) a w := by
  unfold TailL wpOp
  simp only [ho]
  rw [if_pos hg]
  refine .inl ?_
  simp only [Oper.wp, hr, Oper.upon]
  exact ⟨hS, h⟩
theorem TailL.skipG {P : Program} {ops : Array Oper} {Q : Exit → Act → World → Prop} {S : World → Prop} {i : Nat} {l : List Nat} {a : Act} {w : World} {o : Oper} (ho : ops[i]? = some o) (hg : Region.wanted o (yielded ops a.tmps) = false)
    (hS : l ≠ [] → S w) (h : TailL P ops Q S l (a.put o.dst undef) w) : TailL P ops Q S (i :: l) a w := by
  unfold TailL wpOp
  simp only [ho]
  rw [if_neg (by rw [hg]; decide)]
  exact ⟨hS, h⟩
theorem TailL.callG {P : Program} {ops : Array Oper} {Q : Exit → Act → World → Prop} {S : World → Prop} {i : Nat} {l : List Nat} {a : Act} {w : World} {o : Oper} {f : FuncId} {args : Array Value} {R : Ending → World → Prop} (ho : ops[i]? = some o) (hg : Region.wanted o (yielded ops a.tmps) = true)
    (hr : (execOp a.eval o).run P w = .ok (.enter f args) w) (hc : Calls P f args w R) (h : ∀ e w2, R e w2 → ∃ v, e = .returned v ∧ (l ≠ [] → S w2) ∧ TailL P ops Q S l (a.put o.dst v) w2) : TailL P ops Q S (i :: l) a w := by
  unfold TailL wpOp
  simp only [ho]
  rw [if_pos hg]
  refine .inl ?_
  simp only [Oper.wp, hr, Oper.upon]
  refine hc.mono ?_
  intro e w2 hR
  obtain ⟨v, rfl, hS, hT⟩ := h e w2 hR
  exact ⟨hS, hT⟩
/-- Behind the reads two operations may come next, in either order. -/
theorem region_anyI2 {P : Program} {l : List Oper} {Q : Exit → Act → World → Prop} {a : Act} {w : World} (S : World → Prop) (ks : List Nat) (i j : Nat) (r1 r2 ds : List Nat) (hs : Region.noSelect l.toArray = true) (hB : headBI l.toArray ds ks (Array.replicate l.toArray.size false) = true)
    (hr : Region.ready .any l.toArray (markedI ks (Array.replicate l.toArray.size false)) = [i, j])
    (hT1 : tailB l.toArray r1 ((markedI ks (Array.replicate l.toArray.size false)).setIfInBounds i true) = true) (hO1 : lastOnly ds (i :: r1) = true) (hn1 : (i :: r1).length + ks.length = l.toArray.size)
    (hT2 : tailB l.toArray r2 ((markedI ks (Array.replicate l.toArray.size false)).setIfInBounds j true) = true) (hO2 : lastOnly ds (j :: r2) = true) (hn2 : r2.length = r1.length) (hQ : ∀ c a w, ¬ Q (.panic c) a w) (hS : S w)
    (h : ReadsI P l.toArray S ks a (fun a' => TailL P l.toArray Q S (i :: r1) a' w ∧ TailL P l.toArray Q S (j :: r2) a' w)) : wpAny P .any l.toArray Q l.toArray.size (Array.replicate l.toArray.size false) a w := by
  have hstep : ∀ (q : Nat) (r : List Nat) (a' : Act), tailB l.toArray r ((markedI ks (Array.replicate l.toArray.size false)).setIfInBounds q true) = true → lastOnly ds (q :: r) = true → TailL P l.toArray Q S (q :: r) a' w →
      wpOp P l.toArray Q q (fun a' w' => (q ∉ ds → S w → S w') ∧ wpAnyLast P .any l.toArray Q S ds r.length ((markedI ks (Array.replicate l.toArray.size false)).setIfInBounds q true) a' w') a' w := by
    intro q r a' hT hO ht
    simp only [lastOnly, Bool.and_eq_true, Bool.or_eq_true] at hO
    refine wpOp_mono (fun a' w' hh => ⟨fun hni _ => hh.1 (fun e => ?_), wpAnyL_tail r _ a' w' hT hO.2 hh.2⟩) ht
    rcases hO.1 with h1 | h1
    · exact hni (by simpa using h1)
    · rw [e] at h1; simp at h1
  have H := wpAnyI_heads (P := P) (Q := Q) (ds := ds) hs hQ hS (r1.length + 1) ks (Array.replicate l.toArray.size false) a hB (ReadsI.imp _ _ (fun a' ha => by
    refine wpAnyLast_all hr (by simp) (fun q hq => ?_)
    have hq2 : q = i ∨ q = j := by simpa using hq
    rcases hq2 with rfl | rfl
    · exact hstep _ r1 a' hT1 hO1 ha.1
    · have := hstep _ r2 a' hT2 hO2 ha.2
      rw [hn2] at this
      exact this) h)
  rw [show r1.length + 1 + ks.length = l.toArray.size from hn1] at H
  exact wpAny_of_last _ _ _ _ H
/-- A list of a list of lists that is read. -/
theorem lists_at {w : World} {A : Option Addr} {n : Nat} {ls : List (List Int)} (h : kL.C w A n ls) (k : Nat) (hk : k < n) : ∃ ad A1 c1, A = some ad ∧ w.cell? (ad.add k) = some (.slice A1 (ls.getD k []).length c1) ∧ (ls.getD k []).length ≤ c1 ∧ Kd.C (Kd.int .i64) w A1 (ls.getD k []).length (ls.getD k []) := by
  obtain ⟨ad, c, hA, hl, hK, hc⟩ := Kd.C_get h [] (k : Int) (by omega) (by omega)
  rw [Int.toNat_natCast] at hK hc
  obtain ⟨A1, c1, rfl, h1, h2⟩ := hK
  refine ⟨ad, A1, c1, hA, ?_, h1, h2⟩
  have := hc 0 _ rfl
  rw [show k * kL.sz + 0 = k from Nat.mul_one k] at this
  exact this
/-- The levels that a tower's cells lead to, read. -/
def LevC (op : Int) (first : List Int) (k : Nat) (W : World) (cs : Array Value) : Prop :=
  ∀ j, j ≤ k → ∃ A c, cs[j]? = some (.slice A (lvlI op first j).length c) ∧ Kd.C (Kd.int .i64) W A (lvlI op first j).length (lvlI op first j)
theorem LevC.of {W : World} {op : Int} {first : List Int} {A : Option Addr} {c g k : Nat} {cs : Array Value} (h : TowC op first A c g k W cs) (h0 : Kd.C (Kd.int .i64) W A first.length first) : LevC op first k W cs := by
  intro j hj
  by_cases hz : j = 0
  · subst hz
    exact ⟨A, c, h.base, h0⟩
  · obtain ⟨v, hv, hR⟩ := h.more j (by omega) hj
    obtain ⟨A1, c1, rfl⟩ := Kd.R_slice hR
    exact ⟨A1, c1, hv, (Kd.R_reads' hR).2.2⟩
theorem LevC.below {W W2 : World} {op : Int} {first : List Int} {k : Nat} {cs : Array Value} (h : LevC op first k W cs) (hb : Below W.heap.size W W2) : LevC op first k W2 cs := by
  intro j hj
  obtain ⟨A, c, h1, h2⟩ := h j hj
  exact ⟨A, c, h1, Kd.C_below h2 hb⟩
/-- Are some lists the levels of a tower? What is asked ahead of it. -/
def towPre (ls : List (List Int)) : Bool := ls.length != 0 && decide (ls.length ≤ 21) && (ls.getD 0 []).length == 2 ^ (ls.length - 1) && wsE (ls.getD 0 []) == 0
def isTower.g (op : Int) (ls : List (List Int)) : Bool := towPre ls && lvsI op (ls.getD 0 []) ls.length == ls
theorem lvsI_get (op : Int) (first : List Int) {k n : Nat} (hk : k < n) : (lvsI op first n)[k]? = some (lvlI op first k) := by
  unfold lvsI
  rw [List.getElem?_map, List.getElem?_range hk]
  rfl
theorem lvsI_ne {op : Int} {ls : List (List Int)} {k : Nat} (hk : k < ls.length) (h : lvlI op (ls.getD 0 []) k ≠ ls.getD k []) : (lvsI op (ls.getD 0 []) ls.length == ls) = false := by
  rw [beq_eq_false_iff_ne]
  intro he
  have h2 := lvsI_get op (ls.getD 0 []) hk
  rw [he] at h2
  apply h
  rw [List.getD_eq_getElem?_getD (l := ls) (i := k), h2]
  rfl
theorem lvsI_eq {op : Int} {ls : List (List Int)} (h : ∀ k, k < ls.length → lvlI op (ls.getD 0 []) k = ls.getD k []) : (lvsI op (ls.getD 0 []) ls.length == ls) = true := by
  rw [beq_iff_eq]
  apply List.ext_getElem?
  intro k
  by_cases hk : k < ls.length
  · rw [lvsI_get op _ hk, h k hk, List.getD_eq_getElem?_getD, List.getElem?_eq_getElem hk]
    rfl
  · rw [List.getElem?_eq_none (by rw [lvsI_length]; omega), List.getElem?_eq_none (by omega)]
end Go.Proofs.YtpenkemabeonaaaDoor.Hand
/- scan.isTower: the walk where it says no at once. -/
namespace Go.Proofs.YtpenkemabeonaaaDoor.Hand
open Go.RowKit Go.Proofs.YtpenkemabeonaaaDoorW.PrintWords Go.Proofs.YtpenkemabeonaaaDoorW.PrintLast Go.Proofs.YtpenkemabeonaaaDoorW.PrintMore
set_option linter.unusedVariables false
set_option linter.unusedSimpArgs false
attribute [local go_sem] store_func store_nilFunc
theorem wrap_pow (e : Nat) (h : e ≤ 20) : IntKind.i64.wrap ((2 : Int) ^ e) = ((2 ^ e : Nat) : Int) := by
  have h1 : (2 : Nat) ^ e ≤ 2 ^ 20 := Nat.pow_le_pow_right (by decide) h
  rw [show (2 : Int) ^ e = ((2 ^ e : Nat) : Int) by simp, i64_w]
  generalize (2 : Nat) ^ e = p at *
  unfold wrap64
  omega
set_option maxHeartbeats 2000000 in
set_option maxRecDepth 100000 in
theorem scan_isTower_no1 (op nn : Int) (O : Nat) (A : Option Addr) (c n : Nat) (w : World) (hn : n = 0 ∨ (21 < n ∧ n ≤ 9223372036854775807)) :
    Calls Tryd.prog 63 #[JV op nn O, .slice A n c] w fun e w' => e = .returned (.bool false) ∧ Below w.heap.size w w' := by
  refine calls_of_marks Tryd.func63 rfl ?_
  simp only [Tryd.ntmps63, List.size_toArray, List.length_cons, List.length_nil, Nat.reduceAdd, Nat.reduceSub, Array.replicate_succ, Array.replicate_zero, List.push_toArray, List.append_toArray, List.nil_append, List.cons_append]
  rcases hn with rfl | ⟨h1, h2⟩
  · go_wp2
    go_region
    go_wp2
    unfold MarksPost
    refine Marks.zero _ (results_tmp rfl _ _ _) ?_
    exact ⟨rfl, below_drew (below_alloc (Below.refl _ _) _)⟩
  · have z1 : ((n : Int) == 0) = false := by rw [beq_eq_false_iff_ne]; omega
    have z2 : (decide ((21 : Int) < (n : Int))) = true := by rw [decide_eq_true_eq]; omega
    go_wp2
    go_region
    go_wp2
    unfold MarksPost
    refine Marks.zero _ (results_tmp rfl _ _ _) ?_
    exact ⟨rfl, below_drew (below_alloc (Below.refl _ _) _)⟩
set_option maxHeartbeats 2000000 in
set_option maxRecDepth 100000 in
theorem scan_isTower_no3 (op nn : Int) (O : Nat) (ad : Addr) (c e : Nat) (A1 : Option Addr) (n1 c1 : Nat) (w : World) (hn : e ≤ 20) (hc : w.cell? ad = some (.slice A1 n1 c1)) (hne : n1 ≠ 2 ^ e) :
    Calls Tryd.prog 63 #[JV op nn O, .slice (some ad) (e + 1) c] w fun e w' => e = .returned (.bool false) ∧ Below w.heap.size w w' := by
  refine calls_of_marks Tryd.func63 rfl ?_
  simp only [Tryd.ntmps63, List.size_toArray, List.length_cons, List.length_nil, Nat.reduceAdd, Nat.reduceSub, Array.replicate_succ, Array.replicate_zero, List.push_toArray, List.append_toArray, List.nil_append, List.cons_append]
  have hc2 : (w.alloc (Obj.cells #[.int .i64 op, .int .i64 nn, .func (.func 77) #[] #[.pointer (some ⟨O, 0, none⟩)]] 70)).drew.cell? ad = some (.slice A1 n1 c1) := pw_cell_below (below_drew (below_alloc (Below.refl _ _) _)) hc
  have z5 := wrap_pow e hn
  generalize 2 ^ e = p at *
  have z1 : (((e : Int) + 1) == 0) = false := by rw [beq_eq_false_iff_ne]; omega
  have z2 : (decide ((21 : Int) < ((e : Int) + 1))) = false := by rw [decide_eq_false_iff_not]; omega
  have z3 : ((n1 : Int) != (p : Int)) = true := by rw [bne_iff_ne]; omega
  have z4 : IntKind.i64.wrap (e : Int) = (e : Int) := by rw [i64_w]; unfold wrap64; omega
  go_wp2
  go_region
  go_wp2
  unfold MarksPost
  refine Marks.zero _ (results_tmp rfl _ _ _) ?_
  exact ⟨rfl, below_drew (below_alloc (Below.refl _ _) _)⟩
set_option maxHeartbeats 2000000 in
set_option maxRecDepth 100000 in
theorem scan_isTower_no4 (op nn : Int) (O : Nat) (ad : Addr) (c e : Nat) (A1 : Option Addr) (n1 c1 : Nat) (E : Int) (w : World) (hn : e ≤ 20) (hc : w.cell? ad = some (.slice A1 n1 c1)) (hne : n1 = 2 ^ e) (hE : E ≠ 0)
    (HW : ∀ W, Below w.heap.size w W → Calls Tryd.prog 51 #[.slice A1 n1 c1] W fun e w' => e = .returned (.int .i64 E) ∧ Drawn0 W w') :
    Calls Tryd.prog 63 #[JV op nn O, .slice (some ad) (e + 1) c] w fun e w' => e = .returned (.bool false) ∧ Below w.heap.size w w' := by
  refine calls_of_marks Tryd.func63 rfl ?_
  simp only [Tryd.ntmps63, List.size_toArray, List.length_cons, List.length_nil, Nat.reduceAdd, Nat.reduceSub, Array.replicate_succ, Array.replicate_zero, List.push_toArray, List.append_toArray, List.nil_append, List.cons_append]
  have hb2 : Below w.heap.size w (w.alloc (Obj.cells #[.int .i64 op, .int .i64 nn, .func (.func 77) #[] #[.pointer (some ⟨O, 0, none⟩)]] 70)).drew := below_drew (below_alloc (Below.refl _ _) _)
  have hc2 : (w.alloc (Obj.cells #[.int .i64 op, .int .i64 nn, .func (.func 77) #[] #[.pointer (some ⟨O, 0, none⟩)]] 70)).drew.cell? ad = some (.slice A1 n1 c1) := pw_cell_below hb2 hc
  have z5 := wrap_pow e hn
  rw [← hne] at z5
  replace HW := Aside0.mk (HW _ hb2)
  replace hb2 := Aside0.mk hb2
  clear hne
  have z1 : (((e : Int) + 1) == 0) = false := by rw [beq_eq_false_iff_ne]; omega
  have z2 : (decide ((21 : Int) < ((e : Int) + 1))) = false := by rw [decide_eq_false_iff_not]; omega
  have z4 : IntKind.i64.wrap (e : Int) = (e : Int) := by rw [i64_w]; unfold wrap64; omega
  have z6 : (E != 0) = true := bne_iff_ne.mpr hE
  go_wp2
  go_region_held3 (fun W => W.cell? ad = some (.slice A1 n1 c1)) (go_keep)
    (first | (go_at_call 51; (with_reducible refine (HW.out).mono ?_); rintro e w2 ⟨rfl, m2, rfl⟩))
  go_wp2
  unfold MarksPost
  refine Marks.zero _ (results_tmp rfl _ _ _) ?_
  exact ⟨rfl, pw_below_drewN (below_alloc (Below.refl _ _) _) _⟩
end Go.Proofs.YtpenkemabeonaaaDoor.Hand
