/- What chapter 02 takes over from chapter 07: orders of pairs, the library's sort. No condition. -/
import Derived.Test.YthalgcpohnknbaaJ2
import Derived.Test.YthalgcpohnknbaaJ3
import Derived.Ground.SlsfProg
import Derived.Laws.Bits64b
import Derived.Laws.CopyOwn
import Derived.Shelf.Lay
import Derived.Shelf.SlSortCmp.NoneTotal
import Derived.Sort.OwnSortedInts
namespace Go.Proofs.Ythalgcpohnknbaa.Hand
open Go.RowKit Go.Proofs.YthalgcpohnknbaaW.PrintWords Go.Proofs.YthalgcpohnknbaaW.PrintLast Go.Proofs.YthalgcpohnknbaaW.PrintMore
open Go.Sort
set_option linter.unusedVariables false
set_option linter.unusedSimpArgs false
attribute [local go_sem] store_func store_nilFunc
/-! Worlds that have drawn and grown. -/
def Gr (W W' : World) : Prop := ∃ q os, W' = grow (W.drewN q) os
theorem Gr.refl (W : World) : Gr W W := ⟨0, #[], by rw [grow_empty]; rfl⟩
theorem Gr.alloc {W W1 : World} (h : Gr W W1) (o : Obj) : Gr W (W1.alloc o) := by
  obtain ⟨q, os, rfl⟩ := h
  exact ⟨q, os ++ #[o], by rw [alloc_eq_grow, grow_grow]⟩
theorem Gr.drewN {W W1 : World} (h : Gr W W1) (m : Nat) : Gr W (W1.drewN m) := by
  obtain ⟨q, os, rfl⟩ := h
  refine ⟨q + m, os, ?_⟩
  rw [← World.drewN_drewN]
  rfl
theorem Gr.drew {W W1 : World} (h : Gr W W1) : Gr W W1.drew := h.drewN 1
theorem Gr.trans {W W1 W2 : World} (h : Gr W W1) (k : Gr W1 W2) : Gr W W2 := by
  obtain ⟨q, os, rfl⟩ := k
  obtain ⟨q2, os2, h2⟩ := h.drewN q
  rw [h2]
  exact ⟨q2, os2 ++ os, by rw [grow_grow]⟩
theorem Gr.below {W W1 : World} (h : Gr W W1) : Below W.heap.size W W1 := by
  obtain ⟨q, os, rfl⟩ := h
  refine (pw_below_drewN (Below.refl _ _) q).trans ⟨rfl, rfl, rfl, by rw [size_grow]; exact Nat.le_add_right _ _, fun k hk => heap_grow_old _ _ hk⟩
theorem Gr.of_drawn {W W1 : World} (h : Drawn0 W W1) : Gr W W1 := by
  obtain ⟨m, rfl⟩ := h
  exact (Gr.refl W).drewN m
/-! The order of elements. -/
def encE (x : Int × Int) : List Value := [.int .i64 x.1, .int .i64 x.2]
def cfB (x y : Int × Int) : Int := orI (cmpI x.1 y.1) (cmpI x.2 y.2)
def cfE (x y : Int × Int) : Int := if x = y then 0 else cfB x y
/-! Cells of elements. -/
abbrev kE : Kd (Int × Int) := Kd.pair (Kd.int .i64) (Kd.int .i64)
def flat (ys : List (Int × Int)) : List Value := ys.flatMap encE
theorem flat_length (ys : List (Int × Int)) : (flat ys).length = ys.length * 2 := by
  induction ys with
  | nil => rfl
  | cons a ys ih => simp [flat, encE] at ih ⊢; omega
theorem flat_get (ys : List (Int × Int)) (j : Nat) (p : Int × Int) (h : ys[j]? = some p) : (flat ys)[j * 2]? = some (.int .i64 p.1) ∧ (flat ys)[j * 2 + 1]? = some (.int .i64 p.2) := by
  induction ys generalizing j with
  | nil => simp at h
  | cons a ys ih =>
    cases j with
    | zero =>
      injection h with h
      subst h
      exact ⟨rfl, rfl⟩
    | succ j =>
      have h2 : ys[j]? = some p := h
      have := ih j h2
      have e : (j + 1) * 2 = j * 2 + 1 + 1 := by omega
      rw [e]
      exact this
theorem flatK_flat (ys : List (Int × Int)) : flatK encE 2 ys.toArray = (flat ys).toArray := by
  refine ext_get! (by simp [flat_length]) fun t ht => ?_
  have ht' : t < ys.length * 2 := by simpa using ht
  rw [get_flatK _ _ _ t (by simpa using ht')]
  have hj : t / 2 < ys.length := by omega
  have h := flat_get ys (t / 2) ys[t / 2] (List.getElem?_eq_getElem hj)
  have e1 : ys.toArray[t / 2]! = ys[t / 2] := by simp [hj]
  rw [e1]
  have hr : (flat ys).toArray[t]! = (flat ys)[t]! := by simp
  rw [hr]
  rcases Nat.mod_two_eq_zero_or_one t with h0 | h0
  · have e : t / 2 * 2 = t := by omega
    rw [e] at h
    rw [h0, List.getElem!_eq_getElem?_getD (l := flat ys), h.1]
    rfl
  · have e : t / 2 * 2 + 1 = t := by omega
    rw [e] at h
    rw [h0, List.getElem!_eq_getElem?_getD (l := flat ys), h.2]
    rfl
theorem holdsE {w : World} {g : Nat} {cur : Array Value} {e : TypeId} {ys : List (Int × Int)} (hb : w.heap[g]? = some (.cells cur e (0, 0))) (ht : cur.toList.take (ys.length * 2) = flat ys) : HoldsK encE 2 w g 0 ys.toArray := by
  unfold HoldsK
  rw [flatK_flat]
  intro j hj
  have hj' : j < (flat ys).length := by simpa using hj
  rw [flat_length] at hj'
  refine ⟨?_, by simp [World.frozen?, hb]⟩
  have h1 : (cur.toList.take (ys.length * 2))[j]? = (flat ys)[j]? := by rw [ht]
  rw [List.getElem?_take_of_lt hj'] at h1
  simp only [World.cell?, hb, Nat.zero_add]
  simp only [Option.isSome_none, Bool.false_eq_true, if_false]
  rw [← Array.getElem?_toList, h1]
  simp [flat_length, hj']
theorem heap_sortedV {w : World} {g n : Nat} {os : Array Obj} {cur : Array Value} {e : TypeId} {fr : Nat × Nat} (F : Array Value) (hb : w.heap[g]? = some (.cells cur e fr)) :
    (grow (putRow id (Sort.ahead w n) g 0 F) os).heap[g]? = some (.cells (putCells id 0 F cur) e fr) := by
  have hg : g < w.heap.size := (Array.getElem?_eq_some_iff.1 hb).1
  rw [heap_grow_old _ _ (by simpa using hg)]
  simp [putRow, mapBlock, Sort.ahead, Array.getElem?_modify, hb, onCells]
theorem kp_sortedV {w : World} {g n : Nat} {os : Array Obj} (F : Array Value) : Kp (fun k => k = g) w (grow (putRow id (Sort.ahead w n) g 0 F) os) := by
  refine ⟨rfl, rfl, rfl, by simp, fun k hk hne => ?_⟩
  rw [heap_grow_old _ _ (by simpa using hk)]
  have : g ≠ k := fun e => hne e.symm
  simp [putRow, mapBlock, Sort.ahead, Array.getElem?_modify, this]
theorem take_putCellsV (cur : Array Value) (ts : List Value) (h : ts.length ≤ cur.size) : (putCells id 0 ts.toArray cur).toList.take ts.length = ts := by
  apply List.ext_getElem?
  intro j
  by_cases hj : j < ts.length
  · rw [List.getElem?_take_of_lt hj, Array.getElem?_toList]
    simp [putCells, hj, show j < cur.size by omega]
  · rw [List.getElem?_take_eq_none (by omega), List.getElem?_eq_none (by omega)]
theorem elems_C {W : World} {g : Nat} {cur : Array Value} {e : TypeId} {ys : List (Int × Int)} (hb : W.heap[g]? = some (.cells cur e (0, 0))) (ht : cur.toList.take (ys.length * 2) = flat ys) (hm : ys.length ≤ 9223372036854775807) : kE.C W (some ⟨g, 0, none⟩) ys.length ys := by
  refine ⟨rfl, hm, fun _ => ⟨_, rfl, fun j p hj => ⟨[.int .i64 p.1, .int .i64 p.2], rfl, ⟨[.int .i64 p.1], [.int .i64 p.2], rfl, rfl, rfl⟩, fun i u hu => ?_⟩⟩⟩
  have hlt : j < ys.length := (List.getElem?_eq_some_iff.1 hj).1
  have hg := flat_get ys j p hj
  have hc : ∀ t v, t < ys.length * 2 → (flat ys)[t]? = some v → W.cell? ⟨g, t, none⟩ = some v := fun t v h1 h2 => by
    rw [blk_cell hb t, ← Array.getElem?_toList, ← h2, ← ht, List.getElem?_take_of_lt h1]
  show World.cell? _ ((⟨g, 0, none⟩ : Addr).add (j * 2 + i)) = _
  rw [addr0_add]
  match i, hu with
  | 0, hu => injection hu with hu; subst hu; exact hc _ _ (by omega) hg.1
  | 1, hu => injection hu with hu; subst hu; exact hc _ _ (by omega) hg.2
/-- The cells of a row of elements of the call's own. -/
theorem elems_own {e base : Nat} {ok : Nat → Prop} {w : World} {v : Value} {ys : List (Int × Int)} (h : kE.R e w base ok v ys) : (v = .slice none 0 0 ∧ ys = []) ∨ ∃ g cap cur, v = .slice (some ⟨g, 0, none⟩) ys.length cap ∧ base ≤ g ∧ w.heap[g]? = some (.cells cur e (0, 0)) ∧ ys.length ≤ cap ∧ cap ≤ maxLen ∧ cur.size = cap * 2 ∧ cur.toList.take (ys.length * 2) = flat ys := by
  obtain ⟨hok, inner, hown, hr⟩ := h
  have hin : inner = flat ys := by
    apply List.ext_getElem?
    intro t
    have hl : inner.length = ys.length * 2 := hr.1
    by_cases ht : t < ys.length * 2
    · have hj : t / 2 < ys.length := by omega
      have h1 := hr.2 (t / 2) ys[t / 2] (List.getElem?_eq_getElem hj)
      obtain ⟨c0, c1, hc, hc0, hc1⟩ := h1
      have h2 := flat_get ys (t / 2) ys[t / 2] (List.getElem?_eq_getElem hj)
      have hc0' : c0 = [.int .i64 ys[t / 2].1] := hc0
      have hc1' : c1 = [.int .i64 ys[t / 2].2] := hc1
      subst hc0'
      subst hc1'
      have hg : ∀ i, i < 2 → inner[t / 2 * 2 + i]? = ([Value.int .i64 ys[t / 2].1] ++ [Value.int .i64 ys[t / 2].2])[i]? := fun i hi => by
        have h5 : (List.take 2 (List.drop (t / 2 * 2) inner))[i]? = _ := congrArg (fun l => l[i]?) hc
        rw [List.getElem?_take_of_lt hi, List.getElem?_drop] at h5
        exact h5
      rcases Nat.mod_two_eq_zero_or_one t with h0 | h0
      · have e : t / 2 * 2 = t := by omega
        have h3 := hg 0 (by omega)
        rw [e] at h2
        rw [Nat.add_zero, e] at h3
        rw [h3, h2.1]
        rfl
      · have e : t / 2 * 2 + 1 = t := by omega
        have h3 := hg 1 (by omega)
        rw [e] at h2 h3
        rw [h3, h2.2]
        rfl
    · rw [List.getElem?_eq_none (by omega), List.getElem?_eq_none (by rw [flat_length]; omega)]
  subst hin
  rcases hown.2 with ⟨hv, hn⟩ | ⟨g, cap, cur, hv, hb, hm, h1, h2, h3, h4⟩
  · exact .inl ⟨hv, List.length_eq_zero_iff.1 hn⟩
  · exact .inr ⟨g, cap, cur, hv, hb, hm, h1, h2, h3, h4⟩
/-! The order. -/
theorem ltE (x y : Int × Int) : ltOf cfE x y = (decide (x.1 < y.1) || (decide (x.1 = y.1) && decide (x.2 < y.2))) := by
  obtain ⟨a, b⟩ := x
  obtain ⟨c, d⟩ := y
  unfold ltOf cfE cfB orI cmpI
  by_cases h : (a, b) = (c, d)
  · obtain ⟨rfl, rfl⟩ := Prod.mk.inj h
    simp
  · rw [if_neg h]
    rcases Int.lt_trichotomy a c with h1 | h1 | h1
    · simp [h1]
    · subst h1
      rcases Int.lt_trichotomy b d with h2 | h2 | h2
      · simp [h2]
      · subst h2; exact absurd rfl h
      · have : ¬ b < d := by omega
        simp [h2, this]
    · have g1 : ¬ a < c := by omega
      have g2 : a ≠ c := by omega
      simp [h1, g1, g2]
theorem swoE : SWO (ltOf cfE) where
  irrefl x := by rw [ltE]; simp
  trans x y z h1 h2 := by rw [ltE] at *; simp at *; omega
  ntrans x y z h1 h2 := by rw [ltE] at *; simp at *; omega
theorem totE (x y : Int × Int) (h1 : ltOf cfE x y = false) (h2 : ltOf cfE y x = false) : x = y := by
  rw [ltE] at h1 h2
  simp at h1 h2
  exact Prod.ext (by omega) (by omega)
def leE (x y : Int × Int) : Bool := !(ltOf cfE) y x
theorem kE_M {w : World} {base : Nat} {ok : Nat → Prop} (x : Int × Int) : kE.M w base ok x [.int .i64 x.1, .int .i64 x.2] := ⟨[.int .i64 x.1], [.int .i64 x.2], rfl, rfl, rfl⟩
theorem leE_trans (a b c : Int × Int) (h1 : leE a b = true) (h2 : leE b c = true) : leE a c = true := by
  unfold leE at *
  rw [ltE] at *
  simp at *
  omega
theorem leE_total (a b : Int × Int) : (leE a b || leE b a) = true := by
  unfold leE
  rw [ltE, ltE]
  simp
  omega
theorem leE_anti (a b : Int × Int) (h1 : leE a b = true) (h2 : leE b a = true) : a = b := by
  unfold leE at *
  exact totE a b (by simpa using h2) (by simpa using h1)
theorem sort_is (s l : List (Int × Int)) (h1 : s.isPerm l = true) (h2 : s.Pairwise (fun a b => leE a b = true)) : l.mergeSort leE = s :=
  List.Perm.eq_of_pairwise (fun a b _ _ => leE_anti a b) (List.pairwise_mergeSort leE_trans leE_total l) h2 ((List.mergeSort_perm l leE).trans (List.isPerm_iff.1 h1).symm)
end Go.Proofs.Ythalgcpohnknbaa.Hand
/- slices.Repeat of one number; seg.OfHeads. -/
namespace Go.Proofs.Ythalgcpohnknbaa.Hand
open Go.RowKit Go.Proofs.YthalgcpohnknbaaW.PrintWords Go.Proofs.YthalgcpohnknbaaW.PrintLast Go.Proofs.YthalgcpohnknbaaW.PrintMore
set_option linter.unusedVariables false
set_option linter.unusedSimpArgs false
attribute [local go_sem] store_func store_nilFunc Oper.semAt_some
theorem bits_low (n : Nat) (hn : n ≤ 1048576) : bits .and .u64 (n : Int) 4294967295 = n := by
  rw [show (4294967295 : Int) = ((4294967295 : Nat) : Int) from rfl, bits_and_u64_nat _ _ (by omega) (by omega), show (4294967295 : Nat) = 2 ^ 32 - 1 from rfl, Nat.and_two_pow_sub_one_eq_mod, Nat.mod_eq_of_lt (by omega)]
theorem wrap_u64 (n : Nat) (hn : n ≤ 1048576) : IntKind.u64.wrap (n : Int) = n := by
  have e : IntKind.u64.bits = 64 := rfl
  unfold IntKind.wrap
  simp [e]
  omega
set_option maxHeartbeats 4000000 in
set_option maxRecDepth 100000 in
theorem bits_Mul64 (n : Nat) (hn : n ≤ 1048576) (w : World) : Calls Try.prog 82 #[.int .u64 1, .int .u64 (n : Int)] w fun e w' => e = .returned (.tuple #[.int .u64 0, .int .u64 (n : Int)]) ∧ Drawn0 w w' := by
  have b1 := bits_low 1 (by omega)
  have b2 := bits_low n hn
  have b3 : (n : Int) / 4294967296 = 0 := by omega
  have b4 := bits_low 0 (by omega)
  have b5 := wrap_u64 n hn
  have b6 : IntKind.u64.wrap 0 = 0 := by decide
  rw [show ((1 : Nat) : Int) = 1 from rfl] at b1
  rw [show ((0 : Nat) : Int) = 0 from rfl] at b4
  go_enter Try.func82, Try.ntmps82
  go_wp2
  go_ret2
  exact ⟨rfl, ⟨0, rfl⟩⟩
set_option maxHeartbeats 4000000 in
set_option maxRecDepth 100000 in
theorem bits_Mul (n : Nat) (hn : n ≤ 1048576) (w : World) : Calls Try.prog 73 #[.int .u64 1, .int .u64 (n : Int)] w fun e w' => e = .returned (.tuple #[.int .u64 0, .int .u64 (n : Int)]) ∧ Drawn0 w w' := by
  go_enter Try.func73, Try.ntmps73
  go_wp2_with (go_at_call 82; refine (bits_Mul64 n hn _).mono ?_; rintro e w' ⟨rfl, m, rfl⟩)
  go_ret2
  exact ⟨rfl, ⟨_, rfl⟩⟩
def curK (x : Int) (n k : Nat) : List Value := List.replicate k (.int .i64 x) ++ List.replicate (n - k) (.int .i64 0)
theorem curK_length (x : Int) (n k : Nat) (h : k ≤ n) : (curK x n k).length = n := by unfold curK; simp; omega
theorem curK_splice (x : Int) (n k m : Nat) (h : k + m ≤ n) : (curK x n k).take k ++ List.replicate m (.int .i64 x) ++ (curK x n k).drop (k + m) = curK x n (k + m) := by
  unfold curK
  rw [List.take_left' (by simp), ← List.drop_drop, List.drop_left' (by simp), List.drop_replicate, List.replicate_append_replicate, show n - k - m = n - (k + m) by omega]
set_option maxHeartbeats 4000000 in
set_option maxRecDepth 100000 in
theorem slices_Repeat (X cx : Nat) (x : Int) (n : Nat) (w : World) (hn : n ≤ 1048576) (hx : w.cell? ⟨X, 0, none⟩ = some (.int .i64 x)) :
    Calls Try.prog 62 #[.slice (some ⟨X, 0, none⟩) 1 cx, .int .i64 (n : Int)] w fun e w' => ∃ g, e = .returned (.slice (some ⟨g, 0, none⟩) n n) ∧ w'.heap[g]? = some (.cells (curK x n n).toArray 3 (0, 0)) ∧ w.heap.size ≤ g ∧ Below w.heap.size w w' := by
  have hXl := World.block_lt_of_cell? w _ hx
  have hsz : (Try.prog.info? 3).map (·.size) = some 1 := by kernel_rfl
  have HX := Aside0.mk hx
  have HSrc : Aside0 (∀ W, Below w.heap.size w W → ∀ (j : Nat) (v : Value), (List.replicate (min 1 n) (Value.int .i64 x))[j]? = some v → W.cell? ((⟨X, 0, none⟩ : Addr).add j) = some v) := ⟨fun W hW j v hv => by
    have hj := (List.getElem?_eq_some_iff.1 hv).1
    rw [List.length_replicate] at hj
    obtain rfl : j = 0 := by omega
    rw [List.getElem?_replicate, if_pos hj] at hv
    injection hv with hv
    subst hv
    exact pw_cell_below hW HX.out⟩
  have hmk : ∀ W : World, (Instr.makeSlice 22 (.int .i64 (n : Int)) (.int .i64 (n : Int))).run Try.prog W = .ok (.slice (some ⟨W.heap.size, 0, none⟩) n n) (W.alloc (.cells (madeCells #[.int .i64 0] n) 3)) := by
    intro W
    have h := print_make 22 3 .i64 8 Try.underlying22 infoInt (by decide) n (by omega) W
    exact h
  have b5 := wrap_u64 n hn
  have b6 := wrap_u64 1 (by omega)
  rw [show ((1 : Nat) : Int) = 1 from rfl] at b6
  have b7 : IntKind.i64.wrap (n : Int) = n := by rw [i64_w]; unfold wrap64; omega
  have z1 : decide ((n : Int) < 0) = false := decide_eq_false (by omega)
  have z2 : decide ((9223372036854775807 : Int) < (n : Int)) = false := decide_eq_false (by omega)
  clear hx
  refine calls_of_marks Try.func62 rfl ?_
  simp only [Try.ntmps62, List.size_toArray, List.length_cons, List.length_nil, Nat.reduceAdd, Nat.reduceSub, Array.replicate_succ, Array.replicate_zero, List.push_toArray, List.append_toArray, List.nil_append, List.cons_append]
  go_wp2_with fail
  refine (bits_Mul n hn _).mono ?_
  rintro e w' ⟨rfl, m, rfl⟩
  obtain ⟨w5, hrun, hg5, hb5⟩ : ∃ w5 : World, (∀ ty, (Builtin.copy_ #[22, 22] ty #[.slice (some ⟨w.heap.size, 0, none⟩) n n, .slice (some ⟨X, 0, none⟩) 1 cx]).run Try.prog ((w.drewN m).alloc (.cells (madeCells #[.int .i64 0] n) 3)) = .ok (goInt ((min 1 n : Nat) : Int)) w5) ∧ Aside0 (w5.heap[w.heap.size]? = some (.cells (curK x n (min 1 n)).toArray 3 (0, 0))) ∧ Aside0 (Below w.heap.size w w5) := by
    have hm0 := made_blk (w.drewN m) w.heap.size rfl n (.int .i64 0) 3
    have hB := below_alloc (pw_below_drewN (Below.refl w.heap.size w) m) (.cells (madeCells #[.int .i64 0] n) 3)
    have h := fun ty => run_copy_row (P := Try.prog) ((w.drewN m).alloc (.cells (madeCells #[.int .i64 0] n) 3)) 22 22 ty 3 w.heap.size 0 n n ⟨X, 0, none⟩ 1 cx _ 3 (List.replicate (min 1 n) (.int .i64 x)) Try.underlying22 hsz hm0 (by rw [List.length_replicate]) (HSrc.out _ hB) (by simp; omega) (by intro v hv; obtain ⟨_, rfl⟩ := List.mem_replicate.1 hv; rfl)
    rw [List.length_replicate] at h
    refine ⟨_, h, ⟨?_⟩, ⟨below_setRow hB (Nat.le_refl _) _⟩⟩
    refine (setRow_heap _ _ _ _ _ _ hm0).trans ?_
    simp [curK]
  go_wp2
  generalize hk0 : min 1 n = k0 at *
  have hk1 : k0 ≤ n ∧ (k0 = 0 → n = 0) := by omega
  clear hrun hk0 HSrc HX b5 b6 b7 z1 z2 hmk
  have hiz : ∃ i, Try.prog.info? 3 = some i ∧ i.size = 1 := by
    cases hq : Try.prog.info? 3 with
    | none => rw [hq] at hsz; exact absurd hsz (by simp)
    | some i => rw [hq] at hsz; exact ⟨i, rfl, by simpa using hsz⟩
  replace hiz := Aside0.mk hiz
  generalize hG : w.heap.size = G at *
  go_loopw [8] (fun i W => ∃ k : Nat, i = .int .i64 (k : Int) ∧ k ≤ n ∧ (k = 0 → n = 0) ∧ Aside0 (W.heap[G]? = some (.cells (curK x n k).toArray 3 (0, 0))) ∧ Aside0 (Below G w W)) (fun i _ => n - (intOf i).toNat)
  case atStart => exact ⟨k0, rfl, hk1.1, hk1.2, hg5, hb5⟩
  case round =>
    clear hg5 hb5 hk1
    revert wr
    intro wo hrel
    obtain ⟨k, rfl, p0, p1, hg, hb⟩ := hrel
    by_cases hlt : k < n
    · have hk : 0 < k := by omega
      obtain ⟨m, hm⟩ : ∃ m, m = min k (n - k) := ⟨_, rfl⟩
      obtain ⟨i, hi, his⟩ := hiz.out
      have ht := Try.underlying22
      have hel : Try.prog.elem 22 = 3 := by simp [Program.elem, ht]
      have hu : Try.prog.underlying 22 = some (.slice (Try.prog.elem 22)) := by rw [hel]; exact ht
      have hs1 : ∀ W : World, (Instr.slice 22 (.slice (some ⟨G, 0, none⟩) n n) (some (.int .i64 (k : Int))) none none).run Try.prog W = .ok (.slice (some ⟨G, k, none⟩) (n - k) (n - k)) W := fun W => by
        rw [run_slice_l W 22 (some ⟨G, 0, none⟩) n n hu .i64 (k : Int) (by omega) (by omega), hel]
        have hnk : ¬ n = k := by omega
        simp [sizeOf, typeInfo, hi, his, sliced, Result.andThen, addr0_add, hnk]
      have hs2 : ∀ W : World, (Instr.slice 22 (.slice (some ⟨G, 0, none⟩) n n) none (some (.int .i64 (k : Int))) none).run Try.prog W = .ok (.slice (some ⟨G, 0, none⟩) k n) W := fun W => by
        rw [run_slice_h W 22 (some ⟨G, 0, none⟩) n n hu .i64 (k : Int) (by omega) (by omega), hel]
        simp [sizeOf, typeInfo, hi, his, sliced, Result.andThen, addr0_add]
      obtain ⟨w6, hrun, hg6, hb6⟩ : ∃ w6 : World, (∀ ty, (Builtin.copy_ #[22, 22] ty #[.slice (some ⟨G, k, none⟩) (n - k) (n - k), .slice (some ⟨G, 0, none⟩) k n]).run Try.prog wo.drew = .ok (goInt (m : Int)) w6) ∧ Aside0 (w6.heap[G]? = some (.cells (curK x n (k + m)).toArray 3 (0, 0))) ∧ Aside0 (Below G w w6) := by
        have hgd : wo.drew.heap[G]? = some (.cells (curK x n k).toArray 3 (0, 0)) := hg.out
        have h := fun ty => run_copy_row (P := Try.prog) wo.drew 22 22 ty 3 G k (n - k) (n - k) ⟨G, 0, none⟩ k n _ 3 (List.replicate m (.int .i64 x)) ht hsz hgd (by rw [List.length_replicate]; exact hm) (fun j v hv => by
          have hj := (List.getElem?_eq_some_iff.1 hv).1
          rw [List.length_replicate] at hj
          rw [List.getElem?_replicate, if_pos hj] at hv
          injection hv with hv
          subst hv
          rw [addr0_add, blk_cell hgd j]
          unfold curK
          rw [List.getElem?_toArray, List.getElem?_append_left (by rw [List.length_replicate]; omega), List.getElem?_replicate, if_pos (by omega)]) (by rw [List.size_toArray, curK_length x n k p0, List.length_replicate]; omega) (by intro v hv; obtain ⟨_, rfl⟩ := List.mem_replicate.1 hv; rfl)
        have e := curK_splice x n k m (by omega)
        refine ⟨_, fun ty => (h ty).trans (by rw [List.length_replicate]), ⟨?_⟩, ⟨below_setRow (below_drew hb.out) (Nat.le_refl _) _⟩⟩
        refine (setRow_heap _ _ _ _ _ _ hgd).trans ?_
        exact congrArg (fun l => some (Obj.cells (List.toArray l) 3 (0, 0))) e
      have hmn : k + m ≤ n := by omega
      have hwkm : IntKind.i64.wrap ((k : Int) + (m : Int)) = (k : Int) + (m : Int) := by rw [i64_w]; unfold wrap64; omega
      have hm1 : 1 ≤ m := by omega
      replace hm := Aside0.mk hm
      replace hg := Aside0.mk hg.out
      clear hg hb ht hel hu hi his
      go_wp2_with fail
      refine wp_region_any (by kernel_rfl) ?_
      change wpAny _ _ _ _ _ _ _ wo.drew
      refine region_anyI (fun _ => True) [0, 1, 2, 3, 4, 5, 6] [7, 8, 9] [9] (by kernel_rfl) (by kernel_rfl) (by kernel_rfl) (by kernel_rfl) rfl (fun _ _ _ h => h) trivial ?_
      iterate 7 refine ReadsI.step _ rfl rfl (fun W hW => by go_simp; first | rfl | done) ?_
      change TailL _ _ _ _ _ _ _
      refine TailL.val rfl rfl (by go_simp; first | rfl | exact ⟨rfl, rfl⟩ | done) (fun _ => trivial) ?_
      refine TailL.val rfl rfl (by go_simp; first | rfl | exact ⟨rfl, rfl⟩ | done) (fun _ => trivial) ?_
      refine TailL.val rfl rfl (by go_simp; first | rfl | exact ⟨rfl, rfl⟩ | done) (fun h => absurd rfl h) ?_
      unfold TailL
      simp only [List.getElem_toArray, List.getElem_cons_succ, List.getElem_cons_zero, Act.put, List.setIfInBounds_toArray, List.set_cons_zero, List.set_cons_succ]
      clear hs1 hs2 hrun
      go_wp2
      go_roundw
      case rel => exact ⟨k + m, by simp, by have := hm.out; omega, by omega, hg6, hb6⟩
      case measure => have := hm.out; simp [intOf]; omega
    · obtain rfl : k = n := by omega
      go_wp2
      unfold MarksPost
      refine Marks.zero _ (results_tmp rfl _ _ _) ?_
      exact ⟨_, rfl, hg.out, by omega, by rw [hG]; exact hb.out⟩
end Go.Proofs.Ythalgcpohnknbaa.Hand
/- seg.OfHeads: how many elements each segment has, from its heads. -/
namespace Go.Proofs.Ythalgcpohnknbaa.Hand
open Go.RowKit Go.Proofs.YthalgcpohnknbaaW.PrintWords Go.Proofs.YthalgcpohnknbaaW.PrintLast Go.Proofs.YthalgcpohnknbaaW.PrintMore
set_option linter.unusedVariables false
set_option linter.unusedSimpArgs false
attribute [local go_sem] store_func store_nilFunc Oper.semAt_some
theorem seg_OfHeads1 (n : Int) (w : World) : Calls Try.prog 61 #[.int .i64 n] w fun e w' => e = .returned (.bool (decide (n < 0))) ∧ Drawn0 w w' := by
  go_enter Try.func61, Try.ntmps61
  go_wp2
  go_ret
  exact ⟨rfl, ⟨0, rfl⟩⟩
def seg_OfHeads.g (l : List Int) : List Int × Int := if 1048577 < l.length then ([], 3) else if l.length = 0 then ([], 1) else if negs l then ([], 2) else if 1048576 < ttl l then ([], 9)
  else if okStarts (repsTo l l.length) ((l.length : Int) - 1) then (upTo (lenAt (repsTo l l.length) ((l.length : Int) - 1)) (repsTo l l.length).length, 0) else ([], 7)
set_option maxHeartbeats 4000000 in
set_option maxRecDepth 100000 in
theorem seg_OfHeads_mid (A : Option Addr) (c : Nat) (l : List Int) (w : World) (hr : Kd.C (Kd.int .i64) w A l.length l) (hc : l.length ≤ c) (h1 : l.length ≤ 1048577) (h0 : 0 < l.length) (hng : negs l = false) (ht : ttl l ≤ 1048576) :
    Calls Try.prog 28 #[.slice A l.length c] w (Ret2 w (if okStarts (repsTo l l.length) ((l.length : Int) - 1) then ((seg_lengths.g (repsTo l l.length) ((l.length : Int) - 1)).1, 0) else ([], 7))) := by
  have HSh := Aside0.mk (short_lit 1048577 _ l w w.heap.size rfl (Sl.of hr hc))
  rw [decide_eq_false (show ¬ (1048577 : Int) < (l.length : Int) by omega)] at HSh
  have HNg : Aside0 (∀ W, Below w.heap.size w W → Calls Try.prog 53 #[.slice A l.length c, .func (.func 61) #[] #[]] W fun e w' => e = .returned (.bool false) ∧ Drawn0 W w') := ⟨fun W hW => by
    have h := slices_ContainsFunc 61 #[] #[] A c l (fun n => decide (n < 0)) W Try.call61 (Kd.C_below hr hW) (fun x _ W1 hW1 => (seg_OfHeads1 x W1).mono fun e W' ⟨he, hd⟩ => ⟨he, drawn_trans hW1 hd⟩)
    have e : l.any (fun n => decide (n < 0)) = false := hng
    rw [e] at h
    exact h⟩
  have q2 := negs_pos hng
  have HSm : Aside0 (∀ W, Below w.heap.size w W → Calls Try.prog 55 #[.slice A l.length c] W fun e w' => e = .returned (.tuple #[.int .i64 (ttl l : Nat), .bool true]) ∧ Drawn0 W w') := ⟨fun W hW => by
    have h := seg_sum A c l W (Kd.C_below hr hW) q2
    unfold sumB at h
    rw [if_pos ht] at h
    exact h⟩
  have HR := Aside0.mk hr
  have hm : l.length ≤ 9223372036854775807 := hr.2.1
  have hrl := repsTo_length l l.length (Nat.le_refl _)
  have HL : Aside0 (∀ A4 c4 W, (Kd.int .i64).C W A4 (repsTo l l.length).length (repsTo l l.length) → Calls Try.prog 60 #[.slice A4 (repsTo l l.length).length c4, .int .i64 ((l.length : Int) - 1)] W (RetL W (seg_lengths.g (repsTo l l.length) ((l.length : Int) - 1)))) := ⟨fun A4 c4 W h => seg_lengths.run A4 c4 _ _ W h (by rw [hrl]; exact ht)⟩
  have HG : Aside0 (seg_lengths.g (repsTo l l.length) ((l.length : Int) - 1) = if okStarts (repsTo l l.length) ((l.length : Int) - 1) then ((seg_lengths.g (repsTo l l.length) ((l.length : Int) - 1)).1, true) else ([], false)) := ⟨by
    unfold seg_lengths.g
    cases okStarts (repsTo l l.length) ((l.length : Int) - 1) <;> rfl⟩
  generalize okStarts (repsTo l l.length) ((l.length : Int) - 1) = ok at *
  generalize seg_lengths.g (repsTo l l.length) ((l.length : Int) - 1) = G at *
  obtain ⟨RR, hRR⟩ : ∃ RR : List Int × Int, RR = if ok = true then (G.1, 0) else ([], 7) := ⟨_, rfl⟩
  rw [← hRR]
  replace hRR := Aside0.mk hRR
  obtain ⟨T, hT⟩ : ∃ T, ttl l = T := ⟨_, rfl⟩
  rw [hT] at HSm ht
  replace hT := Aside0.mk hT
  have z0 : ((l.length : Int) == 0) = false := beq_eq_false_iff_ne.mpr (by omega)
  clear hr hc hng hrl
  replace q2 := Aside0.mk q2
  go_enter Try.func28, Try.ntmps28
  go_wp2_with fail
  refine (HSh.out).mono ?_
  rintro e w2 ⟨rfl, hb2⟩
  replace hb2 := Aside0.mk hb2
  go_wp2_with fail
  refine (HNg.out _ hb2.out).mono ?_
  rintro e w3 ⟨rfl, m3, hw3⟩
  have hb3 := Aside0.mk (show Below w.heap.size w w3 by rw [hw3]; exact pw_below_drewN hb2.out _)
  clear hw3
  go_wp2_with fail
  refine (HSm.out _ hb3.out).mono ?_
  rintro e w4 ⟨rfl, m4, hw4⟩
  have hb4 := Aside0.mk (show Below w.heap.size w w4 by rw [hw4]; exact pw_below_drewN hb3.out _)
  clear hw4 hb2 hb3 HSh HNg HSm z0
  go_wp2
  go_loopw [6, 32] (fun v i W => ∃ m : Nat, i = .int .i64 (m : Int) ∧ m ≤ l.length ∧ Aside0 (Below w.heap.size w W) ∧ Aside0 ((Kd.int .i64).R 3 W w.heap.size (fun k => w.heap.size ≤ k) v (repsTo l m))) (fun _ i _ => l.length - (intOf i).toNat)
  case atStart => exact ⟨0, rfl, by omega, hb4, ⟨Kd.R_nil _ _ _ _ _⟩⟩
  case round =>
    obtain ⟨m, rfl, p0, hb, hR⟩ := hrel
    clear hb4
    by_cases hlt : m < l.length
    · obtain ⟨ad, e1, hx⟩ := Kd.at_int (Kd.C_below HR.out hb.out) (m : Int) (by omega) (by omega)
      cases e1
      rw [Int.toNat_natCast] at hx
      have hn0 := q2.out _ (rd_mem l (m : Int) (by omega) (by omega))
      obtain ⟨n, hn⟩ : ∃ n : Nat, rd l (m : Int) = n := ⟨(rd l (m : Int)).toNat, by omega⟩
      have hsu := repsTo_succ l m
      have hle := repsTo_length l (m + 1) (by omega)
      have hle2 := startOf_le_ttl l (m + 1) (by omega)
      rw [hT.out] at hle2
      rw [hsu, List.length_append, List.length_replicate] at hle
      rw [hn] at hx
      rw [hn, Int.toNat_natCast] at hle hsu
      have hxl : (repsTo l m).length + n ≤ 1048576 := by omega
      generalize repsTo l m = xs at *
      replace hsu := Aside0.mk hsu
      have hnb : n ≤ 1048576 := by omega
      have HRp := Aside0.mk (slices_Repeat wr.heap.size 1 (m : Int) n (wr.alloc (.cells #[.int .i64 (m : Int)] 3)) hnb (blk_cell (blk_new wr _) 0))
      have HL2 : Aside0 ((xs.length + n) * 8 ≤ 140737488355328) := ⟨by omega⟩
      clear hn hn0 hle hle2 hxl
      go_wp2_with fail
      refine HRp.out.mono ?_
      rintro e w5 ⟨g, rfl, hg, hg2, hb5⟩
      have hb6 := Aside0.mk (hb.out.trans (((below_alloc (Below.refl _ _) _).trans (hb5.mono (by simp))).mono hb.out.size))
      have R5 := Aside0.mk (Kd.R_below (Kd.R_alloc hR.out (.cells #[.int .i64 (m : Int)] 3)) hb5)
      have C5 : Aside0 ((Kd.int .i64).C w5 (some ⟨g, 0, none⟩) n (List.replicate n (m : Int))) := ⟨by
        have h := blk_ints (xs := List.replicate n (m : Int)) hg (by unfold curK; simp) (by rw [List.length_replicate]; omega)
        rwa [List.length_replicate] at h⟩
      clear hg hg2 hb5 HRp
      go_wp2_with ((with_reducible refine gate_builtin (b := .append) (xs := #[.tmp 37, .tmp 41]) rfl ?_); at_builtin; refine Kd.R_append_row (w0 := w) (Value.int .i64) (0 : Int) (h1 := fun _ => rfl) w.heap.size rfl _ _ 22 3 (.int .i64 0) 8 rfl Try.underlying22 infoInt rfl (by decide) u6 xs (List.replicate n (m : Int)) (some ⟨g, 0, none⟩) n n (fun k => w.heap.size ≤ k) rfl rfl (fun k hk => Nat.le_trans hb6.out.size hk) R5.out C5.out hb6.out hb6.out.size HL2.out ?_; intro v7 w7 R7 hb7 hg7 hat7; replace R7 := Aside0.mk R7; replace hb7 := Aside0.mk hb7; clear hg7 hat7)
      go_roundw
      case rel => exact ⟨m + 1, by simp, by omega, hb7, ⟨by rw [hsu.out]; exact R7.out⟩⟩
      case measure => simp [intOf]; omega
    · obtain rfl : m = l.length := by omega
      obtain ⟨A4, c4, rfl⟩ := Kd.R_slice hR.out
      have HL3 := Aside0.mk (HL.out A4 c4 wr (Kd.R_reads' hR.out).2.2)
      have zw : IntKind.i64.wrap ((l.length : Int) - 1) = (l.length : Int) - 1 := by rw [i64_w]; unfold wrap64; omega
      clear HL hR
      generalize (repsTo l l.length).length = n4 at *
      cases ok
      · have hG := HG.out
        simp only [Bool.false_eq_true, if_false] at hG
        subst hG
        obtain rfl : RR = ([], 7) := hRR.out
        go_wp2_with fail
        refine HL3.out.mono ?_
        rintro e w8 ⟨v, rfl, hv, hb8⟩
        replace hb8 := Aside0.mk (hb.out.trans (hb8.mono hb.out.size))
        clear hv
        go_wp2
        go_ret2
        exact Ret2.nil 7 hb8.out
      · have hG := HG.out
        simp only [if_true] at hG
        obtain ⟨g1, g2⟩ := G
        obtain rfl : g2 = true := congrArg Prod.snd hG
        obtain rfl : RR = (g1, 0) := hRR.out
        go_wp2_with fail
        refine HL3.out.mono ?_
        rintro e w8 ⟨v, rfl, hv, hb8⟩
        replace hb8 := Aside0.mk (hb.out.trans (hb8.mono hb.out.size))
        replace hv := Aside0.mk hv
        go_wp2
        go_ret2
        exact ⟨_, rfl, Kd.V_mono hv.out (fun k hk => Nat.le_trans hb.out.size hk), hb8.out⟩
set_option maxHeartbeats 4000000 in
set_option maxRecDepth 100000 in
theorem seg_OfHeads.run (A : Option Addr) (c : Nat) (l : List Int) (w : World) (hr : Kd.C (Kd.int .i64) w A l.length l) (hc : l.length ≤ c) :
    Calls Try.prog 28 #[.slice A l.length c] w (Ret2 w (seg_OfHeads.g l)) := by
  have HSh := Aside0.mk (short_lit 1048577 _ l w w.heap.size rfl (Sl.of hr hc))
  have HNg : Aside0 (∀ W, Below w.heap.size w W → Calls Try.prog 53 #[.slice A l.length c, .func (.func 61) #[] #[]] W fun e w' => e = .returned (.bool (negs l)) ∧ Drawn0 W w') := ⟨fun W hW =>
    slices_ContainsFunc 61 #[] #[] A c l (fun n => decide (n < 0)) W Try.call61 (Kd.C_below hr hW) (fun x _ W1 hW1 => (seg_OfHeads1 x W1).mono fun e W' ⟨he, hd⟩ => ⟨he, drawn_trans hW1 hd⟩)⟩
  have hm : l.length ≤ 9223372036854775807 := hr.2.1
  unfold seg_OfHeads.g
  by_cases h1 : 1048577 < l.length
  · rw [if_pos h1]
    rw [decide_eq_true (show (1048577 : Int) < (l.length : Int) by omega)] at HSh
    clear hr hc h1 HNg
    go_enter Try.func28, Try.ntmps28
    go_wp2_with fail
    refine (HSh.out).mono ?_
    rintro e w2 ⟨rfl, hb2⟩
    replace hb2 := Aside0.mk hb2
    go_wp2
    go_ret2
    exact Ret2.nil 3 hb2.out
  · rw [if_neg h1]
    rw [decide_eq_false (show ¬ (1048577 : Int) < (l.length : Int) by omega)] at HSh
    by_cases h0 : l.length = 0
    · rw [if_pos h0]
      have z0 : ((l.length : Int) == 0) = true := beq_iff_eq.mpr (by omega)
      replace h0 := Aside0.mk h0
      clear hr hc h1 HNg
      go_enter Try.func28, Try.ntmps28
      go_wp2_with fail
      refine (HSh.out).mono ?_
      rintro e w2 ⟨rfl, hb2⟩
      replace hb2 := Aside0.mk hb2
      go_wp2
      go_ret2
      exact Ret2.nil 1 hb2.out
    · rw [if_neg h0]
      have z0 : ((l.length : Int) == 0) = false := beq_eq_false_iff_ne.mpr (by omega)
      cases hng : negs l
      · simp only [Bool.false_eq_true, if_false]
        by_cases ht : 1048576 < ttl l
        · rw [if_pos ht]
          have HSm : Aside0 (∀ W, Below w.heap.size w W → Calls Try.prog 55 #[.slice A l.length c] W fun e w' => e = .returned (.tuple #[.int .i64 0, .bool false]) ∧ Drawn0 W w') := ⟨fun W hW => by
            have h := seg_sum A c l W (Kd.C_below hr hW) (negs_pos hng)
            unfold sumB at h
            rw [if_neg (by omega)] at h
            exact h⟩
          rw [hng] at HNg
          replace h0 := Aside0.mk h0
          clear hr hc h1 hng ht
          go_enter Try.func28, Try.ntmps28
          go_wp2_with fail
          refine (HSh.out).mono ?_
          rintro e w2 ⟨rfl, hb2⟩
          replace hb2 := Aside0.mk hb2
          go_wp2_with fail
          refine (HNg.out _ hb2.out).mono ?_
          rintro e w3 ⟨rfl, m3, hw3⟩
          have hb3 := Aside0.mk (show Below w.heap.size w w3 by rw [hw3]; exact pw_below_drewN hb2.out _)
          clear hw3
          go_wp2_with ((with_reducible refine (HSm.out _ hb3.out).mono ?_); rintro e w4 ⟨rfl, m4, rfl⟩)
          go_ret2
          exact Ret2.nil 9 (pw_below_drewN hb3.out _)
        · rw [if_neg ht]
          have H := seg_OfHeads_mid A c l w hr hc (by omega) (by omega) hng (by omega)
          have e : (if okStarts (repsTo l l.length) ((l.length : Int) - 1) = true then ((seg_lengths.g (repsTo l l.length) ((l.length : Int) - 1)).1, (0 : Int)) else ([], 7)) = if okStarts (repsTo l l.length) ((l.length : Int) - 1) = true then (upTo (lenAt (repsTo l l.length) ((l.length : Int) - 1)) (repsTo l l.length).length, 0) else ([], 7) := by
            unfold seg_lengths.g
            cases okStarts (repsTo l l.length) ((l.length : Int) - 1) <;> rfl
          rw [e] at H
          exact H
      · simp only [if_true]
        rw [hng] at HNg
        replace h0 := Aside0.mk h0
        clear hr hc h1 hng
        go_enter Try.func28, Try.ntmps28
        go_wp2_with fail
        refine (HSh.out).mono ?_
        rintro e w2 ⟨rfl, hb2⟩
        replace hb2 := Aside0.mk hb2
        go_wp2_with fail
        refine (HNg.out _ hb2.out).mono ?_
        rintro e w3 ⟨rfl, m3, hw3⟩
        have hb3 := Aside0.mk (show Below w.heap.size w w3 by rw [hw3]; exact pw_below_drewN hb2.out _)
        clear hw3
        go_wp2
        go_ret2
        exact Ret2.nil 2 hb3.out
end Go.Proofs.Ythalgcpohnknbaa.Hand
/- seg.touched: spans, their order, the library's sort of them, rows of them that a call makes. -/
namespace Go.Proofs
open Go.Shelf Go.Lib Go.Sort Go.RowKit
shelf_lay_g SlLaysF0.n6 Slsf 6 at Try 76 as Ythalgcpohnknbaa.Hand.sortE
end Go.Proofs
namespace Go.Proofs.Ythalgcpohnknbaa.Hand
open Go.RowKit Go.Sort Go.Proofs.YthalgcpohnknbaaW.PrintWords Go.Proofs.YthalgcpohnknbaaW.PrintLast Go.Proofs.YthalgcpohnknbaaW.PrintMore
set_option linter.unusedVariables false
set_option linter.unusedSimpArgs false
attribute [local go_sem] store_func store_nilFunc
set_option maxHeartbeats 4000000 in
set_option maxRecDepth 100000 in
theorem seg_touched1 (x y : Int × Int) (w : World) : Calls Try.prog 77 #[.agg #[.int .i64 x.1, .int .i64 x.2], .agg #[.int .i64 y.1, .int .i64 y.2]] w fun e w' => e = .returned (.int .i64 (cfB x y)) ∧ Gr w w' := by
  obtain ⟨a, b⟩ := x
  obtain ⟨c, d⟩ := y
  have HE : Aside0 (cfB (a, b) (c, d) = orI (cmpI a c) (cmpI b d)) := ⟨rfl⟩
  generalize cfB (a, b) (c, d) = E at HE ⊢
  have H1 : Aside0 (∀ W, Calls Try.prog 79 #[.int .i64 a, .int .i64 c] W fun e W' => e = .returned (.int .i64 (cmpI a c)) ∧ Drawn0 W W') := ⟨fun W => cmp_Compare a c W⟩
  have H2 : Aside0 (∀ W, Calls Try.prog 79 #[.int .i64 b, .int .i64 d] W fun e W' => e = .returned (.int .i64 (cmpI b d)) ∧ Drawn0 W W') := ⟨fun W => cmp_Compare b d W⟩
  have H3 : Aside0 (∀ g W, W.cell? ⟨g, 0, none⟩ = some (.int .i64 (cmpI a c)) → W.cell? ⟨g, 1, none⟩ = some (.int .i64 (cmpI b d)) → Calls Try.prog 78 #[.slice (some ⟨g, 0, none⟩) 2 2] W fun e W' => e = .returned (.int .i64 E) ∧ Drawn0 W W') := ⟨fun g W h1 h2 => by rw [HE.out]; exact cmp_Or g 2 _ _ W h1 h2⟩
  generalize cmpI a c = u at *
  generalize cmpI b d = v at *
  clear HE
  refine calls_of_marks Try.func77 rfl ?_
  simp only [Try.ntmps77, List.size_toArray, List.length_cons, List.length_nil, Nat.reduceAdd, Nat.reduceSub, Array.replicate_succ, Array.replicate_zero, List.push_toArray, List.append_toArray, List.nil_append, List.cons_append]
  go_wp2
  refine wp_region_any (by kernel_rfl) ?_
  generalize hw1 : (w.alloc (Obj.cells #[Value.int IntKind.i64 a, Value.int IntKind.i64 b] 52)).alloc (Obj.cells #[Value.int IntKind.i64 c, Value.int IntKind.i64 d] 52) = w1
  have hG1 : Gr w w1 := by rw [← hw1]; exact ((Gr.refl w).alloc _).alloc _
  have kx : w1.heap[w.heap.size]? = some (.cells #[.int .i64 a, .int .i64 b] 52 (0, 0)) := by rw [← hw1]; exact blk_alloc (blk_new w _) _
  have ky : w1.heap[w.heap.size + 1]? = some (.cells #[.int .i64 c, .int .i64 d] 52 (0, 0)) := by rw [← hw1]; exact blk_new_at (by simp) _
  clear hw1
  change wpAny _ _ _ _ _ _ _ w1.drew
  have HS : Aside0 (∀ W, Below w1.heap.size w1 W → W.cell? ⟨w.heap.size, 0, none⟩ = some (.int .i64 a) ∧ W.cell? ⟨w.heap.size, 1, none⟩ = some (.int .i64 b) ∧ W.cell? ⟨w.heap.size + 1, 0, none⟩ = some (.int .i64 c) ∧ W.cell? ⟨w.heap.size + 1, 1, none⟩ = some (.int .i64 d)) := ⟨fun W hW => ⟨blk_cell (blk_below kx hW) 0, blk_cell (blk_below kx hW) 1, blk_cell (blk_below ky hW) 0, blk_cell (blk_below ky hW) 1⟩⟩
  clear kx ky
  have hg0 : Gr w1 w1.drew := (Gr.refl w1).drew
  refine region_anyI (fun W => W.cell? ⟨w.heap.size, 0, none⟩ = some (.int .i64 a) ∧ W.cell? ⟨w.heap.size, 1, none⟩ = some (.int .i64 b) ∧ W.cell? ⟨w.heap.size + 1, 0, none⟩ = some (.int .i64 c) ∧ W.cell? ⟨w.heap.size + 1, 1, none⟩ = some (.int .i64 d)) [0, 1, 2, 3, 5, 6, 7, 8] [4, 9, 10, 11, 12] [12] (by kernel_rfl) (by kernel_rfl) (by kernel_rfl) (by kernel_rfl) rfl (fun _ _ _ h => h) (HS.out _ hg0.below) ?_
  iterate 8 refine ReadsI.step _ rfl rfl (fun W hW => by obtain ⟨k1, k2, k3, k4⟩ := hW; go_simp; first | rfl | done) ?_
  change TailL _ _ _ _ _ _ _
  refine TailL.call rfl rfl (by go_simp) (H1.out _) ?_
  rintro en w2 ⟨rfl, hd2⟩
  have hg2 := hg0.trans (Gr.of_drawn hd2)
  refine ⟨_, rfl, fun _ => HS.out _ hg2.below, ?_⟩
  refine TailL.call rfl rfl (by go_simp) (H2.out _) ?_
  rintro en w3 ⟨rfl, hd3⟩
  have hg3 := hg2.trans (Gr.of_drawn hd3)
  refine ⟨_, rfl, fun _ => HS.out _ hg3.below, ?_⟩
  refine TailL.val rfl rfl (by go_simp; exact ⟨rfl, rfl⟩) (fun _ => HS.out _ (hg3.alloc _).below) ?_
  refine TailL.call rfl rfl (by go_simp) (H3.out _ _ (blk_cell (blk_new w3 _) 0) (blk_cell (blk_new w3 _) 1)) ?_
  rintro en w5 ⟨rfl, hd5⟩
  have hg5 := (hg3.alloc (Obj.cells #[.int .i64 u, .int .i64 v] 3)).trans (Gr.of_drawn hd5)
  refine ⟨_, rfl, fun _ => HS.out _ hg5.below, ?_⟩
  have hG5 := hG1.trans hg5
  clear hg0 hg2 hg3 hg5 hd2 hd3 hd5
  refine TailL.val rfl rfl (by first | (go_simp; done) | (go_simp; first | rfl | exact ⟨rfl, rfl⟩)) (fun h => absurd rfl h) ?_
  unfold TailL
  simp only [List.getElem_toArray, List.getElem_cons_succ, List.getElem_cons_zero, Act.put, List.setIfInBounds_toArray, List.set_cons_zero, List.set_cons_succ]
  go_wp2
  unfold MarksPost
  refine Marks.zero _ (results_tmp rfl _ _ _) ?_
  exact ⟨rfl, hG5⟩
theorem ltB (x y : Int × Int) : ltOf cfB x y = ltOf cfE x y := by
  unfold ltOf cfE
  by_cases h : x = y
  · subst h
    rw [if_pos rfl]
    simp [cfB, orI, cmpI]
  · rw [if_neg h]
theorem ltBE : ltOf cfB = ltOf cfE := by funext x y; exact ltB x y
set_option maxRecDepth 100000 in
theorem sortFunc_spans (g cap : Nat) (cur : Array Value) (ys : List (Int × Int)) (w : World) (hb : w.heap[g]? = some (.cells cur 52 (0, 0))) (h3 : cur.size = cap * 2) (h1 : ys.length ≤ cap) (h4 : cur.toList.take (ys.length * 2) = flat ys) (hsz : ys.length ≤ 1048576) :
    Calls Try.prog 76 #[.slice (some ⟨g, 0, none⟩) ys.length cap, .func (.func 77) #[] #[]] w fun e w' =>
      e = .returned (.tuple #[]) ∧ Kp (fun k => k = g) w w' ∧ ∃ cur', w'.heap[g]? = some (.cells cur' 52 (0, 0)) ∧ cur'.size = cap * 2 ∧ cur'.toList.take (ys.length * 2) = flat (ys.mergeSort leE) := by
  have hH := holdsE hb h4
  have hcmp : CmpLays Try.prog 77 #[] encE 2 cfB g 0 ys.toArray.size w := by
    intro m os dk hdk x y
    exact seg_touched1 x y _
  have h := AnyQ.slices_SortFunc_total sortE 2 Try.isAgg52 Try.sizeOf52 encE (fun _ => rfl) (fun x v hv => by simp [encE] at hv; rcases hv with rfl | rfl <;> rfl) cfB (by rw [ltBE]; exact swoE) 77 #[] g 0 cap ys.toArray w Try.call77 hcmp hH (blk_lt hb) (by simp; omega) (by rw [ltBE]; exact totE)
  change Calls Try.prog 76 _ _ _ at h
  refine (show Calls Try.prog 76 #[.slice (some ⟨g, 0, none⟩) ys.toArray.size cap, .func (.func 77) #[] #[]] w _ from h).mono ?_
  rintro e w' ⟨rfl, n, os, rfl⟩
  have e1 : (ys.toArray.toList.mergeSort fun x y => !(ltOf cfB) y x) = ys.mergeSort leE := by rw [ltBE]; rfl
  rw [e1]
  unfold sortWorldK putRowK
  rw [flatK_flat]
  refine ⟨rfl, kp_sortedV _, _, heap_sortedV _ hb, by simp [putCells, h3], ?_⟩
  have hl : (flat (ys.mergeSort leE)).length = ys.length * 2 := by rw [flat_length, List.length_mergeSort]
  rw [← hl]
  exact take_putCellsV cur _ (by omega)
theorem sortFunc_none (w : World) (v : Value) : Calls Try.prog 76 #[.slice none 0 0, v] w fun e w' => e = .returned (.tuple #[]) ∧ w' = w := AnyF.slices_SortFunc_none sortE none 0 v w
theorem infoSpan : (Try.prog.info? 52).map (fun i => (i.zero, i.size, i.bytes)) = some (some (.agg #[.int .i64 0, .int .i64 0]), 2, 16) := by kernel_rfl
theorem elem_at {w : World} {A : Option Addr} {n : Nat} {ys : List (Int × Int)} (h : kE.C w A n ys) (k : Nat) (hk : k < n) : ∃ ad, A = some ad ∧ w.cell? (ad.add (k * 2)) = some (.int .i64 (ys.getD k (0, 0)).1) ∧ w.cell? (ad.add (k * 2 + 1)) = some (.int .i64 (ys.getD k (0, 0)).2) := by
  obtain ⟨hn, _, hr⟩ := h
  obtain ⟨ad, e, hr⟩ := hr (by omega)
  have hk' : k < ys.length := by omega
  obtain ⟨c, hc, ⟨c0, c1, he, h0, h1⟩, hcell⟩ := hr k ys[k] (List.getElem?_eq_getElem hk')
  have h0' : c0 = [.int .i64 ys[k].1] := h0
  have h1' : c1 = [.int .i64 ys[k].2] := h1
  subst h0'
  subst h1'
  subst he
  have e2 : ys.getD k (0, 0) = ys[k] := by rw [List.getD_eq_getElem?_getD, List.getElem?_eq_getElem hk', Option.getD_some]
  rw [e2]
  exact ⟨ad, e, hcell 0 _ rfl, hcell 1 _ rfl⟩
/-- A row of spans of the call's own, by its cells. -/
theorem elems_R {e base : Nat} {ok : Nat → Prop} {w : World} {g cap : Nat} {cur : Array Value} {ys : List (Int × Int)} (hok : ok g) (hb : base ≤ g) (hm : w.heap[g]? = some (.cells cur e (0, 0))) (h1 : ys.length ≤ cap) (h2 : cap ≤ maxLen) (h3 : cur.size = cap * 2) (h4 : cur.toList.take (ys.length * 2) = flat ys) :
    kE.R e w base ok (.slice (some ⟨g, 0, none⟩) ys.length cap) ys := by
  refine ⟨fun k hk => by simp [Value.ownBlock] at hk; subst hk; exact hok, flat ys, ⟨?_, .inr ⟨g, cap, cur, rfl, hb, hm, h1, h2, h3, h4⟩⟩, ?_⟩
  · first | exact flat_length ys | (rw [flat_length]) | (show (flat ys).length = _; rw [flat_length])
  · refine ⟨flat_length ys, fun j p hj => ⟨[.int .i64 p.1], [.int .i64 p.2], ?_, rfl, rfl⟩⟩
    have hg := flat_get ys j p hj
    have hl := flat_length ys
    have hj2 : j < ys.length := (List.getElem?_eq_some_iff.1 hj).1
    apply List.ext_getElem?
    intro i
    show (List.take 2 (List.drop (j * 2) (flat ys)))[i]? = ([Value.int .i64 p.1] ++ [Value.int .i64 p.2])[i]?
    by_cases hi : i < 2
    · rw [List.getElem?_take_of_lt hi, List.getElem?_drop]
      match i, hi with
      | 0, _ => rw [Nat.add_zero, hg.1]; rfl
      | 1, _ => rw [hg.2]; rfl
    · rw [List.getElem?_take_eq_none (by omega), List.getElem?_eq_none (by simp; omega)]
/-- The cells of a row of spans, at each place; and the row when the length of one of them is written. -/
theorem elems_put {e base : Nat} {ok : Nat → Prop} {w : World} {v : Value} {ys : List (Int × Int)} (h : kE.R e w base ok v ys) (k : Nat) (a b : Int) (hk : ys[k]? = some (a, b)) (x : Int) :
    ∃ g cap, v = .slice (some ⟨g, 0, none⟩) ys.length cap ∧ base ≤ g ∧ ok g ∧ w.cell? ⟨g, k * 2, none⟩ = some (.int .i64 a) ∧ w.cell? ⟨g, k * 2 + 1, none⟩ = some (.int .i64 b) ∧ w.frozen? ⟨g, k * 2 + 1, none⟩ = false ∧
      kE.R e (w.setCell ⟨g, k * 2 + 1, none⟩ (.int .i64 x)) base ok (.slice (some ⟨g, 0, none⟩) ys.length cap) (ys.set k (a, x)) := by
  have hlt : k < ys.length := (List.getElem?_eq_some_iff.1 hk).1
  have hok := h.1
  rcases elems_own h with ⟨rfl, hn⟩ | ⟨g, cap, cur, rfl, hb, hm, h1, h2, h3, h4⟩
  · subst hn; simp at hlt
  · have hg := flat_get ys k (a, b) hk
    have hc : ∀ t v, t < ys.length * 2 → (flat ys)[t]? = some v → w.cell? ⟨g, t, none⟩ = some v := fun t v g1 g2 => by
      rw [blk_cell hm t, ← Array.getElem?_toList, ← g2, ← h4, List.getElem?_take_of_lt g1]
    have hokg : ok g := hok g rfl
    refine ⟨g, cap, rfl, hb, hokg, hc _ _ (by omega) hg.1, hc _ _ (by omega) hg.2, blk_frozen hm _, ?_⟩
    have hlen : (ys.set k (a, x)).length = ys.length := List.length_set
    have hf : flat (ys.set k (a, x)) = (flat ys).set (k * 2 + 1) (.int .i64 x) := by
      apply List.ext_getElem?
      intro t
      rw [List.getElem?_set]
      by_cases ht : t < ys.length * 2
      · have hj : t / 2 < ys.length := by omega
        have g5 := flat_get ys (t / 2) ys[t / 2] (List.getElem?_eq_getElem hj)
        have g6 := flat_get (ys.set k (a, x)) (t / 2) (ys.set k (a, x))[t / 2] (List.getElem?_eq_getElem (by rw [hlen]; exact hj))
        rw [List.getElem_set] at g6
        have hka : ys[k] = (a, b) := by rw [List.getElem?_eq_getElem hlt] at hk; exact Option.some.inj hk
        rcases Nat.mod_two_eq_zero_or_one t with h0 | h0
        · have e0 : t / 2 * 2 = t := by omega
          rw [e0] at g5 g6
          rw [if_neg (by omega), g6.1, g5.1]
          by_cases hkt : k = t / 2
          · subst hkt; rw [if_pos rfl, hka]
          · rw [if_neg hkt]
        · have e0 : t / 2 * 2 + 1 = t := by omega
          rw [e0] at g5 g6
          rw [g6.2]
          by_cases hkt : k = t / 2
          · subst hkt; rw [if_pos rfl, if_pos e0, if_pos (by rw [flat_length]; omega)]
          · rw [if_neg hkt, if_neg (by omega), g5.2]
      · have hfl := flat_length (ys.set k (a, x))
        rw [hlen] at hfl
        have hfl2 := flat_length ys
        rw [List.getElem?_eq_none (by omega), if_neg (by omega), List.getElem?_eq_none (by omega)]
    have hset : (w.setCell ⟨g, k * 2 + 1, none⟩ (.int .i64 x)).heap[g]? = some (.cells (cur.setIfInBounds (k * 2 + 1) (.int .i64 x)) e (0, 0)) := blk_set hm (k * 2 + 1) _
    have H := elems_R (ys := ys.set k (a, x)) (cap := cap) (base := base) (ok := ok) (e := e) hokg hb hset (by rw [hlen]; exact h1) h2 (by simp [h3]) (by
      rw [hlen, hf, ← h4, Array.toList_setIfInBounds]
      rw [List.take_set])
    rw [hlen] at H
    exact H
end Go.Proofs.Ythalgcpohnknbaa.Hand
/- seg.touched: the touched places of segments, as spans. -/
namespace Go.Proofs.Ythalgcpohnknbaa.Hand
open Go.RowKit Go.Proofs.YthalgcpohnknbaaW.PrintWords Go.Proofs.YthalgcpohnknbaaW.PrintLast Go.Proofs.YthalgcpohnknbaaW.PrintMore
open Go.Sort
set_option linter.unusedVariables false
set_option linter.unusedSimpArgs false
attribute [local go_sem] store_func store_nilFunc Oper.semAt_some
def spansTo (s l : List Int) (k : Nat) : List (Int × Int) := (List.range k).map fun (i : Nat) => (rd s (i : Int), rd l (i : Int))
theorem spansTo_length (s l : List Int) (k : Nat) : (spansTo s l k).length = k := by simp [spansTo]
theorem spansTo_succ (s l : List Int) (k : Nat) : spansTo s l (k + 1) = spansTo s l k ++ [(rd s (k : Int), rd l (k : Int))] := by simp [spansTo, List.range_succ]
def sortedSpans (s l : List Int) : List (Int × Int) := (spansTo s l s.length).mergeSort leE
theorem sortedSpans_length (s l : List Int) : (sortedSpans s l).length = s.length := by rw [sortedSpans, List.length_mergeSort, spansTo_length]
def spanLast (o : List (Int × Int)) : Int × Int := o.getD (o.length - 1) (0, 0)
def mergeStep (st : List (Int × Int) × (Int × Int)) (x : Int × Int) : List (Int × Int) × (Int × Int) :=
  if ((x.2 == 0) || ((x.1 == st.2.1) && (x.2 == st.2.2))) then st
  else if (decide (st.1.length = 0) || decide ((spanLast st.1).1 + (spanLast st.1).2 < x.1)) then (st.1 ++ [x], x)
  else (st.1.set (st.1.length - 1) ((spanLast st.1).1, max (spanLast st.1).2 (x.1 + x.2 - (spanLast st.1).1)), x)
def mergeTo (all : List (Int × Int)) : Nat → List (Int × Int) × (Int × Int)
  | 0 => ([], (0, 0))
  | k + 1 => mergeStep (mergeTo all k) (all.getD k (0, 0))
def touchedG (s l : List Int) : List (Int × Int) := (mergeTo (sortedSpans s l) s.length).1
/-- A span that lies in a pool. -/
def okSp (p : Int × Int) : Prop := 0 ≤ p.1 ∧ 0 ≤ p.2 ∧ p.1 + p.2 ≤ 1048576
theorem spanLast_mem {o : List (Int × Int)} (h : 0 < o.length) : spanLast o ∈ o := by
  unfold spanLast
  rw [List.getD_eq_getElem?_getD, List.getElem?_eq_getElem (by omega)]
  exact List.getElem_mem _
theorem mergeTo_ok (all : List (Int × Int)) (h : ∀ p ∈ all, okSp p) : ∀ k : Nat, k ≤ all.length → (∀ p ∈ (mergeTo all k).1, okSp p) ∧ (mergeTo all k).1.length ≤ k
  | 0, _ => ⟨by simp [mergeTo], by simp [mergeTo]⟩
  | k + 1, hk => by
    obtain ⟨h1, h2⟩ := mergeTo_ok all h k (by omega)
    have hx : okSp (all.getD k (0, 0)) := by
      rw [List.getD_eq_getElem?_getD, List.getElem?_eq_getElem (show k < all.length by omega)]
      exact h _ (List.getElem_mem _)
    unfold mergeTo
    generalize mergeTo all k = st at *
    generalize all.getD k (0, 0) = x at *
    unfold mergeStep
    split
    · exact ⟨h1, by omega⟩
    · split
      · refine ⟨fun p hp => ?_, by simp; omega⟩
        rcases List.mem_append.1 hp with hp | hp
        · exact h1 p hp
        · rw [List.mem_singleton.1 hp]; exact hx
      · rename_i hq
        simp only [Bool.or_eq_true, decide_eq_true_eq, not_or] at hq
        have hl := h1 _ (spanLast_mem (show 0 < st.1.length by omega))
        refine ⟨fun p hp => ?_, by simp; omega⟩
        rcases List.mem_or_eq_of_mem_set hp with hp | hp
        · exact h1 p hp
        · subst hp
          unfold okSp at *
          simp only
          omega
set_option maxHeartbeats 4000000 in
set_option maxRecDepth 100000 in
theorem seg_touched.run (A : Option Addr) (c : Nat) (s : List Int) (A2 : Option Addr) (c2 : Nat) (l : List Int) (w : World) (hr : Kd.C (Kd.int .i64) w A s.length s) (hr2 : Kd.C (Kd.int .i64) w A2 l.length l) (hl : s.length ≤ 1048576) (h2a : l.length ≤ s.length) (h2b : s.length ≤ l.length)
    (hq : ∀ i : Nat, i < s.length → 0 ≤ rd s (i : Int) ∧ 0 ≤ rd l (i : Int) ∧ rd s (i : Int) + rd l (i : Int) ≤ 1048576) :
    Calls Try.prog 66 #[.slice A s.length c, .slice A2 l.length c2] w fun e w' => ∃ v, e = .returned v ∧ Kd.V kE 52 w' w.heap.size (fun k => w.heap.size ≤ k) v (touchedG s l) ∧ Below w.heap.size w w' := by
  have HR := Aside0.mk hr
  have HR2 := Aside0.mk hr2
  have HQ := Aside0.mk hq
  clear hr hr2 hq
  obtain ⟨TG, hTG⟩ : ∃ TG, TG = touchedG s l := ⟨_, rfl⟩
  rw [← hTG]
  replace hTG := Aside0.mk hTG
  refine calls_of_marks Try.func66 rfl ?_
  simp only [Try.ntmps66, List.size_toArray, List.length_cons, List.length_nil, Nat.reduceAdd, Nat.reduceSub, Array.replicate_succ, Array.replicate_zero, List.push_toArray, List.append_toArray, List.nil_append, List.cons_append]
  go_wp2
  go_step3
  go_wp2
  go_loopw [5, 15] (fun v i W => ∃ m : Nat, i = .int .i64 (m : Int) ∧ m ≤ s.length ∧ Aside0 (Below w.heap.size w W) ∧ Aside0 (kE.R 52 W w.heap.size (fun b => w.heap.size ≤ b) v (spansTo s l m))) (fun _ i _ => s.length - (intOf i).toNat)
  case atStart => exact ⟨0, rfl, by omega, ⟨Below.refl _ _⟩, ⟨Kd.R_nil _ _ _ _ _⟩⟩
  case round =>
    obtain ⟨m, rfl, p0, hb, hR⟩ := hrel
    by_cases hlt : m < s.length
    · obtain ⟨ad, e1, hx⟩ := Kd.at_int (Kd.C_below HR.out hb.out) (m : Int) (by omega) (by omega)
      obtain ⟨ad2, e2, hx2⟩ := Kd.at_int (Kd.C_below HR2.out hb.out) (m : Int) (by omega) (by omega)
      cases e1
      cases e2
      rw [Int.toNat_natCast] at hx hx2
      have hsu := Aside0.mk (spansTo_succ s l m)
      have HLs := Aside0.mk (show ((spansTo s l m).length + 1) * 16 ≤ 140737488355328 by rw [spansTo_length]; omega)
      generalize spansTo s l m = xs at *
      generalize rd s (m : Int) = a at *
      generalize rd l (m : Int) = b at *
      have hM : Aside0 (∀ W base ok, kE.M W base ok (a, b) [.int .i64 a, .int .i64 b]) := ⟨fun W base ok => kE_M (w := W) (base := base) (ok := ok) (a, b)⟩
      go_wp2_with ((with_reducible refine gate_builtin (b := .append) (xs := #[.tmp 20, .tmp 27]) rfl ?_); at_builtin; refine Kd.R_append kE (w0 := w) w.heap.size rfl (.tmp 20) (.tmp 27) 40 52 (.agg #[.int .i64 0, .int .i64 0]) 16 rfl Try.underlying40 infoSpan rfl (by decide) (by omega) u5 xs (a, b) [.int .i64 a, .int .i64 b] (fun k_ => (w.heap.size ≤ k_)) (fun _ => False) rfl rfl (hM.out _ _ _) (fun _ hk => hk.elim) (fun k_ hk => Nat.le_trans hb.out.size hk) hR.out hb.out hb.out.size HLs.out ?_; intro v6 w6 ho hb6 hg hat; replace ho := Aside0.mk ho; replace hb6 := Aside0.mk hb6; clear hg hat)
      go_roundw
      case rel => exact ⟨m + 1, by simp, by omega, hb6, ⟨by rw [hsu.out]; exact ho.out⟩⟩
      case measure => simp [intOf]; omega
    · obtain rfl : m = s.length := by omega
      obtain ⟨Aa, cc, rfl, hAa, hS⟩ : ∃ (Aa : Option Addr) (cc : Nat), u5 = .slice Aa s.length cc ∧ (∀ ad, Aa = some ad → ∃ g, ad = ⟨g, 0, none⟩) ∧ Calls Try.prog 76 #[.slice Aa s.length cc, .func (.func 77) #[] #[]] wr (fun e w' => e = .returned (.tuple #[]) ∧ Below w.heap.size w w' ∧ ∀ W, Kp (fun k => w'.heap.size ≤ k) w' W → kE.C W Aa s.length (sortedSpans s l)) := by
        have hsl := spansTo_length s l s.length
        rcases elems_own hR.out with ⟨rfl, hnil⟩ | ⟨g, cap, cur, rfl, hgb, hm, h1, h2, h3, h4⟩
        · have hl0 : s.length = 0 := by rw [hnil] at hsl; exact hsl.symm
          refine ⟨none, 0, by rw [hl0], (fun ad h => by cases h), ?_⟩
          rw [hl0]
          refine (sortFunc_none wr _).mono ?_
          rintro e w' ⟨rfl, rfl⟩
          refine ⟨rfl, hb.out, fun W hW => ?_⟩
          have : sortedSpans s l = [] := List.length_eq_zero_iff.1 (by rw [sortedSpans_length]; exact hl0)
          rw [this]
          exact ⟨rfl, by omega, fun h => by omega⟩
        · rw [hsl] at h1 h4
          refine ⟨some ⟨g, 0, none⟩, cap, by rw [hsl], (fun ad h => by cases h; exact ⟨g, rfl⟩), ?_⟩
          have h := sortFunc_spans g cap cur (spansTo s l s.length) wr hm h3 (by rw [hsl]; exact h1) (by rw [hsl]; exact h4) (by rw [hsl]; exact hl)
          rw [hsl] at h
          refine h.mono ?_
          rintro e w' ⟨rfl, hk, cur', hb', hs', ht'⟩
          refine ⟨rfl, hb.out.trans (hk.below (fun k hk => ⟨by have := hb.out.size; omega, by omega⟩)), fun W hW => ?_⟩
          have hbW := hW.blk hb' (by have := blk_lt hb'; omega)
          have hsl2 := sortedSpans_length s l
          have e : (spansTo s l s.length).mergeSort leE = sortedSpans s l := rfl
          rw [e] at ht'
          have hc := elems_C hbW (ys := sortedSpans s l) (by rw [hsl2]; exact ht') (by rw [hsl2]; omega)
          rw [hsl2] at hc
          exact hc
      replace hTG : Aside0 (TG = (mergeTo (sortedSpans s l) s.length).1) := ⟨by rw [hTG.out]; rfl⟩
      have hokS : ∀ p ∈ sortedSpans s l, okSp p := fun p hp => by
        have hp2 := (List.mergeSort_perm (spansTo s l s.length) leE).mem_iff.1 hp
        unfold spansTo at hp2
        obtain ⟨i, hi, rfl⟩ := List.mem_map.1 hp2
        exact HQ.out i (List.mem_range.1 hi)
      have hSl := sortedSpans_length s l
      generalize sortedSpans s l = S at *
      have HMo := Aside0.mk (mergeTo_ok S hokS)
      have hSL : Aside0 (S.length = s.length) := ⟨hSl⟩
      replace hokS := Aside0.mk hokS
      replace hS := Aside0.mk hS
      replace hAa := Aside0.mk hAa
      clear hR hSl HQ HR HR2
      go_wp2_with fail
      refine hS.out.mono ?_
      rintro e w1 ⟨rfl, hb1, hC1⟩
      replace hC1 := Aside0.mk hC1
      replace hb1 := Aside0.mk hb1
      clear hS hb
      go_wp2
      (try go_step3)
      go_wp2
      generalize hw2 : w1.alloc (Obj.cells #[Value.int .i64 0, Value.int .i64 0] 52) = w2
      have s2 : w2.heap.size = w1.heap.size + 1 := by rw [← hw2]; simp
      have k2 : Aside0 (w2.heap[w1.heap.size]? = some (.cells #[.int .i64 0, .int .i64 0] 52 (0, 0))) := ⟨by rw [← hw2]; exact blk_new w1 _⟩
      have b2 : Aside0 (Below w.heap.size w w2) := ⟨by rw [← hw2]; exact below_alloc hb1.out _⟩
      have HC : Aside0 (∀ W, Kp (fun k => k = w1.heap.size ∨ w2.heap.size ≤ k) w2 W → kE.C W Aa s.length S) := ⟨fun W hW => hC1.out W (by
        have h0 : Kp (fun k => w1.heap.size ≤ k) w1 w2 := by rw [← hw2]; exact (Kp.refl _ _).alloc _
        exact h0.trans (hW.mono (fun k hk => show w1.heap.size ≤ k by omega)) (fun k hk => .inl hk))⟩
      have hle : w.heap.size ≤ w1.heap.size := hb1.out.size
      clear hw2 hC1 hb1
      generalize w1.heap.size = bb at *
      obtain ⟨N2, hN2⟩ : ∃ N2, w2.heap.size = N2 := ⟨_, rfl⟩
      rw [hN2] at s2 HC
      have hn2 := Aside0.mk hN2
      go_loopw [8, 34] (fun v i W => ∃ k : Nat, i = .int .i64 (k : Int) ∧ k ≤ s.length ∧ Aside0 (kE.R 52 W N2 (fun b => N2 ≤ b) v (mergeTo S k).1) ∧ Aside0 (W.heap[bb]? = some (.cells #[.int .i64 (mergeTo S k).2.1, .int .i64 (mergeTo S k).2.2] 52 (0, 0))) ∧ Aside0 (Kp (fun k => k = bb ∨ N2 ≤ k) w2 W)) (fun _ i _ => s.length - (intOf i).toNat)
      case atStart => exact ⟨0, rfl, by omega, ⟨Kd.R_nil _ _ _ _ _⟩, k2, ⟨Kp.refl _ _⟩⟩
      case round =>
        clear k2 hN2
        revert wr
        intro wo hrel
        obtain ⟨k, rfl, p0, hR, hB, hK⟩ := hrel
        obtain ⟨A8, c8, rfl⟩ := Kd.R_slice hR.out
        by_cases hlt : k < s.length
        · obtain ⟨ad, e1, hx0, hx1⟩ := elem_at (HC.out _ hK.out) k hlt
          obtain ⟨g9, hg9⟩ := hAa.out ad e1
          subst e1
          subst hg9
          have hxk : okSp (S.getD k (0, 0)) := by
            rw [List.getD_eq_getElem?_getD, List.getElem?_eq_getElem (show k < S.length by rw [hSL.out]; exact hlt)]
            exact hokS.out _ (List.getElem_mem _)
          obtain ⟨ho1, ho2⟩ := HMo.out k (by rw [hSL.out]; omega)
          have hst : mergeTo S (k + 1) = mergeStep (mergeTo S k) (S.getD k (0, 0)) := rfl
          rw [addr0_add] at hx0 hx1
          generalize mergeTo S k = st at *
          generalize S.getD k (0, 0) = x at *
          obtain ⟨ys, p1, p2⟩ := st
          obtain ⟨a, b⟩ := x
          obtain ⟨x1, x2, x3⟩ := hxk
          simp only at hx0 hx1 hR hB ho1 ho2 x1 x2 x3
          have cB0 := blk_cell hB.out 0
          have cB1 := blk_cell hB.out 1
          have fB0 := blk_frozen hB.out 0
          have fB1 := blk_frozen hB.out 1
          have hBA := blk_alloc hB.out (Obj.cells #[.int .i64 a, .int .i64 b] 52)
          have cA0 := blk_cell hBA 0
          have cA1 := blk_cell hBA 1
          have fA0 := blk_frozen hBA 0
          have fA1 := blk_frozen hBA 1
          replace hBA := Aside0.mk hBA
          cases hskip : ((b == 0) || ((a == p1) && (b == p2)))
          · obtain ⟨w3, hw3⟩ : ∃ w3 : World, ((wo.alloc (Obj.cells #[.int .i64 a, .int .i64 b] 52)).setCell ⟨bb, 0, none⟩ (.int .i64 a)).setCell ⟨bb, 1, none⟩ (.int .i64 b) = w3 := ⟨_, rfl⟩
            have hws : N2 ≤ wo.heap.size := by have := hK.out.size; rw [hn2.out] at this; exact this
            have K0 : Kp (fun k => k = bb) (wo.alloc (Obj.cells #[.int .i64 a, .int .i64 b] 52)) w3 := by rw [← hw3]; exact Kp.setCell (S := fun k => k = bb) (Kp.setCell (S := fun k => k = bb) (Kp.refl _ _) ⟨bb, 0, none⟩ (.inl rfl) _) ⟨bb, 1, none⟩ (.inl rfl) _
            have K3 : Kp (fun k => k = bb) wo w3 := ((Kp.refl _ _).alloc _).trans K0 (fun k hk => .inl hk)
            have R3 := Aside0.mk (K3.R hR.out (fun k hk e => by omega))
            have B3 : Aside0 (w3.heap[bb]? = some (.cells #[.int .i64 a, .int .i64 b] 52 (0, 0))) := ⟨by rw [← hw3]; exact blk_set (blk_set hBA.out 0 _) 1 _⟩
            have T3 : w3.heap[wo.heap.size]? = some (.cells #[.int .i64 a, .int .i64 b] 52 (0, 0)) := K0.blk (blk_new wo _) (by omega)
            have KK := Aside0.mk (hK.out.trans K3 (fun k hk => .inl (.inl hk)))
            have cT0 := blk_cell T3 0
            have cT1 := blk_cell T3 1
            have hN3 : N2 ≤ w3.heap.size := Nat.le_trans hws K3.size
            obtain ⟨wd, hwd⟩ : ∃ wd, w3.drew = wd := ⟨_, rfl⟩
            have hb3 : Aside0 (Below N2 wd wd) := ⟨Below.refl _ _⟩
            have RD : Aside0 (kE.R 52 wd N2 (fun b => N2 ≤ b) (.slice A8 ys.length c8) ys) := ⟨by rw [← hwd]; exact Kd.R_drew R3.out⟩
            have BD : Aside0 (wd.heap[bb]? = some (.cells #[.int .i64 a, .int .i64 b] 52 (0, 0))) := ⟨by rw [← hwd]; exact B3.out⟩
            have KD : Aside0 (Kp (fun k => k = bb ∨ N2 ≤ k) w2 wd) := ⟨by rw [← hwd]; exact KK.out.drew⟩
            have cD0 : wd.cell? ⟨wo.heap.size, 0, none⟩ = some (.int .i64 a) := by rw [← hwd]; exact cT0
            have cD1 : wd.cell? ⟨wo.heap.size, 1, none⟩ = some (.int .i64 b) := by rw [← hwd]; exact cT1
            have hND : N2 ≤ wd.heap.size := by rw [← hwd]; exact hN3
            replace hwd := Aside0.mk hwd
            have hM : Aside0 (∀ W base ok, kE.M W base ok (a, b) [.int .i64 a, .int .i64 b]) := ⟨fun W base ok => kE_M (w := W) (base := base) (ok := ok) (a, b)⟩
            have HLs : Aside0 ((ys.length + 1) * 16 ≤ 140737488355328) := ⟨by omega⟩
            have hms : mergeTo S (k + 1) = if (decide (ys.length = 0) || decide ((spanLast ys).1 + (spanLast ys).2 < a)) then (ys ++ [(a, b)], (a, b)) else (ys.set (ys.length - 1) ((spanLast ys).1, max (spanLast ys).2 (a + b - (spanLast ys).1)), (a, b)) := by
              rw [hst]; unfold mergeStep; rw [if_neg (by rw [hskip]; decide)]
            replace hw3 := Aside0.mk hw3
            replace hms := Aside0.mk hms
            clear K0 K3 T3 hst hR hB hK B3 KK
            by_cases hy : ys.length = 0
            · have hst2 : Aside0 (mergeTo S (k + 1) = (ys ++ [(a, b)], (a, b))) := ⟨by rw [hms.out, if_pos (by simp [hy])]⟩
              rw [hy] at RD ⊢
              replace hy := Aside0.mk hy
              cases zb : (b == 0) <;> cases z1 : (a == p1) <;> cases z2 : (b == p2) <;> rw [zb, z1, z2] at hskip
              all_goals first
                | (exact absurd hskip (by decide))
                | (clear hskip hms
                   go_wp2
                   rw [hw3.out]
                   go_region
                   rw [hwd.out]
                   go_wp2_with ((with_reducible refine gate_builtin (b := .append) (xs := #[.tmp 68, .tmp 70]) rfl ?_); at_builtin; refine Kd.R_append kE (w0 := wd) N2 rfl (.tmp 68) (.tmp 70) 40 52 (.agg #[.int .i64 0, .int .i64 0]) 16 rfl Try.underlying40 infoSpan rfl (by decide) (by omega) (.slice A8 0 c8) ys (a, b) [.int .i64 a, .int .i64 b] (fun k_ => (N2 ≤ k_)) (fun _ => False) rfl rfl (hM.out _ _ _) (fun _ hk => hk.elim) (fun k_ hk => Nat.le_trans hND hk) RD.out hb3.out hND HLs.out ?_; intro v6 w6 ho hb6 hg hat; replace ho := Aside0.mk ho; replace hb6 := Aside0.mk hb6; have K6 := Aside0.mk (KD.out.grown hg (fun k e => .inl (.inr (RD.out.1 k e)))); clear hg hat)
                   go_roundw
                   case rel => exact ⟨k + 1, by simp, by omega, ⟨by rw [hst2.out]; exact ho.out⟩, ⟨by rw [hst2.out]; exact blk_kept_old hb6.out BD.out (by omega)⟩, K6⟩
                   case measure => simp [intOf]; omega)
            · obtain ⟨q, hq⟩ : ∃ q, ys.length = q + 1 := ⟨ys.length - 1, by omega⟩
              obtain ⟨e, hcd⟩ : ∃ e, spanLast ys = e := ⟨_, rfl⟩
              have hokl := ho1 _ (spanLast_mem (show 0 < ys.length by omega))
              have hget : ys[q]? = some (spanLast ys) := by
                unfold spanLast
                rw [hq, Nat.add_sub_cancel, List.getD_eq_getElem?_getD, List.getElem?_eq_getElem (show q < ys.length by omega)]
                rfl
              have hms2 := hms.out
              rw [hcd] at hokl hget hms2
              obtain ⟨cS, d⟩ := e
              simp only [hq, Nat.add_sub_cancel] at hms2
              obtain ⟨y1, y2, y3⟩ := hokl
              simp only at y1 y2 y3
              obtain ⟨g, cap, he, hgb, _, cE0, cE1, fE1, hput⟩ := elems_put RD.out q cS d hget (max d (a + b - cS))
              have cF0 : w3.cell? ⟨g, q * 2, none⟩ = some (.int .i64 cS) := by rw [← hwd.out] at cE0; exact cE0
              have cF1 : w3.cell? ⟨g, q * 2 + 1, none⟩ = some (.int .i64 d) := by rw [← hwd.out] at cE1; exact cE1
              injection he with he1 _ he3
              subst he1
              subst he3
              have hqb : q ≤ 1048576 := by omega
              rw [hq] at RD hput ⊢
              replace hms2 := Aside0.mk hms2
              replace hq := Aside0.mk hq
              replace hput := Aside0.mk hput
              have zq0 : decide ((q : Int) < 0) = false := decide_eq_false (by omega)
              have hwq : IntKind.i64.wrap (q : Int) = (q : Int) := by rw [i64_w]; unfold wrap64; omega
              have hwq2 : wrap64 (q : Int) = (q : Int) := by unfold wrap64; omega
              have hwc : IntKind.i64.wrap (cS + d) = cS + d := by rw [i64_w]; unfold wrap64; omega
              have hwc2 : wrap64 (cS + d) = cS + d := by unfold wrap64; omega
              have hwa : IntKind.i64.wrap (a + b) = a + b := by rw [i64_w]; unfold wrap64; omega
              have hwa2 : wrap64 (a + b) = a + b := by unfold wrap64; omega
              have hwb : IntKind.i64.wrap (a + b - cS) = a + b - cS := by rw [i64_w]; unfold wrap64; omega
              have hwb2 : wrap64 (a + b - cS) = a + b - cS := by unfold wrap64; omega
              clear hms hy hcd hget ho1
              by_cases hgt : cS + d < a
              · have zg : decide (cS + d < a) = true := decide_eq_true hgt
                have hst2 : Aside0 (mergeTo S (k + 1) = (ys ++ [(a, b)], (a, b))) := ⟨by rw [hms2.out, if_pos (by simp [hgt])]⟩
                cases zb : (b == 0) <;> cases z1 : (a == p1) <;> cases z2 : (b == p2) <;> rw [zb, z1, z2] at hskip
                all_goals first
                  | (exact absurd hskip (by decide))
                  | (clear hskip hms2
                     go_wp2
                     rw [hw3.out]
                     refine wp_region_any (by kernel_rfl) ?_
                     change wpAny _ _ _ _ _ _ _ w3.drew
                     refine region_anyI (fun W => W.cell? ⟨wo.heap.size, 0, none⟩ = some (.int .i64 a) ∧ W.cell? ⟨g, q * 2, none⟩ = some (.int .i64 cS) ∧ W.cell? ⟨g, q * 2 + 1, none⟩ = some (.int .i64 d)) [0, 1, 2, 3, 4, 5, 6, 7, 8, 9, 10, 11, 12, 13, 14, 15, 16, 17] [] [] (by kernel_rfl) (by kernel_rfl) (by kernel_rfl) rfl rfl (fun _ _ _ h => h) ⟨cT0, cF0, cF1⟩ ?_
                     iterate 3 refine ReadsI.step _ rfl rfl (fun W hW => by obtain ⟨k1, k2, k3⟩ := hW; go_simp; first | rfl | done) ?_
                     iterate 14 refine ReadsI.stepW _ rfl (wanted_of (j := 2) (d := 52) (b := false) rfl rfl (by go_simp; try omega) (by go_simp; try rfl)) (fun W hW => by obtain ⟨k1, k2, k3⟩ := hW; go_simp; first | rfl | done | (rw [if_pos (by omega)])) ?_
                     refine ReadsI.step _ rfl rfl (fun W hW => by obtain ⟨k1, k2, k3⟩ := hW; go_simp; first | rfl | done) ?_
                     change TailL _ _ _ _ _ _ _
                     unfold TailL
                     simp only [List.getElem_toArray, List.getElem_cons_succ, List.getElem_cons_zero, Act.put, List.setIfInBounds_toArray, List.set_cons_zero, List.set_cons_succ]
                     rw [hwd.out]
                     go_wp2_with ((with_reducible refine gate_builtin (b := .append) (xs := #[.tmp 68, .tmp 70]) rfl ?_); at_builtin; refine Kd.R_append kE (w0 := wd) N2 rfl (.tmp 68) (.tmp 70) 40 52 (.agg #[.int .i64 0, .int .i64 0]) 16 rfl Try.underlying40 infoSpan rfl (by decide) (by omega) (.slice (some ⟨g, 0, none⟩) (q + 1) c8) ys (a, b) [.int .i64 a, .int .i64 b] (fun k_ => (N2 ≤ k_)) (fun _ => False) rfl rfl (hM.out _ _ _) (fun _ hk => hk.elim) (fun k_ hk => Nat.le_trans hND hk) RD.out hb3.out hND HLs.out ?_; intro v6 w6 ho hb6 hg hat; replace ho := Aside0.mk ho; replace hb6 := Aside0.mk hb6; have K6 := Aside0.mk (KD.out.grown hg (fun k e => .inl (.inr (RD.out.1 k e)))); clear hg hat)
                     go_roundw
                     case rel => exact ⟨k + 1, by simp, by omega, ⟨by rw [hst2.out]; exact ho.out⟩, ⟨by rw [hst2.out]; exact blk_kept_old hb6.out BD.out (by omega)⟩, K6⟩
                     case measure => simp [intOf]; omega)
              · have zg : decide (cS + d < a) = false := decide_eq_false hgt
                have hst2 : Aside0 (mergeTo S (k + 1) = (ys.set q (cS, max d (a + b - cS)), (a, b))) := ⟨by
                  rw [hms2.out, if_neg (by simp [hgt])]⟩
                cases zb : (b == 0) <;> cases z1 : (a == p1) <;> cases z2 : (b == p2) <;> rw [zb, z1, z2] at hskip
                all_goals first
                  | (exact absurd hskip (by decide))
                  | (clear hskip hms2
                     go_wp2
                     rw [hw3.out]
                     refine wp_region_any (by kernel_rfl) ?_
                     change wpAny _ _ _ _ _ _ _ w3.drew
                     refine region_anyI (fun W => W.cell? ⟨wo.heap.size, 0, none⟩ = some (.int .i64 a) ∧ W.cell? ⟨g, q * 2, none⟩ = some (.int .i64 cS) ∧ W.cell? ⟨g, q * 2 + 1, none⟩ = some (.int .i64 d)) [0, 1, 2, 3, 4, 5, 6, 7, 8, 9, 10, 11, 12, 13, 14, 15, 16, 17] [] [] (by kernel_rfl) (by kernel_rfl) (by kernel_rfl) rfl rfl (fun _ _ _ h => h) ⟨cT0, cF0, cF1⟩ ?_
                     iterate 3 refine ReadsI.step _ rfl rfl (fun W hW => by obtain ⟨k1, k2, k3⟩ := hW; go_simp; first | rfl | done) ?_
                     iterate 14 refine ReadsI.stepW _ rfl (wanted_of (j := 2) (d := 52) (b := false) rfl rfl (by go_simp; try omega) (by go_simp; try rfl)) (fun W hW => by obtain ⟨k1, k2, k3⟩ := hW; go_simp; first | rfl | done | (rw [if_pos (by omega)])) ?_
                     refine ReadsI.step _ rfl rfl (fun W hW => by obtain ⟨k1, k2, k3⟩ := hW; go_simp; first | rfl | done) ?_
                     change TailL _ _ _ _ _ _ _
                     unfold TailL
                     simp only [List.getElem_toArray, List.getElem_cons_succ, List.getElem_cons_zero, Act.put, List.setIfInBounds_toArray, List.set_cons_zero, List.set_cons_succ]
                     rw [hwd.out]
                     go_wp2
                     refine wp_region_any (by kernel_rfl) ?_
                     change wpAny _ _ _ _ _ _ _ wd.drew
                     refine region_anyI (fun W => W.cell? ⟨wo.heap.size, 0, none⟩ = some (.int .i64 a) ∧ W.cell? ⟨wo.heap.size, 1, none⟩ = some (.int .i64 b) ∧ W.cell? ⟨g, q * 2, none⟩ = some (.int .i64 cS) ∧ W.cell? ⟨g, q * 2 + 1, none⟩ = some (.int .i64 d)) [0, 1, 2, 3, 4, 5, 6, 7, 8, 9, 10, 11, 12, 13, 14, 15, 16, 17, 18, 19, 20] [21] [21] (by kernel_rfl) (by kernel_rfl) (by kernel_rfl) (by kernel_rfl) rfl (fun _ _ _ h => h) ⟨cD0, cD1, cE0, cE1⟩ ?_
                     iterate 21 refine ReadsI.step _ rfl rfl (fun W hW => by obtain ⟨k1, k2, k3, k4⟩ := hW; go_simp; first | rfl | done | (rw [if_pos (by omega)])) ?_
                     change TailL _ _ _ _ _ _ _
                     have fE2 : wd.drew.frozen? ⟨g, q * 2 + 1, none⟩ = false := fE1
                     have cE2 : wd.drew.cell? ⟨g, q * 2 + 1, none⟩ = some (.int .i64 d) := cE1
                     refine TailL.skip (w2 := wd.drew.setCell ⟨g, q * 2 + 1, none⟩ (.int .i64 (max d (a + b - cS)))) rfl rfl rfl (by go_simp; first | rfl | done) (fun h => absurd rfl h) ?_
                     unfold TailL
                     simp only [List.getElem_toArray, List.getElem_cons_succ, List.getElem_cons_zero, Act.put, List.setIfInBounds_toArray, List.set_cons_zero, List.set_cons_succ]
                     generalize (max d (a + b - cS)) = X at *
                     have KZ := Aside0.mk (KD.out.drew.setCell ⟨g, q * 2 + 1, none⟩ (.inl (.inr hgb)) (.int .i64 X))
                     have BZ := Aside0.mk ((Kp.setCell (S := fun k => k = g) (Kp.refl _ wd).drew ⟨g, q * 2 + 1, none⟩ (.inl rfl) (.int .i64 X)).blk BD.out (show ¬ bb = g by omega))
                     have RZ : Aside0 (kE.R 52 (wd.drew.setCell ⟨g, q * 2 + 1, none⟩ (.int .i64 X)) N2 (fun b => N2 ≤ b) (.slice (some ⟨g, 0, none⟩) (q + 1) c8) (ys.set q (cS, X))) := ⟨Kd.R_drew hput.out⟩
                     have hql : (ys.set q (cS, X)).length = q + 1 := by rw [List.length_set]; exact hq.out
                     clear cE2 fE2 cE0 cE1 cD0 cD1 cT0 cT1 cF0 cF1 fE1
                     go_wp2
                     go_roundw
                     case rel => exact ⟨k + 1, by simp, by omega, ⟨by rw [hst2.out]; exact RZ.out⟩, ⟨by rw [hst2.out]; exact BZ.out⟩, KZ⟩
                     case measure => simp [intOf]; omega)
          · have hst2 : Aside0 (mergeTo S (k + 1) = (ys, p1, p2)) := ⟨by rw [hst]; unfold mergeStep; rw [if_pos hskip]⟩
            cases zb : (b == 0) <;> cases z1 : (a == p1) <;> cases z2 : (b == p2) <;> rw [zb, z1, z2] at hskip
            all_goals first
              | (exact absurd hskip (by decide))
              | (clear hskip hst
                 go_wp2
                 go_roundw
                 case rel => exact ⟨k + 1, by simp, by omega, ⟨by rw [hst2.out]; exact Kd.R_alloc hR.out _⟩, ⟨by rw [hst2.out]; exact blk_alloc hB.out _⟩, ⟨hK.out.alloc _⟩⟩
                 case measure => simp [intOf]; omega)
        · obtain rfl : k = s.length := by omega
          have hf := Aside0.mk (show TG = (mergeTo S s.length).1 from hTG.out)
          have hBw : Aside0 (Below w.heap.size w wo) := ⟨b2.out.trans (hK.out.below (fun k hk => ⟨by have := b2.out.size; omega, by have := b2.out.size; rw [hn2.out] at this; omega⟩))⟩
          have hV := Aside0.mk (V_cut (base2 := w.heap.size) hR.out)
          have hcap := (Kd.R_reads' hR.out).2.1
          have hcc := R_cap hR.out
          have hNw : w.heap.size ≤ N2 := by omega
          rw [← hTG.out] at hV hcap ⊢
          generalize TG.length = n at *
          clear hR hB hK
          go_wp2
          rw [Exit.noGoto_ret]
          change MarksPost _ _ _ .ret _ _
          unfold MarksPost
          refine Marks.zero _ (results_tmp rfl _ _ _) ?_
          exact ⟨_, rfl, Kd.V_mono hV.out (fun k hk => Nat.le_trans hNw hk), hBw.out⟩
end Go.Proofs.Ythalgcpohnknbaa.Hand
