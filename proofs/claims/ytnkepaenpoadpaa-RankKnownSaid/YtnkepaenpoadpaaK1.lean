/- Words of this session's hand contracts: what a call keeps (Kp), literals that are read, small list facts. No condition. -/
import Derived.Test.YtnkepaenpoadpaaProg
import Derived.Test.YtnkepaenpoadpaaWKept
import Derived.Test.YtnkepaenpoadpaaWLast
import Derived.Test.YtnkepaenpoadpaaWMore
import Derived.Test.YtnkepaenpoadpaaWWords
import Derived.Below
import Derived.BigQuiet
import Derived.Deep.LoopGhost
import Derived.Deep.QuietTactic
import Derived.KernelRfl
import Derived.Laws.OwnMore
import Derived.LoopIn
import Derived.LoopNIn
import Derived.OwnWalk
import Derived.OwnWalkIn
import Derived.RangeFuncBound
import Derived.RangeFuncCalls
import Derived.RangeFuncLeaves
import Derived.RangeFuncNested
import Derived.RangeFuncWrites
import Derived.StillTail
import Derived.StillTailTactics
import Derived.Stop.RegionWithIn
import Derived.TacticsInMore
import Derived.WalkKit
namespace Go.Proofs.Ytnkepaenpoadpaa.Hand
open Go.RowKit Go.Proofs.YtnkepaenpoadpaaW.PrintWords Go.Proofs.YtnkepaenpoadpaaW.PrintLast Go.Proofs.YtnkepaenpoadpaaW.PrintMore
set_option linter.unusedVariables false
set_option linter.unusedSimpArgs false

/-- From w to w2: all blocks of w stay but those of S. -/
structure Kp (S : Nat → Prop) (w w2 : World) : Prop where
  os : w2.os = w.os
  tape : w2.tape = w.tape
  output : w2.output = w.output
  size : w.heap.size ≤ w2.heap.size
  block : ∀ k, k < w.heap.size → ¬ S k → w2.heap[k]? = w.heap[k]?
section
variable {S S2 : Nat → Prop} {w w1 w2 : World}
theorem Kp.refl (S : Nat → Prop) (w : World) : Kp S w w := ⟨rfl, rfl, rfl, Nat.le_refl _, fun _ _ _ => rfl⟩
theorem Kp.trans (h : Kp S w w1) (k : Kp S2 w1 w2) (hs : ∀ k, S2 k → S k ∨ w.heap.size ≤ k) : Kp S w w2 :=
  ⟨k.os.trans h.os, k.tape.trans h.tape, k.output.trans h.output, Nat.le_trans h.size k.size,
   fun i hi hn => (k.block i (Nat.lt_of_lt_of_le hi h.size) (fun h2 => (hs i h2).elim hn (fun h3 => by omega))).trans (h.block i hi hn)⟩
theorem Kp.ofBelow (h : Below w.heap.size w w1) : Kp S w w1 := ⟨h.os, h.tape, h.output, h.size, fun k hk _ => h.block k hk⟩
theorem Kp.thenBelow (h : Kp S w w1) (k : Below w1.heap.size w1 w2) : Kp S w w2 := h.trans (S2 := fun _ => False) (Kp.ofBelow k) (fun _ h => h.elim)
theorem Kp.below (h : Kp S w w1) {B : Nat} (hB : ∀ k, k < B → k < w.heap.size ∧ ¬ S k) : Below B w w1 := ⟨h.os, h.tape, h.output, h.size, fun k hk => h.block k (hB k hk).1 (hB k hk).2⟩
theorem Kp.mono (h : Kp S w w1) (hs : ∀ k, S k → S2 k) : Kp S2 w w1 := ⟨h.os, h.tape, h.output, h.size, fun k hk hn => h.block k hk (fun h2 => hn (hs k h2))⟩
theorem Kp.alloc (h : Kp S w w1) (o : Obj) : Kp S w (w1.alloc o) := h.thenBelow (below_alloc (Below.refl _ _) o)
theorem Kp.drew (h : Kp S w w1) : Kp S w w1.drew := ⟨h.os, h.tape, h.output, h.size, h.block⟩
theorem Kp.drewN (h : Kp S w w1) (n : Nat) : Kp S w (w1.drewN n) := ⟨h.os, h.tape, h.output, h.size, h.block⟩
theorem Kp.setCell (h : Kp S w w1) (p : Addr) (hp : S p.block ∨ w.heap.size ≤ p.block) (u : Value) : Kp S w (w1.setCell p u) :=
  h.trans (S2 := fun k => k = p.block) ⟨rfl, rfl, rfl, by simp [World.setCell], fun i _ hn => Below.heap_setCell w1 p u i hn⟩ (fun k hk => by rw [hk]; exact hp)
theorem Kp.grown (h : Kp S w w1) {row : Option Nat} (hg : w1.grownBy w2 row) (hr : ∀ k, row = some k → S k ∨ w.heap.size ≤ k) : Kp S w w2 :=
  h.trans (S2 := fun k => row = some k) ⟨hg.os, hg.tape, hg.output, hg.size, fun i hi hn => hg.block i hi (fun he => hn he.symm)⟩ hr
theorem Kp.blk (h : Kp S w w1) {g : Nat} {o : Obj} (hb : w.heap[g]? = some o) (hn : ¬ S g) : w1.heap[g]? = some o := (h.block g (blk_lt hb) hn).trans hb
theorem Kp.cell (h : Kp S w w1) {a : Addr} {v : Value} (hc : w.cell? a = some v) (hn : ¬ S a.block) : w1.cell? a = some v := by
  have := h.block a.block (World.block_lt_of_cell? w a hc) hn
  simpa [World.cell?, this] using hc
theorem Kp.R {α : Type} {d : Kd α} {e base : Nat} {ok : Nat → Prop} {v : Value} {xs : List α} (h : Kp S w w1) (r : d.R e w base ok v xs) (hn : ∀ k, ok k → ¬ S k) : d.R e w1 base ok v xs :=
  Kd.R_step r (fun k ho hlt => h.block k hlt (hn k ho))
/-- What is read of an elder world stays, if nothing of that world is written. -/
theorem Kp.C {α : Type} {d : Kd α} {n : Nat} {A : Option Addr} {xs : List α} (h : Kp S w w1) (r : d.C w A n xs) (hS : ∀ k, S k → w.heap.size ≤ k) : d.C w1 A n xs :=
  Kd.C_below r (h.below (fun k hk => ⟨hk, fun h2 => by have := hS k h2; omega⟩))
end
theorem Drawn0.kp {S : Nat → Prop} {w w1 : World} (h : Drawn0 w w1) : Kp S w w1 := Kp.ofBelow h.below
theorem drawn_trans {w w1 w2 : World} (h : Drawn0 w w1) (k : Drawn0 w1 w2) : Drawn0 w w2 := by
  obtain ⟨n, rfl⟩ := h
  obtain ⟨m, rfl⟩ := k
  exact ⟨⟨n + m, World.drewN_drewN ..⟩⟩
theorem kdC_drawn {α : Type} {d : Kd α} {n : Nat} {A : Option Addr} {xs : List α} {w w1 : World} (r : d.C w A n xs) (h : Drawn0 w w1) : d.C w1 A n xs := Kd.C_below r h.below

theorem blk_new_at {w : World} {n : Nat} (h : w.heap.size = n) (o : Obj) : (w.alloc o).heap[n]? = some o := h ▸ blk_new w o
theorem blk_kept_old {B : Nat} {w w1 : World} {g : Nat} {o : Obj} (h : Below B w w1) (hb : w.heap[g]? = some o) (hg : g < B) : w1.heap[g]? = some o := (h.block g hg).trans hb

theorem R_cap {α : Type} {d : Kd α} {e base n c : Nat} {ok : Nat → Prop} {w : World} {A : Option Addr} {xs : List α} (h : d.R e w base ok (.slice A n c) xs) : c ≤ 9223372036854775807 := by
  obtain ⟨inner, ho⟩ := Kd.R_own h
  rcases ho.2 with ⟨hv, _⟩ | ⟨g, cap, cur, hv, _, _, _, hm, _⟩
  · injection hv with _ _ h3
    omega
  · injection hv with _ _ h3
    unfold maxLen at hm
    omega
/-- A row of the call's own, handed back without spare room. -/
theorem V_cut {α : Type} {d : Kd α} {e base base2 n c : Nat} {ok : Nat → Prop} {w : World} {A : Option Addr} {xs : List α} (h : d.R e w base ok (.slice A n c) xs) : Kd.V d e w base2 ok (.slice A n n) xs := by
  have hn := (Kd.R_reads' h).1
  have hf := Kd.R_F h
  subst hn
  exact Kd.V_mk (Nat.le_refl _) hf

/-! Literals that are read. -/
theorem lit_ints (W : World) (e : TypeId) (xs : List Int) (vs : Array Value) (hv : vs = (xs.map (Value.int .i64)).toArray) (hm : xs.length ≤ 9223372036854775807) :
    (Kd.int .i64).C (W.alloc (.cells vs e)) (some ⟨W.heap.size, 0, none⟩) xs.length xs := by
  refine ⟨rfl, hm, fun _ => ⟨_, rfl, fun j p hj => ⟨[.int .i64 p], rfl, rfl, fun i u hu => ?_⟩⟩⟩
  have hj' : j < xs.length := (List.getElem?_eq_some_iff.1 hj).1
  match i, hu with
  | 0, hu =>
    injection hu with hu
    subst hu
    have ha : (⟨W.heap.size, 0, none⟩ : Addr).add (j * 1 + 0) = ⟨W.heap.size, j, none⟩ := by rw [add_plain]; simp
    show World.cell? _ ((⟨W.heap.size, 0, none⟩ : Addr).add (j * 1 + 0)) = _
    rw [ha]
    refine (blk_cell (cs := vs) (t := e) (heap_alloc_new W _) j).trans ?_
    subst hv
    simp [hj]
/-- A slice value that is read as a list of whole numbers, nil too. -/
structure Sl (w : World) (v : Value) (xs : List Int) : Prop where
  mk :: (out : ∃ A c, v = .slice A xs.length c ∧ xs.length ≤ c ∧ (Kd.int .i64).C w A xs.length xs)
theorem Sl.below {w w1 : World} {v : Value} {xs : List Int} (h : Sl w v xs) (hb : Below w.heap.size w w1) : Sl w1 v xs := by
  obtain ⟨A, c, e, hc, r⟩ := h.out
  exact ⟨A, c, e, hc, Kd.C_below r hb⟩
theorem Sl.of {w : World} {A : Option Addr} {c : Nat} {xs : List Int} (hr : (Kd.int .i64).C w A xs.length xs) (hc : xs.length ≤ c) : Sl w (.slice A xs.length c) xs := ⟨A, c, rfl, hc, hr⟩
theorem Sl.lit (W : World) (e : TypeId) (xs : List Int) (vs : Array Value) (hv : vs = (xs.map (Value.int .i64)).toArray) (hm : xs.length ≤ 9223372036854775807) :
    Sl (W.alloc (.cells vs e)) (.slice (some ⟨W.heap.size, 0, none⟩) xs.length xs.length) xs := ⟨_, _, rfl, Nat.le_refl _, lit_ints W e xs vs hv hm⟩
theorem lit_rows (W : World) (e ei : TypeId) (xss : List (List Int)) (vs : Array Value) (hl : vs.size = xss.length) (hv : ∀ (j : Nat) (xs : List Int), xss[j]? = some xs → ∃ v, vs[j]? = some v ∧ Sl W v xs) (hm : xss.length ≤ 9223372036854775807) :
    (Kd.slice ei (Kd.int .i64)).C (W.alloc (.cells vs e)) (some ⟨W.heap.size, 0, none⟩) xss.length xss := by
  have hb : Below W.heap.size W (W.alloc (.cells vs e)) := below_alloc (Below.refl _ _) _
  refine ⟨rfl, hm, fun _ => ⟨_, rfl, fun j p hj => ?_⟩⟩
  obtain ⟨v, hv1, hs⟩ := hv j p hj
  obtain ⟨A, c, rfl, hc, hr⟩ := (hs.below hb).out
  refine ⟨[.slice A p.length c], rfl, ⟨A, c, rfl, hc, hr⟩, fun i u hu => ?_⟩
  match i, hu with
  | 0, hu =>
    injection hu with hu
    subst hu
    show World.cell? _ ((⟨W.heap.size, 0, none⟩ : Addr).add (j * 1 + 0)) = _
    have ha : (⟨W.heap.size, 0, none⟩ : Addr).add (j * 1 + 0) = ⟨W.heap.size, j, none⟩ := by rw [add_plain]; simp
    rw [ha]
    exact (blk_cell (cs := vs) (t := e) (heap_alloc_new W _) j).trans hv1
theorem lit_ints_at (W : World) (N : Nat) (hN : W.heap.size = N) (e : TypeId) (xs : List Int) (vs : Array Value) (hv : vs = (xs.map (Value.int .i64)).toArray) (hm : xs.length ≤ 9223372036854775807) :
    (Kd.int .i64).C (W.alloc (.cells vs e)) (some ⟨N, 0, none⟩) xs.length xs := by
  subst hN
  exact lit_ints W e xs vs hv hm
theorem Sl.lit_at (W : World) (N : Nat) (hN : W.heap.size = N) (e : TypeId) (xs : List Int) (vs : Array Value) (hv : vs = (xs.map (Value.int .i64)).toArray) (hm : xs.length ≤ 9223372036854775807) :
    Sl (W.alloc (.cells vs e)) (.slice (some ⟨N, 0, none⟩) xs.length xs.length) xs := by
  subst hN
  exact Sl.lit W e xs vs hv hm
theorem rows_of1 {W : World} {v0 : Value} {l0 : List Int} (h0 : Sl W v0 l0) : ∀ (j : Nat) (xs : List Int), [l0][j]? = some xs → ∃ v, #[v0][j]? = some v ∧ Sl W v xs := by
  intro j xs h
  match j, h with
  | 0, h => injection h with h; subst h; exact ⟨v0, rfl, h0⟩
theorem rows_of2 {W : World} {v0 v1 : Value} {l0 l1 : List Int} (h0 : Sl W v0 l0) (h1 : Sl W v1 l1) : ∀ (j : Nat) (xs : List Int), [l0, l1][j]? = some xs → ∃ v, #[v0, v1][j]? = some v ∧ Sl W v xs := by
  intro j xs h
  match j, h with
  | 0, h => injection h with h; subst h; exact ⟨v0, rfl, h0⟩
  | 1, h => injection h with h; subst h; exact ⟨v1, rfl, h1⟩
theorem rows_of3 {W : World} {v0 v1 v2 : Value} {l0 l1 l2 : List Int} (h0 : Sl W v0 l0) (h1 : Sl W v1 l1) (h2 : Sl W v2 l2) : ∀ (j : Nat) (xs : List Int), [l0, l1, l2][j]? = some xs → ∃ v, #[v0, v1, v2][j]? = some v ∧ Sl W v xs := by
  intro j xs h
  match j, h with
  | 0, h => injection h with h; subst h; exact ⟨v0, rfl, h0⟩
  | 1, h => injection h with h; subst h; exact ⟨v1, rfl, h1⟩
  | 2, h => injection h with h; subst h; exact ⟨v2, rfl, h2⟩
theorem lit_rows_at (W : World) (N : Nat) (hN : W.heap.size = N) (e ei : TypeId) (xss : List (List Int)) (vs : Array Value) (hl : vs.size = xss.length) (hv : ∀ (j : Nat) (xs : List Int), xss[j]? = some xs → ∃ v, vs[j]? = some v ∧ Sl W v xs) (hm : xss.length ≤ 9223372036854775807) :
    (Kd.slice ei (Kd.int .i64)).C (W.alloc (.cells vs e)) (some ⟨N, 0, none⟩) xss.length xss := by
  subst hN
  exact lit_rows W e ei xss vs hl hv hm
theorem Sl.alloc {w : World} {v : Value} {xs : List Int} (h : Sl w v xs) (o : Obj) : Sl (w.alloc o) v xs := h.below (below_alloc (Below.refl _ _) o)
theorem Sl.drewN {w : World} {v : Value} {xs : List Int} (h : Sl w v xs) (n : Nat) : Sl (w.drewN n) v xs := h.below (pw_below_drewN (Below.refl _ _) n)
/-- A block that holds whole numbers, as a slice. -/
theorem blk_ints {W : World} {g e : Nat} {xs : List Int} {vs : Array Value} (hb : W.heap[g]? = some (.cells vs e (0, 0))) (hv : vs = (xs.map (Value.int .i64)).toArray) (hm : xs.length ≤ 9223372036854775807) :
    (Kd.int .i64).C W (some ⟨g, 0, none⟩) xs.length xs := by
  refine ⟨rfl, hm, fun _ => ⟨_, rfl, fun j p hj => ⟨[.int .i64 p], rfl, rfl, fun i u hu => ?_⟩⟩⟩
  match i, hu with
  | 0, hu =>
    injection hu with hu
    subst hu
    show World.cell? _ ((⟨g, 0, none⟩ : Addr).add (j * 1 + 0)) = _
    have ha : (⟨g, 0, none⟩ : Addr).add (j * 1 + 0) = ⟨g, j, none⟩ := by rw [add_plain]; simp
    rw [ha, blk_cell hb j, hv]
    simp [hj]
theorem V_blk {W : World} {g e base B : Nat} {xs : List Int} {vs : Array Value} (hb : W.heap[g]? = some (.cells vs e (0, 0))) (hv : vs = (xs.map (Value.int .i64)).toArray) (hm : xs.length ≤ 9223372036854775807) (hg : B ≤ g) (c : Nat) (hc : xs.length ≤ c) :
    Kd.V (Kd.int .i64) e W base (fun k => B ≤ k) (.slice (some ⟨g, 0, none⟩) xs.length c) xs :=
  Kd.V_mk hc (fun W' hW' => blk_ints (by rw [hW' g hg (blk_lt hb)]; exact hb) hv hm)
theorem src_cells {W : World} {A : Option Addr} {n : Nat} {l : List Int} (h : (Kd.int .i64).C W A n l) (hl : 0 < l.length) : ∃ ad, A = some ad ∧ ∀ (j : Nat) (v : Value), (l.map (Value.int .i64))[j]? = some v → W.cell? (ad.add j) = some v := by
  have hn : l.length = n := h.1
  obtain ⟨ad, e, _⟩ := Kd.at_int h 0 (by omega) (by omega)
  refine ⟨ad, e, fun j v hv => ?_⟩
  rw [List.getElem?_map] at hv
  cases hj : l[j]? with
  | none => rw [hj] at hv; simp at hv
  | some p =>
    rw [hj] at hv
    injection hv with hv
    have hlt := (List.getElem?_eq_some_iff.1 hj).1
    obtain ⟨ad2, e2, h2⟩ := Kd.at_int h (j : Int) (by omega) (by omega)
    rw [e] at e2
    injection e2 with e2
    subst e2
    rw [Int.toNat_natCast] at h2
    rw [h2, ← hv]
    simp [rd, List.getD_eq_getElem?_getD, hj]
theorem made_blk (W : World) (N : Nat) (hN : W.heap.size = N) (n : Nat) (z : Value) (e : TypeId) : (W.alloc (.cells (madeCells #[z] n) e)).heap[N]? = some (.cells (List.replicate n z).toArray e (0, 0)) := by
  have h : madeCells #[z] n = (List.replicate n z).toArray := by rw [← toList_madeCells_one z n]
  rw [h]
  exact blk_new_at hN _
theorem ints_one (l : List Int) : ∀ v ∈ l.map (Value.int .i64), v.oneCell' = true := by
  intro v hv
  obtain ⟨n, _, rfl⟩ := List.mem_map.1 hv
  rfl
/-- An element of rows that are read. -/
theorem rows_at {w : World} {ei : Nat} {A : Option Addr} {n : Nat} {xss : List (List Int)} (h : Kd.C (Kd.slice ei (Kd.int .i64)) w A n xss) (i : Int) (h0 : 0 ≤ i) (h1 : i < n) :
    ∃ ad A0 c0, A = some ad ∧ w.cell? (ad.add i.toNat) = some (.slice A0 (xss.getD i.toNat []).length c0) ∧ (xss.getD i.toNat []).length ≤ c0 ∧ (Kd.int .i64).C w A0 (xss.getD i.toNat []).length (xss.getD i.toNat []) := by
  obtain ⟨ad, c, e, _, hK, hc0⟩ := Kd.C_get h ([] : List Int) i h0 h1
  have hc : ∀ j u, c[j]? = some u → w.cell? (ad.add (i.toNat * 1 + j)) = some u := hc0
  obtain ⟨A0, c0, rfl, l0, g0⟩ := hK
  exact ⟨ad, A0, c0, e, by have hq := hc 0 _ rfl; rwa [Nat.mul_one, Nat.add_zero] at hq, l0, g0⟩

/-! Lists. -/
theorem rd_mem (l : List Int) (x : Int) (h0 : 0 ≤ x) (h1 : x < l.length) : rd l x ∈ l := by
  unfold rd
  rw [List.getD_eq_getElem?_getD, List.getElem?_eq_getElem (by omega)]
  exact List.getElem_mem _
/-- The place of the first element of which p is true; -1: there is none. -/
def findI {α : Type} (l : List α) (p : α → Bool) : Int := match l.findIdx? p with | some i => i | none => -1
theorem findI_hit {α : Type} (d : α) (l : List α) (p : α → Bool) (x : Int) (h0 : 0 ≤ x) (hx : x < l.length) (hm : ∀ j, 0 ≤ j → j < x → p (l.getD j.toNat d) = false) (h1 : p (l.getD x.toNat d) = true) : findI l p = x := by
  have h : l.findIdx? p = some x.toNat := by
    rw [List.findIdx?_eq_some_iff_getElem]
    refine ⟨by omega, ?_, fun j hj => ?_⟩
    · simpa [List.getD_eq_getElem?_getD, List.getElem?_eq_getElem (show x.toNat < l.length by omega)] using h1
    · have := hm (j : Int) (by omega) (by omega)
      simpa [List.getD_eq_getElem?_getD, List.getElem?_eq_getElem (show j < l.length by omega)] using this
  simp only [findI, h]
  omega
theorem findI_none {α : Type} (d : α) (l : List α) (p : α → Bool) (hm : ∀ j : Int, 0 ≤ j → j < (l.length : Int) → p (l.getD j.toNat d) = false) : findI l p = -1 := by
  have h : l.findIdx? p = none := by
    rw [List.findIdx?_eq_none_iff]
    intro x hx
    obtain ⟨j, hj, rfl⟩ := List.getElem_of_mem hx
    have := hm (j : Int) (by omega) (by omega)
    simpa [List.getD_eq_getElem?_getD, List.getElem?_eq_getElem hj] using this
  simp only [findI, h]
theorem findI_any {α : Type} (l : List α) (p : α → Bool) : decide (0 ≤ findI l p) = l.any p := by
  unfold findI
  cases h : l.findIdx? p with
  | some i =>
    have h2 := List.findIdx?_eq_some_iff_getElem.1 h
    obtain ⟨hi, h3, _⟩ := h2
    have : l.any p = true := List.any_eq_true.2 ⟨_, List.getElem_mem hi, h3⟩
    simp [this]
  | none =>
    have h2 := List.findIdx?_eq_none_iff.1 h
    have : l.any p = false := List.any_eq_false.2 (fun x hx => by simp [h2 x hx])
    simp [this]
/-- A number of 32 bits. -/
def isWordB (n : Int) : Bool := decide (-2147483648 ≤ n) && decide (n ≤ 2147483647)
end Go.Proofs.Ytnkepaenpoadpaa.Hand
/- slices.IndexFunc and slices.ContainsFunc over whole numbers, for any function value whose calls only read: the first place at which it says yes; whether there is one. -/
namespace Go.Proofs.Ytnkepaenpoadpaa.Hand
open Go.RowKit Go.Proofs.YtnkepaenpoadpaaW.PrintWords Go.Proofs.YtnkepaenpoadpaaW.PrintLast Go.Proofs.YtnkepaenpoadpaaW.PrintMore
set_option linter.unusedVariables false
set_option linter.unusedSimpArgs false

set_option maxHeartbeats 4000000 in
set_option maxRecDepth 100000 in
theorem slices_IndexFunc (g : Nat) (fst cap : Array Value) (A : Option Addr) (c : Nat) (l : List Int) (p : Int → Bool) (w : World) (hg : ∀ args W, Sem.run Try.prog (callFunc g args) W = .ok (.enter g args) W) (hr : Kd.C (Kd.int .i64) w A l.length l)
    (hp : ∀ x ∈ l, ∀ W, Drawn0 w W → Calls Try.prog g (fst.push (.int .i64 x) ++ cap) W fun e W' => e = .returned (.bool (p x)) ∧ Drawn0 w W') :
    Calls Try.prog 85 #[.slice A l.length c, .func (.func g) fst cap] w fun e w' => e = .returned (.int .i64 (findI l p)) ∧ Drawn0 w w' := by
  have HR := Aside0.mk hr
  have HP := Aside0.mk hp
  have hm : l.length ≤ 9223372036854775807 := HR.out.2.1
  clear hr hp
  go_enter Try.func85, Try.ntmps85
  go_wp2
  go_loopw [5, 8] (fun _ i W => ∃ x : Int, i = .int .i64 x ∧ 0 ≤ x ∧ x ≤ l.length ∧ Aside0 (∀ j, 0 ≤ j → j < x → p (l.getD j.toNat 0) = false) ∧ Drawn0 w W) (fun _ i _ => l.length - (intOf i).toNat)
  case atStart => exact ⟨0, rfl, by omega, by omega, ⟨by omega⟩, ⟨0, rfl⟩⟩
  case round =>
    obtain ⟨x, rfl, p0, p1, H0, HD⟩ := hrel
    obtain ⟨m, rfl⟩ := HD
    by_cases hlt : x < l.length
    · obtain ⟨ad, e1, hx⟩ := Kd.at_int HR.out x p0 hlt
      cases e1
      have HPk := Aside0.mk (HP.out _ (rd_mem l x p0 hlt) _ ⟨m, rfl⟩)
      cases hb : p (rd l x)
      · have Hb := Aside0.mk hb
        go_wp2_with ((with_reducible refine (HPk.out).mono ?_); rintro e w2 ⟨rfl, m, rfl⟩)
        go_roundw
        case rel => exact ⟨x + 1, rfl, by omega, by omega, ⟨fun j h0 h1 => by
          by_cases hj : j < x
          · exact H0.out j h0 hj
          · obtain rfl : j = x := by omega
            exact Hb.out⟩, ⟨_, rfl⟩⟩
        case measure => simp [intOf]; omega
      · have Hb := Aside0.mk hb
        go_wp2_with ((with_reducible refine (HPk.out).mono ?_); rintro e w2 ⟨rfl, m, rfl⟩)
        go_ret
        exact ⟨by rw [findI_hit 0 l p x p0 hlt H0.out Hb.out]; rfl, ⟨_, rfl⟩⟩
    · go_wp2
      go_ret
      exact ⟨by rw [findI_none 0 l p (fun j h0 h1 => H0.out j h0 (by omega))]; rfl, ⟨_, rfl⟩⟩

set_option maxHeartbeats 4000000 in
set_option maxRecDepth 100000 in
theorem slices_ContainsFunc (g : Nat) (fst cap : Array Value) (A : Option Addr) (c : Nat) (l : List Int) (p : Int → Bool) (w : World) (hg : ∀ args W, Sem.run Try.prog (callFunc g args) W = .ok (.enter g args) W) (hr : Kd.C (Kd.int .i64) w A l.length l)
    (hp : ∀ x ∈ l, ∀ W, Drawn0 w W → Calls Try.prog g (fst.push (.int .i64 x) ++ cap) W fun e W' => e = .returned (.bool (p x)) ∧ Drawn0 w W') :
    Calls Try.prog 76 #[.slice A l.length c, .func (.func g) fst cap] w fun e w' => e = .returned (.bool (l.any p)) ∧ Drawn0 w w' := by
  have H := Aside0.mk (slices_IndexFunc g fst cap A c l p w hg hr hp)
  clear hg hr hp
  have hf := Aside0.mk (findI_any l p)
  go_enter Try.func76, Try.ntmps76
  go_wp2_with ((with_reducible refine (H.out).mono ?_); rintro e w2 ⟨rfl, m, rfl⟩)
  go_ret
  exact ⟨by rw [← hf.out]; rfl, ⟨_, rfl⟩⟩
end Go.Proofs.Ytnkepaenpoadpaa.Hand
/- slices.IndexFunc and slices.ContainsFunc over lists of whole numbers, for any function value whose calls only read. -/
namespace Go.Proofs.Ytnkepaenpoadpaa.Hand
open Go.RowKit Go.Proofs.YtnkepaenpoadpaaW.PrintWords Go.Proofs.YtnkepaenpoadpaaW.PrintLast Go.Proofs.YtnkepaenpoadpaaW.PrintMore
set_option linter.unusedVariables false
set_option linter.unusedSimpArgs false

theorem getD_mem_rows (l : List (List Int)) (x : Int) (h0 : 0 ≤ x) (h1 : x < l.length) : l.getD x.toNat [] ∈ l := by
  rw [List.getD_eq_getElem?_getD, List.getElem?_eq_getElem (by omega)]
  exact List.getElem_mem _

set_option maxHeartbeats 4000000 in
set_option maxRecDepth 100000 in
theorem slices_IndexFunc2 (g : Nat) (fst cap : Array Value) (A : Option Addr) (c : Nat) (l : List (List Int)) (p : List Int → Bool) (w : World) (hg : ∀ args W, Sem.run Try.prog (callFunc g args) W = .ok (.enter g args) W) (hr : Kd.C (Kd.slice 3 (Kd.int .i64)) w A l.length l)
    (hp : ∀ x ∈ l, ∀ W, Drawn0 w W → ∀ A c, (Kd.int .i64).C W A x.length x → x.length ≤ c → Calls Try.prog g (fst.push (.slice A x.length c) ++ cap) W fun e W' => e = .returned (.bool (p x)) ∧ Drawn0 w W') :
    Calls Try.prog 84 #[.slice A l.length c, .func (.func g) fst cap] w fun e w' => e = .returned (.int .i64 (findI l p)) ∧ Drawn0 w w' := by
  have HR := Aside0.mk hr
  have HP := Aside0.mk hp
  have hm : l.length ≤ 9223372036854775807 := HR.out.2.1
  clear hr hp
  go_enter Try.func84, Try.ntmps84
  go_wp2
  go_loopw [5, 8] (fun _ i W => ∃ x : Int, i = .int .i64 x ∧ 0 ≤ x ∧ x ≤ l.length ∧ Aside0 (∀ j, 0 ≤ j → j < x → p (l.getD j.toNat []) = false) ∧ Drawn0 w W) (fun _ i _ => l.length - (intOf i).toNat)
  case atStart => exact ⟨0, rfl, by omega, by omega, ⟨by omega⟩, ⟨0, rfl⟩⟩
  case round =>
    obtain ⟨x, rfl, p0, p1, H0, HD⟩ := hrel
    obtain ⟨m, rfl⟩ := HD
    by_cases hlt : x < l.length
    · obtain ⟨ad, A0, c0, e1, hx, hcc, hrr⟩ := rows_at HR.out x p0 hlt
      cases e1
      have HPk := Aside0.mk (HP.out _ (getD_mem_rows l x p0 hlt) _ ⟨m, rfl⟩ A0 c0 (kdC_drawn hrr ⟨m, rfl⟩) hcc)
      clear hcc
      replace hrr := Aside0.mk hrr
      obtain ⟨y, hy⟩ : ∃ y, y = l.getD x.toNat [] := ⟨_, rfl⟩
      rw [← hy] at hx HPk
      cases hb : p y
      · have Hb := Aside0.mk hb
        replace hy := Aside0.mk hy
        go_wp2_with ((with_reducible refine (HPk.out).mono ?_); rintro e w2 ⟨rfl, m, rfl⟩)
        go_roundw
        case rel => exact ⟨x + 1, rfl, by omega, by omega, ⟨fun j h0 h1 => by
          by_cases hj : j < x
          · exact H0.out j h0 hj
          · obtain rfl : j = x := by omega
            rw [← hy.out]
            exact Hb.out⟩, ⟨_, rfl⟩⟩
        case measure => simp [intOf]; omega
      · have Hb := Aside0.mk hb
        replace hy := Aside0.mk hy
        go_wp2_with ((with_reducible refine (HPk.out).mono ?_); rintro e w2 ⟨rfl, m, rfl⟩)
        go_ret
        exact ⟨by rw [findI_hit [] l p x p0 hlt H0.out (by rw [← hy.out]; exact Hb.out)]; rfl, ⟨_, rfl⟩⟩
    · go_wp2
      go_ret
      exact ⟨by rw [findI_none [] l p (fun j h0 h1 => H0.out j h0 (by omega))]; rfl, ⟨_, rfl⟩⟩

set_option maxHeartbeats 4000000 in
set_option maxRecDepth 100000 in
theorem slices_ContainsFunc2 (g : Nat) (fst cap : Array Value) (A : Option Addr) (c : Nat) (l : List (List Int)) (p : List Int → Bool) (w : World) (hg : ∀ args W, Sem.run Try.prog (callFunc g args) W = .ok (.enter g args) W) (hr : Kd.C (Kd.slice 3 (Kd.int .i64)) w A l.length l)
    (hp : ∀ x ∈ l, ∀ W, Drawn0 w W → ∀ A c, (Kd.int .i64).C W A x.length x → x.length ≤ c → Calls Try.prog g (fst.push (.slice A x.length c) ++ cap) W fun e W' => e = .returned (.bool (p x)) ∧ Drawn0 w W') :
    Calls Try.prog 74 #[.slice A l.length c, .func (.func g) fst cap] w fun e w' => e = .returned (.bool (l.any p)) ∧ Drawn0 w w' := by
  have H := Aside0.mk (slices_IndexFunc2 g fst cap A c l p w hg hr hp)
  clear hg hr hp
  have hf := Aside0.mk (findI_any l p)
  go_enter Try.func74, Try.ntmps74
  go_wp2_with ((with_reducible refine (H.out).mono ?_); rintro e w2 ⟨rfl, m, rfl⟩)
  go_ret
  exact ⟨by rw [← hf.out]; rfl, ⟨_, rfl⟩⟩
end Go.Proofs.Ytnkepaenpoadpaa.Hand
/- A range over a function whose yields are a list that is known ahead: the iterator's contract (IterC), and the law for the loop (wp_rangeSeq). No condition. -/
namespace Go.Proofs.Ytnkepaenpoadpaa.Hand
open Go.RowKit Go.Proofs.YtnkepaenpoadpaaW.PrintWords Go.Proofs.YtnkepaenpoadpaaW.PrintLast Go.Proofs.YtnkepaenpoadpaaW.PrintMore
set_option linter.unusedVariables false
set_option linter.unusedSimpArgs false

/-- The iterator gf (its captured: lb), called with a loop's yield, yields the rows of L in order, till the loop's body says no more. A round that goes on keeps all below B. -/
def IterC (P : Program) (gf : Nat) (lb : Array Value) (L : List (Array Value)) (B : Nat) (w0 : World) : Prop :=
  ∀ (l : Nat) (J : Nat → World → Prop) (Jx : World → Prop) (W : World), Below w0.heap.size w0 W →
    (∀ i W1 W2, J i W1 → Below W1.heap.size W1 W2 → J i W2) → (∀ W1 W2, Jx W1 → Below W1.heap.size W1 W2 → Jx W2) →
    (∀ i args W1, L[i]? = some args → J i W1 → YieldAt Fence.wide 0 P l args W1 fun e W' => (e = .returned (.bool true) ∧ J (i + 1) W' ∧ Below B W1 W') ∨ (e = .returned (.bool false) ∧ Jx W')) →
    J 0 W → CallsIn Fence.wide 0 P gf (#[.func (.yield l) #[] #[]] ++ lb) W fun e W' => (∃ v, e = .returned v) ∧ (J L.length W' ∨ Jx W')

/-- How a round's body may be left. -/
def RfPost (N B : Nat) (I : Nat → World → Prop) (Ix : Code → World → Prop) (i : Nat) (W : World) : Exit → Act → World → Prop
  | .normal, _, W' => KeepsFrom N W W' ∧ Below B W W' ∧ I (i + 1) W'
  | .ret, _, W' => KeepsFrom N W W' ∧ Ix .ret W'
  | .exit id, _, W' => KeepsFrom N W W' ∧ Ix (.exit id) W'
  | .goto t, _, W' => KeepsFrom N W W' ∧ Ix (.goto t) W'
  | .panic _, _, _ => False
  | .outgrown, _, _ => False

theorem keepsFrom_below {N : Nat} {W W' : World} (h : Below W.heap.size W W') : KeepsFrom N W W' := ⟨h.size, fun k o _ hk _ => (h.block k (blk_lt hk)).trans hk⟩
theorem Kp.keepsFrom {S : Nat → Prop} {N : Nat} {W W' : World} (h : Kp S W W') (hS : ∀ k, S k → k < W.heap.size → ∃ cs t fr, W.heap[k]? = some (.cells cs t fr)) : KeepsFrom N W W' :=
  ⟨h.size, fun k o _ hk ho => by
    by_cases hs : S k
    · obtain ⟨cs, t, fr, hc⟩ := hS k hs (blk_lt hk)
      rw [hc] at hk
      injection hk with hk
      subst hk
      simp [Obj.isCells] at ho
    · exact h.blk hk hs⟩
theorem below_putObj {B l : Nat} (W : World) (o : Obj) (h : B ≤ l) : Below B W (W.putObj l o) :=
  ⟨rfl, rfl, rfl, by simp, fun k hk => World.putObj_heap_other (by omega)⟩

theorem wp_rangeSeq {P : Program} {g : Operand} {ps : Array Tmp} {assign body : Code} {Q : Exit → Act → World → Prop} {a : Act} {w : World}
    {gf : Nat} {lb : Array Value} {L : List (Array Value)} {B : Nat} {w0 : World} (hg : a.eval g = .func (.func gf) #[] lb) (eg : ∀ args w, (callFunc gf args).run P w = .ok (.enter gf args) w)
    (hit : IterC P gf lb L B w0) (hb0 : Below w0.heap.size w0 w) (hB : B ≤ w.heap.size) (hps : ∀ args ∈ L, args.size = ps.size)
    (I : Nat → World → Prop) (Ix : Code → World → Prop) (hI : OwnFrom w.heap.size I) (hIx : OwnFrom w.heap.size Ix) (h0 : I 0 w)
    (hround : ∀ (l i : Nat) (args : Array Value) (W : World), L[i]? = some args → I i W → ∀ K : Act → World → Prop,
      (∀ a', (∀ W2, I i W2 → body.wpIn (Fence.wide.inRound l) 0 P (RfPost w.heap.size B I Ix i W2) a' W2) → K a' W) → assign.wpIn (Fence.wide.inRound l) 0 P (Exit.then K (fun _ _ _ => False)) { tmps := (ps.zip args).foldl (fun t (p, v) => t.setIfInBounds p v) a.tmps, defers := [] } W)
    (hdone : ∀ (D : Nat) (W : World), w.heap.size ≤ D → I L.length W → W.heap[D]? = some (.deferred (some [])) → Q .normal { a with defers := { target := .collected D, args := #[] } :: a.defers } W)
    (hstop : ∀ (D : Nat) (c : Code) (W : World), w.heap.size ≤ D → Ix c W → W.heap[D]? = some (.deferred (some [])) → c.wp P Q { a with defers := { target := .collected D, args := #[] } :: a.defers } W) :
    (Code.rangeFunc g ps assign body).wp P Q a w := by
  refine (wpIn_wide (n := 0)).1 (wpIn_rangeFunc ?_)
  intro fn hfn
  obtain ⟨rc, hrc⟩ : ∃ rc : LoopState → Option Code → Loop, rc = fun st pe => { state := st, pending := pe, fn, tmps := a.tmps, params := ps, assign, body, defers := w.heap.size } := ⟨_, rfl⟩
  obtain ⟨D, hD⟩ : ∃ D, D = w.heap.size := ⟨_, rfl⟩
  obtain ⟨V, hV⟩ : ∃ V, V = (w.alloc (.deferred (some []))).alloc (.loop (rc .ready none)) := ⟨_, rfl⟩
  have vl : V.heap[D + 1]? = some (.loop (rc .ready none)) := by rw [hV]; exact blk_new_at (by simp [hD]) _
  have vd : V.heap[D]? = some (.deferred (some [])) := by rw [hV]; exact blk_alloc (blk_new_at hD.symm _) _
  have vi : I 0 V := by rw [hV]; exact hI.alloc _ (hI.alloc _ h0)
  have vb : Below w.heap.size w V := by rw [hV]; exact below_alloc (below_alloc (Below.refl _ _) _) _
  have nocell : ∀ {W1 W2 : World}, Below W1.heap.size W1 W2 → W1.grownBy W2 none := fun h => grown_of_below h none
  refine ⟨D + 1, [{ target := .collected w.heap.size, args := #[] }], V, { target := .fn (.func gf) lb, args := #[.func (.yield (D + 1)) #[] #[]] }, V, gf, #[.func (.yield (D + 1)) #[] #[]] ++ lb, V, ?_, ?_, ?_, ?_, ?_, ?_⟩
  · rw [hV, hrc, hD]
    exact run_enterLoop_outer _ _ _ _ _
  · simp only [resolve, hg]
    simp [go_sem]
  · exact fun _ _ => trivial
  · simp [invoke, go_sem, eg]
  · intro h
    simp [Fence.wide] at h
  · refine (hit (D + 1) (fun i W => I i W ∧ W.heap[D + 1]? = some (.loop (rc .ready none)) ∧ W.heap[D]? = some (.deferred (some [])))
      (fun W => ∃ c, Ix c W ∧ W.heap[D + 1]? = some (.loop (rc .done (some c))) ∧ W.heap[D]? = some (.deferred (some []))) V (hb0.trans (vb.mono hb0.size)) ?_ ?_ ?_ ⟨vi, vl, vd⟩).mono ?_
    · rintro i W1 W2 ⟨h1, h2, h3⟩ hb
      exact ⟨hI i W1 W2 none h1 (nocell hb) (fun r e => by cases e), blk_below h2 hb, blk_below h3 hb⟩
    · rintro W1 W2 ⟨c, h1, h2, h3⟩ hb
      exact ⟨c, hIx c W1 W2 none h1 (nocell hb) (fun r e => by cases e), blk_below h2 hb, blk_below h3 hb⟩
    · -- a round
      rintro i args W hi ⟨h1, h2, h3⟩
      have hy := run_yield (P := P) (args := args) h2 (by rw [hrc]; exact hps args (List.mem_of_getElem? hi))
      rw [hrc] at hy
      refine ⟨fn, _, assign, body, hy, roundIn_of_wpIn hfn (wpIn_mono (hround _ i args W hi h1 (fun a' W' => W' = W ∧ ∀ W2, I i W2 → body.wpIn (Fence.wide.inRound (D + 1)) 0 P (RfPost w.heap.size B I Ix i W2) a' W2) (fun a' h => ⟨rfl, h⟩)) ?_)⟩
      rintro e0 a0 W0 hp0
      cases e0 with
      | exit _ => exact hp0.elim
      | goto _ => exact hp0.elim
      | ret => exact hp0.elim
      | panic _ => exact hp0.elim
      | outgrown => exact hp0.elim
      | normal =>
      obtain ⟨rfl, hbody⟩ : W0 = W ∧ ∀ W2, I i W2 → body.wpIn (Fence.wide.inRound (D + 1)) 0 P (RfPost w.heap.size B I Ix i W2) a0 W2 := hp0
      refine ⟨_, run_beginRound h2 (by rw [hrc]), ?_⟩
      obtain ⟨W', hW'⟩ : ∃ W', W' = W0.putObj (D + 1) (.loop { rc .ready none with state := .busy }) := ⟨_, rfl⟩
      have b1 : W'.heap[D + 1]? = some (.loop { rc .ready none with state := .busy }) := by rw [hW']; exact World.putObj_heap_same (blk_lt h2)
      have b2 : W'.heap[D]? = some (.deferred (some [])) := by rw [hW']; exact (World.putObj_heap_other (by omega)).trans h3
      have b3 : Below B W0 W' := by rw [hW']; exact below_putObj W0 _ (by omega)
      have b4 : I i W' := by rw [hW']; exact hI.putObj _ h1 (by omega) h2 rfl
      rw [← hW']
      refine wpIn_mono (hbody W' b4) ?_
      have last : ∀ (jump : Option Code) (W3 : World), KeepsFrom w.heap.size W' W3 →
          (Instr.endRound (D + 1) jump).run P W3 = .ok (.bool jump.isNone) (W3.putObj (D + 1) (.loop (rc (if jump.isNone then .ready else .done) jump))) ∧ W3.heap[D + 1]? = some (.loop { rc .ready none with state := .busy }) ∧
          (W3.putObj (D + 1) (.loop (rc (if jump.isNone then .ready else .done) jump))).heap[D + 1]? = some (.loop (rc (if jump.isNone then .ready else .done) jump)) ∧
          (W3.putObj (D + 1) (.loop (rc (if jump.isNone then .ready else .done) jump))).heap[D]? = some (.deferred (some [])) := by
        intro jump W3 hk
        have c1 := hk.same _ _ (by omega) b1 rfl
        have c2 := hk.same _ _ (by omega) b2 rfl
        have c3 := run_endRound (P := P) jump c1
        rw [hrc] at c3 ⊢
        exact ⟨c3, by rw [hrc] at c1; exact c1, World.putObj_heap_same (blk_lt c1), (World.putObj_heap_other (by omega)).trans c2⟩
      have stop : ∀ (c : Code) (W3 : World), KeepsFrom w.heap.size W' W3 → Ix c W3 → ∃ (v : Value) (W4 : World), (Instr.endRound (D + 1) (some c)).run P W3 = .ok v W4 ∧
          ((Ending.returned v = .returned (.bool true) ∧ (I (i + 1) W4 ∧ W4.heap[D + 1]? = some (.loop (rc .ready none)) ∧ W4.heap[D]? = some (.deferred (some []))) ∧ Below B W0 W4) ∨
          (Ending.returned v = .returned (.bool false) ∧ ∃ c, Ix c W4 ∧ W4.heap[D + 1]? = some (.loop (rc .done (some c))) ∧ W4.heap[D]? = some (.deferred (some [])))) := by
        intro c W3 hk hx
        obtain ⟨d1, d2, d3, d4⟩ := last (some c) W3 hk
        exact ⟨_, _, d1, .inr ⟨rfl, c, hIx.putObj _ hx (by omega) d2 rfl, d3, d4⟩⟩
      rintro e a3 W3 hp
      cases e with
      | normal =>
        obtain ⟨hk, hbl, hi3⟩ := hp
        obtain ⟨d1, d2, d3, d4⟩ := last none W3 hk
        exact ⟨_, _, d1, .inl ⟨rfl, ⟨hI.putObj _ hi3 (by omega) d2 rfl, d3, d4⟩, (b3.trans hbl).trans (below_putObj W3 _ (by omega))⟩⟩
      | ret => exact stop _ W3 hp.1 hp.2
      | exit id => exact stop _ W3 hp.1 hp.2
      | goto t => exact stop _ W3 hp.1 hp.2
      | panic ch => exact hp.elim
      | outgrown => exact hp.elim
    · rintro e W2 ⟨⟨v, rfl⟩, (⟨h1, h2, h3⟩ | ⟨c, h1, h2, h3⟩)⟩
      · refine ⟨none, _, by have z := run_endLoop (P := P) h2 (by rw [hrc]; simp); rw [hrc] at z; exact z, ?_⟩
        rw [← hD]
        exact hdone D _ (by omega) (hI.putObj _ h1 (by omega) h2 rfl) ((World.putObj_heap_other (by omega)).trans h3)
      · refine ⟨some c, _, by have z := run_endLoop (P := P) h2 (by rw [hrc]; simp); rw [hrc] at z; exact z, ?_⟩
        rw [← hD]
        exact (wpIn_wide (n := 0)).2 (hstop D c _ (by omega) (hIx.putObj _ h1 (by omega) h2 rfl) ((World.putObj_heap_other (by omega)).trans h3))

/-- A function's end where its body held loops over functions: each loop's block for deferred calls is empty, and is shut. -/
def Marks (P : Program) (fn : Func) (tmps : Array Value) (R : Ending → World → Prop) : List Deferred → World → Prop
  | [], w => ∃ v, (results fn tmps).run P w = .ok v w ∧ R (.returned v) w
  | d :: ds, w => ∃ D, d = { target := .collected D, args := #[] } ∧ w.heap[D]? = some (.deferred (some [])) ∧ Marks P fn tmps R ds (w.putObj D (.deferred none))
def MarksPost (P : Program) (fn : Func) (R : Ending → World → Prop) : Exit → Act → World → Prop
  | .normal, a, w => Marks P fn a.tmps R a.defers w
  | .ret, a, w => Marks P fn a.tmps R a.defers w
  | .exit _, _, _ => False
  | .goto _, _, _ => False
  | .panic _, _, _ => False
  | .outgrown, _, _ => False
theorem Marks.leaves {P : Program} {fn : Func} {tmps : Array Value} {R : Ending → World → Prop} (ds : List Deferred) : ∀ w, Marks P fn tmps R ds w → LeavesInM Fence.wide 0 P fn tmps R ds .returning w := by
  induction ds with
  | nil =>
    rintro w ⟨v, h1, h2⟩
    exact ⟨v, h1, h2⟩
  | cons d ds ih =>
    rintro w ⟨D, rfl, h1, h2⟩
    exact ⟨by simp, .inl ⟨D, _, rfl, run_takeDeferred h1, ih _ h2⟩⟩
theorem calls_of_marks {P : Program} {f : FuncId} {fn : Func} {c : Code} {args : Array Value} {w : World} {R : Ending → World → Prop}
    (hf : P.funcs[f]? = some fn) (hb : fn.body = some c) (h : c.wp P (MarksPost P fn R) { tmps := args ++ Array.replicate (fn.ntmps - args.size) undef, defers := [] } w) : Calls P f args w R := by
  refine (callsIn_wide (n := 0)).1 (callsIn_of_wp_marks hf hb trivial (wpIn_mono ((wpIn_wide (n := 0)).2 h) ?_) rfl)
  intro e a w' hp
  cases e with
  | normal => exact Marks.leaves _ _ hp
  | ret => exact Marks.leaves _ _ hp
  | exit _ => exact hp.elim
  | goto _ => exact hp.elim
  | panic _ => exact hp.elim
  | outgrown => exact hp.elim
theorem Marks.zero {P : Program} {fn : Func} {tmps : Array Value} {R : Ending → World → Prop} {w : World} (v : Value) (h : (results fn tmps).run P w = .ok v w) (hR : R (.returned v) w) : Marks P fn tmps R [] w := ⟨v, h, hR⟩
theorem Marks.one {P : Program} {fn : Func} {tmps : Array Value} {R : Ending → World → Prop} {w : World} {D : Nat} (hD : w.heap[D]? = some (.deferred (some []))) (v : Value)
    (h : (results fn tmps).run P (w.putObj D (.deferred none)) = .ok v (w.putObj D (.deferred none))) (hR : R (.returned v) (w.putObj D (.deferred none))) : Marks P fn tmps R [{ target := .collected D, args := #[] }] w := ⟨D, rfl, hD, v, h, hR⟩
theorem Marks.two {P : Program} {fn : Func} {tmps : Array Value} {R : Ending → World → Prop} {w : World} {D E : Nat} (hD : w.heap[D]? = some (.deferred (some []))) (hE : w.heap[E]? = some (.deferred (some []))) (hne : D ≠ E) (v : Value)
    (h : (results fn tmps).run P ((w.putObj D (.deferred none)).putObj E (.deferred none)) = .ok v ((w.putObj D (.deferred none)).putObj E (.deferred none))) (hR : R (.returned v) ((w.putObj D (.deferred none)).putObj E (.deferred none))) :
    Marks P fn tmps R [{ target := .collected D, args := #[] }, { target := .collected E, args := #[] }] w := ⟨D, rfl, hD, E, rfl, (World.putObj_heap_other (Ne.symm hne)).trans hE, v, h, hR⟩
/-- The block of a loop that has ended is shut: what is told of other blocks stays. -/
theorem Kp.putObj {S : Nat → Prop} {w w1 : World} (h : Kp S w w1) (D : Nat) (o : Obj) (hD : S D ∨ w.heap.size ≤ D) : Kp S w (w1.putObj D o) :=
  h.trans (S2 := fun k => k = D) ⟨rfl, rfl, rfl, by simp, fun k _ hn => World.putObj_heap_other hn⟩ (fun k hk => by rw [hk]; exact hD)
theorem V_putObj {α : Type} {d : Kd α} {e base : Nat} {ok : Nat → Prop} {w : World} {v : Value} {xs : List α} (h : Kd.V d e w base ok v xs) (D : Nat) (o : Obj) (hD : ∀ k, ok k → k ≠ D) : Kd.V d e (w.putObj D o) base ok v xs :=
  Kd.V_step h (fun k hk _ => World.putObj_heap_other (hD k hk))

/-! A region in a round, by the plain walk. -/
theorem upon_round {P : Program} {o : Oper} {a : Act} {l : Nat} {n1 n2 : Act → World → Prop} {Q : Exit → Act → World → Prop} (hQ : ∀ a w, ¬ Q .outgrown a w) (hn : ∀ a w, n1 a w → n2 a w) (r : Result Next)
    (h : o.upon P a n1 Q r) : o.uponIn (Fence.wide.inRound l) 0 P a n2 Q r := by
  have hdep : (Fence.wide.inRound l).depth.isSome = true → 1 ≤ 0 := fun h => by simp [Fence.wide, Fence.inRound] at h
  unfold Oper.upon at h
  unfold Oper.uponIn
  split at h
  · exact hn _ _ h
  · exact hn _ _ h
  · exact hn _ _ h
  · refine ⟨hdep, (CallsIn.inRound l ((callsIn_wide (n := 0)).2 h)).mono ?_⟩
    intro e w' hp
    cases e with
    | returned v => exact hn _ _ hp
    | panicked ch => exact hp
    | outgrown => exact hp
  · refine ⟨hdep, ?_⟩
    intro c cs _
    obtain ⟨v, w', r1, s⟩ := h c cs
    exact ⟨v, w', hn _ _ r1, by
      have := (stepsIn_wide (P := P)).2 s
      exact this⟩
  · exact h
  · exact h.elim
def noDefer (ops : Array Oper) : Bool := ops.all fun o => match o.op with | .defer _ => false | _ => true
theorem noDefer_spec {ops : Array Oper} (h : noDefer ops = true) {i : Nat} {o : Oper} (ho : ops[i]? = some o) : ∀ c, o.op ≠ .defer c := by
  intro c hc
  unfold noDefer at h
  rw [Array.all_eq_true] at h
  obtain ⟨hi, rfl⟩ := Array.getElem?_eq_some_iff.1 ho
  have := h i hi
  rw [hc] at this
  simp at this
theorem wpOps_round {P : Program} {ops : Array Oper} {Q : Exit → Act → World → Prop} {lp : Nat} (hnd : noDefer ops = true) (hQ : ∀ a w, ¬ Q .outgrown a w) (l : List Nat) : ∀ (a : Act) (w : World), wpOps P ops Q l a w → wpOpsIn (Fence.wide.inRound lp) 0 P ops Q l a w := by
  induction l with
  | nil => exact fun _ _ h => h
  | cons i rest ih =>
    intro a w h
    unfold wpOps at h
    unfold wpOpsIn
    cases ho : ops[i]? with
    | none =>
      simp only [ho] at h ⊢
      exact ih a w h
    | some o =>
      simp only [ho] at h ⊢
      by_cases hw : Region.wanted o (yielded ops a.tmps) = true
      · rw [if_pos hw] at h ⊢
        rcases h with h | ⟨_, a0, w0, hq⟩
        · refine ⟨fun _ _ => trivial, ?_⟩
          have e : o.semAt (Fence.wide.inRound lp).round a.eval = execOp a.eval o := Oper.semAt_eq _ _ _ (noDefer_spec hnd ho)
          rw [e]
          exact upon_round hQ (fun a w => ih a w) _ h
        · exact (hQ _ _ hq).elim
      · rw [if_neg hw] at h ⊢
        exact ⟨fun _ _ => trivial, ih _ _ h⟩
theorem wpIn_region_any0 {P : Program} {id : Nat} {ops : Array Oper} {Q : Exit → Act → World → Prop} {a : Act} {w : World} {lp : Nat} (hm : P.follows .mixedOrders = true) (hnd : noDefer ops = true) (hQ : ∀ a w, ¬ Q .outgrown a w)
    (h : wpAny P .any ops Q ops.size (Array.replicate ops.size false) a { w with drawn := w.drawn + 1 }) : (Code.region id ops true).wpIn (Fence.wide.inRound lp) 0 P Q a w :=
  wpIn_region_draw fun t => wpOps_round hnd hQ _ _ _ (by
    simp only [Region.schedule, hm, Bool.true_or, if_true]
    exact wpAny_sound ops.size t _ a _ h)
theorem wpIn_still_tail {P : Program} {id : Nat} {Q : Exit → Act → World → Prop} {a : Act} {w : World} {l : List Oper} {lp : Nat} (n : Nat) (hm : P.follows .mixedOrders = true) (hB : Region.lexTailB .any l.toArray n = true) (hnd : noDefer l.toArray = true) (hQ : ∀ a w, ¬ Q .outgrown a w)
    (h : wpStill P l.toArray { w with drawn := w.drawn + 1 } (fun a' => wpList P l.toArray Q (l.drop n) a' { w with drawn := w.drawn + 1 }) (l.take n) a) : (Code.region id l.toArray true).wpIn (Fence.wide.inRound lp) 0 P Q a w := by
  simp only [Region.lexTailB, Bool.and_eq_true, decide_eq_true_eq] at hB
  obtain ⟨⟨⟨⟨hsel, hn⟩, hs⟩, hc⟩, hlex⟩ := hB
  have hn' : n < l.length := by simpa using hn
  have htl : (l.take n).length = n := by simp; omega
  have hdl : (l.drop n).length = l.toArray.size - n := by simp
  have h0 : HeadInv .any l.toArray n (Array.replicate l.toArray.size false) :=
    ⟨by simp, fun j oj _ hl => (by rw [getD_replicate_false] at hl; cases hl), fun t _ ht => getD_in (by simpa using ht) (getD_replicate_false _ _)⟩
  have H := wpAnyL_lex (md := .any) (g := l.toArray.size - n) hsel hs hc hn (l.take n) 0 _ a (fun j hj => by
    have hj' : j < n := by rw [htl] at hj; exact hj
    simp [hj']) (by simpa using htl) h0 (by rw [htl]; exact hlex) h
  refine wpIn_region_any0 hm hnd hQ ?_
  have K := wpAny_of_head (Q' := Q) (g := l.toArray.size - n) (fun listed a' hL => by
    have z := wpAny_of_seq (md := .any) (Q' := Q) (l.drop n) n listed a' { w with drawn := w.drawn + 1 } (fun j => by simp [List.getElem?_drop]) (by rw [hdl]; exact hL.1) hL.2
    rwa [hdl] at z) _ _ _ H
  rw [htl, show n + (l.toArray.size - n) = l.toArray.size by omega] at K
  exact K

/-! A region that draws its order: reads first, in the text's order, under what is known of cells (S); then operations one by one, each of which keeps S. -/
def Reads (P : Program) (ops : Array Oper) (S : World → Prop) : List Oper → Act → (Act → Prop) → Prop
  | [], a, K => K a
  | o :: l, a, K => ∃ v, YieldsIf P ops S o v a ∧ Reads P ops S l (a.put o.dst v) K
def headB (ops : Array Oper) : Nat → Nat → Array Bool → Bool
  | 0, _, _ => true
  | n + 1, k, listed => (Region.ready .any ops listed).contains k && Region.free .any ops listed k && headB ops n (k + 1) (listed.setIfInBounds k true)
def markedB : Nat → Nat → Array Bool → Array Bool
  | 0, _, listed => listed
  | n + 1, k, listed => markedB n (k + 1) (listed.setIfInBounds k true)
theorem wpAnyH_heads {P : Program} {ops : Array Oper} {Q : Exit → Act → World → Prop} {S : World → Prop} {w : World} (hs : Region.noSelect ops = true) (hQ : ∀ c a w, ¬ Q (.panic c) a w) (hS : S w) (fuel : Nat) :
    ∀ (l : List Oper) (k : Nat) (listed : Array Bool) (a : Act), (∀ j, j < l.length → l[j]? = ops[k + j]?) → headB ops l.length k listed = true →
      Reads P ops S l a (fun a' => wpAnyH P .any ops Q S fuel (markedB l.length k listed) a' w) → wpAnyH P .any ops Q S (fuel + l.length) listed a w
  | [], _, _, _, _, _, h => h
  | o :: l, k, listed, a, hl, hB, h => by
    obtain ⟨v, hy, h⟩ := h
    simp only [List.length_cons, headB, Bool.and_eq_true] at hB
    have h0 : ops[k]? = some o := by simpa using (hl 0 (by simp)).symm
    have ih := wpAnyH_heads hs hQ hS fuel l (k + 1) (listed.setIfInBounds k true) (a.put o.dst v) (fun j hj => by
      have := hl (j + 1) (by simp; omega)
      simpa [Nat.add_assoc, Nat.add_comm 1 j] using this) hB.2 h
    exact wpAnyH_take h0 hs hB.1.2 hB.1.1 (fun c a w h => (hQ _ _ _ h).elim) hy hS ih
/-- The operations that are left come one by one. -/
def Tail (P : Program) (ops : Array Oper) (Q : Exit → Act → World → Prop) (S : World → Prop) : List Nat → Act → World → Prop
  | [], a, w => Q .normal a w
  | i :: l, a, w => wpOp P ops Q i (fun a' w' => S w' ∧ Tail P ops Q S l a' w') a w
def tailB (ops : Array Oper) : List Nat → Array Bool → Bool
  | [], listed => Region.ready .any ops listed == []
  | i :: l, listed => Region.ready .any ops listed == [i] && tailB ops l (listed.setIfInBounds i true)
theorem wpAnyH_tail {P : Program} {ops : Array Oper} {Q : Exit → Act → World → Prop} {S : World → Prop} : ∀ (l : List Nat) (listed : Array Bool) (a : Act) (w : World), tailB ops l listed = true → Tail P ops Q S l a w → wpAnyH P .any ops Q S l.length listed a w
  | [], listed, a, w, hB, h => wpAnyH_done (by simpa [tailB] using hB) h 0
  | i :: l, listed, a, w, hB, h => by
    simp only [tailB, Bool.and_eq_true] at hB
    refine wpAnyH_all (rs := [i]) (by simpa using hB.1) (by simp) (fun j hj => ?_)
    obtain rfl : j = i := by simpa using hj
    exact wpOp_mono (fun a' w' hh => ⟨hh.1, wpAnyH_tail l _ a' w' hB.2 hh.2⟩) h
theorem region_any {P : Program} {l : List Oper} {Q : Exit → Act → World → Prop} {a : Act} {w : World} (S : World → Prop) (n : Nat) (tl : List Nat) (hs : Region.noSelect l.toArray = true) (hB : headB l.toArray n 0 (Array.replicate l.toArray.size false) = true)
    (hT : tailB l.toArray tl (markedB n 0 (Array.replicate l.toArray.size false)) = true) (hn : tl.length + n = l.toArray.size) (hQ : ∀ c a w, ¬ Q (.panic c) a w) (hS : S w)
    (h : Reads P l.toArray S (l.take n) a (fun a' => Tail P l.toArray Q S tl a' w)) : wpAny P .any l.toArray Q l.toArray.size (Array.replicate l.toArray.size false) a w := by
  have hn2 : (l.take n).length = n := by simp at hn ⊢; omega
  have mono : ∀ (l0 : List Oper) (a : Act) (K K2 : Act → Prop), (∀ a, K a → K2 a) → Reads P l.toArray S l0 a K → Reads P l.toArray S l0 a K2 := by
    intro l0
    induction l0 with
    | nil => exact fun a K K2 hk h => hk a h
    | cons o l0 ih => exact fun a K K2 hk ⟨v, hy, h⟩ => ⟨v, hy, ih _ K K2 hk h⟩
  have H := wpAnyH_heads (P := P) (Q := Q) hs hQ hS tl.length (l.take n) 0 (Array.replicate l.toArray.size false) a (fun j hj => by
    have hj' : j < n := by rw [hn2] at hj; exact hj
    simp [hj']) (by rw [hn2]; exact hB) (mono _ _ _ _ (fun a' ha => by rw [hn2]; exact wpAnyH_tail tl _ a' w hT ha) h)
  rw [hn2, hn] at H
  exact wpAny_of_held _ _ _ _ H
theorem Tail.val {P : Program} {ops : Array Oper} {Q : Exit → Act → World → Prop} {S : World → Prop} {i : Nat} {l : List Nat} {a : Act} {w w2 : World} {o : Oper} {v : Value} (ho : ops[i]? = some o) (hg : o.guard = none)
    (hr : (execOp a.eval o).run P w = .ok (.value v) w2) (hS : S w2) (h : Tail P ops Q S l (a.put o.dst v) w2) : Tail P ops Q S (i :: l) a w := by
  unfold Tail wpOp
  simp only [ho]
  rw [if_pos (by simp [Region.wanted, hg])]
  refine .inl ?_
  simp only [Oper.wp, hr, Oper.upon]
  exact ⟨hS, h⟩
theorem Tail.call {P : Program} {ops : Array Oper} {Q : Exit → Act → World → Prop} {S : World → Prop} {i : Nat} {l : List Nat} {a : Act} {w : World} {o : Oper} {f : FuncId} {args : Array Value} {R : Ending → World → Prop} (ho : ops[i]? = some o) (hg : o.guard = none)
    (hr : (execOp a.eval o).run P w = .ok (.enter f args) w) (hc : Calls P f args w R) (h : ∀ e w2, R e w2 → ∃ v, e = .returned v ∧ S w2 ∧ Tail P ops Q S l (a.put o.dst v) w2) : Tail P ops Q S (i :: l) a w := by
  unfold Tail wpOp
  simp only [ho]
  rw [if_pos (by simp [Region.wanted, hg])]
  refine .inl ?_
  simp only [Oper.wp, hr, Oper.upon]
  refine hc.mono ?_
  intro e w2 hR
  obtain ⟨v, rfl, hS, hT⟩ := h e w2 hR
  exact ⟨hS, hT⟩
theorem Reads.step {P : Program} {ops : Array Oper} {S : World → Prop} {o : Oper} {l : List Oper} {a : Act} {K : Act → Prop} (v : Value) (hg : o.guard = none) (hr : ∀ w, S w → (execOp a.eval o).run P w = .ok (.value v) w) (h : Reads P ops S l (a.put o.dst v) K) : Reads P ops S (o :: l) a K :=
  ⟨v, .inl ⟨by simp [Region.wanted, hg], hr⟩, h⟩

theorem R_cells {α : Type} {d : Kd α} {e base : Nat} {ok : Nat → Prop} {w : World} {v : Value} {xs : List α} (h : d.R e w base ok v xs) {k : Nat} (hk : some k = v.ownBlock) : base ≤ k ∧ k < w.heap.size ∧ ∃ cs t fr, w.heap[k]? = some (.cells cs t fr) := by
  obtain ⟨inner, ho⟩ := Kd.R_own h
  obtain ⟨cells, hc⟩ := own_typed ho k hk.symm
  exact ⟨own_base ho k hk.symm, own_lt ho k hk.symm, cells, e, (0, 0), hc⟩
/-! What a loop's own blocks leave as it was. -/
theorem blk_own {w w1 : World} {row : Option Nat} {g : Nat} {cs : Array Value} {t : TypeId} {fr : Nat × Nat} (h : w.heap[g]? = some (.cells cs t fr)) (hg : w.grownBy w1 row) (hr : ∀ r, row = some r → ∃ o : Obj, w.heap[r]? = some o ∧ o.isCells = false) : w1.heap[g]? = some (.cells cs t fr) :=
  blk_grown h hg (fun e => by
    obtain ⟨o, h1, h2⟩ := hr g e.symm
    rw [h] at h1
    injection h1 with h1
    subst h1
    simp [Obj.isCells] at h2)
theorem R_own {α : Type} {d : Kd α} {e base : Nat} {ok : Nat → Prop} {w w1 : World} {v : Value} {xs : List α} {row : Option Nat} (h : d.R e w base ok v xs) (hg : w.grownBy w1 row) (hr : ∀ r, row = some r → ∃ o : Obj, w.heap[r]? = some o ∧ o.isCells = false) : d.R e w1 base ok v xs :=
  Kd.R_mono (Kd.R_move (Kd.R_bound h) (fun k hk => by
    obtain ⟨_, _, _, q, _, cells, hc⟩ := hk
    rw [hc]
    exact blk_own hc hg hr)) (fun k hk => hk.1)
theorem Kp.own {S : Nat → Prop} {w w1 w2 : World} {row : Option Nat} (h : Kp S w w1) (hg : w1.grownBy w2 row) (hr : ∀ r, row = some r → S r ∨ w.heap.size ≤ r) : Kp S w w2 := h.grown hg hr
/-! A region that draws its order: reads first, then one operation (a call), then reads again. -/
theorem Reads.imp {P : Program} {ops : Array Oper} {S : World → Prop} : ∀ (l0 : List Oper) (a : Act) (K K2 : Act → Prop), (∀ a, K a → K2 a) → Reads P ops S l0 a K → Reads P ops S l0 a K2
  | [], _, _, _, hk, h => hk _ h
  | _ :: l0, _, K, K2, hk, ⟨v, hy, h⟩ => ⟨v, hy, Reads.imp l0 _ K K2 hk h⟩
theorem region_any_call {P : Program} {l : List Oper} {Q : Exit → Act → World → Prop} {a : Act} {w : World} (S : World → Prop) (n m : Nat) (hs : Region.noSelect l.toArray = true) (hB : headB l.toArray n 0 (Array.replicate l.toArray.size false) = true)
    (hR : (Region.ready .any l.toArray (markedB n 0 (Array.replicate l.toArray.size false)) == [n]) = true) (hB2 : headB l.toArray m (n + 1) ((markedB n 0 (Array.replicate l.toArray.size false)).setIfInBounds n true) = true)
    (hD : (Region.ready .any l.toArray (markedB m (n + 1) ((markedB n 0 (Array.replicate l.toArray.size false)).setIfInBounds n true)) == []) = true) (hn : m + 1 + n = l.toArray.size) (hQ : ∀ c a w, ¬ Q (.panic c) a w) (hS : S w)
    (h : Reads P l.toArray S (l.take n) a (fun a' => wpOp P l.toArray Q n (fun a2 w2 => S w2 ∧ Reads P l.toArray S (l.drop (n + 1)) a2 (fun a3 => Q .normal a3 w2)) a' w)) : wpAny P .any l.toArray Q l.toArray.size (Array.replicate l.toArray.size false) a w := by
  have hn2 : (l.take n).length = n := by simp at hn ⊢; omega
  have hm2 : (l.drop (n + 1)).length = m := by simp at hn ⊢; omega
  have H := wpAnyH_heads (P := P) (Q := Q) hs hQ hS (m + 1) (l.take n) 0 (Array.replicate l.toArray.size false) a (fun j hj => by
    have hj' : j < n := by rw [hn2] at hj; exact hj
    simp [hj']) (by rw [hn2]; exact hB) (Reads.imp _ _ _ _ (fun a' ha => by
      rw [hn2]
      refine wpAnyH_all (rs := [n]) (by simpa using hR) (by simp) (fun j hj => ?_)
      obtain rfl : j = n := by simpa using hj
      refine wpOp_mono (fun a2 w2 hh => ⟨hh.1, ?_⟩) ha
      have H2 := wpAnyH_heads (P := P) (Q := Q) (w := w2) hs hQ hh.1 0 (l.drop (j + 1)) (j + 1) ((markedB j 0 (Array.replicate l.toArray.size false)).setIfInBounds j true) a2 (fun i hi => by simp [List.getElem?_drop]) (by rw [hm2]; exact hB2)
        (Reads.imp _ _ _ _ (fun a3 h3 => by rw [hm2]; exact wpAnyH_done (by simpa using hD) h3 0) hh.2)
      rw [hm2, Nat.zero_add] at H2
      exact H2) h)
  rw [hn2, hn] at H
  exact wpAny_of_held _ _ _ _ H
theorem wpOp_call {P : Program} {ops : Array Oper} {Q : Exit → Act → World → Prop} {K : Act → World → Prop} {i : Nat} {a : Act} {w : World} {o : Oper} {f : FuncId} {args : Array Value} {R : Ending → World → Prop} (ho : ops[i]? = some o) (hg : o.guard = none)
    (hr : (execOp a.eval o).run P w = .ok (.enter f args) w) (hc : Calls P f args w R) (h : ∀ e w2, R e w2 → ∃ v, e = .returned v ∧ K (a.put o.dst v) w2) : wpOp P ops Q i K a w := by
  unfold wpOp
  simp only [ho]
  rw [if_pos (by simp [Region.wanted, hg])]
  refine .inl ?_
  simp only [Oper.wp, hr, Oper.upon]
  refine hc.mono ?_
  intro e w2 hR
  obtain ⟨v, rfl, hK⟩ := h e w2 hR
  exact hK
end Go.Proofs.Ytnkepaenpoadpaa.Hand
/- sheafworksref00.Equal: whether two lists are the same. -/
namespace Go.Proofs.Ytnkepaenpoadpaa.Hand
open Go.RowKit Go.Proofs.YtnkepaenpoadpaaW.PrintWords Go.Proofs.YtnkepaenpoadpaaW.PrintLast Go.Proofs.YtnkepaenpoadpaaW.PrintMore
set_option linter.unusedVariables false
set_option linter.unusedSimpArgs false
attribute [local go_sem] Oper.semAt_some
def eqTo (l l2 : List Int) (x : Int) : Bool := ((l.length : Int) == (l2.length : Int)) && (List.range x.toNat).all (fun (j : Nat) => rd l (j : Int) == rd l2 (j : Int))
theorem eqTo_succ (l l2 : List Int) (x : Int) (h0 : 0 ≤ x) : eqTo l l2 (x + 1) = (eqTo l l2 x && (rd l x == rd l2 x)) := by
  unfold eqTo
  have e : (x + 1).toNat = x.toNat + 1 := by omega
  have e2 : ((x.toNat : Nat) : Int) = x := by omega
  rw [e, List.range_succ, List.all_append, Bool.and_assoc]
  simp [e2]
theorem eqTo_all (l l2 : List Int) : eqTo l l2 l.length = (l == l2) := by
  rw [Bool.eq_iff_iff, beq_iff_eq]
  unfold eqTo
  rw [Bool.and_eq_true, beq_iff_eq, Int.toNat_natCast, List.all_eq_true]
  constructor
  · rintro ⟨h1, h2⟩
    refine List.ext_getElem (by omega) (fun i hi hi2 => ?_)
    have := h2 i (by rw [List.mem_range]; exact hi)
    simpa [rd, rdOf, hi, hi2] using this
  · rintro rfl
    exact ⟨rfl, fun j _ => by simp⟩
theorem eqTo_no (l l2 : List Int) (x : Int) (h0 : 0 ≤ x) (hx : x ≤ l.length) (h : eqTo l l2 x = false) : (l == l2) = false := by
  rw [← eqTo_all]
  by_cases hl : l.length = l2.length
  · have h2 : ∃ j : Nat, (j : Int) < x ∧ (rd l (j : Int) == rd l2 (j : Int)) = false := by
      unfold eqTo at h
      have e : ((l.length : Int) == (l2.length : Int)) = true := by rw [beq_iff_eq]; omega
      rw [e, Bool.true_and, List.all_eq_false] at h
      obtain ⟨j, hj, hh⟩ := h
      rw [List.mem_range] at hj
      exact ⟨j, by omega, by simpa using hh⟩
    obtain ⟨j, hj, hh⟩ := h2
    unfold eqTo
    rw [Int.toNat_natCast]
    have e : (List.range l.length).all (fun (j : Nat) => rd l (j : Int) == rd l2 (j : Int)) = false := by
      rw [List.all_eq_false]
      exact ⟨j, by rw [List.mem_range]; omega, by rw [hh]; simp⟩
    rw [e, Bool.and_false]
  · unfold eqTo
    have e : ((l.length : Int) == (l2.length : Int)) = false := by rw [beq_eq_false_iff_ne]; omega
    rw [e, Bool.false_and]
set_option maxHeartbeats 4000000 in
set_option maxRecDepth 100000 in
theorem ref_Equal (A : Option Addr) (c : Nat) (l : List Int) (A2 : Option Addr) (c2 : Nat) (l2 : List Int) (w : World) (hr : Kd.C (Kd.int .i64) w A l.length l) (hr2 : Kd.C (Kd.int .i64) w A2 l2.length l2) :
    Calls Try.prog 19 #[.slice A l.length c, .slice A2 l2.length c2] w fun e w' => e = .returned (.bool (l == l2)) ∧ Drawn0 w w' := by
  have HR := Aside0.mk hr
  have HR2 := Aside0.mk hr2
  have hm : l.length ≤ 9223372036854775807 := hr.2.1
  clear hr hr2
  refine calls_of_marks Try.func19 rfl ?_
  simp only [Try.ntmps19, List.size_toArray, List.length_cons, List.length_nil, Nat.reduceAdd, Nat.reduceSub, Array.replicate_succ, Array.replicate_zero, List.push_toArray, List.append_toArray, List.nil_append, List.cons_append]
  go_wp2
  go_loopw [5, 6] (fun s i W => ∃ (x : Int) (b : Bool), s = .bool b ∧ i = .int .i64 x ∧ 0 ≤ x ∧ x ≤ l.length ∧ Aside0 (b = eqTo l l2 x) ∧ Aside0 (Drawn0 w W)) (fun _ i _ => l.length - (intOf i).toNat)
  case atStart => exact ⟨0, _, rfl, rfl, by omega, by omega, ⟨by simp [eqTo]⟩, ⟨⟨0, rfl⟩⟩⟩
  case round =>
    obtain ⟨x, b, rfl, rfl, p0, p1, HB, HD⟩ := hrel
    cases b
    · go_wp2
      unfold MarksPost
      refine Marks.zero _ (results_tmp rfl _ _ _) ?_
      exact ⟨by rw [eqTo_no l l2 x p0 p1 HB.out.symm]; rfl, HD.out⟩
    · by_cases hlt : x < l.length
      · have hl : l.length = l2.length := by
          have h := HB.out
          unfold eqTo at h
          have := (Bool.and_eq_true _ _).mp h.symm
          rw [beq_iff_eq] at this
          omega
        have hlt2 : x < l2.length := by omega
        obtain ⟨ad, e1, hx⟩ := Kd.at_int (kdC_drawn HR.out HD.out) x p0 hlt
        obtain ⟨ad2, e2, hx2⟩ := Kd.at_int (kdC_drawn HR2.out HD.out) x p0 hlt2
        cases e1
        cases e2
        replace hl := Aside0.mk hl
        go_wp2
        refine wp_region_any (by kernel_rfl) ?_
        change wpAny _ _ _ _ _ _ _ wr.drew
        refine region_any (fun W => W.cell? (ad.add x.toNat) = some (.int .i64 (rd l x)) ∧ W.cell? (ad2.add x.toNat) = some (.int .i64 (rd l2 x))) 10 [] (by kernel_rfl) (by kernel_rfl) (by kernel_rfl) rfl (fun _ _ _ h => h) ⟨hx, hx2⟩ ?_
        simp only [List.take_succ_cons, List.take_zero]
        iterate 10 refine Reads.step _ rfl (fun W hW => by obtain ⟨k1, k2⟩ := hW; go_simp; rfl) ?_
        unfold Reads Tail
        simp only [List.getElem_toArray, List.getElem_cons_succ, List.getElem_cons_zero, Act.put, List.setIfInBounds_toArray, List.set_cons_zero, List.set_cons_succ, i64_w]
        go_wp2
        go_roundw
        case rel => exact ⟨x + 1, _, rfl, rfl, by omega, by omega, ⟨by rw [eqTo_succ _ _ _ p0, ← HB.out, Bool.true_and]⟩, ⟨drawn_trans HD.out ⟨1, rfl⟩⟩⟩
        case measure => simp [intOf]; omega
      · go_wp2
        unfold MarksPost
        refine Marks.zero _ (results_tmp rfl _ _ _) ?_
        have hx : x = l.length := by omega
        have h := HB.out
        rw [hx, eqTo_all] at h
        exact ⟨by rw [← h]; rfl, HD.out⟩
end Go.Proofs.Ytnkepaenpoadpaa.Hand
/- A range over a function whose rounds must keep what the iterator reads. -/
namespace Go.Proofs.Ytnkepaenpoadpaa.Hand
open Go.RowKit Go.Proofs.YtnkepaenpoadpaaW.PrintWords Go.Proofs.YtnkepaenpoadpaaW.PrintLast Go.Proofs.YtnkepaenpoadpaaW.PrintMore
set_option linter.unusedVariables false
set_option linter.unusedSimpArgs false
/-- As IterC; between rounds K0 holds. -/
def IterK (P : Program) (gf : Nat) (lb : Array Value) (L : List (Array Value)) (B : Nat) (w0 : World) (K0 : World → Prop) : Prop :=
  ∀ (l : Nat) (J : Nat → World → Prop) (Jx : World → Prop) (W : World), Below w0.heap.size w0 W → (∀ i W1, J i W1 → K0 W1) →
    (∀ i W1 W2, J i W1 → Below W1.heap.size W1 W2 → J i W2) → (∀ W1 W2, Jx W1 → Below W1.heap.size W1 W2 → Jx W2) →
    (∀ i args W1, L[i]? = some args → J i W1 → YieldAt Fence.wide 0 P l args W1 fun e W' => (e = .returned (.bool true) ∧ J (i + 1) W' ∧ Below B W1 W') ∨ (e = .returned (.bool false) ∧ Jx W')) →
    J 0 W → CallsIn Fence.wide 0 P gf (#[.func (.yield l) #[] #[]] ++ lb) W fun e W' => (∃ v, e = .returned v) ∧ (J L.length W' ∨ Jx W')
theorem wp_rangeSeqK {P : Program} {g : Operand} {ps : Array Tmp} {assign body : Code} {Q : Exit → Act → World → Prop} {a : Act} {w : World}
    {gf : Nat} {lb : Array Value} {L : List (Array Value)} {B : Nat} {w0 : World} {K0 : World → Prop} (hg : a.eval g = .func (.func gf) #[] lb) (eg : ∀ args w, (callFunc gf args).run P w = .ok (.enter gf args) w)
    (hit : IterK P gf lb L B w0 K0) (hb0 : Below w0.heap.size w0 w) (hB : B ≤ w.heap.size) (hps : ∀ args ∈ L, args.size = ps.size)
    (I : Nat → World → Prop) (Ix : Code → World → Prop) (hI : OwnFrom w.heap.size I) (hIx : OwnFrom w.heap.size Ix) (h0 : I 0 w) (hK0 : ∀ i W, I i W → K0 W)
    (hround : ∀ (l i : Nat) (args : Array Value) (W : World), L[i]? = some args → I i W → ∀ K : Act → World → Prop,
      (∀ a', (∀ W2, I i W2 → body.wpIn (Fence.wide.inRound l) 0 P (RfPost w.heap.size B I Ix i W2) a' W2) → K a' W) → assign.wpIn (Fence.wide.inRound l) 0 P (Exit.then K (fun _ _ _ => False)) { tmps := (ps.zip args).foldl (fun t (p, v) => t.setIfInBounds p v) a.tmps, defers := [] } W)
    (hdone : ∀ (D : Nat) (W : World), w.heap.size ≤ D → I L.length W → W.heap[D]? = some (.deferred (some [])) → Q .normal { a with defers := { target := .collected D, args := #[] } :: a.defers } W)
    (hstop : ∀ (D : Nat) (c : Code) (W : World), w.heap.size ≤ D → Ix c W → W.heap[D]? = some (.deferred (some [])) → c.wp P Q { a with defers := { target := .collected D, args := #[] } :: a.defers } W) :
    (Code.rangeFunc g ps assign body).wp P Q a w := by
  refine (wpIn_wide (n := 0)).1 (wpIn_rangeFunc ?_)
  intro fn hfn
  obtain ⟨rc, hrc⟩ : ∃ rc : LoopState → Option Code → Loop, rc = fun st pe => { state := st, pending := pe, fn, tmps := a.tmps, params := ps, assign, body, defers := w.heap.size } := ⟨_, rfl⟩
  obtain ⟨D, hD⟩ : ∃ D, D = w.heap.size := ⟨_, rfl⟩
  obtain ⟨V, hV⟩ : ∃ V, V = (w.alloc (.deferred (some []))).alloc (.loop (rc .ready none)) := ⟨_, rfl⟩
  have vl : V.heap[D + 1]? = some (.loop (rc .ready none)) := by rw [hV]; exact blk_new_at (by simp [hD]) _
  have vd : V.heap[D]? = some (.deferred (some [])) := by rw [hV]; exact blk_alloc (blk_new_at hD.symm _) _
  have vi : I 0 V := by rw [hV]; exact hI.alloc _ (hI.alloc _ h0)
  have vb : Below w.heap.size w V := by rw [hV]; exact below_alloc (below_alloc (Below.refl _ _) _) _
  have nocell : ∀ {W1 W2 : World}, Below W1.heap.size W1 W2 → W1.grownBy W2 none := fun h => grown_of_below h none
  refine ⟨D + 1, [{ target := .collected w.heap.size, args := #[] }], V, { target := .fn (.func gf) lb, args := #[.func (.yield (D + 1)) #[] #[]] }, V, gf, #[.func (.yield (D + 1)) #[] #[]] ++ lb, V, ?_, ?_, ?_, ?_, ?_, ?_⟩
  · rw [hV, hrc, hD]
    exact run_enterLoop_outer _ _ _ _ _
  · simp only [resolve, hg]
    simp [go_sem]
  · exact fun _ _ => trivial
  · simp [invoke, go_sem, eg]
  · intro h
    simp [Fence.wide] at h
  · refine (hit (D + 1) (fun i W => I i W ∧ W.heap[D + 1]? = some (.loop (rc .ready none)) ∧ W.heap[D]? = some (.deferred (some [])))
      (fun W => ∃ c, Ix c W ∧ W.heap[D + 1]? = some (.loop (rc .done (some c))) ∧ W.heap[D]? = some (.deferred (some []))) V (hb0.trans (vb.mono hb0.size)) (fun i W h => hK0 i W h.1) ?_ ?_ ?_ ⟨vi, vl, vd⟩).mono ?_
    · rintro i W1 W2 ⟨h1, h2, h3⟩ hb
      exact ⟨hI i W1 W2 none h1 (nocell hb) (fun r e => by cases e), blk_below h2 hb, blk_below h3 hb⟩
    · rintro W1 W2 ⟨c, h1, h2, h3⟩ hb
      exact ⟨c, hIx c W1 W2 none h1 (nocell hb) (fun r e => by cases e), blk_below h2 hb, blk_below h3 hb⟩
    · -- a round
      rintro i args W hi ⟨h1, h2, h3⟩
      have hy := run_yield (P := P) (args := args) h2 (by rw [hrc]; exact hps args (List.mem_of_getElem? hi))
      rw [hrc] at hy
      refine ⟨fn, _, assign, body, hy, roundIn_of_wpIn hfn (wpIn_mono (hround _ i args W hi h1 (fun a' W' => W' = W ∧ ∀ W2, I i W2 → body.wpIn (Fence.wide.inRound (D + 1)) 0 P (RfPost w.heap.size B I Ix i W2) a' W2) (fun a' h => ⟨rfl, h⟩)) ?_)⟩
      rintro e0 a0 W0 hp0
      cases e0 with
      | exit _ => exact hp0.elim
      | goto _ => exact hp0.elim
      | ret => exact hp0.elim
      | panic _ => exact hp0.elim
      | outgrown => exact hp0.elim
      | normal =>
      obtain ⟨rfl, hbody⟩ : W0 = W ∧ ∀ W2, I i W2 → body.wpIn (Fence.wide.inRound (D + 1)) 0 P (RfPost w.heap.size B I Ix i W2) a0 W2 := hp0
      refine ⟨_, run_beginRound h2 (by rw [hrc]), ?_⟩
      obtain ⟨W', hW'⟩ : ∃ W', W' = W0.putObj (D + 1) (.loop { rc .ready none with state := .busy }) := ⟨_, rfl⟩
      have b1 : W'.heap[D + 1]? = some (.loop { rc .ready none with state := .busy }) := by rw [hW']; exact World.putObj_heap_same (blk_lt h2)
      have b2 : W'.heap[D]? = some (.deferred (some [])) := by rw [hW']; exact (World.putObj_heap_other (by omega)).trans h3
      have b3 : Below B W0 W' := by rw [hW']; exact below_putObj W0 _ (by omega)
      have b4 : I i W' := by rw [hW']; exact hI.putObj _ h1 (by omega) h2 rfl
      rw [← hW']
      refine wpIn_mono (hbody W' b4) ?_
      have last : ∀ (jump : Option Code) (W3 : World), KeepsFrom w.heap.size W' W3 →
          (Instr.endRound (D + 1) jump).run P W3 = .ok (.bool jump.isNone) (W3.putObj (D + 1) (.loop (rc (if jump.isNone then .ready else .done) jump))) ∧ W3.heap[D + 1]? = some (.loop { rc .ready none with state := .busy }) ∧
          (W3.putObj (D + 1) (.loop (rc (if jump.isNone then .ready else .done) jump))).heap[D + 1]? = some (.loop (rc (if jump.isNone then .ready else .done) jump)) ∧
          (W3.putObj (D + 1) (.loop (rc (if jump.isNone then .ready else .done) jump))).heap[D]? = some (.deferred (some [])) := by
        intro jump W3 hk
        have c1 := hk.same _ _ (by omega) b1 rfl
        have c2 := hk.same _ _ (by omega) b2 rfl
        have c3 := run_endRound (P := P) jump c1
        rw [hrc] at c3 ⊢
        exact ⟨c3, by rw [hrc] at c1; exact c1, World.putObj_heap_same (blk_lt c1), (World.putObj_heap_other (by omega)).trans c2⟩
      have stop : ∀ (c : Code) (W3 : World), KeepsFrom w.heap.size W' W3 → Ix c W3 → ∃ (v : Value) (W4 : World), (Instr.endRound (D + 1) (some c)).run P W3 = .ok v W4 ∧
          ((Ending.returned v = .returned (.bool true) ∧ (I (i + 1) W4 ∧ W4.heap[D + 1]? = some (.loop (rc .ready none)) ∧ W4.heap[D]? = some (.deferred (some []))) ∧ Below B W0 W4) ∨
          (Ending.returned v = .returned (.bool false) ∧ ∃ c, Ix c W4 ∧ W4.heap[D + 1]? = some (.loop (rc .done (some c))) ∧ W4.heap[D]? = some (.deferred (some [])))) := by
        intro c W3 hk hx
        obtain ⟨d1, d2, d3, d4⟩ := last (some c) W3 hk
        exact ⟨_, _, d1, .inr ⟨rfl, c, hIx.putObj _ hx (by omega) d2 rfl, d3, d4⟩⟩
      rintro e a3 W3 hp
      cases e with
      | normal =>
        obtain ⟨hk, hbl, hi3⟩ := hp
        obtain ⟨d1, d2, d3, d4⟩ := last none W3 hk
        exact ⟨_, _, d1, .inl ⟨rfl, ⟨hI.putObj _ hi3 (by omega) d2 rfl, d3, d4⟩, (b3.trans hbl).trans (below_putObj W3 _ (by omega))⟩⟩
      | ret => exact stop _ W3 hp.1 hp.2
      | exit id => exact stop _ W3 hp.1 hp.2
      | goto t => exact stop _ W3 hp.1 hp.2
      | panic ch => exact hp.elim
      | outgrown => exact hp.elim
    · rintro e W2 ⟨⟨v, rfl⟩, (⟨h1, h2, h3⟩ | ⟨c, h1, h2, h3⟩)⟩
      · refine ⟨none, _, by have z := run_endLoop (P := P) h2 (by rw [hrc]; simp); rw [hrc] at z; exact z, ?_⟩
        rw [← hD]
        exact hdone D _ (by omega) (hI.putObj _ h1 (by omega) h2 rfl) ((World.putObj_heap_other (by omega)).trans h3)
      · refine ⟨some c, _, by have z := run_endLoop (P := P) h2 (by rw [hrc]; simp); rw [hrc] at z; exact z, ?_⟩
        rw [← hD]
        exact (wpIn_wide (n := 0)).2 (hstop D c _ (by omega) (hIx.putObj _ h1 (by omega) h2 rfl) ((World.putObj_heap_other (by omega)).trans h3))

end Go.Proofs.Ytnkepaenpoadpaa.Hand
