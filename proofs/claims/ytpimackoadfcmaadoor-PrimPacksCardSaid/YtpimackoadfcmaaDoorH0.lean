/- Words of this session's hand contracts: what a call keeps (Kp), literals that are read, small list facts. No condition. -/
import Derived.Test.YtpimackoadfcmaaDoorProg
import Derived.Below
import Derived.WalkKit
import Derived.KernelRfl
import Derived.OwnWalk
import Derived.Laws.OwnMore
import Derived.Deep.LoopGhost
import Derived.Deep.QuietTactic
import Derived.BigQuiet
import Derived.StillTailTactics
import Derived.Test.YtpimackoadfcmaaDoorWWords
import Derived.Test.YtpimackoadfcmaaDoorWLast
import Derived.Test.YtpimackoadfcmaaDoorWKept
import Derived.Test.YtpimackoadfcmaaDoorWMore
namespace Go.Proofs.YtpimackoadfcmaaDoor.Hand
open Go.RowKit Go.Proofs.YtpimackoadfcmaaDoorW.PrintWords Go.Proofs.YtpimackoadfcmaaDoorW.PrintLast Go.Proofs.YtpimackoadfcmaaDoorW.PrintMore
set_option linter.unusedVariables false
set_option linter.unusedSimpArgs false

/-- From w to w2: all blocks of w stay but those of S. -/
structure Kp (S : Nat → Prop) (w w2 : World) : Prop where
  os : w2.os = w.os
  tape : w2.tape = w.tape
  output : w2.output = w.output
  size : w.heap.size ≤ w2.heap.size
  block : ∀ k, k < w.heap.size → ¬ S k → w2.heap[k]? = w.heap[k]?
section
variable {S S2 : Nat → Prop} {w w1 w2 : World}
theorem Kp.refl (S : Nat → Prop) (w : World) : Kp S w w := ⟨rfl, rfl, rfl, Nat.le_refl _, fun _ _ _ => rfl⟩
theorem Kp.trans (h : Kp S w w1) (k : Kp S2 w1 w2) (hs : ∀ k, S2 k → S k ∨ w.heap.size ≤ k) : Kp S w w2 :=
  ⟨k.os.trans h.os, k.tape.trans h.tape, k.output.trans h.output, Nat.le_trans h.size k.size,
   fun i hi hn => (k.block i (Nat.lt_of_lt_of_le hi h.size) (fun h2 => (hs i h2).elim hn (fun h3 => by omega))).trans (h.block i hi hn)⟩
theorem Kp.ofBelow (h : Below w.heap.size w w1) : Kp S w w1 := ⟨h.os, h.tape, h.output, h.size, fun k hk _ => h.block k hk⟩
theorem Kp.thenBelow (h : Kp S w w1) (k : Below w1.heap.size w1 w2) : Kp S w w2 := h.trans (S2 := fun _ => False) (Kp.ofBelow k) (fun _ h => h.elim)
theorem Kp.below (h : Kp S w w1) {B : Nat} (hB : ∀ k, k < B → k < w.heap.size ∧ ¬ S k) : Below B w w1 := ⟨h.os, h.tape, h.output, h.size, fun k hk => h.block k (hB k hk).1 (hB k hk).2⟩
theorem Kp.mono (h : Kp S w w1) (hs : ∀ k, S k → S2 k) : Kp S2 w w1 := ⟨h.os, h.tape, h.output, h.size, fun k hk hn => h.block k hk (fun h2 => hn (hs k h2))⟩
theorem Kp.alloc (h : Kp S w w1) (o : Obj) : Kp S w (w1.alloc o) := h.thenBelow (below_alloc (Below.refl _ _) o)
theorem Kp.drew (h : Kp S w w1) : Kp S w w1.drew := ⟨h.os, h.tape, h.output, h.size, h.block⟩
theorem Kp.drewN (h : Kp S w w1) (n : Nat) : Kp S w (w1.drewN n) := ⟨h.os, h.tape, h.output, h.size, h.block⟩
theorem Kp.setCell (h : Kp S w w1) (p : Addr) (hp : S p.block ∨ w.heap.size ≤ p.block) (u : Value) : Kp S w (w1.setCell p u) :=
  h.trans (S2 := fun k => k = p.block) ⟨rfl, rfl, rfl, by simp [World.setCell], fun i _ hn => Below.heap_setCell w1 p u i hn⟩ (fun k hk => by rw [hk]; exact hp)
theorem Kp.grown (h : Kp S w w1) {row : Option Nat} (hg : w1.grownBy w2 row) (hr : ∀ k, row = some k → S k ∨ w.heap.size ≤ k) : Kp S w w2 :=
  h.trans (S2 := fun k => row = some k) ⟨hg.os, hg.tape, hg.output, hg.size, fun i hi hn => hg.block i hi (fun he => hn he.symm)⟩ hr
theorem Kp.blk (h : Kp S w w1) {g : Nat} {o : Obj} (hb : w.heap[g]? = some o) (hn : ¬ S g) : w1.heap[g]? = some o := (h.block g (blk_lt hb) hn).trans hb
theorem Kp.cell (h : Kp S w w1) {a : Addr} {v : Value} (hc : w.cell? a = some v) (hn : ¬ S a.block) : w1.cell? a = some v := by
  have := h.block a.block (World.block_lt_of_cell? w a hc) hn
  simpa [World.cell?, this] using hc
theorem Kp.R {α : Type} {d : Kd α} {e base : Nat} {ok : Nat → Prop} {v : Value} {xs : List α} (h : Kp S w w1) (r : d.R e w base ok v xs) (hn : ∀ k, ok k → ¬ S k) : d.R e w1 base ok v xs :=
  Kd.R_step r (fun k ho hlt => h.block k hlt (hn k ho))
/-- What is read of an elder world stays, if nothing of that world is written. -/
theorem Kp.C {α : Type} {d : Kd α} {n : Nat} {A : Option Addr} {xs : List α} (h : Kp S w w1) (r : d.C w A n xs) (hS : ∀ k, S k → w.heap.size ≤ k) : d.C w1 A n xs :=
  Kd.C_below r (h.below (fun k hk => ⟨hk, fun h2 => by have := hS k h2; omega⟩))
end
theorem Drawn0.kp {S : Nat → Prop} {w w1 : World} (h : Drawn0 w w1) : Kp S w w1 := Kp.ofBelow h.below
theorem drawn_trans {w w1 w2 : World} (h : Drawn0 w w1) (k : Drawn0 w1 w2) : Drawn0 w w2 := by
  obtain ⟨n, rfl⟩ := h
  obtain ⟨m, rfl⟩ := k
  exact ⟨⟨n + m, World.drewN_drewN ..⟩⟩
theorem kdC_drawn {α : Type} {d : Kd α} {n : Nat} {A : Option Addr} {xs : List α} {w w1 : World} (r : d.C w A n xs) (h : Drawn0 w w1) : d.C w1 A n xs := Kd.C_below r h.below

theorem blk_new_at {w : World} {n : Nat} (h : w.heap.size = n) (o : Obj) : (w.alloc o).heap[n]? = some o := h ▸ blk_new w o
theorem blk_kept_old {B : Nat} {w w1 : World} {g : Nat} {o : Obj} (h : Below B w w1) (hb : w.heap[g]? = some o) (hg : g < B) : w1.heap[g]? = some o := (h.block g hg).trans hb

theorem R_cap {α : Type} {d : Kd α} {e base n c : Nat} {ok : Nat → Prop} {w : World} {A : Option Addr} {xs : List α} (h : d.R e w base ok (.slice A n c) xs) : c ≤ 9223372036854775807 := by
  obtain ⟨inner, ho⟩ := Kd.R_own h
  rcases ho.2 with ⟨hv, _⟩ | ⟨g, cap, cur, hv, _, _, _, hm, _⟩
  · injection hv with _ _ h3
    omega
  · injection hv with _ _ h3
    unfold maxLen at hm
    omega
/-- A row of the call's own, handed back without spare room. -/
theorem V_cut {α : Type} {d : Kd α} {e base base2 n c : Nat} {ok : Nat → Prop} {w : World} {A : Option Addr} {xs : List α} (h : d.R e w base ok (.slice A n c) xs) : Kd.V d e w base2 ok (.slice A n n) xs := by
  have hn := (Kd.R_reads' h).1
  have hf := Kd.R_F h
  subst hn
  exact Kd.V_mk (Nat.le_refl _) hf

/-! Literals that are read. -/
theorem lit_ints (W : World) (e : TypeId) (xs : List Int) (vs : Array Value) (hv : vs = (xs.map (Value.int .i64)).toArray) (hm : xs.length ≤ 9223372036854775807) :
    (Kd.int .i64).C (W.alloc (.cells vs e)) (some ⟨W.heap.size, 0, none⟩) xs.length xs := by
  refine ⟨rfl, hm, fun _ => ⟨_, rfl, fun j p hj => ⟨[.int .i64 p], rfl, rfl, fun i u hu => ?_⟩⟩⟩
  have hj' : j < xs.length := (List.getElem?_eq_some_iff.1 hj).1
  match i, hu with
  | 0, hu =>
    injection hu with hu
    subst hu
    have ha : (⟨W.heap.size, 0, none⟩ : Addr).add (j * 1 + 0) = ⟨W.heap.size, j, none⟩ := by rw [add_plain]; simp
    show World.cell? _ ((⟨W.heap.size, 0, none⟩ : Addr).add (j * 1 + 0)) = _
    rw [ha]
    refine (blk_cell (cs := vs) (t := e) (heap_alloc_new W _) j).trans ?_
    subst hv
    simp [hj]
/-- A slice value that is read as a list of whole numbers, nil too. -/
structure Sl (w : World) (v : Value) (xs : List Int) : Prop where
  mk :: (out : ∃ A c, v = .slice A xs.length c ∧ xs.length ≤ c ∧ (Kd.int .i64).C w A xs.length xs)
theorem Sl.below {w w1 : World} {v : Value} {xs : List Int} (h : Sl w v xs) (hb : Below w.heap.size w w1) : Sl w1 v xs := by
  obtain ⟨A, c, e, hc, r⟩ := h.out
  exact ⟨A, c, e, hc, Kd.C_below r hb⟩
theorem Sl.of {w : World} {A : Option Addr} {c : Nat} {xs : List Int} (hr : (Kd.int .i64).C w A xs.length xs) (hc : xs.length ≤ c) : Sl w (.slice A xs.length c) xs := ⟨A, c, rfl, hc, hr⟩
theorem Sl.lit (W : World) (e : TypeId) (xs : List Int) (vs : Array Value) (hv : vs = (xs.map (Value.int .i64)).toArray) (hm : xs.length ≤ 9223372036854775807) :
    Sl (W.alloc (.cells vs e)) (.slice (some ⟨W.heap.size, 0, none⟩) xs.length xs.length) xs := ⟨_, _, rfl, Nat.le_refl _, lit_ints W e xs vs hv hm⟩
theorem lit_rows (W : World) (e ei : TypeId) (xss : List (List Int)) (vs : Array Value) (hl : vs.size = xss.length) (hv : ∀ (j : Nat) (xs : List Int), xss[j]? = some xs → ∃ v, vs[j]? = some v ∧ Sl W v xs) (hm : xss.length ≤ 9223372036854775807) :
    (Kd.slice ei (Kd.int .i64)).C (W.alloc (.cells vs e)) (some ⟨W.heap.size, 0, none⟩) xss.length xss := by
  have hb : Below W.heap.size W (W.alloc (.cells vs e)) := below_alloc (Below.refl _ _) _
  refine ⟨rfl, hm, fun _ => ⟨_, rfl, fun j p hj => ?_⟩⟩
  obtain ⟨v, hv1, hs⟩ := hv j p hj
  obtain ⟨A, c, rfl, hc, hr⟩ := (hs.below hb).out
  refine ⟨[.slice A p.length c], rfl, ⟨A, c, rfl, hc, hr⟩, fun i u hu => ?_⟩
  match i, hu with
  | 0, hu =>
    injection hu with hu
    subst hu
    show World.cell? _ ((⟨W.heap.size, 0, none⟩ : Addr).add (j * 1 + 0)) = _
    have ha : (⟨W.heap.size, 0, none⟩ : Addr).add (j * 1 + 0) = ⟨W.heap.size, j, none⟩ := by rw [add_plain]; simp
    rw [ha]
    exact (blk_cell (cs := vs) (t := e) (heap_alloc_new W _) j).trans hv1
theorem lit_ints_at (W : World) (N : Nat) (hN : W.heap.size = N) (e : TypeId) (xs : List Int) (vs : Array Value) (hv : vs = (xs.map (Value.int .i64)).toArray) (hm : xs.length ≤ 9223372036854775807) :
    (Kd.int .i64).C (W.alloc (.cells vs e)) (some ⟨N, 0, none⟩) xs.length xs := by
  subst hN
  exact lit_ints W e xs vs hv hm
theorem Sl.lit_at (W : World) (N : Nat) (hN : W.heap.size = N) (e : TypeId) (xs : List Int) (vs : Array Value) (hv : vs = (xs.map (Value.int .i64)).toArray) (hm : xs.length ≤ 9223372036854775807) :
    Sl (W.alloc (.cells vs e)) (.slice (some ⟨N, 0, none⟩) xs.length xs.length) xs := by
  subst hN
  exact Sl.lit W e xs vs hv hm
theorem rows_of1 {W : World} {v0 : Value} {l0 : List Int} (h0 : Sl W v0 l0) : ∀ (j : Nat) (xs : List Int), [l0][j]? = some xs → ∃ v, #[v0][j]? = some v ∧ Sl W v xs := by
  intro j xs h
  match j, h with
  | 0, h => injection h with h; subst h; exact ⟨v0, rfl, h0⟩
theorem rows_of2 {W : World} {v0 v1 : Value} {l0 l1 : List Int} (h0 : Sl W v0 l0) (h1 : Sl W v1 l1) : ∀ (j : Nat) (xs : List Int), [l0, l1][j]? = some xs → ∃ v, #[v0, v1][j]? = some v ∧ Sl W v xs := by
  intro j xs h
  match j, h with
  | 0, h => injection h with h; subst h; exact ⟨v0, rfl, h0⟩
  | 1, h => injection h with h; subst h; exact ⟨v1, rfl, h1⟩
theorem rows_of3 {W : World} {v0 v1 v2 : Value} {l0 l1 l2 : List Int} (h0 : Sl W v0 l0) (h1 : Sl W v1 l1) (h2 : Sl W v2 l2) : ∀ (j : Nat) (xs : List Int), [l0, l1, l2][j]? = some xs → ∃ v, #[v0, v1, v2][j]? = some v ∧ Sl W v xs := by
  intro j xs h
  match j, h with
  | 0, h => injection h with h; subst h; exact ⟨v0, rfl, h0⟩
  | 1, h => injection h with h; subst h; exact ⟨v1, rfl, h1⟩
  | 2, h => injection h with h; subst h; exact ⟨v2, rfl, h2⟩
theorem lit_rows_at (W : World) (N : Nat) (hN : W.heap.size = N) (e ei : TypeId) (xss : List (List Int)) (vs : Array Value) (hl : vs.size = xss.length) (hv : ∀ (j : Nat) (xs : List Int), xss[j]? = some xs → ∃ v, vs[j]? = some v ∧ Sl W v xs) (hm : xss.length ≤ 9223372036854775807) :
    (Kd.slice ei (Kd.int .i64)).C (W.alloc (.cells vs e)) (some ⟨N, 0, none⟩) xss.length xss := by
  subst hN
  exact lit_rows W e ei xss vs hl hv hm
theorem Sl.alloc {w : World} {v : Value} {xs : List Int} (h : Sl w v xs) (o : Obj) : Sl (w.alloc o) v xs := h.below (below_alloc (Below.refl _ _) o)
theorem Sl.drewN {w : World} {v : Value} {xs : List Int} (h : Sl w v xs) (n : Nat) : Sl (w.drewN n) v xs := h.below (pw_below_drewN (Below.refl _ _) n)
/-- A block that holds whole numbers, as a slice. -/
theorem blk_ints {W : World} {g e : Nat} {xs : List Int} {vs : Array Value} (hb : W.heap[g]? = some (.cells vs e (0, 0))) (hv : vs = (xs.map (Value.int .i64)).toArray) (hm : xs.length ≤ 9223372036854775807) :
    (Kd.int .i64).C W (some ⟨g, 0, none⟩) xs.length xs := by
  refine ⟨rfl, hm, fun _ => ⟨_, rfl, fun j p hj => ⟨[.int .i64 p], rfl, rfl, fun i u hu => ?_⟩⟩⟩
  match i, hu with
  | 0, hu =>
    injection hu with hu
    subst hu
    show World.cell? _ ((⟨g, 0, none⟩ : Addr).add (j * 1 + 0)) = _
    have ha : (⟨g, 0, none⟩ : Addr).add (j * 1 + 0) = ⟨g, j, none⟩ := by rw [add_plain]; simp
    rw [ha, blk_cell hb j, hv]
    simp [hj]
theorem V_blk {W : World} {g e base B : Nat} {xs : List Int} {vs : Array Value} (hb : W.heap[g]? = some (.cells vs e (0, 0))) (hv : vs = (xs.map (Value.int .i64)).toArray) (hm : xs.length ≤ 9223372036854775807) (hg : B ≤ g) (c : Nat) (hc : xs.length ≤ c) :
    Kd.V (Kd.int .i64) e W base (fun k => B ≤ k) (.slice (some ⟨g, 0, none⟩) xs.length c) xs :=
  Kd.V_mk hc (fun W' hW' => blk_ints (by rw [hW' g hg (blk_lt hb)]; exact hb) hv hm)
theorem src_cells {W : World} {A : Option Addr} {n : Nat} {l : List Int} (h : (Kd.int .i64).C W A n l) (hl : 0 < l.length) : ∃ ad, A = some ad ∧ ∀ (j : Nat) (v : Value), (l.map (Value.int .i64))[j]? = some v → W.cell? (ad.add j) = some v := by
  have hn : l.length = n := h.1
  obtain ⟨ad, e, _⟩ := Kd.at_int h 0 (by omega) (by omega)
  refine ⟨ad, e, fun j v hv => ?_⟩
  rw [List.getElem?_map] at hv
  cases hj : l[j]? with
  | none => rw [hj] at hv; simp at hv
  | some p =>
    rw [hj] at hv
    injection hv with hv
    have hlt := (List.getElem?_eq_some_iff.1 hj).1
    obtain ⟨ad2, e2, h2⟩ := Kd.at_int h (j : Int) (by omega) (by omega)
    rw [e] at e2
    injection e2 with e2
    subst e2
    rw [Int.toNat_natCast] at h2
    rw [h2, ← hv]
    simp [rd, List.getD_eq_getElem?_getD, hj]
theorem made_blk (W : World) (N : Nat) (hN : W.heap.size = N) (n : Nat) (z : Value) (e : TypeId) : (W.alloc (.cells (madeCells #[z] n) e)).heap[N]? = some (.cells (List.replicate n z).toArray e (0, 0)) := by
  have h : madeCells #[z] n = (List.replicate n z).toArray := by rw [← toList_madeCells_one z n]
  rw [h]
  exact blk_new_at hN _
theorem ints_one (l : List Int) : ∀ v ∈ l.map (Value.int .i64), v.oneCell' = true := by
  intro v hv
  obtain ⟨n, _, rfl⟩ := List.mem_map.1 hv
  rfl
/-- An element of rows that are read. -/
theorem rows_at {w : World} {ei : Nat} {A : Option Addr} {n : Nat} {xss : List (List Int)} (h : Kd.C (Kd.slice ei (Kd.int .i64)) w A n xss) (i : Int) (h0 : 0 ≤ i) (h1 : i < n) :
    ∃ ad A0 c0, A = some ad ∧ w.cell? (ad.add i.toNat) = some (.slice A0 (xss.getD i.toNat []).length c0) ∧ (xss.getD i.toNat []).length ≤ c0 ∧ (Kd.int .i64).C w A0 (xss.getD i.toNat []).length (xss.getD i.toNat []) := by
  obtain ⟨ad, c, e, _, hK, hc0⟩ := Kd.C_get h ([] : List Int) i h0 h1
  have hc : ∀ j u, c[j]? = some u → w.cell? (ad.add (i.toNat * 1 + j)) = some u := hc0
  obtain ⟨A0, c0, rfl, l0, g0⟩ := hK
  exact ⟨ad, A0, c0, e, by have hq := hc 0 _ rfl; rwa [Nat.mul_one, Nat.add_zero] at hq, l0, g0⟩

/-! Lists. -/
theorem rd_mem (l : List Int) (x : Int) (h0 : 0 ≤ x) (h1 : x < l.length) : rd l x ∈ l := by
  unfold rd
  rw [List.getD_eq_getElem?_getD, List.getElem?_eq_getElem (by omega)]
  exact List.getElem_mem _
/-- The place of the first element of which p is true; -1: there is none. -/
def findI {α : Type} (l : List α) (p : α → Bool) : Int := match l.findIdx? p with | some i => i | none => -1
theorem findI_hit {α : Type} (d : α) (l : List α) (p : α → Bool) (x : Int) (h0 : 0 ≤ x) (hx : x < l.length) (hm : ∀ j, 0 ≤ j → j < x → p (l.getD j.toNat d) = false) (h1 : p (l.getD x.toNat d) = true) : findI l p = x := by
  have h : l.findIdx? p = some x.toNat := by
    rw [List.findIdx?_eq_some_iff_getElem]
    refine ⟨by omega, ?_, fun j hj => ?_⟩
    · simpa [List.getD_eq_getElem?_getD, List.getElem?_eq_getElem (show x.toNat < l.length by omega)] using h1
    · have := hm (j : Int) (by omega) (by omega)
      simpa [List.getD_eq_getElem?_getD, List.getElem?_eq_getElem (show j < l.length by omega)] using this
  simp only [findI, h]
  omega
theorem findI_none {α : Type} (d : α) (l : List α) (p : α → Bool) (hm : ∀ j : Int, 0 ≤ j → j < (l.length : Int) → p (l.getD j.toNat d) = false) : findI l p = -1 := by
  have h : l.findIdx? p = none := by
    rw [List.findIdx?_eq_none_iff]
    intro x hx
    obtain ⟨j, hj, rfl⟩ := List.getElem_of_mem hx
    have := hm (j : Int) (by omega) (by omega)
    simpa [List.getD_eq_getElem?_getD, List.getElem?_eq_getElem hj] using this
  simp only [findI, h]
theorem findI_any {α : Type} (l : List α) (p : α → Bool) : decide (0 ≤ findI l p) = l.any p := by
  unfold findI
  cases h : l.findIdx? p with
  | some i =>
    have h2 := List.findIdx?_eq_some_iff_getElem.1 h
    obtain ⟨hi, h3, _⟩ := h2
    have : l.any p = true := List.any_eq_true.2 ⟨_, List.getElem_mem hi, h3⟩
    simp [this]
  | none =>
    have h2 := List.findIdx?_eq_none_iff.1 h
    have : l.any p = false := List.any_eq_false.2 (fun x hx => by simp [h2 x hx])
    simp [this]
/-- A number of 32 bits. -/
def isWordB (n : Int) : Bool := decide (-2147483648 ≤ n) && decide (n ≤ 2147483647)
end Go.Proofs.YtpimackoadfcmaaDoor.Hand
