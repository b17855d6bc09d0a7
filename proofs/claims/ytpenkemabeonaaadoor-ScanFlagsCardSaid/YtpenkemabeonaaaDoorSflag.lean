/- Flagged words as a struct: what the program's functions over them compute; a law's parameters of that type. -/
import Derived.Test.YtpenkemabeonaaaDoorHrows
import Derived.Deep.SlicePairs
import Derived.Lib.SmallJoins
namespace Go.Proofs.YtpenkemabeonaaaDoor.Hand
open Go.RowKit Go.ChangeShapes Go.WideShapes Go.Deep Go.Proofs.YtpenkemabeonaaaDoorW.PrintWords
structure S41 where
  f0 : Bool
  f1 : Int
def z41 : S41 := ⟨false, (0 : Int)⟩
def k41 : Kd S41 := Kd.iso (Kd.pair Kd.bool (Kd.int .i64)) (fun x : S41 => (x.f0, x.f1))
theorem k41_open {w : World} {x : S41} {cs : List Value} (h : k41.K w x cs) : cs = [.bool x.f0, .int .i64 x.f1] := by
  obtain ⟨_, _, rfl, rfl, rfl⟩ := h
  exact rfl
theorem k41_openM {w : World} {base : Nat} {ok : Nat → Prop} {x : S41} {cs : List Value} (h : k41.M w base ok x cs) : cs = [.bool x.f0, .int .i64 x.f1] := by
  obtain ⟨_, _, rfl, rfl, rfl⟩ := h
  exact rfl
theorem k41_mk (w : World) (x : S41)  : k41.K w x [.bool x.f0, .int .i64 x.f1] := ⟨[.bool x.f0], [.int .i64 x.f1], rfl, rfl, rfl⟩
theorem k41_mkM (w : World) (base : Nat) (ok : Nat → Prop) (x : S41)  : k41.M w base ok x [.bool x.f0, .int .i64 x.f1] := ⟨[.bool x.f0], [.int .i64 x.f1], rfl, rfl, rfl⟩
def rd_T41 (xs : List S41) (i : Int) : S41 := xs.getD i.toNat z41
theorem at_T41 {w : World} {A : Option Addr} {n : Nat} {xs : List S41} (h : Kd.C k41 w A n xs) (i : Int) (h0 : 0 ≤ i) (h1 : i < n) : ∃ ad , A = some ad ∧ w.cell? (ad.add (i.toNat * 2)) = some (.bool (rd_T41 xs i).f0) ∧ w.cell? ⟨(ad.add (i.toNat * 2)).block, (ad.add (i.toNat * 2)).off + 1, none⟩ = some (.int .i64 (rd_T41 xs i).f1) := by
  obtain ⟨ad, c, e, _, hK, hc0⟩ := Kd.C_get h z41 i h0 h1
  have hc : ∀ j u, c[j]? = some u → w.cell? (ad.add (i.toNat * 2 + j)) = some u := hc0
  obtain rfl := k41_open hK
  exact ⟨ad, e, hc 0 _ rfl, by rw [← add_field _ _ 1 (by omega)]; exact hc 1 _ rfl⟩
abbrev FlagS := S41
def toP (x : FlagS) : Bool × Int := (x.f0, x.f1)
def ofP (p : Bool × Int) : FlagS := ⟨p.1, p.2⟩
theorem toP_ofP (p : Bool × Int) : toP (ofP p) = p := rfl
theorem map_toP_ofP (xs : List (Bool × Int)) : (xs.map ofP).map toP = xs := by
  rw [List.map_map]
  exact List.map_id'' (fun _ => rfl) xs
theorem C_map {α β : Type} (d : Kd α) (f : β → α) (w : World) (A : Option Addr) (n : Nat) (l : List β) : (Kd.iso d f).C w A n l ↔ d.C w A n (l.map f) := by
  constructor
  · rintro ⟨h1, h2, h3⟩
    refine ⟨by rw [List.length_map]; exact h1, h2, fun hp => ?_⟩
    obtain ⟨ad, hA, h4⟩ := h3 hp
    refine ⟨ad, hA, fun j p hj => ?_⟩
    rw [List.getElem?_map, Option.map_eq_some_iff] at hj
    obtain ⟨q, hq, rfl⟩ := hj
    exact h4 j q hq
  · rintro ⟨h1, h2, h3⟩
    refine ⟨by rw [List.length_map] at h1; exact h1, h2, fun hp => ?_⟩
    obtain ⟨ad, hA, h4⟩ := h3 hp
    refine ⟨ad, hA, fun j p hj => ?_⟩
    exact h4 j (f p) (by rw [List.getElem?_map, hj]; rfl)
theorem C_toP {w : World} {A : Option Addr} {n : Nat} {l : List FlagS} (h : Kd.C k41 w A n l) : Kd.C kF w A n (l.map toP) := (C_map kF toP w A n l).1 h
theorem V_ofP {w : World} {e base : Nat} {ok : Nat → Prop} {v : Value} {xs : List (Bool × Int)} (h : Kd.V kF e w base ok v xs) : Kd.V k41 e w base ok v (xs.map ofP) := by
  obtain ⟨A, c, h1, h2, h3⟩ := h
  refine ⟨A, c, by rw [List.length_map]; exact h1, by rw [List.length_map]; exact h2, fun W' hW => ?_⟩
  have h4 := h3 W' hW
  rw [List.length_map]
  refine (C_map kF toP W' A xs.length (xs.map ofP)).2 ?_
  rw [map_toP_ofP]
  exact h4
def sJoin.f (a0 : Int) (a1_0 : Bool) (a1_1 : Int) (a2_0 : Bool) (a2_1 : Int) : Option (Bool × Int × Int) := some ((scan_Join.g a0 (a1_0, a1_1) (a2_0, a2_1)).1.1, (scan_Join.g a0 (a1_0, a1_1) (a2_0, a2_1)).1.2, (scan_Join.g a0 (a1_0, a1_1) (a2_0, a2_1)).2)
theorem sJoin.calls (a0 : Int) (a1_0 : Bool) (a1_1 : Int) (a2_0 : Bool) (a2_1 : Int) (r1 : Bool) (r2 : Int) (r3 : Int) (w : World) (hG : Tabs w) (h : sJoin.f a0 a1_0 a1_1 a2_0 a2_1 = some (r1, r2, r3)) :
    Calls Tryd.prog 29 #[.int .i64 a0, .agg #[.bool a1_0, .int .i64 a1_1], .agg #[.bool a2_0, .int .i64 a2_1]] w fun e w' => e = .returned (.tuple #[.agg #[.bool r1, .int .i64 r2], .int .i64 r3]) ∧ Below w.heap.size w w' := by
  simp only [sJoin.f, Option.some.injEq, Prod.mk.injEq] at h
  obtain ⟨rfl, rfl, rfl⟩ := h
  exact scan_Join.run a0 (a1_0, a1_1) (a2_0, a2_1) w hG
def sFlagged.f (a0 : Int) (l1 : List FlagS) : Option (List FlagS × Int) := some ((scan_Flagged.g a0 (l1.map toP)).1.map ofP, (scan_Flagged.g a0 (l1.map toP)).2)
theorem sFlagged.calls (a0 : Int) (A1 : Option Addr) (c1 : Nat) (l1 : List (S41)) (r1 : List (S41)) (r2 : Int) (w : World) (hG : Tabs w) (hr1 : Kd.C k41 w A1 l1.length l1) (_hc1 : l1.length ≤ c1) (h : sFlagged.f a0 l1 = some (r1, r2)) :
    Calls Tryd.prog 31 #[.int .i64 a0, .slice A1 l1.length c1] w fun e w' => ∃ v0_ : Value, e = .returned (.tuple #[v0_, .int .i64 r2]) ∧ Kd.V k41 41 w' w.heap.size (fun k_ => w.heap.size ≤ k_) v0_ r1 ∧ Below w.heap.size w w' := by
  simp only [sFlagged.f, Option.some.injEq, Prod.mk.injEq] at h
  obtain ⟨rfl, rfl⟩ := h
  have hC : Kd.C kF w A1 (l1.map toP).length (l1.map toP) := by
    rw [List.length_map]
    exact C_toP hr1
  have H := scan_Flagged.run a0 A1 c1 (l1.map toP) w hG hC
  rw [List.length_map] at H
  refine H.mono ?_
  rintro e w' ⟨v, h1, h2, h3⟩
  exact ⟨v, h1, V_ofP h2, h3⟩
section
variable {H : Type} {enc : TypeId × Value → H} {W : World} {base : Nat} {held : Bool}
theorem flagCells : Tryd.prog.cellsOf 41 = 2 := by kernel_rfl
set_option maxRecDepth 100000 in
theorem flag_open {sp : Nat → Bool} {r : Reach} {b0 : Nat} {v : Value} {d : DataW H} {p : List MemPlace} (hv : Value.okWide Tryd.prog W r b0 41 v) (h : DataW.Trod enc Tryd.prog W base sp held 41 v d p) : ∃ (b : Bool) (n : Int), v = .agg #[.bool b, .int .i64 n] := by
  obtain ⟨v0, v1, y0, y1, n, rfl, _, _, h0, h1⟩ := Go.Joins.open_agg2 Tryd.underlying41 (by kernel_rfl) flagCells hv h
  obtain ⟨b, hb, _⟩ := DataW.trod_bool Tryd.underlying4 h0
  obtain ⟨m, hm, _, _⟩ := DataW.trod_int Tryd.underlying3 h1
  simp only [List.cons.injEq, and_true] at hb hm
  exact ⟨b, m, by rw [hb, hm]⟩
set_option maxRecDepth 100000 in
theorem flags_open {a : Option Addr} {len cap : Nat} {d : DataW H} {ps : List MemPlace} {ts : List TypeId} {ds : List (DataW H)} {j : Nat}
    (hsz : (DataW.weightsEach Tryd.prog ts ds).all (· ≤ reachBytes) = true) (htj : ts[j]? = some 42) (hd : ds[j]? = some d) (h : DataW.Trod enc Tryd.prog W base (fun _ => true) held 42 (.slice a len cap) d ps) :
    ∃ l : List FlagS, len = l.length ∧ Kd.C k41 W a l.length l ∧ l.length ≤ cap ∧ l.length * 16 ≤ 140737488351232 := by
  obtain ⟨fuel, hf⟩ := h
  rcases open_slice_pairs Tryd.underlying42 Tryd.underlying41 flagCells rfl rfl (by kernel_rfl) (by kernel_rfl) hf with ⟨hcs, _⟩ | ⟨a', len', cap', m, n, V0, V1, D0, D1, P0, P1, hcs, _, hl, hm, hmm, hx, hr⟩
  · simp [Value.cells] at hcs
    obtain ⟨rfl, rfl, rfl⟩ := hcs
    exact ⟨[], rfl, ⟨rfl, by decide, fun h => absurd h (Nat.lt_irrefl _)⟩, Nat.le_refl _, by decide⟩
  · simp [Value.cells] at hcs
    obtain ⟨rfl, rfl, rfl⟩ := hcs
    obtain ⟨rfl, _⟩ := Prod.mk.inj hx
    simp only [if_true] at hmm
    have hmx : maxLen ≤ 9223372036854775807 := by decide
    have each : ∀ i, i < len → ∃ q : Bool × Int, V0 i = .bool q.1 ∧ V1 i = .int .i64 q.2 := fun i hi => by
      obtain ⟨_, _, h0, h1⟩ := hr i (by omega)
      obtain ⟨b, hb, _⟩ := DataW.trod_bool Tryd.underlying4 h0
      obtain ⟨k, hk, _, _⟩ := DataW.trod_int Tryd.underlying3 h1
      simp only [List.cons.injEq, and_true] at hb hk
      exact ⟨(b, k), hb, hk⟩
    obtain ⟨q, hq⟩ := choose_lt each
    have z := sized_slice hsz htj hd Tryd.underlying42
    have hb16 : Tryd.prog.bytesOf 41 = 16 := by kernel_rfl
    rw [hb16, List.length_map, List.length_range] at z
    refine ⟨(List.range len).map (fun i => ofP (q i)), by simp, ⟨by simp, by rw [List.length_map, List.length_range]; omega, fun _ => ⟨a', rfl, fun i p hp => ?_⟩⟩, by rw [List.length_map, List.length_range]; exact hl, by rw [List.length_map, List.length_range]; exact Nat.le_trans (Nat.mul_le_mul_right _ (Nat.le_add_right _ _)) z⟩
    obtain ⟨hi, rfl⟩ : i < len ∧ p = ofP (q i) := by
      rw [List.getElem?_map, Option.map_eq_some_iff] at hp
      obtain ⟨r, h1, h2⟩ := hp
      rw [List.getElem?_eq_some_iff] at h1
      obtain ⟨h3, h4⟩ := h1
      rw [List.getElem_range] at h4
      rw [List.length_range] at h3
      subst h4
      exact ⟨h3, h2.symm⟩
    obtain ⟨e0, e1, _, _⟩ := hr i (by omega)
    obtain ⟨q0, q1⟩ := hq i hi
    refine ⟨[.bool (q i).1, .int .i64 (q i).2], rfl, k41_mk W (ofP (q i)), fun j u hu => ?_⟩
    match j, hu with
    | 0, hu =>
      simp at hu
      show W.cell? (a'.add (i * 2 + 0)) = some u
      rw [Nat.add_zero, e0, q0, hu]
    | 1, hu =>
      simp at hu
      show W.cell? (a'.add (i * 2 + 1)) = some u
      rw [e1, q1, hu]
    | j + 2, hu => simp at hu
end
end Go.Proofs.YtpenkemabeonaaaDoor.Hand
