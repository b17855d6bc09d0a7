/- Spans as a struct: what seg.Touched returns, told with the struct's own type. -/
import Derived.Test.YthalgcpohnknbaaJ5
namespace Go.Proofs.Ythalgcpohnknbaa.Hand
open Go.RowKit Go.Proofs.YthalgcpohnknbaaW.PrintWords Go.Proofs.YthalgcpohnknbaaW.PrintLast Go.Proofs.YthalgcpohnknbaaW.PrintMore
set_option linter.unusedVariables false
set_option linter.unusedSimpArgs false
structure S52 where
  f0 : Int
  f1 : Int
def z52 : S52 := ⟨(0 : Int), (0 : Int)⟩
def k52 : Kd S52 := Kd.iso (Kd.pair (Kd.int .i64) (Kd.int .i64)) (fun x : S52 => (x.f0, x.f1))
theorem k52_open {w : World} {x : S52} {cs : List Value} (h : k52.K w x cs) : cs = [.int .i64 x.f0, .int .i64 x.f1] := by
  obtain ⟨_, _, rfl, rfl, rfl⟩ := h
  exact rfl
theorem k52_openM {w : World} {base : Nat} {ok : Nat → Prop} {x : S52} {cs : List Value} (h : k52.M w base ok x cs) : cs = [.int .i64 x.f0, .int .i64 x.f1] := by
  obtain ⟨_, _, rfl, rfl, rfl⟩ := h
  exact rfl
theorem k52_mk (w : World) (x : S52)  : k52.K w x [.int .i64 x.f0, .int .i64 x.f1] := ⟨[.int .i64 x.f0], [.int .i64 x.f1], rfl, rfl, rfl⟩
theorem k52_mkM (w : World) (base : Nat) (ok : Nat → Prop) (x : S52)  : k52.M w base ok x [.int .i64 x.f0, .int .i64 x.f1] := ⟨[.int .i64 x.f0], [.int .i64 x.f1], rfl, rfl, rfl⟩
def rd_T52 (xs : List S52) (i : Int) : S52 := xs.getD i.toNat z52
theorem at_T52 {w : World} {A : Option Addr} {n : Nat} {xs : List S52} (h : Kd.C k52 w A n xs) (i : Int) (h0 : 0 ≤ i) (h1 : i < n) : ∃ ad , A = some ad ∧ w.cell? (ad.add (i.toNat * 2)) = some (.int .i64 (rd_T52 xs i).f0) ∧ w.cell? ⟨(ad.add (i.toNat * 2)).block, (ad.add (i.toNat * 2)).off + 1, none⟩ = some (.int .i64 (rd_T52 xs i).f1) := by
  obtain ⟨ad, c, e, _, hK, hc0⟩ := Kd.C_get h z52 i h0 h1
  have hc : ∀ j u, c[j]? = some u → w.cell? (ad.add (i.toNat * 2 + j)) = some u := hc0
  obtain rfl := k52_open hK
  exact ⟨ad, e, hc 0 _ rfl, by rw [← add_field _ _ 1 (by omega)]; exact hc 1 _ rfl⟩
abbrev SpanS := S52
def toP (x : SpanS) : Int × Int := (x.f0, x.f1)
def ofP (p : Int × Int) : SpanS := ⟨p.1, p.2⟩
theorem toP_ofP (p : Int × Int) : toP (ofP p) = p := rfl
theorem map_toP_ofP (xs : List (Int × Int)) : (xs.map ofP).map toP = xs := by
  rw [List.map_map]
  exact List.map_id'' (fun _ => rfl) xs
theorem C_map {α β : Type} (d : Kd α) (f : β → α) (w : World) (A : Option Addr) (n : Nat) (l : List β) : (Kd.iso d f).C w A n l ↔ d.C w A n (l.map f) := by
  constructor
  · rintro ⟨h1, h2, h3⟩
    refine ⟨by rw [List.length_map]; exact h1, h2, fun hp => ?_⟩
    obtain ⟨ad, hA, h4⟩ := h3 hp
    refine ⟨ad, hA, fun j p hj => ?_⟩
    rw [List.getElem?_map, Option.map_eq_some_iff] at hj
    obtain ⟨q, hq, rfl⟩ := hj
    exact h4 j q hq
  · rintro ⟨h1, h2, h3⟩
    refine ⟨by rw [List.length_map] at h1; exact h1, h2, fun hp => ?_⟩
    obtain ⟨ad, hA, h4⟩ := h3 hp
    refine ⟨ad, hA, fun j p hj => ?_⟩
    exact h4 j (f p) (by rw [List.getElem?_map, hj]; rfl)
theorem V_ofP {w : World} {e base : Nat} {ok : Nat → Prop} {v : Value} {xs : List (Int × Int)} (h : Kd.V kE e w base ok v xs) : Kd.V k52 e w base ok v (xs.map ofP) := by
  obtain ⟨A, c, h1, h2, h3⟩ := h
  refine ⟨A, c, by rw [List.length_map]; exact h1, by rw [List.length_map]; exact h2, fun W' hW => ?_⟩
  have h4 := h3 W' hW
  rw [List.length_map]
  refine (C_map kE toP W' A xs.length (xs.map ofP)).2 ?_
  rw [map_toP_ofP]
  exact h4
def sTouched.f (l0 : List Int) (l1 : List Int) (a2 : Int) : Option (List SpanS × Int) := some ((seg_Touched.g l0 l1 a2).1.map ofP, (seg_Touched.g l0 l1 a2).2)
theorem sTouched.calls (A0 : Option Addr) (c0 : Nat) (l0 : List Int) (A1 : Option Addr) (c1 : Nat) (l1 : List Int) (a2 : Int) (r1 : List SpanS) (r2 : Int) (w : World) (hr0 : Kd.C (Kd.int .i64) w A0 l0.length l0) (hc0 : l0.length ≤ c0) (hr1 : Kd.C (Kd.int .i64) w A1 l1.length l1) (hc1 : l1.length ≤ c1) (h : sTouched.f l0 l1 a2 = some (r1, r2)) :
    Calls Try.prog 40 #[.slice A0 l0.length c0, .slice A1 l1.length c1, .int .i64 a2] w fun e w' => ∃ v0_ : Value, e = .returned (.tuple #[v0_, .int .i64 r2]) ∧ Kd.V k52 52 w' w.heap.size (fun k_ => w.heap.size ≤ k_) v0_ r1 ∧ Below w.heap.size w w' := by
  simp only [sTouched.f, Option.some.injEq, Prod.mk.injEq] at h
  obtain ⟨rfl, rfl⟩ := h
  refine (rTouched.calls A0 c0 l0 A1 c1 l1 a2 (seg_Touched.g l0 l1 a2).1 (seg_Touched.g l0 l1 a2).2 w hr0 hc0 hr1 hc1 rfl).mono ?_
  rintro e w' ⟨v0_, rfl, h1, h2⟩
  exact ⟨v0_, rfl, V_ofP h1, h2⟩
end Go.Proofs.Ythalgcpohnknbaa.Hand
