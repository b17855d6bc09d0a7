/- A slice of slices of whole numbers that is given to a law: what it reads as, and how long it may be. -/
import Derived.Test.YtpenkemabeonaaaDoorG7
import Derived.Deep.Matrix
import Derived.SizedLaws
namespace Go.Proofs.YtpenkemabeonaaaDoor.Hand
open Go.RowKit Go.ChangeShapes Go.WideShapes Go.Deep Go.Proofs.YtpenkemabeonaaaDoorW.PrintWords
theorem weights_of {H : Type} {P : Program} {e : TypeId} : ∀ {l : List (DataW H)} {d : DataW H}, d ∈ l → ∀ n ∈ d.weights P e, n ∈ DataW.weightsAll P e l
  | d' :: r, d, hd, n, hn => by
    simp only [DataW.weightsAll, List.mem_append]
    rcases List.mem_cons.1 hd with rfl | h
    · exact Or.inl hn
    · exact Or.inr (weights_of h n hn)
theorem inner_size {H : Type} {P : Program} {ts : List TypeId} {ds : List (DataW H)} (h : (DataW.weightsEach P ts ds).all (· ≤ reachBytes) = true) {j : Nat} {t e q : TypeId} {elems spare e' sp' : List (DataW H)}
    (ht : ts[j]? = some t) (hd : ds[j]? = some (.slice elems spare)) (hu : P.underlying t = some (.slice e)) (hu2 : P.underlying e = some (.slice q)) (hx : DataW.slice e' sp' ∈ elems) : (e'.length + sp'.length) * P.bytesOf q ≤ reachBytes := by
  refine of_decide_eq_true (List.all_eq_true.1 h _ (DataW.weights_mem_each ht hd _ ?_))
  simp only [DataW.weights, hu, List.mem_cons, List.mem_append]
  exact Or.inr (Or.inl (weights_of hx _ (by simp [DataW.weights, hu2])))
theorem rows_open {H : Type} {enc : TypeId × Value → H} {P : Program} {W : World} {base : Nat} {held : Bool} {t e q : TypeId} {a : Option Addr} {len cap : Nat} {d : DataW H} {ps : List MemPlace} {ts : List TypeId} {ds : List (DataW H)} {j : Nat}
    (hsz : (DataW.weightsEach P ts ds).all (· ≤ reachBytes) = true) (htj : ts[j]? = some t) (hd : ds[j]? = some d) (ht : P.underlying t = some (.slice e)) (he : P.underlying e = some (.slice q)) (hq : P.underlying q = some (.int .i64))
    (ce : P.cellsOf e = 1) (cq : P.cellsOf q = 1) (be : P.bytesOf e = 24) (bq : P.bytesOf q = 8) (h : DataW.Trod enc P W base (fun _ => true) held t (.slice a len cap) d ps) :
    ∃ l : List (List Int), len = l.length ∧ (Kd.slice q (Kd.int .i64)).C W a l.length l ∧ l.length ≤ cap ∧ l.length * 24 ≤ 140737488351232 ∧ ∀ x ∈ l, x.length * 8 ≤ 140737488351232 := by
  obtain ⟨fuel, hf⟩ := h
  rcases open_int_rows ht he hq ce cq hf with ⟨hcs, _⟩ | ⟨a', len', cap', A, L, C, Z, hcs, _, hl, hm, hx, hr⟩
  · simp [Value.cells] at hcs
    obtain ⟨rfl, rfl, rfl⟩ := hcs
    exact ⟨[], rfl, ⟨rfl, by decide, fun h => absurd h (Nat.lt_irrefl _)⟩, Nat.le_refl _, by decide, by simp⟩
  · simp [Value.cells] at hcs
    obtain ⟨rfl, rfl, rfl⟩ := hcs
    obtain ⟨rfl, _⟩ := Prod.mk.inj hx
    have hmx : maxLen ≤ 9223372036854775807 := by decide
    have hlen : ∀ r, r < cap → ((Z r).take (L r)).length = L r := fun r hrc => by
      obtain ⟨_, h2, _, h4, _⟩ := hr r hrc
      rw [List.length_take]
      omega
    refine ⟨(List.range len).map (fun r => (Z r).take (L r)), by simp, ⟨by simp, by rw [List.length_map, List.length_range]; omega, fun _ => ⟨a', rfl, fun i p hp => ?_⟩⟩, by rw [List.length_map, List.length_range]; exact hl, ?_, ?_⟩
    · obtain ⟨r, hr1, rfl, rfl⟩ : ∃ r, r < len ∧ i = r ∧ p = (Z r).take (L r) := by
        rw [List.getElem?_map, Option.map_eq_some_iff] at hp
        obtain ⟨r, h1, h2⟩ := hp
        rw [List.getElem?_eq_some_iff] at h1
        obtain ⟨h3, h4⟩ := h1
        rw [List.getElem_range] at h4
        rw [List.length_range] at h3
        exact ⟨r, by omega, h4, h2.symm⟩
      obtain ⟨h1, h2, h3, h4, _, h6, h7⟩ := hr i (by omega)
      have hll := hlen i (by omega)
      refine ⟨[.slice (A i) (L i) (C i)], rfl, ⟨A i, C i, by rw [hll], by rw [hll]; exact h2, ⟨rfl, by rw [hll]; omega, fun hpos => ?_⟩⟩, fun i2 u hu => ?_⟩
      · rw [hll] at hpos
        cases hA : A i with
        | none => have := h6 hA; omega
        | some b =>
          refine ⟨b, rfl, fun c n hn => ⟨[.int .i64 n], rfl, rfl, fun i2 u hu => ?_⟩⟩
          obtain ⟨h8, h9⟩ := List.getElem?_eq_some_iff.1 hn
          rw [hll] at h8
          have hc := (h7 b hA).2 c (by omega)
          cases i2 with
          | zero =>
            simp at hu
            show W.cell? (b.add (c * 1 + 0)) = some u
            rw [Nat.mul_one, Nat.add_zero, hc, ← hu]
            congr 2
            rw [← h9, List.getElem_take, List.getD_eq_getElem?_getD, List.getElem?_eq_getElem (by omega)]
            rfl
          | succ i2 => simp at hu
      · cases i2 with
        | zero =>
          simp at hu
          show W.cell? (a'.add (i * 1 + 0)) = some u
          rw [Nat.mul_one, Nat.add_zero, h1, hu]
        | succ i2 => simp at hu
    · have z := sized_slice hsz htj hd ht
      rw [be, List.length_map, List.length_range] at z
      rw [List.length_map, List.length_range]
      exact Nat.le_trans (Nat.mul_le_mul_right _ (Nat.le_add_right _ _)) z
    · intro x hx2
      obtain ⟨r, hr1, rfl⟩ := List.mem_map.1 hx2
      rw [List.mem_range] at hr1
      obtain ⟨h1, h2, h3, h4, _, h6, h7⟩ := hr r (by omega)
      have hll := hlen r (by omega)
      rw [hll]
      cases hA : A r with
      | none => have := h6 hA; omega
      | some b =>
        have hmem : DataW.slice (lits (H := H) .i64 ((Z r).take (L r))) (lits .i64 ((Z r).drop (L r))) ∈ (List.range len).map fun r => intRow (H := H) .i64 (A r) (L r) (Z r) := by
          rw [List.mem_map]
          refine ⟨r, List.mem_range.2 hr1, ?_⟩
          show intRow .i64 (A r) (L r) (Z r) = _
          rw [hA]
          rfl
        have z := inner_size hsz htj hd ht he hmem
        rw [bq] at z
        refine Nat.le_trans (Nat.mul_le_mul_right _ ?_) z
        have : (lits (H := H) .i64 ((Z r).take (L r))).length = L r := by
          unfold lits
          rw [List.length_map, hll]
        omega
end Go.Proofs.YtpenkemabeonaaaDoor.Hand
