/- What a row that lists the three tables of package word gives: what lies in the first three blocks. -/
import Derived.Test.YtpenkemabeonaaaDoorRows
import Derived.Test.YtpenkemabeonaaaDoorG2
import Derived.LaidMore
import Derived.OpenShut
import Derived.Lib.LaidTab
import Derived.LaidSub
import Derived.Deep.Strs
namespace Go.Proofs.YtpenkemabeonaaaDoor.Hand
open Go.RowKit
set_option linter.unusedVariables false
theorem cells_of_funcs {P : Program} {w : World} {base : Nat} {sp : Nat → Bool} {fuel : Nat} {t e : TypeId} {n : Nat} {cs : List Value} {ds : List (DataW (List UInt8))} {p : List MemPlace}
    (ht : P.underlying t = some (.array n e)) (hce : P.cellsOf e = 1) (hct : P.cellsOf t = n)
    (h : DataW.trod (funcToken P) P w base sp true fuel t cs = some (.agg ds, p)) (i : Nat) (d : DataW (List UInt8)) (hd : ds[i]? = some d) : ∃ v m q, cs[i]? = some v ∧ DataW.trod (funcToken P) P w base sp true m e [v] = some (d, q) := by
  cases fuel with
  | zero => simp [DataW.trod] at h
  | succ fuel =>
    simp only [DataW.trod, ht, hce, hct, Nat.mul_one] at h
    split at h
    · rename_i hl
      obtain ⟨xs, hm, hx⟩ := Option.map_eq_some_iff.1 h
      have hxs : xs.map (·.1) = ds := by
        have := congrArg Prod.fst hx
        simpa using this
      have hxl : xs.length = n := by simpa using Lib.mapM_length hm
      have hi : i < n := by
        rw [← hxl, ← List.length_map (f := fun (x : DataW (List UInt8) × List MemPlace) => x.1), hxs]
        exact (List.getElem?_eq_some_iff.1 hd).1
      obtain ⟨b, hb, hf⟩ := Lib.mapM_at hm i i (by simp [hi])
      have hi2 : i < cs.length := by omega
      have e1 : (cs.drop i).take 1 = [cs[i]] := by rw [List.drop_eq_getElem_cons hi2]; rfl
      rw [e1] at hf
      have h2 : (xs.map (·.1))[i]? = some b.1 := by simp [hb]
      rw [hxs, hd] at h2
      injection h2 with h2
      exact ⟨cs[i], fuel, b.2, List.getElem?_eq_getElem hi2, by rw [hf, h2]⟩
    · cases h
theorem cells_of_laws {H : Type} {enc : TypeId × Value → H} {P : Program} {w : World} {base : Nat} {sp : Nat → Bool} {held : Bool} {fuel : Nat} {t e : TypeId} {n : Nat} {f0 f1 f2 : Field} {cs : List Value} {ds : List (DataW H)} {p : List MemPlace}
    (ht : P.underlying t = some (.array n e)) (hce : P.cellsOf e = 3) (hct : P.cellsOf t = n * 3) (hs : P.underlying e = some (.struct #[f0, f1, f2])) (h0 : P.underlying f0.type = some .bool) (h1 : P.underlying f1.type = some .bool) (h2 : P.underlying f2.type = some .bool)
    (c0 : P.cellsOf f0.type = 1) (c1 : P.cellsOf f1.type = 1) (c2 : P.cellsOf f2.type = 1) (o0 : f0.offset = 0) (o1 : f1.offset = 1) (o2 : f2.offset = 2)
    (h : DataW.trod enc P w base sp held fuel t cs = some (.agg ds, p)) (i : Nat) (x0 x1 x2 : Bool) (hd : ds[i]? = some (.agg [.lit (.bool x0), .lit (.bool x1), .lit (.bool x2)])) : cs[i * 3]? = some (.bool x0) ∧ cs[i * 3 + 1]? = some (.bool x1) ∧ cs[i * 3 + 2]? = some (.bool x2) := by
  cases fuel with
  | zero => simp [DataW.trod] at h
  | succ fuel =>
    simp only [DataW.trod, ht, hce, hct] at h
    split at h
    · rename_i hl
      obtain ⟨xs, hm, hx⟩ := Option.map_eq_some_iff.1 h
      have hxs : xs.map (·.1) = ds := by
        have := congrArg Prod.fst hx
        simpa using this
      have hxl : xs.length = n := by simpa using Lib.mapM_length hm
      have hi : i < n := by
        rw [← hxl, ← List.length_map (f := fun (x : DataW H × List MemPlace) => x.1), hxs]
        exact (List.getElem?_eq_some_iff.1 hd).1
      obtain ⟨b, hb, hf⟩ := Lib.mapM_at hm i i (by simp [hi])
      have hb2 : (xs.map (·.1))[i]? = some b.1 := by simp [hb]
      rw [hxs, hd] at hb2
      injection hb2 with hb2
      obtain ⟨y0, y1, y2, m, hy, hlen, g0, g1, g2⟩ := Go.Deep.trod_struct3 hs hf
      rw [o0, c0] at g0
      rw [o1, c1] at g1
      rw [o2, c2] at g2
      obtain ⟨b0, e0, r0⟩ := DataW.trod_bool h0 g0
      obtain ⟨b1, e1, r1⟩ := DataW.trod_bool h1 g1
      obtain ⟨b2, e2, r2⟩ := DataW.trod_bool h2 g2
      have hy2 : b.1 = .agg [y0.1, y1.1, y2.1] := congrArg Prod.fst hy
      rw [r0, r1, r2, ← hb2] at hy2
      simp only [DataW.agg.injEq, List.cons.injEq, DataW.lit.injEq, Lit.bool.injEq, and_true] at hy2
      obtain ⟨rfl, rfl, rfl⟩ := hy2
      have k0 := congrArg (·[0]?) e0
      have k1 := congrArg (·[0]?) e1
      have k2 := congrArg (·[0]?) e2
      simp [List.getElem?_drop] at k0 k1 k2
      exact ⟨k0, k1, k2⟩
    · cases h
abbrev laidL : List (String × DataW Unit) := [("sheafworks/word.deeds", Rows.laid_sheafworks_word_deeds), ("sheafworks/word.laws", Rows.laid_sheafworks_word_laws), ("sheafworks/word.neutrals", Rows.laid_sheafworks_word_neutrals)]
theorem laid_rest {W : World} (h : laidMetH Tryd.prog laidL W) : laidMet Tryd.prog [("sheafworks/word.laws", Rows.laid_sheafworks_word_laws), ("sheafworks/word.neutrals", Rows.laid_sheafworks_word_neutrals)] W := by
  have h2 := (laidMetH_iff.1 h).1
  rwa [show (laidL.filter fun x => x.2.handleName?.isNone) = [("sheafworks/word.laws", Rows.laid_sheafworks_word_laws), ("sheafworks/word.neutrals", Rows.laid_sheafworks_word_neutrals)] by kernel_rfl] at h2
/-- The table's cells. -/
def deedCells : Array Value := #[.func (.func 102) #[] #[], .func (.func 104) #[] #[], .func (.func 105) #[] #[], .func (.func 106) #[] #[], .func (.func 107) #[] #[], .func (.func 108) #[] #[], .func (.func 109) #[] #[], .func (.func 110) #[] #[], .func (.func 111) #[] #[], .func (.func 112) #[] #[], .func (.func 113) #[] #[], .func (.func 114) #[] #[]]
theorem deeds_of_laid {W : World} (h : laidMetH Tryd.prog laidL W) : Deeds W := by
  obtain ⟨g, t, cs, fuel, p, hg, ht, hv, hd⟩ := h.funcs (List.mem_cons_self ..)
  obtain rfl := Option.some.inj ((show Tryd.prog.globalNamed "sheafworks/word.deeds" = some 0 by kernel_rfl).symm.trans hg)
  obtain rfl := Option.some.inj ((show (Tryd.prog.globals[0]?).map (·.type) = some 103 by kernel_rfl).symm.trans ht)
  have hc := cells_of_funcs Tryd.underlying103 (by kernel_rfl) (by kernel_rfl) hd
  have key : ∀ (j k : Nat) (b : UInt8) (r : List UInt8), (∀ d : DataW (List UInt8), d = .held (b :: r) → ∃ v m q, cs.toList[j]? = some v ∧ DataW.trod (funcToken Tryd.prog) Tryd.prog W 0 (fun _ => true) true m 102 [v] = some (d, q)) →
      ((List.range Tryd.prog.funcs.size).filter fun f => (Tryd.prog.funcs[f]?).any (·.name.toUTF8.data.toList == b :: r)) = [k] → W.cell? ⟨0, j, none⟩ = some (.func (.func k) #[] #[]) := by
    intro j k b r h1 h2
    obtain ⟨v, m, q, h3, h4⟩ := h1 _ rfl
    obtain rfl := func_of_trod Tryd.underlying102 h2 h4
    have := World.var?_cell hg hv j
    rw [this]
    simpa using h3
  intro j k hj
  have hlt : j < 12 := (List.getElem?_eq_some_iff.1 hj).1
  have e : j = 0 ∨ j = 1 ∨ j = 2 ∨ j = 3 ∨ j = 4 ∨ j = 5 ∨ j = 6 ∨ j = 7 ∨ j = 8 ∨ j = 9 ∨ j = 10 ∨ j = 11 := by omega
  rcases e with rfl | rfl | rfl | rfl | rfl | rfl | rfl | rfl | rfl | rfl | rfl | rfl <;> cases hj
  · exact key 0 _ _ _ (fun d e => hc 0 d (by rw [e]; rfl)) (by kernel_rfl)
  · exact key 1 _ _ _ (fun d e => hc 1 d (by rw [e]; rfl)) (by kernel_rfl)
  · exact key 2 _ _ _ (fun d e => hc 2 d (by rw [e]; rfl)) (by kernel_rfl)
  · exact key 3 _ _ _ (fun d e => hc 3 d (by rw [e]; rfl)) (by kernel_rfl)
  · exact key 4 _ _ _ (fun d e => hc 4 d (by rw [e]; rfl)) (by kernel_rfl)
  · exact key 5 _ _ _ (fun d e => hc 5 d (by rw [e]; rfl)) (by kernel_rfl)
  · exact key 6 _ _ _ (fun d e => hc 6 d (by rw [e]; rfl)) (by kernel_rfl)
  · exact key 7 _ _ _ (fun d e => hc 7 d (by rw [e]; rfl)) (by kernel_rfl)
  · exact key 8 _ _ _ (fun d e => hc 8 d (by rw [e]; rfl)) (by kernel_rfl)
  · exact key 9 _ _ _ (fun d e => hc 9 d (by rw [e]; rfl)) (by kernel_rfl)
  · exact key 10 _ _ _ (fun d e => hc 10 d (by rw [e]; rfl)) (by kernel_rfl)
  · exact key 11 _ _ _ (fun d e => hc 11 d (by rw [e]; rfl)) (by kernel_rfl)
theorem laws_of_laid {W : World} (h : laidMetH Tryd.prog laidL W) : LawT W := by
  obtain ⟨ps, ⟨g, t, cs, fuel, p, q, hg, ht, hv, hd, _⟩, _⟩ := laid_rest h
  obtain rfl := Option.some.inj ((show Tryd.prog.globalNamed "sheafworks/word.laws" = some 2 by kernel_rfl).symm.trans hg)
  obtain rfl := Option.some.inj ((show (Tryd.prog.globals[2]?).map (·.type) = some 108 by kernel_rfl).symm.trans ht)
  have key : ∀ (i : Nat) (x0 x1 x2 : Bool), ([[true, true, false], [false, false, false], [true, true, false], [false, false, false], [false, false, false], [false, false, false], [false, true, false], [true, true, true], [true, true, true], [true, true, true], [true, true, true], [true, true, false]] : List (List Bool))[i]? = some [x0, x1, x2] →
      W.cell? ⟨2, i * 3, none⟩ = some (.bool x0) ∧ W.cell? ⟨2, i * 3 + 1, none⟩ = some (.bool x1) ∧ W.cell? ⟨2, i * 3 + 2, none⟩ = some (.bool x2) := by
    intro i x0 x1 x2 hi
    have hc := cells_of_laws Tryd.underlying108 (by kernel_rfl) (by kernel_rfl) Tryd.underlying97 Tryd.underlying4 Tryd.underlying4 Tryd.underlying4 (by kernel_rfl) (by kernel_rfl) (by kernel_rfl) rfl rfl rfl hd i x0 x1 x2
      (by
        have hlt : i < 12 := (List.getElem?_eq_some_iff.1 hi).1
        have e : i = 0 ∨ i = 1 ∨ i = 2 ∨ i = 3 ∨ i = 4 ∨ i = 5 ∨ i = 6 ∨ i = 7 ∨ i = 8 ∨ i = 9 ∨ i = 10 ∨ i = 11 := by omega
        rcases e with rfl | rfl | rfl | rfl | rfl | rfl | rfl | rfl | rfl | rfl | rfl | rfl <;> cases hi <;> rfl)
    rw [World.var?_cell hg hv, World.var?_cell hg hv, World.var?_cell hg hv]
    simpa using hc
  intro j k hj
  have hlt : j < 36 := (List.getElem?_eq_some_iff.1 hj).1
  have e : j = 0 ∨ j = 1 ∨ j = 2 ∨ j = 3 ∨ j = 4 ∨ j = 5 ∨ j = 6 ∨ j = 7 ∨ j = 8 ∨ j = 9 ∨ j = 10 ∨ j = 11 ∨ j = 12 ∨ j = 13 ∨ j = 14 ∨ j = 15 ∨ j = 16 ∨ j = 17 ∨ j = 18 ∨ j = 19 ∨ j = 20 ∨ j = 21 ∨ j = 22 ∨ j = 23 ∨ j = 24 ∨ j = 25 ∨ j = 26 ∨ j = 27 ∨ j = 28 ∨ j = 29 ∨ j = 30 ∨ j = 31 ∨ j = 32 ∨ j = 33 ∨ j = 34 ∨ j = 35 := by omega
  rcases e with rfl | rfl | rfl | rfl | rfl | rfl | rfl | rfl | rfl | rfl | rfl | rfl | rfl | rfl | rfl | rfl | rfl | rfl | rfl | rfl | rfl | rfl | rfl | rfl | rfl | rfl | rfl | rfl | rfl | rfl | rfl | rfl | rfl | rfl | rfl | rfl <;> cases hj
  · exact (key 0 _ _ _ rfl).1
  · exact (key 0 _ _ _ rfl).2.1
  · exact (key 0 _ _ _ rfl).2.2
  · exact (key 1 _ _ _ rfl).1
  · exact (key 1 _ _ _ rfl).2.1
  · exact (key 1 _ _ _ rfl).2.2
  · exact (key 2 _ _ _ rfl).1
  · exact (key 2 _ _ _ rfl).2.1
  · exact (key 2 _ _ _ rfl).2.2
  · exact (key 3 _ _ _ rfl).1
  · exact (key 3 _ _ _ rfl).2.1
  · exact (key 3 _ _ _ rfl).2.2
  · exact (key 4 _ _ _ rfl).1
  · exact (key 4 _ _ _ rfl).2.1
  · exact (key 4 _ _ _ rfl).2.2
  · exact (key 5 _ _ _ rfl).1
  · exact (key 5 _ _ _ rfl).2.1
  · exact (key 5 _ _ _ rfl).2.2
  · exact (key 6 _ _ _ rfl).1
  · exact (key 6 _ _ _ rfl).2.1
  · exact (key 6 _ _ _ rfl).2.2
  · exact (key 7 _ _ _ rfl).1
  · exact (key 7 _ _ _ rfl).2.1
  · exact (key 7 _ _ _ rfl).2.2
  · exact (key 8 _ _ _ rfl).1
  · exact (key 8 _ _ _ rfl).2.1
  · exact (key 8 _ _ _ rfl).2.2
  · exact (key 9 _ _ _ rfl).1
  · exact (key 9 _ _ _ rfl).2.1
  · exact (key 9 _ _ _ rfl).2.2
  · exact (key 10 _ _ _ rfl).1
  · exact (key 10 _ _ _ rfl).2.1
  · exact (key 10 _ _ _ rfl).2.2
  · exact (key 11 _ _ _ rfl).1
  · exact (key 11 _ _ _ rfl).2.1
  · exact (key 11 _ _ _ rfl).2.2
theorem neut_of_laid {W : World} (h : laidMetH Tryd.prog laidL W) : NeutT W := by
  obtain ⟨ps, ⟨_, _, _, _, _, q0, _, _, _, _, ⟨g, t, cs, fuel, p, q, hg, ht, hv, hd, _⟩, _⟩, _⟩ := laid_rest h
  obtain rfl := Option.some.inj ((show Tryd.prog.globalNamed "sheafworks/word.neutrals" = some 1 by kernel_rfl).symm.trans hg)
  obtain rfl := Option.some.inj ((show (Tryd.prog.globals[1]?).map (·.type) = some 106 by kernel_rfl).symm.trans ht)
  have hc := Lib.cells_of_tab (k := .i64) (zs := neutCells) Tryd.underlying106 Tryd.underlying3 (by kernel_rfl) (by kernel_rfl) hd
  intro j n hj
  rw [World.var?_cell hg hv, ← Array.getElem?_toList, hc, List.getElem?_map, hj]
  rfl
theorem tabs_of_laid {W : World} (h : laidMetH Tryd.prog laidL W) : Tabs W := ⟨laws_of_laid h, neut_of_laid h, deeds_of_laid h⟩
def lawTab : Array Value := (lawCells.map Value.bool).toArray
def neutTab : Array Value := (neutCells.map (Value.int .i64)).toArray
end Go.Proofs.YtpenkemabeonaaaDoor.Hand
