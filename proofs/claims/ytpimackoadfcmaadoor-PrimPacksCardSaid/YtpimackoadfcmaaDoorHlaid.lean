/- What a row that lists the table of the operations gives: the table lies in the first block. -/
import Derived.Test.YtpimackoadfcmaaDoorRows
import Derived.Test.YtpimackoadfcmaaDoorHword
import Derived.LaidMore
import Derived.OpenShut
import Derived.Lib.LaidTab
namespace Go.Proofs.YtpimackoadfcmaaDoor.Hand
open Go.RowKit
set_option linter.unusedVariables false
theorem cells_of_funcs {P : Program} {w : World} {base : Nat} {sp : Nat → Bool} {fuel : Nat} {t e : TypeId} {n : Nat} {cs : List Value} {ds : List (DataW (List UInt8))} {p : List MemPlace}
    (ht : P.underlying t = some (.array n e)) (hce : P.cellsOf e = 1) (hct : P.cellsOf t = n)
    (h : DataW.trod (funcToken P) P w base sp true fuel t cs = some (.agg ds, p)) (i : Nat) (d : DataW (List UInt8)) (hd : ds[i]? = some d) : ∃ v m q, cs[i]? = some v ∧ DataW.trod (funcToken P) P w base sp true m e [v] = some (d, q) := by
  cases fuel with
  | zero => simp [DataW.trod] at h
  | succ fuel =>
    simp only [DataW.trod, ht, hce, hct, Nat.mul_one] at h
    split at h
    · rename_i hl
      obtain ⟨xs, hm, hx⟩ := Option.map_eq_some_iff.1 h
      have hxs : xs.map (·.1) = ds := by
        have := congrArg Prod.fst hx
        simpa using this
      have hxl : xs.length = n := by simpa using Lib.mapM_length hm
      have hi : i < n := by
        rw [← hxl, ← List.length_map (f := fun (x : DataW (List UInt8) × List MemPlace) => x.1), hxs]
        exact (List.getElem?_eq_some_iff.1 hd).1
      obtain ⟨b, hb, hf⟩ := Lib.mapM_at hm i i (by simp [hi])
      have hi2 : i < cs.length := by omega
      have e1 : (cs.drop i).take 1 = [cs[i]] := by rw [List.drop_eq_getElem_cons hi2]; rfl
      rw [e1] at hf
      have h2 : (xs.map (·.1))[i]? = some b.1 := by simp [hb]
      rw [hxs, hd] at h2
      injection h2 with h2
      exact ⟨cs[i], fuel, b.2, List.getElem?_eq_getElem hi2, by rw [hf, h2]⟩
    · cases h
/-- The table's cells. -/
def deedCells : Array Value := #[.func (.func 112) #[] #[], .func (.func 114) #[] #[], .func (.func 115) #[] #[], .func (.func 116) #[] #[], .func (.func 117) #[] #[], .func (.func 118) #[] #[], .func (.func 119) #[] #[], .func (.func 120) #[] #[], .func (.func 121) #[] #[], .func (.func 122) #[] #[], .func (.func 123) #[] #[], .func (.func 124) #[] #[]]
theorem deeds_of_laid {W : World} (h : laidMetH Tryd.prog [("sheafworks/word.deeds", Rows.laid_sheafworks_word_deeds)] W) : Deeds W := by
  obtain ⟨g, t, cs, fuel, p, hg, ht, hv, hd⟩ := h.funcs (List.mem_singleton.2 rfl)
  obtain rfl := Option.some.inj ((show Tryd.prog.globalNamed "sheafworks/word.deeds" = some 0 by kernel_rfl).symm.trans hg)
  obtain rfl := Option.some.inj ((show (Tryd.prog.globals[0]?).map (·.type) = some 78 by kernel_rfl).symm.trans ht)
  have hc := cells_of_funcs Tryd.underlying78 (by kernel_rfl) (by kernel_rfl) hd
  have key : ∀ (j k : Nat) (b : UInt8) (r : List UInt8), (∀ d : DataW (List UInt8), d = .held (b :: r) → ∃ v m q, cs.toList[j]? = some v ∧ DataW.trod (funcToken Tryd.prog) Tryd.prog W 0 (fun _ => true) true m 77 [v] = some (d, q)) →
      ((List.range Tryd.prog.funcs.size).filter fun f => (Tryd.prog.funcs[f]?).any (·.name.toUTF8.data.toList == b :: r)) = [k] → W.cell? ⟨0, j, none⟩ = some (.func (.func k) #[] #[]) := by
    intro j k b r h1 h2
    obtain ⟨v, m, q, h3, h4⟩ := h1 _ rfl
    obtain rfl := func_of_trod Tryd.underlying77 h2 h4
    have := World.var?_cell hg hv j
    rw [this]
    simpa using h3
  intro j k hj
  have hlt : j < 12 := (List.getElem?_eq_some_iff.1 hj).1
  have e : j = 0 ∨ j = 1 ∨ j = 2 ∨ j = 3 ∨ j = 4 ∨ j = 5 ∨ j = 6 ∨ j = 7 ∨ j = 8 ∨ j = 9 ∨ j = 10 ∨ j = 11 := by omega
  rcases e with rfl | rfl | rfl | rfl | rfl | rfl | rfl | rfl | rfl | rfl | rfl | rfl <;> cases hj
  · exact key 0 _ _ _ (fun d e => hc 0 d (by rw [e]; rfl)) (by kernel_rfl)
  · exact key 1 _ _ _ (fun d e => hc 1 d (by rw [e]; rfl)) (by kernel_rfl)
  · exact key 2 _ _ _ (fun d e => hc 2 d (by rw [e]; rfl)) (by kernel_rfl)
  · exact key 3 _ _ _ (fun d e => hc 3 d (by rw [e]; rfl)) (by kernel_rfl)
  · exact key 4 _ _ _ (fun d e => hc 4 d (by rw [e]; rfl)) (by kernel_rfl)
  · exact key 5 _ _ _ (fun d e => hc 5 d (by rw [e]; rfl)) (by kernel_rfl)
  · exact key 6 _ _ _ (fun d e => hc 6 d (by rw [e]; rfl)) (by kernel_rfl)
  · exact key 7 _ _ _ (fun d e => hc 7 d (by rw [e]; rfl)) (by kernel_rfl)
  · exact key 8 _ _ _ (fun d e => hc 8 d (by rw [e]; rfl)) (by kernel_rfl)
  · exact key 9 _ _ _ (fun d e => hc 9 d (by rw [e]; rfl)) (by kernel_rfl)
  · exact key 10 _ _ _ (fun d e => hc 10 d (by rw [e]; rfl)) (by kernel_rfl)
  · exact key 11 _ _ _ (fun d e => hc 11 d (by rw [e]; rfl)) (by kernel_rfl)
end Go.Proofs.YtpimackoadfcmaaDoor.Hand
