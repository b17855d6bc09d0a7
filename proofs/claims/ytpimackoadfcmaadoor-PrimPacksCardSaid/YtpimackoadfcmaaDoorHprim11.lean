/- prim.Put: words put at places, each place once, or the error that is told; new memory. -/
import Derived.Test.YtpimackoadfcmaaDoorHprim4
import Derived.Maps.OwnSet
import Derived.WalkKit
namespace Go.Proofs.YtpimackoadfcmaaDoor.Hand
open Go.RowKit Go.Proofs.YtpimackoadfcmaaDoorW.PrintWords Go.Proofs.YtpimackoadfcmaaDoorW.PrintLast Go.Proofs.YtpimackoadfcmaaDoorW.PrintMore
open Go.Maps
set_option linter.unusedVariables false
set_option linter.unusedSimpArgs false
theorem keysInt : Keyed Tryd.prog 3 := int_keyed Tryd.underlying3
theorem zeroInt (w : World) : (zeroValue 3).run Tryd.prog w = .ok (.int .i64 0) w := by kernel_rfl
/-- The first of the first m places at which k stands (0 if there is none). -/
def whereIs (p : List Int) (m : Nat) (k : Int) : Int := ((List.range m).find? (fun (j : Nat) => rd p (j : Int) == k)).elim 0 (fun (j : Nat) => (j : Int))
def stands (p : List Int) (m : Nat) (k : Int) : Bool := (List.range m).any (fun (j : Nat) => rd p (j : Int) == k)
/-- Each place is one of n, and none comes twice. -/
def okPlaces (n : Nat) (p : List Int) : Bool := (List.range p.length).all (fun (i : Nat) => decide (0 ≤ rd p (i : Int)) && decide (rd p (i : Int) < (n : Int)) && !stands p i (rd p (i : Int)))
theorem stands_succ (p : List Int) (m : Nat) (k : Int) : stands p (m + 1) k = (stands p m k || (rd p (m : Int) == k)) := by
  unfold stands
  rw [List.range_succ, List.any_append]
  simp
theorem whereIs_succ_old (p : List Int) (m : Nat) (k : Int) (h : rd p (m : Int) ≠ k) : whereIs p (m + 1) k = whereIs p m k := by
  unfold whereIs
  rw [List.range_succ, List.find?_append]
  have e : List.find? (fun (j : Nat) => rd p (j : Int) == k) [m] = none := by simp [h]
  rw [e, Option.or_none]
theorem whereIs_succ_new (p : List Int) (m : Nat) (k : Int) (h0 : stands p m k = false) (h : rd p (m : Int) = k) : whereIs p (m + 1) k = m := by
  unfold whereIs
  rw [List.range_succ, List.find?_append]
  have e0 : List.find? (fun (j : Nat) => rd p (j : Int) == k) (List.range m) = none := by
    rw [List.find?_eq_none]
    intro x hx
    unfold stands at h0
    rw [List.any_eq_false] at h0
    exact h0 x hx
  have e : List.find? (fun (j : Nat) => rd p (j : Int) == k) [m] = some m := by simp [h]
  rw [e0, e]
  rfl
theorem whereIs_range (p : List Int) (m : Nat) (k : Int) : 0 ≤ whereIs p m k ∧ (whereIs p m k < m ∨ whereIs p m k = 0) := by
  unfold whereIs
  cases h : (List.range m).find? (fun (j : Nat) => rd p (j : Int) == k) with
  | none => simp
  | some j =>
    have := List.mem_of_find?_eq_some h
    rw [List.mem_range] at this
    simp only [Option.elim]
    omega
/-- What the map holds behind m places. -/
def MapSt (p : List Int) (m : Nat) (D : DataW Unit) : Prop := IsMap D ∧ (∀ k : Int, Maps.has D (.int .i64 k) = stands p m k) ∧ (∀ k : Int, D.atKey (.int .i64 k) (.lit (.int .i64 0)) = .lit (.int .i64 (whereIs p m k)))
theorem MapSt.zero (p : List Int) : MapSt p 0 (.map []) := ⟨isMap_empty, fun k => rfl, fun k => rfl⟩
theorem MapSt.succ {p : List Int} {m : Nat} {D : DataW Unit} (h : MapSt p m D) (h0 : stands p m (rd p (m : Int)) = false) : MapSt p (m + 1) (D.put (.int .i64 (rd p (m : Int))) (.lit (.int .i64 (m : Int)))) := by
  obtain ⟨h1, h2, h3⟩ := h
  refine ⟨h1.put _ _, fun k => ?_, fun k => ?_⟩
  · rw [stands_succ]
    by_cases hk : rd p (m : Int) = k
    · rw [← hk, has_put_same (k := .int .i64 (rd p (m : Int))) h1 trivial]
      simp
    · rw [has_put_other (by intro e; injection e with _ e; exact hk e.symm), h2 k]
      simp [hk]
  · by_cases hk : rd p (m : Int) = k
    · rw [← hk, atKey_put_same (k := .int .i64 (rd p (m : Int))) h1 trivial, whereIs_succ_new p m _ h0 rfl]
    · rw [atKey_put_other (by intro e; injection e with _ e; exact hk e.symm), h3 k, whereIs_succ_old p m k hk]
theorem okPlaces_false (n : Nat) (p : List Int) (i : Nat) (hi : i < p.length) (h : (decide (0 ≤ rd p (i : Int)) && decide (rd p (i : Int) < (n : Int)) && !stands p i (rd p (i : Int))) = false) : okPlaces n p = false := by
  unfold okPlaces
  rw [List.all_eq_false]
  exact ⟨i, by rw [List.mem_range]; exact hi, by rw [h]; simp⟩
theorem okPlaces_true (n : Nat) (p : List Int) (h : ∀ i : Nat, i < p.length → (decide (0 ≤ rd p (i : Int)) && decide (rd p (i : Int) < (n : Int)) && !stands p i (rd p (i : Int))) = true) : okPlaces n p = true := by
  unfold okPlaces
  rw [List.all_eq_true]
  intro i hi
  rw [List.mem_range] at hi
  exact h i hi

abbrev MapAt (w : World) (B n : Nat) (D : DataW Unit) : Prop := w.ownsMap Tryd.prog 3 (plainElem Tryd.prog 3) B n D
set_option maxHeartbeats 4000000 in
set_option maxRecDepth 100000 in
theorem prim_Put1 (x : Int) (Ba Bb Bm : Nat) (A : Option Addr) (c : Nat) (l : List Int) (p : List Int) (m : Nat) (D : DataW Unit) (n : Nat) (w : World) (h0 : 0 ≤ x) (hx : x < l.length) (hm : m ≤ l.length) (hr : (Kd.int .i64).C w A l.length l)
    (ha : w.cell? ⟨Ba, 0, none⟩ = some (.slice A l.length c)) (hb : w.cell? ⟨Bb, 0, none⟩ = some (.map (some Bm))) (hM : MapAt w Bm n D) (hD : MapSt p m D) (hl : l.length ≤ 1048576) :
    Calls Tryd.prog 70 #[.int .i64 x, .pointer (some ⟨Ba, 0, none⟩), .pointer (some ⟨Bb, 0, none⟩)] w fun e w' => e = .returned (.tuple #[.int .i64 (rd l (whereIs p m x)), .bool true]) ∧ Below w.heap.size w w' := by
  have hw := whereIs_range p m x
  obtain ⟨i, hi⟩ : ∃ i, i = whereIs p m x := ⟨_, rfl⟩
  rw [← hi] at hw ⊢
  have hat := hD.2.2 x
  rw [← hi] at hat
  have hi0 : 0 ≤ i := hw.1
  have hi1 : i < l.length := by omega
  obtain ⟨ad, e1, hc⟩ := Kd.at_int hr i hi0 hi1
  subst e1
  have hkey : keyOf Tryd.prog 3 (.int .i64 x) = some (.int .i64 x) := keyOf_int_mk Tryd.underlying3 (WalkArith.wf_i64 (by omega))
  have HKey := Aside0.mk hkey
  have HM := Aside0.mk hM
  have HAt := Aside0.mk hat
  clear hr hM hD hat hkey hi hw
  go_enter Tryd.func70, Tryd.ntmps70
  go_wp2_with (at_lookup; refine wpList_lookup_own_int _ rfl _ _ 68 rfl 3 3 .i64 keysInt Tryd.underlying68 Tryd.underlying3 (zeroInt _) Bm n D rfl HM.out _ _ rfl HKey.out ?_; intro c hat hwc; (have e : c = i := by have h := hat.symm.trans HAt.out; injection h with h; injection h); subst e; clear hat hwc)
  go_ret2
  exact ⟨rfl, Below.refl _ _⟩
def prim_Put.g (l p : List Int) : List Int × Int := if wordsE [l, p] ((l.length : Int) == (p.length : Int)) = 0 then (if okPlaces l.length p then (upTo (fun x => rd l (whereIs p p.length x)) l.length, 0) else ([], 14)) else ([], wordsE [l, p] ((l.length : Int) == (p.length : Int)))
set_option maxHeartbeats 4000000 in
set_option maxRecDepth 100000 in
theorem prim_Put.run (A : Option Addr) (c : Nat) (l : List Int) (A2 : Option Addr) (c2 : Nat) (l2 : List Int) (w : World) (hr : Kd.C (Kd.int .i64) w A l.length l) (hc : l.length ≤ c) (hr2 : Kd.C (Kd.int .i64) w A2 l2.length l2) (hc2 : l2.length ≤ c2) :
    Calls Tryd.prog 32 #[.slice A l.length c, .slice A2 l2.length c2] w (Ret2 w (prim_Put.g l l2)) := by
  have HS := Aside0.mk (Sl.of hr hc)
  have HS2 := Aside0.mk (Sl.of hr2 hc2)
  have HR := Aside0.mk hr
  have HR2 := Aside0.mk hr2
  clear hr hc hr2 hc2
  have hmm := @run_makeMap Tryd.prog
  unfold prim_Put.g
  obtain ⟨E, hE⟩ : ∃ E, E = wordsE [l, l2] ((l.length : Int) == (l2.length : Int)) := ⟨_, rfl⟩
  rw [← hE]
  have HE := Aside0.mk hE
  clear hE
  by_cases h0 : E = 0
  · rw [if_pos h0]
    have z1 : (E != 0) = false := bne_eq_false_iff_eq.mpr h0
    have OK := Aside0.mk (wordsE_ok (HE.out.symm.trans h0))
    clear h0
    have hl1 := OK.out.1 l (by simp)
    have hl2 := OK.out.1 l2 (by simp)
    have hfit := Aside0.mk (show l.length = l2.length by have := OK.out.2.2; rw [beq_iff_eq] at this; omega)
    obtain ⟨RR, hRR⟩ : ∃ RR : List Int × Int, RR = if okPlaces l.length l2 = true then (upTo (fun x => rd l (whereIs l2 l2.length x)) l.length, 0) else ([], 14) := ⟨_, rfl⟩
    rw [← hRR]
    replace hRR := Aside0.mk hRR
    go_enter Tryd.func32, Tryd.ntmps32
    go_wp2_with fail
    refine (prim_words _ _ [l, l2] _ _ (lit_rows_at _ _ (by simp) _ _ _ _ rfl (rows_of2 (HS.out.alloc _) (HS2.out.alloc _)) (by simp))).mono ?_
    rw [← HE.out]
    rintro e w2 ⟨rfl, hb2⟩
    have hb3 : Below w.heap.size w w2 := (below_alloc (below_alloc (Below.refl _ _) _) _).trans (hb2.mono (by simp; omega))
    have kA : w2.heap[w.heap.size]? = some (.cells #[.slice A l.length c] 22 (0, 0)) := blk_below (blk_alloc (blk_new w _) _) hb2
    replace hb3 := Aside0.mk hb3
    replace kA := Aside0.mk kA
    clear hb2
    go_wp2
    obtain ⟨w3, hw3⟩ : ∃ w3 : World, w3 = (w2.alloc (Obj.map #[] 0)).alloc (Obj.cells #[Value.map (some w2.heap.size)] 68) := ⟨_, rfl⟩
    rw [← hw3]
    have s3 : w3.heap.size = w2.heap.size + 2 := by rw [hw3]; simp
    have o3 : MapAt w3 w2.heap.size 0 (.map []) := by rw [hw3]; exact (World.ownsMap_made _ _ _ _).alloc _
    have q3 : w3.heap[w2.heap.size + 1]? = some (.cells #[.map (some w2.heap.size)] 68 (0, 0)) := by rw [hw3]; exact blk_new_at (by simp) _
    have b3 : Below w2.heap.size w2 w3 := by rw [hw3]; exact below_alloc (below_alloc (Below.refl _ _) _) _
    have kA3 := blk_below kA.out b3
    have hb4 : Below w.heap.size w w3 := hb3.out.trans (b3.mono hb3.out.size)
    have hle := hb3.out.size
    have hlA := blk_lt kA.out
    replace hw3 := Aside0.mk hw3
    have Q3 := Aside0.mk q3
    have B3 := Aside0.mk b3
    have KA3 := Aside0.mk kA3
    have HB4 := Aside0.mk hb4
    have S3 := Aside0.mk s3
    have O3 := Aside0.mk o3
    clear s3 o3 q3 b3 kA3 hb4
    go_loopw [27] (fun i W => ∃ (m : Nat) (D : DataW Unit), i = .int .i64 (m : Int) ∧ m ≤ l2.length ∧ Aside0 (MapAt W w2.heap.size m D) ∧ Aside0 (MapSt l2 m D) ∧ Aside0 (∀ j : Nat, j < m → (decide (0 ≤ rd l2 (j : Int)) && decide (rd l2 (j : Int) < (l.length : Int)) && !stands l2 j (rd l2 (j : Int))) = true) ∧ Aside0 (Kp (fun k => k = w2.heap.size) w3 W)) (fun i _ => l2.length - (intOf i).toNat)
    case atStart => exact ⟨0, _, rfl, by omega, O3, ⟨MapSt.zero l2⟩, ⟨by omega⟩, ⟨Kp.refl _ _⟩⟩
    case round =>
      obtain ⟨m, D, rfl, p0, HO, HD, HJ, HK⟩ := hrel
      have HB : Below w.heap.size w wr := HB4.out.trans (HK.out.below (fun k hk => ⟨by rw [S3.out]; omega, by omega⟩))
      have cA : wr.cell? ⟨w.heap.size, 0, none⟩ = some (.slice A l.length c) := (blk_cell (HK.out.blk KA3.out (by omega)) 0).trans rfl
      have cQ : wr.cell? ⟨w2.heap.size + 1, 0, none⟩ = some (.map (some w2.heap.size)) := (blk_cell (HK.out.blk Q3.out (by omega)) 0).trans rfl
      by_cases hlt : (m : Int) < l2.length
      · obtain ⟨ad, e1, hc⟩ := Kd.at_int (Kd.C_below HR2.out HB) (m : Int) (by omega) hlt
        subst e1
        rw [Int.toNat_natCast] at hc
        have hlt2 : m < l2.length := by omega
        have hword := OK.out.2.1 l2 (by simp) _ (rd_mem l2 (m : Int) (by omega) hlt)
        obtain ⟨n, hn⟩ : ∃ n, n = rd l2 (m : Int) := ⟨_, rfl⟩
        rw [← hn] at hc hword
        have hwn : -2147483648 ≤ n ∧ n ≤ 2147483647 := by simp [isWordB] at hword; omega
        have hkey : keyOf Tryd.prog 3 (.int .i64 n) = some (.int .i64 n) := keyOf_int_mk Tryd.underlying3 (WalkArith.wf_i64 (by omega))
        have HKey := Aside0.mk hkey
        have hhas := HD.out.2.1 n
        have HN := Aside0.mk hn
        replace HB := Aside0.mk HB
        clear hkey hword hn hwn
        cases hst : stands l2 m n
        · have hmh : Maps.has D (.int .i64 n) = false := hhas.trans hst
          have Hst := Aside0.mk hst
          clear hst hhas
          by_cases hn0 : n < 0
          · have z2 : decide (n < 0) = true := decide_eq_true hn0
            have hc1 : ¬ 0 ≤ n := by omega
            have hRE : Aside0 (RR = ([], 14)) := ⟨by rw [hRR.out, okPlaces_false l.length l2 m hlt2 (by rw [← HN.out]; simp [hc1])]; rfl⟩
            clear hc1
            clear hn0
            go_wp2_with (at_lookup; refine wpList_lookup_own_ok_int _ rfl _ _ 68 rfl 3 3 .i64 keysInt Tryd.underlying68 Tryd.underlying3 (zeroInt _) w2.heap.size m D rfl HO.out _ _ rfl HKey.out ?_; intro cc hat hwc; clear hat hwc)
            go_ret2
            rw [hRE.out]
            exact Ret2.nil 14 HB.out
          · have z2 : decide (n < 0) = false := decide_eq_false hn0
            by_cases hn1 : (l.length : Int) ≤ n
            · have z3 : decide ((l.length : Int) ≤ n) = true := decide_eq_true hn1
              have hc1 : ¬ n < (l.length : Int) := by omega
              have hRE : Aside0 (RR = ([], 14)) := ⟨by rw [hRR.out, okPlaces_false l.length l2 m hlt2 (by rw [← HN.out]; simp [hc1])]; rfl⟩
              clear hn0 hn1 hc1
              go_wp2_with (at_lookup; refine wpList_lookup_own_ok_int _ rfl _ _ 68 rfl 3 3 .i64 keysInt Tryd.underlying68 Tryd.underlying3 (zeroInt _) w2.heap.size m D rfl HO.out _ _ rfl HKey.out ?_; intro cc hat hwc; clear hat hwc)
              go_ret2
              rw [hRE.out]
              exact Ret2.nil 14 HB.out
            · have z3 : decide ((l.length : Int) ≤ n) = false := decide_eq_false hn1
              have hj2 : Aside0 ((decide (0 ≤ rd l2 (m : Int)) && decide (rd l2 (m : Int) < (l.length : Int)) && !stands l2 m (rd l2 (m : Int))) = true) := ⟨by
                rw [← HN.out, Hst.out]
                have e1 : 0 ≤ n := by omega
                have e2 : n < (l.length : Int) := by omega
                simp [e1, e2]⟩
              have hml : Aside0 (m < maxLen) := ⟨by unfold maxLen; omega⟩
              have hwm : Aside0 ((Lit.int .i64 (m : Int)).wf = true) := ⟨WalkArith.wf_i64 (by omega)⟩
              have hw1 : wrap64 ((m : Int) + 1) = ((m + 1 : Nat) : Int) := by unfold wrap64; omega
              clear hn0 hn1
              go_wp2_with (first | (at_lookup; refine wpList_lookup_own_ok_int _ rfl _ _ 68 rfl 3 3 .i64 keysInt Tryd.underlying68 Tryd.underlying3 (zeroInt _) w2.heap.size m D rfl HO.out _ _ rfl HKey.out ?_; intro cc hat hwc; clear hat hwc) | (at_mapUpdate; refine wpList_mapUpdate_own _ rfl _ _ _ 68 rfl 3 3 keysInt Tryd.underlying68 _ w2.heap.size m D rfl HO.out hml.out _ _ _ rfl rfl HKey.out _ [] (plainElem_int Tryd.underlying3 hwm.out) ?_; intro w5 hown5 hgrow5; replace hown5 := Aside0.mk hown5; replace hgrow5 := Aside0.mk hgrow5))
              go_roundw
              case rel =>
                have hsucc := HD.out.succ (m := m) (by rw [← HN.out]; exact Hst.out)
                rw [← HN.out] at hsucc
                refine ⟨m + 1, _, by simp, by omega, hown5, ⟨hsucc⟩, ⟨fun j hj => ?_⟩, ⟨HK.out.grown hgrow5.out (fun k e => by cases e; exact .inl rfl)⟩⟩
                by_cases hjm : j < m
                · exact HJ.out j hjm
                · obtain rfl : j = m := by omega
                  exact hj2.out
              case measure => simp [intOf]; omega
        · have hmh : Maps.has D (.int .i64 n) = true := hhas.trans hst
          have hRE : Aside0 (RR = ([], 14)) := ⟨by rw [hRR.out, okPlaces_false l.length l2 m hlt2 (by rw [← HN.out, hst]; simp)]; rfl⟩
          clear hst hhas
          go_wp2_with (at_lookup; refine wpList_lookup_own_ok_int _ rfl _ _ 68 rfl 3 3 .i64 keysInt Tryd.underlying68 Tryd.underlying3 (zeroInt _) w2.heap.size m D rfl HO.out _ _ rfl HKey.out ?_; intro cc hat hwc; clear hat hwc)
          go_ret2
          rw [hRE.out]
          exact Ret2.nil 14 HB.out
      · have hm : m = l2.length := by omega
        subst hm
        have hRE : Aside0 (RR = (upTo (fun x => rd l (whereIs l2 l2.length x)) l.length, 0)) := ⟨by rw [hRR.out, okPlaces_true l.length l2 (fun i hi => HJ.out i hi)]; rfl⟩
        have hall := allOf_yes l.length (fun x => rd l (whereIs l2 l2.length x)) (fun _ => true) (fun _ _ _ => rfl)
        replace hall := Aside0.mk hall
        have HE0 := Aside0.mk (each_all 70 #[] #[.pointer (some ⟨w.heap.size, 0, none⟩), .pointer (some ⟨w2.heap.size + 1, 0, none⟩)] l.length (fun x => rd l (whereIs l2 l2.length x)) (fun _ => true) wr Tryd.call70 hl1 (fun x h0 hx W hW => prim_Put1 x w.heap.size (w2.heap.size + 1) w2.heap.size A c l l2 l2.length D _ W h0 hx (by rw [hfit.out]; exact Nat.le_refl _) (Kd.C_below (Kd.C_below HR.out HB) hW) (pw_cell_below hW cA) (pw_cell_below hW cQ) (HO.out.kept (grown_of_below hW none) (by simp)) HD.out hl1))
        replace HB := Aside0.mk HB
        go_wp2_with ((with_reducible refine (HE0.out).mono ?_); rintro e w6 ⟨v, rfl, hv, hb6⟩)
        go_ret2
        rw [hRE.out]
        rw [hall.out] at hv ⊢
        exact Ret2.lift ⟨v, rfl, hv, hb6⟩ HB.out
  · rw [if_neg h0]
    have z1 : (E != 0) = true := bne_iff_ne.mpr h0
    clear h0
    go_enter Tryd.func32, Tryd.ntmps32
    go_wp2_with fail
    refine (prim_words _ _ [l, l2] _ _ (lit_rows_at _ _ (by simp) _ _ _ _ rfl (rows_of2 (HS.out.alloc _) (HS2.out.alloc _)) (by simp))).mono ?_
    rw [← HE.out]
    rintro e w2 ⟨rfl, hb2⟩
    go_wp2
    go_ret2
    exact Ret2.nil E ((below_alloc (below_alloc (Below.refl _ _) _) _).trans (hb2.mono (by simp; omega)))
end Go.Proofs.YtpimackoadfcmaaDoor.Hand
