/- prim.Rep, prim.Iota: makers that append a word many times. -/
import Derived.Test.YtpimackoadfcmaaDoorHprim4
namespace Go.Proofs.YtpimackoadfcmaaDoor.Hand
open Go.RowKit Go.Proofs.YtpimackoadfcmaaDoorW.PrintWords Go.Proofs.YtpimackoadfcmaaDoorW.PrintLast Go.Proofs.YtpimackoadfcmaaDoorW.PrintMore
set_option linter.unusedVariables false
set_option linter.unusedSimpArgs false
def repTo (l r : List Int) (x : Int) : List Int := (List.range x.toNat).flatMap (fun (i : Nat) => List.replicate (rd r (i : Int)).toNat (rd l (i : Int)))
theorem repTo_succ (l r : List Int) (x : Int) (h0 : 0 ≤ x) : repTo l r (x + 1) = repTo l r x ++ List.replicate (rd r x).toNat (rd l x) := by
  unfold repTo
  have e : (x + 1).toNat = x.toNat + 1 := by omega
  have e2 : ((x.toNat : Nat) : Int) = x := by omega
  rw [e, List.range_succ, List.flatMap_append, List.flatMap_singleton, e2]
theorem repTo_mono (l r : List Int) (x y : Int) (h0 : 0 ≤ x) (h : x ≤ y) : (repTo l r x).length ≤ (repTo l r y).length := by
  obtain ⟨k, rfl⟩ : ∃ k : Nat, y = x + k := ⟨(y - x).toNat, by omega⟩
  clear h
  induction k with
  | zero => simp
  | succ k ih =>
    have e : x + ((k + 1 : Nat) : Int) = x + (k : Int) + 1 := by omega
    rw [e, repTo_succ l r _ (by omega), List.length_append]
    omega
/-- What has been made ahead of place x, and whether it has become too much. -/
def RepSt (l r : List Int) (x : Int) (G : List Int × Bool) : Prop := G.1.length ≤ 1048576 ∧ (G.2 = false → G.1 = repTo l r x) ∧ (G.2 = true → 1048576 < (repTo l r x).length)
theorem RepSt.zero (l r : List Int) : RepSt l r 0 ([], false) := ⟨by simp, by simp [repTo], by simp⟩
theorem RepSt.succ {l r : List Int} {x : Int} {xs : List Int} {b : Bool} (hn : 0 ≤ rd r x) (h0 : 0 ≤ x) (h : RepSt l r x (xs, b)) : RepSt l r (x + 1) (manyG xs b (rd l x) (rd r x)) := by
  obtain ⟨h1, h2, h3⟩ := h
  have e := repTo_succ l r x h0
  have e2 := congrArg List.length e
  rw [List.length_append, List.length_replicate] at e2
  unfold manyG
  cases b
  · have h4 := h2 rfl
    simp only at h1 h4
    by_cases hf : 1048576 - (xs.length : Int) < rd r x
    · rw [if_pos (by simp [hf])]
      subst h4
      exact ⟨h1, by simp, fun _ => by omega⟩
    · rw [if_neg (by simp [hf])]
      subst h4
      refine ⟨?_, fun _ => by rw [e], by simp⟩
      rw [List.length_append, List.length_replicate]
      omega
  · rw [if_pos (by simp)]
    have h4 := h3 rfl
    exact ⟨h1, by simp, fun _ => by omega⟩
theorem rd_any_false {l : List Int} (h : (l.any fun n => decide (n < 0)) = false) (x : Int) (h0 : 0 ≤ x) (hx : x < l.length) : 0 ≤ rd l x := by
  rw [List.any_eq_false] at h
  have := h _ (rd_mem l x h0 hx)
  simpa using this
def prim_Rep.g (l r : List Int) : List Int × Int := if wordsE [l, r] ((l.length : Int) == (r.length : Int)) = 0 then (if r.any (fun n => decide (n < 0)) then ([], 14) else if (repTo l r l.length).length ≤ 1048576 then (repTo l r l.length, 0) else ([], 9)) else ([], wordsE [l, r] ((l.length : Int) == (r.length : Int)))
set_option maxHeartbeats 4000000 in
set_option maxRecDepth 100000 in
theorem prim_Rep.run (A : Option Addr) (c : Nat) (l : List Int) (A2 : Option Addr) (c2 : Nat) (l2 : List Int) (w : World) (hr : Kd.C (Kd.int .i64) w A l.length l) (hc : l.length ≤ c) (hr2 : Kd.C (Kd.int .i64) w A2 l2.length l2) (hc2 : l2.length ≤ c2) :
    Calls Tryd.prog 34 #[.slice A l.length c, .slice A2 l2.length c2] w (Ret2 w (prim_Rep.g l l2)) := by
  have HS := Aside0.mk (Sl.of hr hc)
  have HS2 := Aside0.mk (Sl.of hr2 hc2)
  have HR := Aside0.mk hr
  have HR2 := Aside0.mk hr2
  clear hr hc hr2 hc2
  unfold prim_Rep.g
  obtain ⟨E, hE⟩ : ∃ E, E = wordsE [l, l2] ((l.length : Int) == (l2.length : Int)) := ⟨_, rfl⟩
  rw [← hE]
  have HE := Aside0.mk hE
  clear hE
  by_cases h0 : E = 0
  · rw [if_pos h0]
    have z1 : (E != 0) = false := bne_eq_false_iff_eq.mpr h0
    have OK := Aside0.mk (wordsE_ok (HE.out.symm.trans h0))
    clear h0
    have hl1 := OK.out.1 l (by simp)
    have hl2 := OK.out.1 l2 (by simp)
    have hfit := Aside0.mk (show l.length = l2.length by have := OK.out.2.2; rw [beq_iff_eq] at this; omega)
    cases hneg : l2.any (fun n => decide (n < 0))
    · simp only [Bool.false_eq_true, if_false]
      have Hneg := Aside0.mk hneg
      clear hneg
      obtain ⟨RR, hRR⟩ : ∃ RR : List Int × Int, RR = if (repTo l l2 l.length).length ≤ 1048576 then (repTo l l2 l.length, 0) else ([], 9) := ⟨_, rfl⟩
      rw [← hRR]
      replace hRR := Aside0.mk hRR
      go_enter Tryd.func34, Tryd.ntmps34
      go_wp2_with fail
      refine (prim_words _ _ [l, l2] _ _ (lit_rows_at _ _ (by simp) _ _ _ _ rfl (rows_of2 HS.out HS2.out) (by simp))).mono ?_
      rw [← HE.out]
      rintro e w2 ⟨rfl, hb2⟩
      have hb3 : Below w.heap.size w w2 := (below_alloc (Below.refl _ _) _).trans (hb2.mono (by simp))
      replace hb3 := Aside0.mk hb3
      clear hb2
      have HB0 := Aside0.mk (prim_below0 A2 c2 l2 w2 (Kd.C_below HR2.out hb3.out))
      go_wp2_with ((with_reducible refine (HB0.out).mono ?_); rw [Hneg.out]; rintro e w4 ⟨rfl, m4, rfl⟩)
      obtain ⟨w3, hw3⟩ : ∃ w3 : World, w3 = (w2.drewN m4).alloc (Obj.cells #[Value.slice none 0 0, Value.bool false] 61) := ⟨_, rfl⟩
      rw [← hw3]
      have z3 : w3.heap.size = w2.heap.size + 1 := by rw [hw3]; simp
      have m3 : Mk w3 w2.heap.size (.slice none 0 0) false := by rw [hw3]; exact blk_new (w2.drewN m4) _
      have b3 : Below w2.heap.size w2 w3 := by rw [hw3]; exact below_alloc (pw_below_drewN (Below.refl _ _) _) _
      have b4 : Below w.heap.size w w3 := hb3.out.trans (b3.mono hb3.out.size)
      have le2 := hb3.out.size
      have Z3 := Aside0.mk z3
      have M3 := Aside0.mk m3
      have B4 := Aside0.mk b4
      have LE := Aside0.mk le2
      replace hw3 := Aside0.mk hw3
      clear z3 m3 b3 b4 le2
      go_loopw [28] (fun i W => ∃ (x : Int) (v : Value) (b : Bool) (xs : List Int), i = .int .i64 x ∧ 0 ≤ x ∧ x ≤ l.length ∧ Aside0 (Mk W w2.heap.size v b) ∧ Aside0 ((Kd.int .i64).R 3 W (w2.heap.size + 1) (fun k => w2.heap.size + 1 ≤ k) v xs) ∧ Aside0 (RepSt l l2 x (xs, b)) ∧ Aside0 (Kp (fun k => k = w2.heap.size ∨ w2.heap.size + 1 ≤ k) w3 W)) (fun i _ => l.length - (intOf i).toNat)
      case atStart => exact ⟨0, _, _, _, rfl, by omega, by omega, M3, ⟨Kd.R_nil _ _ _ _ _⟩, ⟨RepSt.zero l l2⟩, ⟨Kp.refl _ _⟩⟩
      case round =>
        obtain ⟨x, v, b, xs, rfl, p0, p1, HM, HR3, HL, HK⟩ := hrel
        have HB : Below w.heap.size w wr := B4.out.trans (HK.out.below (fun k hk => ⟨by rw [Z3.out]; have := LE.out; omega, by have := LE.out; omega⟩))
        by_cases hlt : x < l.length
        · obtain ⟨ad1, e1, hc1⟩ := Kd.at_int (Kd.C_below HR.out HB) x p0 hlt
          obtain ⟨ad2, e2, hc2⟩ := Kd.at_int (Kd.C_below HR2.out HB) x p0 (by rw [← hfit.out]; exact hlt)
          subst e1 e2
          have hlt2 : x < l2.length := by rw [← hfit.out]; exact hlt
          have HS4 : Aside0 (w2.heap.size + 1 ≤ wr.heap.size) := ⟨by have := HK.out.size; rw [Z3.out] at this; exact this⟩
          replace HB := Aside0.mk HB
          have HMany := Aside0.mk (maker_many w2.heap.size v b (w2.heap.size + 1) (fun k => w2.heap.size + 1 ≤ k) xs (rd l x) (rd l2 x) wr HM.out HR3.out (fun k hk => Nat.le_trans HS4.out hk) HS4.out HL.out.1)
          have HN := Aside0.mk (RepSt.succ (rd_any_false Hneg.out x p0 hlt2) p0 HL.out)
          obtain ⟨G, hG⟩ : ∃ G, G = manyG xs b (rd l x) (rd l2 x) := ⟨_, rfl⟩
          rw [← hG] at HMany HN
          clear hG
          obtain ⟨xs2, b2⟩ := G
          go_wp2_with ((with_reducible refine (HMany.out).mono ?_); rintro e w5 ⟨rfl, v5, M5, R5, K5⟩; replace R5 := Aside0.mk R5; replace K5 := Aside0.mk K5; replace M5 := Aside0.mk M5)
          go_roundw
          case rel => exact ⟨x + 1, v5, b2, xs2, rfl, by omega, by omega, M5, R5, HN, ⟨HK.out.trans K5.out (fun k hk => .inl hk)⟩⟩
          case measure => simp [intOf]; omega
        · have hx : x = l.length := by omega
          have Hx := Aside0.mk hx
          clear hx
          have c5 : wr.cell? ⟨w2.heap.size, 1, none⟩ = some (.bool b) := blk_cell HM.out 1
          replace HB := Aside0.mk HB
          cases b
          · obtain ⟨A1, c1, rfl⟩ := Kd.R_slice HR3.out
            have hl1 := (Kd.R_reads' HR3.out).2.1
            have HD := Aside0.mk (list_done w2.heap.size A1 false xs.length c1 wr HM.out (by omega) (R_cap HR3.out))
            go_wp2_with ((with_reducible refine (HD.out).mono ?_); rintro e w6 ⟨rfl, hd3⟩)
            go_ret2
            obtain ⟨m, rfl⟩ := hd3
            have h1 : xs = repTo l l2 x := HL.out.2.1 rfl
            have hy : RR = (xs, 0) := by have h2 : xs.length ≤ 1048576 := HL.out.1; rw [h1, Hx.out] at h2; rw [h1, hRR.out, Hx.out, if_pos h2]
            refine ⟨_, by rw [hy]; rfl, ?_, pw_below_drewN HB.out _⟩
            rw [hy]
            exact Kd.V_mono (Kd.V_drewN (V_cut HR3.out) _) (fun k hk => by have := LE.out; omega)
          · go_wp2
            go_ret2
            have h1 := HL.out.2.2 rfl
            have hy : RR = ([], 9) := by rw [hRR.out, if_neg]; rw [← Hx.out]; omega
            rw [hy]
            exact Ret2.nil 9 HB.out
    · simp only [if_true]
      have Hneg := Aside0.mk hneg
      clear hneg
      go_enter Tryd.func34, Tryd.ntmps34
      go_wp2_with fail
      refine (prim_words _ _ [l, l2] _ _ (lit_rows_at _ _ (by simp) _ _ _ _ rfl (rows_of2 HS.out HS2.out) (by simp))).mono ?_
      rw [← HE.out]
      rintro e w2 ⟨rfl, hb2⟩
      have hb3 : Below w.heap.size w w2 := (below_alloc (Below.refl _ _) _).trans (hb2.mono (by simp))
      replace hb3 := Aside0.mk hb3
      clear hb2
      have HB0 := Aside0.mk (prim_below0 A2 c2 l2 w2 (Kd.C_below HR2.out hb3.out))
      go_wp2_with ((with_reducible refine (HB0.out).mono ?_); rw [Hneg.out]; rintro e w4 ⟨rfl, m4, rfl⟩)
      go_ret2
      exact Ret2.nil 14 (pw_below_drewN hb3.out _)
  · rw [if_neg h0]
    have z1 : (E != 0) = true := bne_iff_ne.mpr h0
    clear h0
    go_enter Tryd.func34, Tryd.ntmps34
    go_wp2_with fail
    refine (prim_words _ _ [l, l2] _ _ (lit_rows_at _ _ (by simp) _ _ _ _ rfl (rows_of2 HS.out HS2.out) (by simp))).mono ?_
    rw [← HE.out]
    rintro e w2 ⟨rfl, hb2⟩
    go_wp2
    go_ret2
    exact Ret2.nil E ((below_alloc (Below.refl _ _) _).trans (hb2.mono (by simp)))

def upInts (n : Nat) : List Int := (List.range n).map (fun (i : Nat) => (i : Int))
def iotaTo (l : List Int) (x : Int) : List Int := (List.range x.toNat).flatMap (fun (i : Nat) => upInts (rd l (i : Int)).toNat)
theorem upInts_length (n : Nat) : (upInts n).length = n := by simp [upInts]
theorem upInts_succ (n : Nat) : upInts (n + 1) = upInts n ++ [(n : Int)] := by simp [upInts, List.range_succ]
theorem iotaTo_succ (l : List Int) (x : Int) (h0 : 0 ≤ x) : iotaTo l (x + 1) = iotaTo l x ++ upInts (rd l x).toNat := by
  unfold iotaTo
  have e : (x + 1).toNat = x.toNat + 1 := by omega
  have e2 : ((x.toNat : Nat) : Int) = x := by omega
  rw [e, List.range_succ, List.flatMap_append, List.flatMap_singleton, e2]
theorem iotaTo_mono (l : List Int) (x y : Int) (h0 : 0 ≤ x) (h : x ≤ y) : (iotaTo l x).length ≤ (iotaTo l y).length := by
  obtain ⟨k, rfl⟩ : ∃ k : Nat, y = x + k := ⟨(y - x).toNat, by omega⟩
  clear h
  induction k with
  | zero => simp
  | succ k ih =>
    have e : x + ((k + 1 : Nat) : Int) = x + (k : Int) + 1 := by omega
    rw [e, iotaTo_succ l _ (by omega), List.length_append]
    omega
/-- Behind y stores of a row of t places. -/
def iotaMid (xs : List Int) (t y : Int) : List Int := xs ++ (upInts y.toNat ++ List.replicate (t.toNat - y.toNat) 0)
theorem iotaMid_length (xs : List Int) (t y : Int) (h : y ≤ t) : (iotaMid xs t y).length = xs.length + t.toNat := by simp [iotaMid, upInts_length]; omega
theorem iotaMid_set (xs : List Int) (t y : Int) (h0 : 0 ≤ y) (h : y < t) : (iotaMid xs t y).set ((xs.length : Int) + y).toNat y = iotaMid xs t (y + 1) := by
  have e1 : ((xs.length : Int) + y).toNat = xs.length + y.toNat := by omega
  have e2 : (y + 1).toNat = y.toNat + 1 := by omega
  have e3 : t.toNat - y.toNat = (t.toNat - (y.toNat + 1)) + 1 := by omega
  have e4 : ((y.toNat : Nat) : Int) = y := by omega
  unfold iotaMid
  rw [e1, e2, e3, upInts_succ, List.replicate_succ, List.set_append_right _ _ (by omega), List.set_append_right _ _ (by rw [upInts_length]; omega), upInts_length, e4]
  have e5 : xs.length + y.toNat - xs.length - y.toNat = 0 := by omega
  rw [e5, List.set_cons_zero, List.append_assoc]
  rfl
def prim_Iota.g (l : List Int) : List Int × Int := if wordsE [l] true = 0 then (if l.any (fun n => decide (n < 0)) then ([], 14) else if (iotaTo l l.length).length ≤ 1048576 then (iotaTo l l.length, 0) else ([], 9)) else ([], wordsE [l] true)
set_option maxHeartbeats 4000000 in
set_option maxRecDepth 100000 in
theorem prim_Iota.run (A : Option Addr) (c : Nat) (l : List Int) (w : World) (hr : Kd.C (Kd.int .i64) w A l.length l) (hc : l.length ≤ c) :
    Calls Tryd.prog 36 #[.slice A l.length c] w (Ret2 w (prim_Iota.g l)) := by
  have HS := Aside0.mk (Sl.of hr hc)
  have HR := Aside0.mk hr
  clear hr hc
  unfold prim_Iota.g
  obtain ⟨E, hE⟩ : ∃ E, E = wordsE [l] true := ⟨_, rfl⟩
  rw [← hE]
  have HE := Aside0.mk hE
  clear hE
  by_cases h0 : E = 0
  · rw [if_pos h0]
    have z1 : (E != 0) = false := bne_eq_false_iff_eq.mpr h0
    have OK := Aside0.mk (wordsE_ok (HE.out.symm.trans h0))
    clear h0
    have hl1 := OK.out.1 l (by simp)
    cases hneg : l.any (fun n => decide (n < 0))
    · simp only [Bool.false_eq_true, if_false]
      have Hneg := Aside0.mk hneg
      clear hneg
      obtain ⟨RR, hRR⟩ : ∃ RR : List Int × Int, RR = if (iotaTo l l.length).length ≤ 1048576 then (iotaTo l l.length, 0) else ([], 9) := ⟨_, rfl⟩
      rw [← hRR]
      replace hRR := Aside0.mk hRR
      go_enter Tryd.func36, Tryd.ntmps36
      go_wp2_with fail
      refine (prim_words _ _ [l] _ _ (lit_rows_at _ _ (by simp) _ _ _ _ rfl (rows_of1 HS.out) (by simp))).mono ?_
      rw [← HE.out]
      rintro e w2 ⟨rfl, hb2⟩
      have hb3 : Below w.heap.size w w2 := (below_alloc (Below.refl _ _) _).trans (hb2.mono (by simp))
      replace hb3 := Aside0.mk hb3
      clear hb2
      have HB0 := Aside0.mk (prim_below0 A c l w2 (Kd.C_below HR.out hb3.out))
      go_wp2_with ((with_reducible refine (HB0.out).mono ?_); rw [Hneg.out]; rintro e w4 ⟨rfl, m4, rfl⟩)
      obtain ⟨w3, hw3⟩ : ∃ w3 : World, w3 = (w2.drewN m4).alloc (Obj.cells #[Value.slice none 0 0, Value.bool false] 61) := ⟨_, rfl⟩
      rw [← hw3]
      have z3 : w3.heap.size = w2.heap.size + 1 := by rw [hw3]; simp
      have m3 : Mk w3 w2.heap.size (.slice none 0 0) false := by rw [hw3]; exact blk_new (w2.drewN m4) _
      have b3 : Below w2.heap.size w2 w3 := by rw [hw3]; exact below_alloc (pw_below_drewN (Below.refl _ _) _) _
      have b4 : Below w.heap.size w w3 := hb3.out.trans (b3.mono hb3.out.size)
      have le2 := hb3.out.size
      have Z3 := Aside0.mk z3
      have M3 := Aside0.mk m3
      have B4 := Aside0.mk b4
      have LE := Aside0.mk le2
      replace hw3 := Aside0.mk hw3
      clear z3 m3 b3 b4 le2
      go_loopw [22] (fun i W => ∃ (x : Int) (v : Value), i = .int .i64 x ∧ 0 ≤ x ∧ x ≤ l.length ∧ Aside0 (Mk W w2.heap.size v false) ∧ Aside0 ((Kd.int .i64).R 3 W (w2.heap.size + 1) (fun k => w2.heap.size + 1 ≤ k) v (iotaTo l x)) ∧ Aside0 ((iotaTo l x).length ≤ 1048576) ∧ Aside0 (Kp (fun k => k = w2.heap.size ∨ w2.heap.size + 1 ≤ k) w3 W)) (fun i _ => l.length - (intOf i).toNat)
      case atStart => exact ⟨0, _, rfl, by omega, by omega, M3, ⟨Kd.R_nil _ _ _ _ _⟩, ⟨by simp [iotaTo]⟩, ⟨Kp.refl _ _⟩⟩
      case round =>
        obtain ⟨x, v, rfl, p0, p1, HM, HR3, HL, HK⟩ := hrel
        have HB : Below w.heap.size w wr := B4.out.trans (HK.out.below (fun k hk => ⟨by rw [Z3.out]; have := LE.out; omega, by have := LE.out; omega⟩))
        obtain ⟨A1, c1, rfl⟩ := Kd.R_slice HR3.out
        have hq1 := (Kd.R_reads' HR3.out).2.1
        have c0 : wr.cell? ⟨w2.heap.size, 0, none⟩ = some (.slice A1 (iotaTo l x).length c1) := blk_cell HM.out 0
        by_cases hlt : x < l.length
        · obtain ⟨ad1, e1, hc1⟩ := Kd.at_int (Kd.C_below HR.out HB) x p0 hlt
          subst e1
          have HS4 : Aside0 (w2.heap.size + 1 ≤ wr.heap.size) := ⟨by have := HK.out.size; rw [Z3.out] at this; exact this⟩
          replace HB := Aside0.mk HB
          have HMany := Aside0.mk (maker_many w2.heap.size _ false (w2.heap.size + 1) (fun k => w2.heap.size + 1 ≤ k) (iotaTo l x) 0 (rd l x) wr HM.out HR3.out (fun k hk => Nat.le_trans HS4.out hk) HS4.out HL.out)
          have hn0 := rd_any_false Hneg.out x p0 hlt
          by_cases hfull : 1048576 - ((iotaTo l x).length : Int) < rd l x
          · have hG : manyG (iotaTo l x) false 0 (rd l x) = (iotaTo l x, true) := by simp [manyG, hfull]
            have hy : RR = ([], 9) := by
              have h1 := iotaTo_mono l (x + 1) l.length (by omega) (by omega)
              rw [iotaTo_succ _ _ p0, List.length_append, upInts_length] at h1
              rw [hRR.out, if_neg (by omega)]
            replace hy := Aside0.mk hy
            rw [hG] at HMany
            clear hG hfull
            go_wp2_with ((with_reducible refine (HMany.out).mono ?_); rintro e w5 ⟨rfl, v5, M5, R5, K5⟩; replace R5 := Aside0.mk R5; replace K5 := Aside0.mk K5; have c5 : w5.cell? ⟨w2.heap.size, 1, none⟩ = some (.bool true) := blk_cell M5 1; replace M5 := Aside0.mk M5)
            go_ret2
            rw [hy.out]
            exact Ret2.nil 9 (HB.out.trans (K5.out.below (fun k hk => ⟨by have := HS4.out; have := LE.out; omega, by have := LE.out; omega⟩)))
          · have hG : manyG (iotaTo l x) false 0 (rd l x) = (iotaMid (iotaTo l x) (rd l x) 0, false) := by
              rw [show manyG (iotaTo l x) false 0 (rd l x) = (iotaTo l x ++ List.replicate (rd l x).toNat 0, false) by simp [manyG, hfull]]
              simp [iotaMid, upInts]
            have Hfull := Aside0.mk hfull
            rw [hG] at HMany
            clear hG hfull
            go_wp2_with ((with_reducible refine (HMany.out).mono ?_); rintro e w5 ⟨rfl, v5, M5, R5, K5⟩; replace R5 := Aside0.mk R5; replace K5 := Aside0.mk (HK.out.trans K5 (fun k hk => .inl hk)); have c5 : w5.cell? ⟨w2.heap.size, 1, none⟩ = some (.bool false) := blk_cell M5 1; replace M5 := Aside0.mk M5; clear c0 hq1)
            go_loopw [40] (fun i W => ∃ (y : Int) (v : Value), i = .int .i64 y ∧ 0 ≤ y ∧ y ≤ rd l x ∧ Aside0 (Mk W w2.heap.size v false) ∧ Aside0 ((Kd.int .i64).R 3 W (w2.heap.size + 1) (fun k => w2.heap.size + 1 ≤ k) v (iotaMid (iotaTo l x) (rd l x) y)) ∧ Aside0 (Kp (fun k => k = w2.heap.size ∨ w2.heap.size + 1 ≤ k) w3 W)) (fun i _ => (rd l x).toNat - (intOf i).toNat)
            case atStart => exact ⟨0, _, rfl, by omega, by omega, M5, R5, K5⟩
            case round =>
              obtain ⟨y, v, rfl, q0, q1, HM6, HR6, HK6⟩ := hrel
              by_cases hly : y < rd l x
              · have hlen := iotaMid_length (iotaTo l x) (rd l x) y q1
                obtain ⟨g, c6, e6, g1, g2, cl, g3⟩ := Kd.R_form HR6.out (by omega)
                subst e6
                have hx6 := Kd.R_celln 0 HR6.out ((((iotaTo l x).length : Nat) : Int) + y) (by omega) (by omega)
                obtain ⟨hx6, hf6⟩ := hx6
                have hP := Kd.R_putn HR6.out ((((iotaTo l x).length : Nat) : Int) + y) y
                rw [iotaMid_set _ _ _ q0 hly] at hP
                have c7 : wr.cell? ⟨w2.heap.size, 0, none⟩ = some (.slice (some ⟨g, 0, none⟩) (iotaMid (iotaTo l x) (rd l x) y).length c6) := blk_cell HM6.out 0
                have k1 : (((iotaTo l x).length : Int) + y) < ((iotaMid (iotaTo l x) (rd l x) y).length : Int) := by omega
                have k0 : 0 ≤ (((iotaTo l x).length : Int) + y) := by omega
                have kl := HL.out
                have kt : rd l x ≤ 1048576 := by have := Hfull.out; omega
                have w1 : wrap64 (((iotaTo l x).length : Int) + y) = ((iotaTo l x).length : Int) + y := by unfold wrap64; omega
                have w2' : wrap64 (y + 1) = y + 1 := by unfold wrap64; omega
                have HP := Aside0.mk hP
                have G1 := Aside0.mk g1
                have HLen := Aside0.mk hlen
                clear hP g1 g2 g3 hlen cl
                go_wp2
                go_roundw
                case rel =>
                  refine ⟨y + 1, _, rfl, by omega, by omega, ⟨blk_far HM6.out (by have := G1.out; simp only; omega) _⟩, ⟨?_⟩, ⟨HK6.out.setCell _ (.inl (.inr G1.out)) _⟩⟩
                  have h := HP.out
                  rwa [iotaMid_length _ _ _ (by omega), ← iotaMid_length _ _ y (by omega)]
                case measure => simp [intOf]; omega
              · have hy : y = rd l x := by omega
                have Hy := Aside0.mk hy
                clear hy
                go_wp2
                go_roundw
                case rel =>
                  have e8 : iotaMid (iotaTo l x) (rd l x) y = iotaTo l (x + 1) := by rw [iotaTo_succ _ _ p0, Hy.out]; simp [iotaMid]
                  refine ⟨x + 1, v, rfl, by omega, by omega, HM6, ⟨?_⟩, ⟨?_⟩, HK6⟩
                  · rw [← e8]; exact HR6.out
                  · rw [← e8, iotaMid_length _ _ _ q1]; have := Hfull.out; have := HL.out; omega
                case measure => simp [intOf]; omega
        · have hx : x = l.length := by omega
          have Hx := Aside0.mk hx
          clear hx
          have HD := Aside0.mk (list_done w2.heap.size A1 false (iotaTo l x).length c1 wr HM.out (by omega) (R_cap HR3.out))
          go_wp2_with ((with_reducible refine (HD.out).mono ?_); rintro e w6 ⟨rfl, hd3⟩)
          go_ret2
          obtain ⟨m, rfl⟩ := hd3
          have hy : RR = (iotaTo l x, 0) := by have h2 : (iotaTo l x).length ≤ 1048576 := HL.out; rw [Hx.out] at h2; rw [hRR.out, Hx.out, if_pos h2]
          refine ⟨_, by rw [hy]; rfl, ?_, pw_below_drewN HB _⟩
          rw [hy]
          exact Kd.V_mono (Kd.V_drewN (V_cut HR3.out) _) (fun k hk => by have := LE.out; omega)
    · simp only [if_true]
      have Hneg := Aside0.mk hneg
      clear hneg
      go_enter Tryd.func36, Tryd.ntmps36
      go_wp2_with fail
      refine (prim_words _ _ [l] _ _ (lit_rows_at _ _ (by simp) _ _ _ _ rfl (rows_of1 HS.out) (by simp))).mono ?_
      rw [← HE.out]
      rintro e w2 ⟨rfl, hb2⟩
      have hb3 : Below w.heap.size w w2 := (below_alloc (Below.refl _ _) _).trans (hb2.mono (by simp))
      replace hb3 := Aside0.mk hb3
      clear hb2
      have HB0 := Aside0.mk (prim_below0 A c l w2 (Kd.C_below HR.out hb3.out))
      go_wp2_with ((with_reducible refine (HB0.out).mono ?_); rw [Hneg.out]; rintro e w4 ⟨rfl, m4, rfl⟩)
      go_ret2
      exact Ret2.nil 14 (pw_below_drewN hb3.out _)
  · rw [if_neg h0]
    have z1 : (E != 0) = true := bne_iff_ne.mpr h0
    clear h0
    go_enter Tryd.func36, Tryd.ntmps36
    go_wp2_with fail
    refine (prim_words _ _ [l] _ _ (lit_rows_at _ _ (by simp) _ _ _ _ rfl (rows_of1 HS.out) (by simp))).mono ?_
    rw [← HE.out]
    rintro e w2 ⟨rfl, hb2⟩
    go_wp2
    go_ret2
    exact Ret2.nil E ((below_alloc (Below.refl _ _) _).trans (hb2.mono (by simp)))
end Go.Proofs.YtpimackoadfcmaaDoor.Hand
