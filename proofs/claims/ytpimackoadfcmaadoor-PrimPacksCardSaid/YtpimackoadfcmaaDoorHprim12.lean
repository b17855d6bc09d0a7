/- prim.Weave: lists woven, word by word, or the error that is told; new memory. -/
import Derived.Test.YtpimackoadfcmaaDoorHprim5
import Derived.Test.YtpimackoadfcmaaDoorHsl2
namespace Go.Proofs.YtpimackoadfcmaaDoor.Hand
open Go.RowKit Go.Proofs.YtpimackoadfcmaaDoorW.PrintWords Go.Proofs.YtpimackoadfcmaaDoorW.PrintLast Go.Proofs.YtpimackoadfcmaaDoorW.PrintMore
set_option linter.unusedVariables false
set_option linter.unusedSimpArgs false
attribute [local go_sem] Oper.semAt_some
def longOf (ls : List (List Int)) : Nat := (ls.getD 0 []).length
theorem longOf_le {ls : List (List Int)} (h : ∀ l ∈ ls, l.length ≤ 1048576) : longOf ls ≤ 1048576 := by
  unfold longOf
  cases ls with
  | nil => simp
  | cons l t => exact h l (by simp)
def fitW (ls : List (List Int)) : Bool := !(ls.any fun l => ((l.length : Int) != (longOf ls : Int)))
def weaveTo (ls : List (List Int)) (x : Int) : List Int := (List.range x.toNat).flatMap (fun (i : Nat) => ls.map (fun l => rd l (i : Int)))
theorem weaveTo_succ (ls : List (List Int)) (x : Int) (h0 : 0 ≤ x) : weaveTo ls (x + 1) = weaveTo ls x ++ ls.map (fun l => rd l x) := by
  unfold weaveTo
  have e : (x + 1).toNat = x.toNat + 1 := by omega
  have e2 : ((x.toNat : Nat) : Int) = x := by omega
  rw [e, List.range_succ, List.flatMap_append, List.flatMap_singleton, e2]
theorem weaveTo_length (ls : List (List Int)) (x : Int) : (weaveTo ls x).length = x.toNat * ls.length := by
  unfold weaveTo
  generalize x.toNat = n
  induction n with
  | zero => simp
  | succ n ih => rw [List.range_succ, List.flatMap_append, List.flatMap_singleton, List.length_append, ih, List.length_map, Nat.succ_mul]
/-- Behind y lists of the round x. -/
def weaveMid (ls : List (List Int)) (x y : Int) : List Int := weaveTo ls x ++ (ls.take y.toNat).map (fun l => rd l x)
theorem weaveMid_succ (ls : List (List Int)) (x y : Int) (h0 : 0 ≤ y) (h1 : y < ls.length) : weaveMid ls x (y + 1) = weaveMid ls x y ++ [rd (ls.getD y.toNat []) x] := by
  unfold weaveMid
  have e : (y + 1).toNat = y.toNat + 1 := by omega
  have hy : y.toNat < ls.length := by omega
  rw [e, List.take_add_one, List.getElem?_eq_getElem hy, List.map_append, List.append_assoc]
  simp [List.getD_eq_getElem?_getD, List.getElem?_eq_getElem hy]
theorem weaveMid_length (ls : List (List Int)) (x y : Int) (h0 : 0 ≤ y) (h1 : y ≤ ls.length) : (weaveMid ls x y).length = x.toNat * ls.length + y.toNat := by
  unfold weaveMid
  rw [List.length_append, weaveTo_length, List.length_map, List.length_take]
  omega
def prim_Weave.g (ls : List (List Int)) : List Int × Int := if wordsE ls (fitW ls) = 0 then (if 0 < longOf ls ∧ 1048576 / longOf ls < ls.length then ([], 9) else (weaveTo ls (longOf ls), 0)) else ([], wordsE ls (fitW ls))
theorem prim_Weave1 (A : Option Addr) (c : Nat) (l : List Int) (B : Nat) (n : Int) (w : World) (hc : w.cell? ⟨B, 0, none⟩ = some (.int .i64 n)) :
    Calls Tryd.prog 68 #[.slice A l.length c, .pointer (some ⟨B, 0, none⟩)] w fun e w' => e = .returned (.bool ((l.length : Int) != n)) ∧ Drawn0 w w' := by
  go_enter Tryd.func68, Tryd.ntmps68
  go_wp2
  go_ret
  exact ⟨rfl, ⟨0, rfl⟩⟩
set_option maxHeartbeats 4000000 in
set_option maxRecDepth 100000 in
theorem prim_Weave.run (A : Option Addr) (c : Nat) (ls : List (List Int)) (w : World) (hr : Kd.C (Kd.slice 3 (Kd.int .i64)) w A ls.length ls) (hc : ls.length ≤ c) :
    Calls Tryd.prog 27 #[.slice A ls.length c] w (Ret2 w (prim_Weave.g ls)) := by
  have HR := Aside0.mk hr
  have hml : ls.length ≤ 9223372036854775807 := hr.2.1
  obtain ⟨n, hn⟩ : ∃ n, n = longOf ls := ⟨_, rfl⟩
  have HN := Aside0.mk hn
  obtain ⟨RR, hRR⟩ : ∃ RR, RR = prim_Weave.g ls := ⟨_, rfl⟩
  rw [← hRR]
  replace hRR := Aside0.mk hRR
  have hfirst : 0 < ls.length → ∃ ad A0 c0, A = some ad ∧ (∀ W, Below w.heap.size w W → W.cell? (ad.add (0 : Int).toNat) = some (.slice A0 n c0)) := fun h => by
    obtain ⟨ad, A0, c0, e, h1, _, _⟩ := rows_at hr 0 (by omega) (by omega)
    refine ⟨ad, A0, c0, e, fun W hW => ?_⟩
    have h2 := pw_cell_below hW h1
    rw [hn]
    exact h2
  have Hfirst := Aside0.mk hfirst
  clear hr hn hfirst
  refine calls_of_marks Tryd.func27 rfl ?_
  simp only [Tryd.ntmps27, List.size_toArray, List.length_cons, List.length_nil, Nat.reduceAdd, Nat.reduceSub, Array.replicate_succ, Array.replicate_zero, List.push_toArray, List.append_toArray, List.nil_append, List.cons_append]
  by_cases hl : 0 < ls.length
  · have z1 : decide (0 < (ls.length : Int)) = true := decide_eq_true (by omega)
    obtain ⟨ad, A0, c0, e, hcell⟩ := Hfirst.out hl
    subst e
    have e0 : ad.add (0 : Int).toNat = ad := by simp [Addr.add]
    rw [e0] at hcell
    have hc1 := hcell _ (below_alloc (Below.refl w.heap.size w) (Obj.cells #[.int .i64 0] 3))
    clear hcell e0
    go_wp2_with fail
    obtain ⟨w1, hw1⟩ : ∃ w1 : World, w1 = w.alloc (Obj.cells #[.int .i64 (n : Int)] 3) := ⟨_, rfl⟩
    rw [← hw1]
    have b1 : Below w.heap.size w w1 := by rw [hw1]; exact below_alloc (Below.refl _ _) _
    have k1 : w1.heap[w.heap.size]? = some (.cells #[.int .i64 (n : Int)] 3 (0, 0)) := by rw [hw1]; exact blk_new w _
    replace hw1 := Aside0.mk hw1
    have HC := Aside0.mk (slices_ContainsFunc2 68 #[] #[.pointer (some ⟨w.heap.size, 0, none⟩)] (some ad) c ls (fun l => (l.length : Int) != (n : Int)) w1 Tryd.call68 (Kd.C_below HR.out b1) (fun x _ W hW A c hx hc => (prim_Weave1 A c x w.heap.size n W (pw_cell_below hW.below ((blk_cell k1 0).trans rfl))).mono fun e W' ⟨he, hd⟩ => ⟨he, drawn_trans hW hd⟩))
    have K1 := Aside0.mk k1
    have B1 := Aside0.mk b1
    clear k1 b1
    refine (HC.out).mono ?_
    rintro e w2 ⟨rfl, m2, rfl⟩
    have b2 : Below w.heap.size w (w1.drewN m2) := pw_below_drewN B1.out m2
    have k2 : (w1.drewN m2).heap[w.heap.size]? = some (.cells #[.int .i64 (n : Int)] 3 (0, 0)) := K1.out
    obtain ⟨w2, hw2⟩ : ∃ w2, w2 = w1.drewN m2 := ⟨_, rfl⟩
    rw [← hw2] at b2 k2 ⊢
    replace hw2 := Aside0.mk hw2
    have B2 := Aside0.mk b2
    have K2 := Aside0.mk k2
    have HWo := Aside0.mk (prim_words (some ad) c ls (!(ls.any fun l => (l.length : Int) != (n : Int))) w2 (Kd.C_below HR.out b2))
    clear b2 k2
    have hfit : (!(ls.any fun l => (l.length : Int) != (n : Int))) = fitW ls := by rw [HN.out]; rfl
    obtain ⟨E, hE⟩ : ∃ E, E = wordsE ls (!(ls.any fun l => (l.length : Int) != (n : Int))) := ⟨_, rfl⟩
    rw [← hE] at HWo
    rw [hfit] at hE
    replace hE := Aside0.mk hE
    replace hfit := Aside0.mk hfit
    by_cases h0 : E = 0
    · have z3 : (E != 0) = false := bne_eq_false_iff_eq.mpr h0
      have OK := wordsE_ok (hE.out.symm.trans h0)
      have hR1 : Aside0 (RR = if 0 < longOf ls ∧ 1048576 / longOf ls < ls.length then ([], 9) else (weaveTo ls (longOf ls), 0)) := ⟨by rw [hRR.out, prim_Weave.g, ← hE.out, if_pos h0]⟩
      rw [← HN.out] at hR1
      replace OK := Aside0.mk OK
      clear h0
      by_cases hn0 : 0 < n
      · have z4 : decide (0 < (n : Int)) = true := decide_eq_true (by omega)
        have hdiv : (1048576 : Int) / (n : Int) = ((1048576 / n : Nat) : Int) := by simp
        by_cases hq : 1048576 / n < ls.length
        · have z5 : decide ((1048576 : Int) / (n : Int) < (ls.length : Int)) = true := decide_eq_true (by rw [hdiv]; omega)
          have hRE : Aside0 (RR = ([], 9)) := ⟨by rw [hR1.out, if_pos ⟨hn0, hq⟩]⟩
          clear hq hdiv
          go_wp2_with ((with_reducible refine (HWo.out).mono ?_); rintro e w3 ⟨rfl, hb3⟩; have k3 := blk_below K2.out hb3; have c3 : w3.cell? ⟨w.heap.size, 0, none⟩ = some (.int .i64 (n : Int)) := blk_cell k3 0; have c4 := pw_cell_below (below_alloc (Below.refl w3.heap.size w3) (Obj.cells #[Value.slice none 0 0, Value.bool false] 61)) c3; have b3 : Below w.heap.size w w3 := B2.out.trans (hb3.mono B2.out.size); replace k3 := Aside0.mk k3; replace b3 := Aside0.mk b3; replace hb3 := Aside0.mk hb3)
          refine Marks.zero _ (results_tmp2 rfl _ _ _) ?_
          rw [hRE.out]
          exact Ret2.nil 9 b3.out
        · have z5 : decide ((1048576 : Int) / (n : Int) < (ls.length : Int)) = false := decide_eq_false (by rw [hdiv]; omega)
          have hRE : Aside0 (RR = (weaveTo ls n, 0)) := ⟨by rw [hR1.out, if_neg (fun h => hq h.2)]⟩
          have hprod : Aside0 (n * ls.length ≤ 1048576) := ⟨by
            have h1 : ls.length ≤ 1048576 / n := by omega
            exact Nat.le_trans (Nat.mul_le_mul_left n h1) (Nat.mul_div_le _ _)⟩
          clear hq hdiv
          go_wp2_with ((with_reducible refine (HWo.out).mono ?_); rintro e w3 ⟨rfl, hb3⟩; have k3 := blk_below K2.out hb3; have c3 : w3.cell? ⟨w.heap.size, 0, none⟩ = some (.int .i64 (n : Int)) := blk_cell k3 0; have c4 := pw_cell_below (below_alloc (Below.refl w3.heap.size w3) (Obj.cells #[Value.slice none 0 0, Value.bool false] 61)) c3; have b3 : Below w.heap.size w w3 := B2.out.trans (hb3.mono B2.out.size); replace k3 := Aside0.mk k3; replace b3 := Aside0.mk b3; replace hb3 := Aside0.mk hb3)
          obtain ⟨w4, hw4⟩ : ∃ w4 : World, w4 = w3.alloc (Obj.cells #[Value.slice none 0 0, Value.bool false] 61) := ⟨_, rfl⟩
          rw [← hw4] at c4 ⊢
          have s4 : w4.heap.size = w3.heap.size + 1 := by rw [hw4]; simp
          have m4 : Mk w4 w3.heap.size (.slice none 0 0) false := by rw [hw4]; exact blk_new w3 _
          have b4 : Below w.heap.size w w4 := b3.out.trans (by rw [hw4]; exact (below_alloc (Below.refl w3.heap.size w3) _).mono b3.out.size)
          have S4 := Aside0.mk s4
          have M4 := Aside0.mk m4
          have B4 := Aside0.mk b4
          have LE := Aside0.mk b3.out.size
          replace hw4 := Aside0.mk hw4
          have hnb : n ≤ 1048576 := by rw [HN.out]; exact longOf_le OK.out.1
          clear s4 m4 b4 c3 c4
          go_loopw [40] (fun i W => ∃ (x : Int) (v : Value), i = .int .i64 x ∧ 0 ≤ x ∧ x ≤ n ∧ Aside0 (Mk W w3.heap.size v false) ∧ Aside0 ((Kd.int .i64).R 3 W (w3.heap.size + 1) (fun k => w3.heap.size + 1 ≤ k) v (weaveTo ls x)) ∧ Aside0 (Kp (fun k => k = w3.heap.size ∨ w3.heap.size + 1 ≤ k) w4 W)) (fun i _ => n - (intOf i).toNat)
          case atStart => exact ⟨0, _, rfl, by omega, by omega, M4, ⟨Kd.R_nil _ _ _ _ _⟩, ⟨Kp.refl _ _⟩⟩
          case round =>
            obtain ⟨x, v, rfl, p0, p1, HM, HR3, HK⟩ := hrel
            by_cases hlt : x < n
            · have hxl : Aside0 (x.toNat * ls.length + ls.length ≤ 1048576) := ⟨by
                have h1 : x.toNat + 1 ≤ n := by omega
                have h2 := Nat.mul_le_mul_right ls.length h1
                rw [Nat.succ_mul] at h2
                exact Nat.le_trans h2 hprod.out⟩
              replace HR3 : Aside0 ((Kd.int .i64).R 3 wr (w3.heap.size + 1) (fun k => w3.heap.size + 1 ≤ k) v (weaveMid ls x 0)) := ⟨by simpa [weaveMid] using HR3.out⟩
              go_wp2
              go_loopw [45] (fun i W => ∃ (y : Int) (v : Value), i = .int .i64 y ∧ 0 ≤ y ∧ y ≤ ls.length ∧ Aside0 (Mk W w3.heap.size v false) ∧ Aside0 ((Kd.int .i64).R 3 W (w3.heap.size + 1) (fun k => w3.heap.size + 1 ≤ k) v (weaveMid ls x y)) ∧ Aside0 (Kp (fun k => k = w3.heap.size ∨ w3.heap.size + 1 ≤ k) w4 W)) (fun i _ => ls.length - (intOf i).toNat)
              case atStart => exact ⟨0, _, rfl, by omega, by omega, HM, HR3, HK⟩
              case round =>
                obtain ⟨y, v, rfl, q0, q1, HM6, HR6, HK6⟩ := hrel
                by_cases hly : y < ls.length
                · have HB : Below w.heap.size w wr := B4.out.trans (HK6.out.below (fun k hk => ⟨by rw [S4.out]; have := LE.out; omega, by have := LE.out; omega⟩))
                  obtain ⟨ad2, A2, c2, e2, hx2, hl2, hc2⟩ := rows_at HR.out y q0 hly
                  replace hx2 := pw_cell_below HB hx2
                  obtain ⟨l, hl⟩ : ∃ l, l = ls.getD y.toNat [] := ⟨_, rfl⟩
                  rw [← hl] at hx2 hl2 hc2
                  have hlen : l.length = n := by
                    have hm := getD_mem_rows ls y q0 hly
                    rw [← hl] at hm
                    have hf := OK.out.2.2
                    rw [← hfit.out, Bool.not_eq_true', List.any_eq_false] at hf
                    have := hf l hm
                    have h2 : (l.length : Int) = (n : Int) := by simpa using this
                    omega
                  obtain ⟨ad3, e3, hx3⟩ := Kd.at_int hc2 x p0 (by omega)
                  cases e2
                  cases e3
                  have hx4 : x < (l.length : Int) := by omega
                  have hwl := weaveMid_length ls x y q0 q1
                  have hws := weaveMid_succ ls x y q0 hly
                  rw [← hl] at hws
                  have HS4 : Aside0 (w3.heap.size + 1 ≤ wr.heap.size) := ⟨by have := HK6.out.size; rw [S4.out] at this; exact this⟩
                  have hlt3 := Aside0.mk (World.block_lt_of_cell? w _ hx3)
                  replace hx3 := pw_cell_below HB hx3
                  replace hl := Aside0.mk hl
                  replace hlen := Aside0.mk hlen
                  replace HB := Aside0.mk HB
                  replace hwl := Aside0.mk hwl
                  replace hws := Aside0.mk hws
                  have hM := Aside0.mk (show Mk wr.drew w3.heap.size v false from blk_drew HM6.out)
                  go_wp2
                  refine wp_region_any (by kernel_rfl) ?_
                  change wpAny _ _ _ _ _ _ _ wr.drew
                  refine region_any (fun W => W.cell? (ad3.add x.toNat) = some (.int .i64 (rd l x))) 7 [7, 8] (by kernel_rfl) (by kernel_rfl) (by kernel_rfl) rfl (fun _ _ _ h => h) hx3 ?_
                  simp only [List.take_succ_cons, List.take_zero]
                  refine Reads.step _ rfl (fun W hW => by go_simp; rfl) ?_
                  refine Reads.step _ rfl (fun W hW => by go_simp; rfl) ?_
                  refine Reads.step _ rfl (fun W hW => by go_simp; rfl) ?_
                  refine Reads.step _ rfl (fun W hW => by go_simp; rfl) ?_
                  refine Reads.step _ rfl (fun W hW => by go_simp; rfl) ?_
                  refine Reads.step _ rfl (fun W hW => by go_simp; rfl) ?_
                  refine Reads.step _ rfl (fun W hW => by go_simp; rfl) ?_
                  change Tail _ _ _ _ _ _ _
                  refine Tail.val rfl rfl (by go_simp; exact ⟨rfl, rfl⟩) ?s1 ?_
                  case s1 => exact pw_cell_below (below_drew (below_alloc (Below.refl _ _) _)) hx3
                  refine Tail.call rfl rfl (by go_simp; first | rfl | exact ⟨rfl, rfl⟩ | exact ⟨⟨rfl, rfl⟩, rfl⟩) (list_put w3.heap.size v false (w3.heap.size + 1) (fun k => w3.heap.size + 1 ≤ k) (weaveMid ls x y) [rd l x] _ _ _ (blk_drew (blk_alloc HM6.out _)) (Kd.R_drew (Kd.R_alloc HR6.out _)) (Kd.C_below (lit_ints _ _ [rd l x] _ rfl (by simp)) (below_drew (Below.refl _ _))) ?h1 ?h2 ?h3) ?h4
                  case h1 => intro k hk; have := HS4.out; simp at hk; omega
                  case h2 => have := HS4.out; simp; omega
                  case h3 => rw [hwl.out]; have := hxl.out; simp; omega
                  case h4 =>
                    rintro e W4 ⟨rfl, v4, M4', R4, K4⟩
                    have K5 : Kp (fun k => k = w3.heap.size ∨ some k = v.ownBlock) wr W4 := ((Kp.refl _ _).alloc _ |>.drew).trans K4 (fun k hk => .inl hk)
                    have K6 : Kp (fun k => k = w3.heap.size ∨ w3.heap.size + 1 ≤ k) wr W4 := K5.mono (fun k hk => hk.imp_right (fun e => HR6.out.1 k e.symm))
                    have n3 : ¬ ((ad3.add x.toNat).block = w3.heap.size ∨ w3.heap.size + 1 ≤ (ad3.add x.toNat).block) := by have := hlt3.out; have := LE.out; omega
                    refine ⟨_, rfl, K6.cell hx3 n3, ?_⟩
                    rw [← hws.out] at R4
                    have K7 := Aside0.mk (HK6.out.trans K6 (fun k hk => .inl hk))
                    replace M4' := Aside0.mk M4'
                    replace R4 := Aside0.mk R4
                    clear K4 K5 K6 n3
                    unfold Tail
                    go_wp2
                    go_roundw
                    case rel => exact ⟨y + 1, v4, rfl, by omega, by omega, M4', R4, K7⟩
                    case measure => simp [intOf]; omega
                · have hy : y = ls.length := by omega
                  have Hy := Aside0.mk hy
                  clear hy
                  go_wp2
                  go_roundw
                  case rel =>
                    have e8 : weaveMid ls x y = weaveTo ls (x + 1) := by rw [weaveTo_succ _ _ p0, Hy.out]; simp [weaveMid]
                    exact ⟨x + 1, v, rfl, by omega, by omega, HM6, ⟨by rw [← e8]; exact HR6.out⟩, HK6⟩
                  case measure => simp [intOf]; omega
            · have hx : x = n := by omega
              have Hx := Aside0.mk hx
              clear hx
              obtain ⟨A1, c1, rfl⟩ := Kd.R_slice HR3.out
              have hl1 := (Kd.R_reads' HR3.out).2.1
              have HD := Aside0.mk (list_done w3.heap.size A1 false (weaveTo ls x).length c1 wr HM.out (by omega) (R_cap HR3.out))
              go_wp2_with ((with_reducible refine (HD.out).mono ?_); rintro e w6 ⟨rfl, hd3⟩)
              refine Marks.zero _ (results_tmp2 rfl _ _ _) ?_
              obtain ⟨m, rfl⟩ := hd3
              have HB : Below w.heap.size w wr := B4.out.trans (HK.out.below (fun k hk => ⟨by rw [S4.out]; have := LE.out; omega, by have := LE.out; omega⟩))
              refine ⟨_, by rw [hRE.out]; rfl, ?_, pw_below_drewN HB _⟩
              rw [hRE.out, ← Hx.out]
              exact Kd.V_mono (Kd.V_drewN (V_cut HR3.out) _) (fun k hk => by have := LE.out; omega)
      · have z4 : decide (0 < (n : Int)) = false := decide_eq_false (by omega)
        have hn1 : n = 0 := by omega
        have hRE : Aside0 (RR = (weaveTo ls n, 0)) := ⟨by rw [hR1.out, if_neg (by omega)]⟩
        have hprod : Aside0 (n * ls.length ≤ 1048576) := ⟨by rw [hn1]; omega⟩
        clear hn1
        go_wp2_with ((with_reducible refine (HWo.out).mono ?_); rintro e w3 ⟨rfl, hb3⟩; have k3 := blk_below K2.out hb3; have c3 : w3.cell? ⟨w.heap.size, 0, none⟩ = some (.int .i64 (n : Int)) := blk_cell k3 0; have c4 := pw_cell_below (below_alloc (Below.refl w3.heap.size w3) (Obj.cells #[Value.slice none 0 0, Value.bool false] 61)) c3; have b3 : Below w.heap.size w w3 := B2.out.trans (hb3.mono B2.out.size); replace k3 := Aside0.mk k3; replace b3 := Aside0.mk b3; replace hb3 := Aside0.mk hb3)
        obtain ⟨w4, hw4⟩ : ∃ w4 : World, w4 = w3.alloc (Obj.cells #[Value.slice none 0 0, Value.bool false] 61) := ⟨_, rfl⟩
        rw [← hw4] at c4 ⊢
        have s4 : w4.heap.size = w3.heap.size + 1 := by rw [hw4]; simp
        have m4 : Mk w4 w3.heap.size (.slice none 0 0) false := by rw [hw4]; exact blk_new w3 _
        have b4 : Below w.heap.size w w4 := b3.out.trans (by rw [hw4]; exact (below_alloc (Below.refl w3.heap.size w3) _).mono b3.out.size)
        have S4 := Aside0.mk s4
        have M4 := Aside0.mk m4
        have B4 := Aside0.mk b4
        have LE := Aside0.mk b3.out.size
        replace hw4 := Aside0.mk hw4
        have hnb : n ≤ 1048576 := by rw [HN.out]; exact longOf_le OK.out.1
        clear s4 m4 b4 c3 c4
        go_loopw [40] (fun i W => ∃ (x : Int) (v : Value), i = .int .i64 x ∧ 0 ≤ x ∧ x ≤ n ∧ Aside0 (Mk W w3.heap.size v false) ∧ Aside0 ((Kd.int .i64).R 3 W (w3.heap.size + 1) (fun k => w3.heap.size + 1 ≤ k) v (weaveTo ls x)) ∧ Aside0 (Kp (fun k => k = w3.heap.size ∨ w3.heap.size + 1 ≤ k) w4 W)) (fun i _ => n - (intOf i).toNat)
        case atStart => exact ⟨0, _, rfl, by omega, by omega, M4, ⟨Kd.R_nil _ _ _ _ _⟩, ⟨Kp.refl _ _⟩⟩
        case round =>
          obtain ⟨x, v, rfl, p0, p1, HM, HR3, HK⟩ := hrel
          by_cases hlt : x < n
          · exfalso; omega
          · have hx : x = n := by omega
            have Hx := Aside0.mk hx
            clear hx
            obtain ⟨A1, c1, rfl⟩ := Kd.R_slice HR3.out
            have hl1 := (Kd.R_reads' HR3.out).2.1
            have HD := Aside0.mk (list_done w3.heap.size A1 false (weaveTo ls x).length c1 wr HM.out (by omega) (R_cap HR3.out))
            go_wp2_with ((with_reducible refine (HD.out).mono ?_); rintro e w6 ⟨rfl, hd3⟩)
            refine Marks.zero _ (results_tmp2 rfl _ _ _) ?_
            obtain ⟨m, rfl⟩ := hd3
            have HB : Below w.heap.size w wr := B4.out.trans (HK.out.below (fun k hk => ⟨by rw [S4.out]; have := LE.out; omega, by have := LE.out; omega⟩))
            refine ⟨_, by rw [hRE.out]; rfl, ?_, pw_below_drewN HB _⟩
            rw [hRE.out, ← Hx.out]
            exact Kd.V_mono (Kd.V_drewN (V_cut HR3.out) _) (fun k hk => by have := LE.out; omega)
    · have z3 : (E != 0) = true := bne_iff_ne.mpr h0
      have hRE : Aside0 (RR = ([], E)) := ⟨by rw [hRR.out, prim_Weave.g, ← hE.out, if_neg h0]⟩
      clear h0
      go_wp2_with ((with_reducible refine (HWo.out).mono ?_); rintro e w3 ⟨rfl, hb3⟩; replace hb3 := Aside0.mk hb3)
      refine Marks.zero _ (results_tmp2 rfl _ _ _) ?_
      rw [hRE.out]
      exact Ret2.nil E (B2.out.trans (hb3.out.mono B2.out.size))
  · obtain rfl : ls = [] := List.eq_nil_of_length_eq_zero (by omega)
    have hRE : Aside0 (RR = ([], 0)) := ⟨hRR.out⟩
    have HC := Aside0.mk (slices_ContainsFunc2 68 #[] #[.pointer (some ⟨w.heap.size, 0, none⟩)] A c [] (fun l => (l.length : Int) != (0 : Int)) (w.alloc (Obj.cells #[.int .i64 0] 3)) Tryd.call68 (Kd.C_below HR.out (below_alloc (Below.refl _ _) _)) (fun x hx => by cases hx))
    have HWo := Aside0.mk (fun m => prim_words A c [] true ((w.alloc (Obj.cells #[.int .i64 0] 3)).drewN m) (Kd.C_below HR.out (pw_below_drewN (below_alloc (Below.refl _ _) _) m)))
    rw [List.length_nil] at HC HWo ⊢
    clear hml hl
    go_wp2_with fail
    refine (HC.out).mono ?_
    rintro e w2 ⟨rfl, m2, rfl⟩
    have k2 : ((w.alloc (Obj.cells #[.int .i64 0] 3)).drewN m2).heap[w.heap.size]? = some (.cells #[.int .i64 0] 3 (0, 0)) := blk_new w _
    replace HWo := Aside0.mk (HWo.out m2)
    have B2 : Aside0 (Below w.heap.size w ((w.alloc (Obj.cells #[.int .i64 0] 3)).drewN m2)) := ⟨pw_below_drewN (below_alloc (Below.refl _ _) _) m2⟩
    generalize (w.alloc (Obj.cells #[.int .i64 0] 3)).drewN m2 = w2 at k2 HWo B2 ⊢
    have K2 := Aside0.mk k2
    clear k2
    rw [List.any_nil]
    go_wp2_with ((with_reducible refine (HWo.out).mono ?_); rintro e w3 ⟨rfl, hb3⟩; have k3 := blk_below K2.out hb3; have c3 : w3.cell? ⟨w.heap.size, 0, none⟩ = some (.int .i64 0) := blk_cell k3 0; have c4 := pw_cell_below (below_alloc (Below.refl w3.heap.size w3) (Obj.cells #[Value.slice none 0 0, Value.bool false] 61)) c3; have b3 : Below w.heap.size w w3 := B2.out.trans (hb3.mono B2.out.size); replace k3 := Aside0.mk k3; replace b3 := Aside0.mk b3; replace hb3 := Aside0.mk hb3)
    obtain ⟨w4, hw4⟩ : ∃ w4 : World, w4 = w3.alloc (Obj.cells #[Value.slice none 0 0, Value.bool false] 61) := ⟨_, rfl⟩
    rw [← hw4] at c4 ⊢
    have m4 : Mk w4 w3.heap.size (.slice none 0 0) false := by rw [hw4]; exact blk_new w3 _
    have b4 : Below w.heap.size w w4 := b3.out.trans (by rw [hw4]; exact (below_alloc (Below.refl w3.heap.size w3) _).mono b3.out.size)
    have M4 := Aside0.mk m4
    have B4 := Aside0.mk b4
    replace hw4 := Aside0.mk hw4
    clear m4 b4 c3 c4
    go_loopw [40] (fun i W => ∃ x : Int, i = .int .i64 x ∧ x = 0 ∧ Aside0 (Mk W w3.heap.size (.slice none 0 0) false) ∧ Aside0 (Below w.heap.size w W)) (fun i _ => 0)
    case atStart => exact ⟨0, rfl, rfl, M4, B4⟩
    case round =>
      obtain ⟨x, rfl, rfl, HM, HB⟩ := hrel
      have HD := Aside0.mk (list_done w3.heap.size none false 0 0 wr HM.out (by omega) (by omega))
      go_wp2_with ((with_reducible refine (HD.out).mono ?_); rintro e w6 ⟨rfl, hd3⟩)
      refine Marks.zero _ (results_tmp2 rfl _ _ _) ?_
      obtain ⟨m, rfl⟩ := hd3
      rw [hRE.out]
      exact Ret2.nil 0 (pw_below_drewN HB.out _)
end Go.Proofs.YtpimackoadfcmaaDoor.Hand
