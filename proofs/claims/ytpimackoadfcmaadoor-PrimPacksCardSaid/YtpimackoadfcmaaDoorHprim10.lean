/- prim.Merge: the words of two lists, as flags choose, or the error that is told; new memory. -/
import Derived.Test.YtpimackoadfcmaaDoorHprim5
import Derived.WalkMore
namespace Go.Proofs.YtpimackoadfcmaaDoor.Hand
open Go.RowKit Go.Proofs.YtpimackoadfcmaaDoorW.PrintWords Go.Proofs.YtpimackoadfcmaaDoorW.PrintLast Go.Proofs.YtpimackoadfcmaaDoorW.PrintMore
set_option linter.unusedVariables false
set_option linter.unusedSimpArgs false
attribute [local go_sem] Oper.semAt_some
/-- How many flags are set ahead of a place. -/
def cnt (f : List Int) (i : Nat) : Nat := ((List.range i).filter (fun (j : Nat) => rd f (j : Int) != 0)).length
theorem cnt_yes (f : List Int) (i : Nat) (h : (rd f (i : Int) != 0) = true) : cnt f (i + 1) = cnt f i + 1 := by
  unfold cnt
  rw [List.range_succ, List.filter_append, List.length_append]
  simp [List.filter_cons, h]
theorem cnt_no (f : List Int) (i : Nat) (h : (rd f (i : Int) != 0) = false) : cnt f (i + 1) = cnt f i := by
  unfold cnt
  rw [List.range_succ, List.filter_append, List.length_append]
  simp [List.filter_cons, h]
theorem cnt_le (f : List Int) (i : Nat) : cnt f i ≤ i := by
  unfold cnt
  exact Nat.le_trans (List.length_filter_le _ _) (by simp)
theorem cnt_step (f : List Int) (i : Nat) : cnt f i ≤ cnt f (i + 1) ∧ cnt f (i + 1) ≤ cnt f i + 1 := by
  cases h : (rd f (i : Int) != 0)
  · rw [cnt_no f i h]; omega
  · rw [cnt_yes f i h]; omega
theorem cnt_mono (f : List Int) (i k : Nat) : cnt f i ≤ cnt f (i + k) ∧ cnt f (i + k) ≤ cnt f i + k := by
  induction k with
  | zero => simp
  | succ k ih => have := cnt_step f (i + k); rw [← Nat.add_assoc]; omega
def mergeAt (f a b : List Int) (x : Int) : Int := if (rd f x != 0) = true then rd a (cnt f x.toNat : Int) else rd b ((x.toNat - cnt f x.toNat : Nat) : Int)
def fitM (f a b : List Int) : Bool := decide (a.length = cnt f f.length) && decide (b.length = f.length - cnt f f.length)
def prim_Merge.g (f a b : List Int) : List Int × Int := if wordsE [f, a, b] (fitM f a b) = 0 then (upTo (mergeAt f a b) f.length, 0) else ([], wordsE [f, a, b] (fitM f a b))
/-- A slice, of memory that was there at w. -/
def AdvOk (w : World) (A : Option Addr) (c : Nat) (l : List Int) : Prop := l.length ≤ c ∧ ∀ W, Below w.heap.size w W → (Kd.int .i64).C W A l.length l
theorem AdvOk.step {w : World} {A : Option Addr} {c : Nat} {l : List Int} (h : AdvOk w A c l) (hl : 0 < l.length) :
    ∃ A', AdvOk w A' (c - 1) (l.drop 1) ∧ ∀ W : World, (Instr.slice 22 (.slice A l.length c) (some (.int .i64 1)) none none).run Tryd.prog W = .ok (.slice A' (l.drop 1).length (c - 1)) W := by
  obtain ⟨i, hi, hs⟩ : ∃ i, Tryd.prog.info? 3 = some i ∧ i.size = 1 := by
    have h := infoInt
    cases hq : Tryd.prog.info? 3 with
    | none => rw [hq] at h; exact absurd h (by simp)
    | some i => rw [hq] at h; exact ⟨i, rfl, by simp at h; exact h.2.1⟩
  obtain ⟨A', h1, h2, h3⟩ := print_drop_of (P := Tryd.prog) (Value.int .i64) (0 : Int) 22 3 .i64 Tryd.underlying22 hi hs A c l 1 (by omega) (by omega) h.1
  exact ⟨A', ⟨h3, fun W hW => Kd.C_of_reads (d := (0 : Int)) (h1 := fun _ => rfl) (h2 W (Kd.reads_of_C (enc := Value.int .i64) (d := (0 : Int)) (h1 := fun _ => rfl) (h.2 W hW)))⟩, h1⟩
theorem rd_drop (l : List Int) (n : Nat) : rd (l.drop n) 0 = rd l (n : Int) := by simp [rd, rdOf]
set_option maxHeartbeats 4000000 in
set_option maxRecDepth 100000 in
theorem prim_Merge.run (A0 : Option Addr) (c0 : Nat) (f : List Int) (A1 : Option Addr) (c1 : Nat) (a : List Int) (A2 : Option Addr) (c2 : Nat) (b : List Int) (w : World) (hr0 : Kd.C (Kd.int .i64) w A0 f.length f) (hc0 : f.length ≤ c0) (hr1 : Kd.C (Kd.int .i64) w A1 a.length a) (hc1 : a.length ≤ c1) (hr2 : Kd.C (Kd.int .i64) w A2 b.length b) (hc2 : b.length ≤ c2) :
    Calls Tryd.prog 25 #[.slice A0 f.length c0, .slice A1 a.length c1, .slice A2 b.length c2] w (Ret2 w (prim_Merge.g f a b)) := by
  have HS0 := Aside0.mk (Sl.of hr0 hc0)
  have HS1 := Aside0.mk (Sl.of hr1 hc1)
  have HS2 := Aside0.mk (Sl.of hr2 hc2)
  have HA1 : Aside0 (AdvOk w A1 c1 a) := ⟨hc1, fun W hW => Kd.C_below hr1 hW⟩
  have HA2 : Aside0 (AdvOk w A2 c2 b) := ⟨hc2, fun W hW => Kd.C_below hr2 hW⟩
  have HR0 := Aside0.mk hr0
  have hml : f.length ≤ 9223372036854775807 := hr0.2.1
  clear hr0 hc0 hr1 hc1 hr2 hc2
  obtain ⟨RR, hRR⟩ : ∃ RR, RR = prim_Merge.g f a b := ⟨_, rfl⟩
  rw [← hRR]
  replace hRR := Aside0.mk hRR
  refine calls_of_marks Tryd.func25 rfl ?_
  simp only [Tryd.ntmps25, List.size_toArray, List.length_cons, List.length_nil, Nat.reduceAdd, Nat.reduceSub, Array.replicate_succ, Array.replicate_zero, List.push_toArray, List.append_toArray, List.nil_append, List.cons_append]
  go_wp2_with fail
  obtain ⟨w1, hw1⟩ : ∃ w1 : World, w1 = ((w.alloc (Obj.cells #[Value.slice A1 a.length c1] 22)).alloc (Obj.cells #[Value.slice A2 b.length c2] 22)).alloc (Obj.cells #[Value.int .i64 0] 3) := ⟨_, rfl⟩
  rw [← hw1]
  have s1 : w1.heap.size = w.heap.size + 3 := by rw [hw1]; simp
  have kA : w1.heap[w.heap.size]? = some (.cells #[.slice A1 a.length c1] 22 (0, 0)) := by rw [hw1]; exact blk_alloc (blk_alloc (blk_new w _) _) _
  have kB : w1.heap[w.heap.size + 1]? = some (.cells #[.slice A2 b.length c2] 22 (0, 0)) := by rw [hw1]; exact blk_alloc (blk_new_at (by simp) _) _
  have kN : w1.heap[w.heap.size + 1 + 1]? = some (.cells #[.int .i64 0] 3 (0, 0)) := by rw [hw1]; exact blk_new_at (by simp) _
  have b1 : Below w.heap.size w w1 := by rw [hw1]; exact below_alloc (below_alloc (below_alloc (Below.refl _ _) _) _) _
  replace hw1 := Aside0.mk hw1
  refine (prim_set _ _ A0 f.length c0 rfl).mono ?_
  rintro e w3 ⟨rfl, hw3⟩
  have b3 : Below w1.heap.size w1 w3 := by rw [hw3]; exact below_alloc (Below.refl _ _) _
  have s3 : w3.heap.size = w.heap.size + 4 := by rw [hw3]; simp; omega
  have f3 : w3.cell? ⟨w.heap.size + 3, 0, none⟩ = some (.slice A0 f.length c0) := by rw [hw3]; exact (blk_cell (blk_new_at s1 _) 0).trans rfl
  replace hw3 := Aside0.mk hw3
  replace kA := blk_below kA b3
  replace kB := blk_below kB b3
  replace kN := blk_below kN b3
  have b4 : Below w.heap.size w w3 := b1.trans (b3.mono b1.size)
  replace b1 := Aside0.mk b1
  replace b3 := Aside0.mk b3
  go_wp2
  refine wp_rangeSeq rfl Tryd.call91 (prim_set_it (w.heap.size + 3) A0 c0 f w.heap.size w3 f3 (fun W hW => Kd.C_below HR0.out (b4.trans hW)) b4.size) (Below.refl _ _) b4.size (setL_size f)
    (fun i W => W.heap[w.heap.size + 1 + 1]? = some (.cells #[.int .i64 (cnt f i : Int)] 3 (0, 0)) ∧ W.heap[w.heap.size]? = some (.cells #[.slice A1 a.length c1] 22 (0, 0)) ∧ W.heap[w.heap.size + 1]? = some (.cells #[.slice A2 b.length c2] 22 (0, 0)) ∧ Below w.heap.size w W) (fun _ _ => False) ?own ?ownx ?start
    ?round ?done ?stop
  case own =>
    rintro i W1 W2 row ⟨h1, h2, h3, h4⟩ hg hr
    exact ⟨blk_own h1 hg (fun r e => (hr r e).2), blk_own h2 hg (fun r e => (hr r e).2), blk_own h3 hg (fun r e => (hr r e).2), (Kp.ofBelow (S := fun _ => False) h4).own hg (fun r e => .inr (by have := (hr r e).1; have := b4.size; omega)) |>.below (fun k hk => ⟨hk, fun h => h⟩)⟩
  case ownx => exact fun _ _ _ _ h _ _ => h.elim
  case start => exact ⟨kN, kA, kB, b4⟩
  case stop => exact fun _ _ _ _ h _ => h.elim
  case round =>
    intro lp i args W hi hI K hK
    obtain ⟨hlt, rfl⟩ := setL_get hi
    clear hI
    replace hK := Aside0.mk hK
    gi_wp2
    refine hK.out _ ?_
    rintro W2 ⟨hN, hA, hB, hW⟩
    have cN := blk_cell hN 0
    have fN := blk_frozen hN 0
    have cl := cnt_le f i
    have cw : wrap64 ((cnt f i : Int) + 1) = (cnt f i : Int) + 1 := by unfold wrap64; omega
    have HN := Aside0.mk hN
    have HA := Aside0.mk hA
    have HB := Aside0.mk hB
    have HW := Aside0.mk hW
    clear hN hA hB hW
    by_cases hz : (rd f (i : Int) != 0) = true
    · have cy := Aside0.mk (cnt_yes f i hz)
      gi_wp2
      refine ⟨Kp.keepsFrom (S := fun k => k = w.heap.size + 1 + 1) ((Kp.refl (fun k => k = w.heap.size + 1 + 1) W2).setCell ⟨w.heap.size + 1 + 1, 0, none⟩ (.inl rfl) _) (fun k hk _ => by rw [hk]; exact ⟨_, _, _, HN.out⟩), ?_, ?_, blk_far HA.out (by simp only; omega) _, blk_far HB.out (by simp only; omega) _, ?_⟩
      · exact ((Kp.refl (fun k => k = w.heap.size + 1 + 1) W2).setCell ⟨w.heap.size + 1 + 1, 0, none⟩ (.inl rfl) _).below (fun k hk => ⟨by have := HW.out.size; omega, by omega⟩)
      · have h := blk_set HN.out 0 (.int .i64 ((cnt f i : Int) + 1))
        rw [cy.out]
        exact h
      · exact HW.out.trans (((Kp.refl (fun k => k = w.heap.size + 1 + 1) W2).setCell ⟨w.heap.size + 1 + 1, 0, none⟩ (.inl rfl) _).below (fun k hk => ⟨by have := HW.out.size; omega, by omega⟩))
    · have hz2 : (rd f (i : Int) != 0) = false := by simpa using hz
      have cy := Aside0.mk (cnt_no f i hz2)
      gi_wp2
      refine ⟨keepsFrom_below (Below.refl _ _), Below.refl _ _, ?_, HA.out, HB.out, HW.out⟩
      rw [cy.out]
      exact HN.out
  case done =>
    rintro D W hD ⟨h1, h2, h3, h4⟩ hd
    rw [setL_length] at h1
    obtain ⟨n, hn⟩ : ∃ n, n = cnt f f.length := ⟨_, rfl⟩
    rw [← hn] at h1
    have hnl : n ≤ f.length := by rw [hn]; exact cnt_le _ _
    have cw : wrap64 ((f.length : Int) - (n : Int)) = (f.length : Int) - (n : Int) := by unfold wrap64; omega
    have cN := blk_cell h1 0
    have cA := blk_cell h2 0
    have cB := blk_cell h3 0
    have hlit : ∀ (g : Nat) (v : Value), W.cell? ⟨g, 0, none⟩ = some v → (W.alloc (Obj.cells #[Value.slice A0 f.length c0, Value.slice A1 a.length c1, Value.slice A2 b.length c2] 22)).cell? ⟨g, 0, none⟩ = some v := fun g v hv => pw_cell_below (below_alloc (Below.refl _ _) _) hv
    have cN' := hlit _ _ cN
    have cA' := hlit _ _ cA
    have cB' := hlit _ _ cB
    clear hlit
    have hD2 := Nat.le_trans b4.size hD
    replace h1 := Aside0.mk h1
    replace h2 := Aside0.mk h2
    replace h3 := Aside0.mk h3
    replace h4 := Aside0.mk h4
    replace hd := Aside0.mk hd
    replace hn := Aside0.mk hn
    have HS0' := Aside0.mk (HS0.out.below h4.out)
    have HS1' := Aside0.mk (HS1.out.below h4.out)
    have HS2' := Aside0.mk (HS2.out.below h4.out)
    obtain ⟨E, hE⟩ : ∃ E, E = wordsE [f, a, b] (fitM f a b) := ⟨_, rfl⟩
    replace hE := Aside0.mk hE
    by_cases h0 : E = 0
    · have OK := wordsE_ok (hE.out.symm.trans h0)
      have hRE : Aside0 (RR = (upTo (mergeAt f a b) f.length, 0)) := ⟨by rw [hRR.out, prim_Merge.g, ← hE.out, if_pos h0]⟩
      have z1 : (E != 0) = false := bne_eq_false_iff_eq.mpr h0
      have y3 : fitM f a b = true := OK.2.2
      have e12 : a.length = n ∧ b.length = f.length - n := by have h := y3; unfold fitM at h; rw [← hn.out] at h; simpa using h
      have y1 : ((a.length : Int) == (n : Int)) = true := by rw [beq_iff_eq]; omega
      have y2 : ((b.length : Int) == (f.length : Int) - (n : Int)) = true := by rw [beq_iff_eq]; omega
      have hlf := OK.1 f (by simp)
      replace OK := Aside0.mk OK
      replace e12 := Aside0.mk e12
      clear h0
      go_wp2_with fail
      refine (prim_words _ _ [f, a, b] true _ (lit_rows_at _ _ rfl _ _ _ _ rfl (rows_of3 HS0'.out HS1'.out HS2'.out) (by simp))).mono ?_
      rw [← y3, ← hE.out]
      rintro e w4 ⟨rfl, hb2⟩
      have hd4 := blk_below (blk_alloc hd.out _) hb2
      have kA4 := blk_below (blk_alloc h2.out _) hb2
      have kB4 := blk_below (blk_alloc h3.out _) hb2
      have hW4 : Below w.heap.size w w4 := h4.out.trans (((below_alloc (Below.refl W.heap.size W) _).mono h4.out.size).trans (hb2.mono (by have := h4.out.size; simp; omega)))
      replace hb2 := Aside0.mk hb2
      replace hd4 := Aside0.mk hd4
      replace kA4 := Aside0.mk kA4
      replace kB4 := Aside0.mk kB4
      replace hW4 := Aside0.mk hW4
      clear h1 h2 h3 hd cN cA cB cN' cA' cB' kA kB kN f3
      go_wp2_with fail
      refine (prim_set _ _ A0 f.length c0 rfl).mono ?_
      rintro e w5 ⟨rfl, hw5⟩
      have s5 : w5.heap.size = w4.heap.size + 3 := by rw [hw5]; simp
      have m5 : Mk w5 w4.heap.size (.slice none 0 0) false := by rw [hw5]; exact blk_alloc (blk_alloc (blk_new w4 _) _) _
      have p5 : w5.heap[w4.heap.size + 1]? = some (.cells #[.pointer (some ⟨w4.heap.size, 0, none⟩)] 57 (0, 0)) := by rw [hw5]; exact blk_alloc (blk_new_at (by simp) _) _
      have f5 : w5.cell? ⟨w4.heap.size + 2, 0, none⟩ = some (.slice A0 f.length c0) := by
        rw [hw5]
        exact (blk_cell (blk_new_at (by simp) _) 0).trans rfl
      have b5 : Below w4.heap.size w4 w5 := by rw [hw5]; exact below_alloc (below_alloc (below_alloc (Below.refl _ _) _) _) _
      have a5 := blk_below kA4.out b5
      have c5 := blk_below kB4.out b5
      have d5 := blk_below hd4.out b5
      replace hw5 := Aside0.mk hw5
      have hb6 : Below w.heap.size w w5 := hW4.out.trans (b5.mono hW4.out.size)
      have hle := hW4.out.size
      have lA := blk_lt kA4.out
      have lB := blk_lt kB4.out
      have lD := blk_lt hd4.out
      go_wp2
      refine wp_rangeSeq rfl Tryd.call91 (prim_set_it (w4.heap.size + 2) A0 c0 f w.heap.size w5 f5 (fun W hW => Kd.C_below HR0.out (hb6.trans hW)) hb6.size) (Below.refl _ _) hb6.size (setL_size f)
        (fun i W => ∃ v Aa ca Ab cb, Mk W w4.heap.size v false ∧ (Kd.int .i64).R 3 W (w4.heap.size + 3) (fun k => w4.heap.size + 3 ≤ k) v (upTo (mergeAt f a b) i)
          ∧ W.heap[w.heap.size]? = some (.cells #[.slice Aa (a.drop (cnt f i)).length ca] 22 (0, 0)) ∧ W.heap[w.heap.size + 1]? = some (.cells #[.slice Ab (b.drop (i - cnt f i)).length cb] 22 (0, 0))
          ∧ AdvOk w Aa ca (a.drop (cnt f i)) ∧ AdvOk w Ab cb (b.drop (i - cnt f i)) ∧ Kp (fun k => (k = w4.heap.size ∨ w4.heap.size + 3 ≤ k) ∨ (k = w.heap.size ∨ k = w.heap.size + 1)) w5 W) (fun _ _ => False) ?own2 ?ownx2 ?start2
        ?round2 ?done2 ?stop2
      case own2 =>
        rintro i W1 W2 row ⟨v, Aa, ca, Ab, cb, h1, h2, h3, h4, h5, h6, h7⟩ hg hr
        exact ⟨v, Aa, ca, Ab, cb, blk_own h1 hg (fun r e => (hr r e).2), R_own h2 hg (fun r e => (hr r e).2), blk_own h3 hg (fun r e => (hr r e).2), blk_own h4 hg (fun r e => (hr r e).2), h5, h6, h7.own hg (fun r e => .inr (hr r e).1)⟩
      case ownx2 => exact fun _ _ _ _ h _ _ => h.elim
      case start2 => exact ⟨_, A1, c1, A2, c2, m5, Kd.R_nil _ _ _ _ _, a5, c5, HA1.out, HA2.out, Kp.refl _ _⟩
      case stop2 => exact fun _ _ _ _ h _ => h.elim
      case round2 =>
        intro l i args W hi hI K hK
        obtain ⟨hlt, rfl⟩ := setL_get hi
        clear hI
        replace hK := Aside0.mk hK
        gi_wp2
        refine hK.out _ ?_
        rintro W2 ⟨v, Aa, ca, Ab, cb, hM, hR, hA, hB, oA, oB, hK2⟩
        have cP : W2.cell? ⟨w4.heap.size + 1, 0, none⟩ = some (.pointer (some ⟨w4.heap.size, 0, none⟩)) := (blk_cell (hK2.blk p5 (by omega)) 0).trans rfl
        have cA : W2.cell? ⟨w.heap.size, 0, none⟩ = some (.slice Aa (a.drop (cnt f i)).length ca) := (blk_cell hA 0).trans rfl
        have cB : W2.cell? ⟨w.heap.size + 1, 0, none⟩ = some (.slice Ab (b.drop (i - cnt f i)).length cb) := (blk_cell hB 0).trans rfl
        have hW2 : Below w.heap.size w W2 := hb6.trans (hK2.below (fun k hk => ⟨by omega, by omega⟩))
        have HS : w4.heap.size + 3 ≤ W2.heap.size := by have := hK2.size; rw [s5] at this; exact this
        have lenA : (a.drop (cnt f i)).length = a.length - cnt f i := List.length_drop
        have lenB : (b.drop (i - cnt f i)).length = b.length - (i - cnt f i) := List.length_drop
        have cl := cnt_le f i
        have cm := cnt_mono f (i + 1) (f.length - (i + 1))
        have e13 : i + 1 + (f.length - (i + 1)) = f.length := by omega
        rw [e13, ← hn.out] at cm
        have e12' := e12.out
        by_cases hz : (rd f (i : Int) != 0) = true
        · have cy := cnt_yes f i hz
          have hpos : 0 < (a.drop (cnt f i)).length := by omega
          have CY := Aside0.mk (show (cnt f (i + 1)) = (cnt f i) + 1 by omega)
          have CZ := Aside0.mk (show (i + 1 - cnt f (i + 1)) = (i - cnt f i) by omega)
          clear lenA lenB cm cl cy e12' e13
          obtain ⟨lx, hlx⟩ : ∃ lx, lx = a.drop (cnt f i) := ⟨_, rfl⟩
          rw [← hlx] at hpos oA hA cA
          have hrd : rd lx 0 = rd a ((cnt f i) : Nat) := by rw [hlx, rd_drop]
          replace hlx := Aside0.mk hlx
          obtain ⟨ad, g1, hx⟩ := Kd.at_int (oA.2 W2 hW2) 0 (by omega) (by omega)
          obtain ⟨A', o', hrun⟩ := oA.step (by omega)
          cases g1
          have hy := Aside0.mk (World.block_lt_of_cell? w _ (Kd.at_int (oA.2 w (Below.refl _ _)) 0 (by omega) (by omega) |> fun h => by obtain ⟨ad2, e2, h2⟩ := h; cases e2; exact h2))
          have e0 : ad.add 0 = ad := by simp [Addr.add]
          rw [Int.toNat_zero, e0, hrd] at hx
          rw [Int.toNat_zero, e0] at hy
          clear e0 hrd
          have HRun := Aside0.mk hrun
          replace hM := Aside0.mk hM
          replace hR := Aside0.mk hR
          replace hA := Aside0.mk hA
          replace hB := Aside0.mk hB
          replace oA := Aside0.mk oA
          replace oB := Aside0.mk oB
          replace o' := Aside0.mk o'
          replace hK2 := Aside0.mk hK2
          replace hW2 := Aside0.mk hW2
          replace HS := Aside0.mk HS
          clear hK K hrun
          gi_wp2
          refine wpIn_region_any0 (by kernel_rfl) (by kernel_rfl) (fun _ _ h => h) ?_
          change wpAny _ _ _ _ _ _ _ W2.drew
          refine region_any (fun W => W.cell? ⟨w4.heap.size + 1, 0, none⟩ = some (.pointer (some ⟨w4.heap.size, 0, none⟩)) ∧ W.cell? ⟨w.heap.size, 0, none⟩ = some (.slice (some ad) lx.length ca) ∧ W.cell? (ad) = some (.int .i64 (rd a ((cnt f i) : Nat)))) 8 [8, 9] (by kernel_rfl) (by kernel_rfl) (by kernel_rfl) rfl (fun _ _ _ h => h) ⟨cP, cA, hx⟩ ?_
          simp only [List.take_succ_cons, List.take_zero]
          refine Reads.step _ rfl (fun W hW => by obtain ⟨k1, k2, k3⟩ := hW; go_simp; rfl) ?_
          refine Reads.step _ rfl (fun W hW => by obtain ⟨k1, k2, k3⟩ := hW; go_simp; rfl) ?_
          refine Reads.step _ rfl (fun W hW => by obtain ⟨k1, k2, k3⟩ := hW; go_simp; rfl) ?_
          refine Reads.step _ rfl (fun W hW => by obtain ⟨k1, k2, k3⟩ := hW; go_simp; rfl) ?_
          refine Reads.step _ rfl (fun W hW => by obtain ⟨k1, k2, k3⟩ := hW; go_simp; rfl) ?_
          refine Reads.step _ rfl (fun W hW => by obtain ⟨k1, k2, k3⟩ := hW; go_simp; rfl) ?_
          refine Reads.step _ rfl (fun W hW => by obtain ⟨k1, k2, k3⟩ := hW; go_simp; rfl) ?_
          refine Reads.step _ rfl (fun W hW => by obtain ⟨k1, k2, k3⟩ := hW; go_simp; rfl) ?_
          change Tail _ _ _ _ _ _ _
          refine Tail.val rfl rfl (by go_simp; exact ⟨rfl, rfl⟩) ?s1 ?_
          case s1 => exact ⟨pw_cell_below (below_drew (below_alloc (Below.refl _ _) _)) cP, pw_cell_below (below_drew (below_alloc (Below.refl _ _) _)) cA, pw_cell_below (below_drew (below_alloc (Below.refl _ _) _)) hx⟩
          refine Tail.call rfl rfl (by go_simp; first | rfl | exact ⟨rfl, rfl⟩ | exact ⟨⟨rfl, rfl⟩, rfl⟩) (list_put w4.heap.size v false (w4.heap.size + 3) (fun k => w4.heap.size + 3 ≤ k) (upTo (mergeAt f a b) i) [rd a ((cnt f i) : Nat)] _ _ _ (blk_drew (blk_alloc hM.out _)) (Kd.R_drew (Kd.R_alloc hR.out _)) (Kd.C_below (lit_ints _ _ [rd a ((cnt f i) : Nat)] _ rfl (by simp)) (below_drew (Below.refl _ _))) ?h1 ?h2 ?h3) ?h4
          case h1 => intro k hk; have := HS.out; simp at hk; omega
          case h2 => have := HS.out; simp; omega
          case h3 => rw [upTo_length]; simp; omega
          case h4 =>
            rintro e W4 ⟨rfl, v4, M4, R4, K4⟩
            have hS : ∀ k, (k = w4.heap.size ∨ some k = v.ownBlock) → k = w4.heap.size ∨ w4.heap.size + 3 ≤ k := fun k hk => hk.imp_right (fun e => hR.out.1 k e.symm)
            have K5 : Kp (fun k => k = w4.heap.size ∨ some k = v.ownBlock) W2 W4 := ((Kp.refl _ _).alloc _ |>.drew).trans K4 (fun k hk => .inl hk)
            have K6 : Kp (fun k => k = w4.heap.size ∨ w4.heap.size + 3 ≤ k) W2 W4 := K5.mono hS
            have nP : ¬ (w4.heap.size + 1 = w4.heap.size ∨ w4.heap.size + 3 ≤ w4.heap.size + 1) := by omega
            have nX : ¬ (w.heap.size = w4.heap.size ∨ w4.heap.size + 3 ≤ w.heap.size) := by omega
            have nY : ¬ (w.heap.size + 1 = w4.heap.size ∨ w4.heap.size + 3 ≤ w.heap.size + 1) := by omega
            have nE : ¬ (ad.block = w4.heap.size ∨ w4.heap.size + 3 ≤ ad.block) := by have := hy.out; omega
            refine ⟨_, rfl, ⟨K6.cell cP nP, K6.cell cA nX, K6.cell hx nE⟩, ?_⟩
            have X4 := K6.blk hA.out nX
            have Y4 := K6.blk hB.out nY
            have cX4 := blk_cell X4 0
            have fX4 := blk_frozen X4 0
            have hrun := HRun.out W4
            replace X4 := Aside0.mk X4
            replace Y4 := Aside0.mk Y4
            replace M4 := Aside0.mk M4
            replace R4 := Aside0.mk R4
            replace K4 := Aside0.mk K4
            replace K5 := Aside0.mk K5
            replace K6 := Aside0.mk K6
            replace nX := Aside0.mk nX
            replace nP := Aside0.mk nP
            replace nY := Aside0.mk nY
            replace nE := Aside0.mk nE
            clear hS
            unfold Tail
            gi_wp2
            have hS : ∀ k, (k = w4.heap.size ∨ some k = v.ownBlock) ∨ k = w.heap.size → (k = w4.heap.size ∨ w4.heap.size + 3 ≤ k) ∨ (k = w.heap.size ∨ k = w.heap.size + 1) := fun k hk => hk.imp (fun h => h.imp_right (fun e => hR.out.1 k e.symm)) (fun h => .inl h)
            have K7 : Kp (fun k => (k = w4.heap.size ∨ some k = v.ownBlock) ∨ k = w.heap.size) W2 (W4.setCell ⟨w.heap.size, 0, none⟩ (Value.slice A' (lx.length - 1) (ca - 1))) := (K5.out.mono (fun k h => .inl h)).setCell _ (.inl (.inr rfl)) _
            have hlen : lx.length - 1 = (a.drop (cnt f (i + 1))).length := by rw [hlx.out, CY.out]; simp only [List.length_drop]; omega
            have hdr : lx.drop 1 = a.drop (cnt f (i + 1)) := by rw [hlx.out, CY.out, List.drop_drop]
            have hmg : mergeAt f a b (i : Int) = rd a ((cnt f i) : Nat) := by unfold mergeAt; rw [if_pos hz]; rfl
            refine ⟨K7.keepsFrom ?_, K7.below ?_, v4, A', ca - 1, Ab, cb, ?_, ?_, ?_, ?_, ?_, ?_, hK2.out.trans K7 (fun k hk => .inl (hS k hk))⟩
            · rintro k ((rfl | hk) | rfl) _
              · exact ⟨_, _, _, hM.out⟩
              · exact (R_cells hR.out hk).2.2
              · exact ⟨_, _, _, hA.out⟩
            · intro k hk
              exact ⟨by have := hW2.out.size; omega, fun h => by have := hS k h; omega⟩
            · exact blk_far M4.out (by simp only; omega) _
            · have R5 := Kd.R_far R4.out (p := ⟨w.heap.size, 0, none⟩) (fun k hk => by simp only; omega) (Value.slice A' (lx.length - 1) (ca - 1))
              rw [← hmg, ← upTo_succ _ _ (by omega)] at R5
              have e5 : ((i + 1 : Nat) : Int) = (i : Int) + 1 := by omega
              rw [e5]
              exact R5
            · have h := blk_set X4.out 0 (Value.slice A' (lx.length - 1) (ca - 1))
              rw [hlen] at h
              rw [hlen]
              exact h
            · rw [CZ.out]
              exact blk_far Y4.out (by simp only; omega) _
            · rw [← hdr]; exact o'.out
            · rw [CZ.out]; exact oB.out
        · have hz2 : (rd f (i : Int) != 0) = false := by simpa using hz
          have cy := cnt_no f i hz2
          have hpos : 0 < (b.drop (i - cnt f i)).length := by omega
          have CY := Aside0.mk (show (i + 1 - cnt f (i + 1)) = (i - cnt f i) + 1 by omega)
          have CZ := Aside0.mk (show (cnt f (i + 1)) = (cnt f i) by omega)
          clear lenA lenB cm cl cy e12' e13
          obtain ⟨lx, hlx⟩ : ∃ lx, lx = b.drop (i - cnt f i) := ⟨_, rfl⟩
          rw [← hlx] at hpos oB hB cB
          have hrd : rd lx 0 = rd b ((i - cnt f i) : Nat) := by rw [hlx, rd_drop]
          replace hlx := Aside0.mk hlx
          obtain ⟨ad, g1, hx⟩ := Kd.at_int (oB.2 W2 hW2) 0 (by omega) (by omega)
          obtain ⟨A', o', hrun⟩ := oB.step (by omega)
          cases g1
          have hy := Aside0.mk (World.block_lt_of_cell? w _ (Kd.at_int (oB.2 w (Below.refl _ _)) 0 (by omega) (by omega) |> fun h => by obtain ⟨ad2, e2, h2⟩ := h; cases e2; exact h2))
          have e0 : ad.add 0 = ad := by simp [Addr.add]
          rw [Int.toNat_zero, e0, hrd] at hx
          rw [Int.toNat_zero, e0] at hy
          clear e0 hrd
          have HRun := Aside0.mk hrun
          replace hM := Aside0.mk hM
          replace hR := Aside0.mk hR
          replace hA := Aside0.mk hA
          replace hB := Aside0.mk hB
          replace oA := Aside0.mk oA
          replace oB := Aside0.mk oB
          replace o' := Aside0.mk o'
          replace hK2 := Aside0.mk hK2
          replace hW2 := Aside0.mk hW2
          replace HS := Aside0.mk HS
          clear hK K hrun
          gi_wp2
          refine wpIn_region_any0 (by kernel_rfl) (by kernel_rfl) (fun _ _ h => h) ?_
          change wpAny _ _ _ _ _ _ _ W2.drew
          refine region_any (fun W => W.cell? ⟨w4.heap.size + 1, 0, none⟩ = some (.pointer (some ⟨w4.heap.size, 0, none⟩)) ∧ W.cell? ⟨w.heap.size + 1, 0, none⟩ = some (.slice (some ad) lx.length cb) ∧ W.cell? (ad) = some (.int .i64 (rd b ((i - cnt f i) : Nat)))) 8 [8, 9] (by kernel_rfl) (by kernel_rfl) (by kernel_rfl) rfl (fun _ _ _ h => h) ⟨cP, cB, hx⟩ ?_
          simp only [List.take_succ_cons, List.take_zero]
          refine Reads.step _ rfl (fun W hW => by obtain ⟨k1, k2, k3⟩ := hW; go_simp; rfl) ?_
          refine Reads.step _ rfl (fun W hW => by obtain ⟨k1, k2, k3⟩ := hW; go_simp; rfl) ?_
          refine Reads.step _ rfl (fun W hW => by obtain ⟨k1, k2, k3⟩ := hW; go_simp; rfl) ?_
          refine Reads.step _ rfl (fun W hW => by obtain ⟨k1, k2, k3⟩ := hW; go_simp; rfl) ?_
          refine Reads.step _ rfl (fun W hW => by obtain ⟨k1, k2, k3⟩ := hW; go_simp; rfl) ?_
          refine Reads.step _ rfl (fun W hW => by obtain ⟨k1, k2, k3⟩ := hW; go_simp; rfl) ?_
          refine Reads.step _ rfl (fun W hW => by obtain ⟨k1, k2, k3⟩ := hW; go_simp; rfl) ?_
          refine Reads.step _ rfl (fun W hW => by obtain ⟨k1, k2, k3⟩ := hW; go_simp; rfl) ?_
          change Tail _ _ _ _ _ _ _
          refine Tail.val rfl rfl (by go_simp; exact ⟨rfl, rfl⟩) ?s1 ?_
          case s1 => exact ⟨pw_cell_below (below_drew (below_alloc (Below.refl _ _) _)) cP, pw_cell_below (below_drew (below_alloc (Below.refl _ _) _)) cB, pw_cell_below (below_drew (below_alloc (Below.refl _ _) _)) hx⟩
          refine Tail.call rfl rfl (by go_simp; first | rfl | exact ⟨rfl, rfl⟩ | exact ⟨⟨rfl, rfl⟩, rfl⟩) (list_put w4.heap.size v false (w4.heap.size + 3) (fun k => w4.heap.size + 3 ≤ k) (upTo (mergeAt f a b) i) [rd b ((i - cnt f i) : Nat)] _ _ _ (blk_drew (blk_alloc hM.out _)) (Kd.R_drew (Kd.R_alloc hR.out _)) (Kd.C_below (lit_ints _ _ [rd b ((i - cnt f i) : Nat)] _ rfl (by simp)) (below_drew (Below.refl _ _))) ?h1 ?h2 ?h3) ?h4
          case h1 => intro k hk; have := HS.out; simp at hk; omega
          case h2 => have := HS.out; simp; omega
          case h3 => rw [upTo_length]; simp; omega
          case h4 =>
            rintro e W4 ⟨rfl, v4, M4, R4, K4⟩
            have hS : ∀ k, (k = w4.heap.size ∨ some k = v.ownBlock) → k = w4.heap.size ∨ w4.heap.size + 3 ≤ k := fun k hk => hk.imp_right (fun e => hR.out.1 k e.symm)
            have K5 : Kp (fun k => k = w4.heap.size ∨ some k = v.ownBlock) W2 W4 := ((Kp.refl _ _).alloc _ |>.drew).trans K4 (fun k hk => .inl hk)
            have K6 : Kp (fun k => k = w4.heap.size ∨ w4.heap.size + 3 ≤ k) W2 W4 := K5.mono hS
            have nP : ¬ (w4.heap.size + 1 = w4.heap.size ∨ w4.heap.size + 3 ≤ w4.heap.size + 1) := by omega
            have nX : ¬ (w.heap.size + 1 = w4.heap.size ∨ w4.heap.size + 3 ≤ w.heap.size + 1) := by omega
            have nY : ¬ (w.heap.size = w4.heap.size ∨ w4.heap.size + 3 ≤ w.heap.size) := by omega
            have nE : ¬ (ad.block = w4.heap.size ∨ w4.heap.size + 3 ≤ ad.block) := by have := hy.out; omega
            refine ⟨_, rfl, ⟨K6.cell cP nP, K6.cell cB nX, K6.cell hx nE⟩, ?_⟩
            have X4 := K6.blk hB.out nX
            have Y4 := K6.blk hA.out nY
            have cX4 := blk_cell X4 0
            have fX4 := blk_frozen X4 0
            have hrun := HRun.out W4
            replace X4 := Aside0.mk X4
            replace Y4 := Aside0.mk Y4
            replace M4 := Aside0.mk M4
            replace R4 := Aside0.mk R4
            replace K4 := Aside0.mk K4
            replace K5 := Aside0.mk K5
            replace K6 := Aside0.mk K6
            replace nX := Aside0.mk nX
            replace nP := Aside0.mk nP
            replace nY := Aside0.mk nY
            replace nE := Aside0.mk nE
            clear hS
            unfold Tail
            gi_wp2
            have hS : ∀ k, (k = w4.heap.size ∨ some k = v.ownBlock) ∨ k = w.heap.size + 1 → (k = w4.heap.size ∨ w4.heap.size + 3 ≤ k) ∨ (k = w.heap.size ∨ k = w.heap.size + 1) := fun k hk => hk.imp (fun h => h.imp_right (fun e => hR.out.1 k e.symm)) (fun h => .inr h)
            have K7 : Kp (fun k => (k = w4.heap.size ∨ some k = v.ownBlock) ∨ k = w.heap.size + 1) W2 (W4.setCell ⟨w.heap.size + 1, 0, none⟩ (Value.slice A' (lx.length - 1) (cb - 1))) := (K5.out.mono (fun k h => .inl h)).setCell _ (.inl (.inr rfl)) _
            have hlen : lx.length - 1 = (b.drop (i + 1 - cnt f (i + 1))).length := by rw [hlx.out, CY.out]; simp only [List.length_drop]; omega
            have hdr : lx.drop 1 = b.drop (i + 1 - cnt f (i + 1)) := by rw [hlx.out, CY.out, List.drop_drop]
            have hmg : mergeAt f a b (i : Int) = rd b ((i - cnt f i) : Nat) := by unfold mergeAt; rw [if_neg hz]; rfl
            refine ⟨K7.keepsFrom ?_, K7.below ?_, v4, Aa, ca, A', cb - 1, ?_, ?_, ?_, ?_, ?_, ?_, hK2.out.trans K7 (fun k hk => .inl (hS k hk))⟩
            · rintro k ((rfl | hk) | rfl) _
              · exact ⟨_, _, _, hM.out⟩
              · exact (R_cells hR.out hk).2.2
              · exact ⟨_, _, _, hB.out⟩
            · intro k hk
              exact ⟨by have := hW2.out.size; omega, fun h => by have := hS k h; omega⟩
            · exact blk_far M4.out (by simp only; omega) _
            · have R5 := Kd.R_far R4.out (p := ⟨w.heap.size + 1, 0, none⟩) (fun k hk => by simp only; omega) (Value.slice A' (lx.length - 1) (cb - 1))
              rw [← hmg, ← upTo_succ _ _ (by omega)] at R5
              have e5 : ((i + 1 : Nat) : Int) = (i : Int) + 1 := by omega
              rw [e5]
              exact R5
            · rw [CZ.out]
              exact blk_far Y4.out (by simp only; omega) _
            · have h := blk_set X4.out 0 (Value.slice A' (lx.length - 1) (cb - 1))
              rw [hlen] at h
              rw [hlen]
              exact h
            · rw [CZ.out]; exact oA.out
            · rw [← hdr]; exact o'.out
      case done2 =>
        rintro D2 W5 hD5 ⟨v, Aa, ca, Ab, cb, h1, h2, h3, h4, h5, h6, h7⟩ hd5
        have cP : W5.cell? ⟨w4.heap.size + 1, 0, none⟩ = some (.pointer (some ⟨w4.heap.size, 0, none⟩)) := (blk_cell (h7.blk p5 (by omega)) 0).trans rfl
        have hdD := h7.blk d5 (by have := s3; omega)
        have hne : D2 ≠ D := by omega
        obtain ⟨A9, c9, rfl⟩ := Kd.R_slice h2
        have hq := (Kd.R_reads' h2).2.1
        have H1 := Aside0.mk h1
        have H2 := Aside0.mk h2
        have H7 := Aside0.mk h7
        have HQ := Aside0.mk (list_done w4.heap.size A9 false _ c9 W5 h1 hq (R_cap h2))
        have HD := Aside0.mk hd5
        have HDD := Aside0.mk hdD
        replace hne := Aside0.mk hne
        clear h1 h2 h3 h4 h5 h6 h7 hq hd5 hdD
        go_wp2_with ((with_reducible refine (HQ.out).mono ?_); rintro e w6 ⟨rfl, m6, rfl⟩)
        have hd6 : (W5.drewN m6).heap[D2]? = some (.deferred (some [])) := HD.out
        have hd7 : (W5.drewN m6).heap[D]? = some (.deferred (some [])) := HDD.out
        refine Marks.two hd6 hd7 hne.out _ (results_tmp2 rfl _ _ _) ?_
        have r5 := R_own (Kd.R_drewN H2.out m6) (grownBy_putObj' (W5.drewN m6) D2 (.deferred none)) (fun r e => by cases e; exact ⟨_, hd6, rfl⟩)
        have r6 := R_own r5 (grownBy_putObj' ((W5.drewN m6).putObj D2 (.deferred none)) D (.deferred none)) (fun r e => by cases e; exact ⟨_, (World.putObj_heap_other (Ne.symm hne.out)).trans hd7, rfl⟩)
        have v5 := V_cut (base2 := w.heap.size) r6
        have hb5 : Below w.heap.size w (((W5.drewN m6).putObj D2 (.deferred none)).putObj D (.deferred none)) := ((pw_below_drewN (hb6.trans (H7.out.below (fun k hk => ⟨by have := hb6.size; omega, fun h => by omega⟩))) m6).trans (below_putObj (l := D2) (B := w.heap.size) (W5.drewN m6) (.deferred none) (by have := hb6.size; omega))).trans (below_putObj (l := D) (B := w.heap.size) ((W5.drewN m6).putObj D2 (.deferred none)) (.deferred none) (by omega))
        rw [setL_length] at v5
        refine ⟨_, by rw [hRE.out]; rfl, ?_, hb5⟩
        have v6 := Kd.V_mono v5 (ok' := fun k => w.heap.size ≤ k) (fun k hk => by omega)
        rw [hRE.out]
        simpa [setL_length] using v6
    · have hRE : Aside0 (RR = ([], E)) := ⟨by rw [hRR.out, prim_Merge.g, ← hE.out, if_neg h0]⟩
      have z1 : (E != 0) = true := bne_iff_ne.mpr h0
      clear h0
      by_cases e1 : a.length = n
      · by_cases e2 : b.length = f.length - n
        · have y1 : ((a.length : Int) == (n : Int)) = true := by rw [beq_iff_eq]; omega
          have y2 : ((b.length : Int) == (f.length : Int) - (n : Int)) = true := by rw [beq_iff_eq]; omega
          have y3 : fitM f a b = true := by unfold fitM; rw [← hn.out]; simp [e1, e2]
          clear e1 e2
          go_wp2_with fail
          refine (prim_words _ _ [f, a, b] true _ (lit_rows_at _ _ rfl _ _ _ _ rfl (rows_of3 HS0'.out HS1'.out HS2'.out) (by simp))).mono ?_
          rw [← y3, ← hE.out]
          rintro e w2 ⟨rfl, hb2⟩
          have hd2 := Aside0.mk (blk_below (blk_alloc hd.out _) hb2)
          replace hb2 := Aside0.mk hb2
          go_wp2
          refine Marks.one hd2.out _ (results_tmp2 rfl _ _ _) ?_
          rw [hRE.out]
          exact Ret2.nil E ((h4.out.trans (((below_alloc (Below.refl W.heap.size W) _).mono h4.out.size).trans (hb2.out.mono (by have := h4.out.size; simp; omega)))).trans (below_putObj _ _ hD2))
        · have y1 : ((a.length : Int) == (n : Int)) = true := by rw [beq_iff_eq]; omega
          have y2 : ((b.length : Int) == (f.length : Int) - (n : Int)) = false := by rw [beq_eq_false_iff_ne]; omega
          have y3 : fitM f a b = false := by unfold fitM; rw [← hn.out]; simp [e1, e2]
          clear e1 e2
          go_wp2_with fail
          refine (prim_words _ _ [f, a, b] false _ (lit_rows_at _ _ rfl _ _ _ _ rfl (rows_of3 HS0'.out HS1'.out HS2'.out) (by simp))).mono ?_
          rw [← y3, ← hE.out]
          rintro e w2 ⟨rfl, hb2⟩
          have hd2 := Aside0.mk (blk_below (blk_alloc hd.out _) hb2)
          replace hb2 := Aside0.mk hb2
          go_wp2
          refine Marks.one hd2.out _ (results_tmp2 rfl _ _ _) ?_
          rw [hRE.out]
          exact Ret2.nil E ((h4.out.trans (((below_alloc (Below.refl W.heap.size W) _).mono h4.out.size).trans (hb2.out.mono (by have := h4.out.size; simp; omega)))).trans (below_putObj _ _ hD2))
      · have y1 : ((a.length : Int) == (n : Int)) = false := by rw [beq_eq_false_iff_ne]; omega
        have y3 : fitM f a b = false := by unfold fitM; rw [← hn.out]; simp [e1]
        clear e1
        go_wp2_with fail
        refine (prim_words _ _ [f, a, b] false _ (lit_rows_at _ _ rfl _ _ _ _ rfl (rows_of3 HS0'.out HS1'.out HS2'.out) (by simp))).mono ?_
        rw [← y3, ← hE.out]
        rintro e w2 ⟨rfl, hb2⟩
        have hd2 := Aside0.mk (blk_below (blk_alloc hd.out _) hb2)
        replace hb2 := Aside0.mk hb2
        go_wp2
        refine Marks.one hd2.out _ (results_tmp2 rfl _ _ _) ?_
        rw [hRE.out]
        exact Ret2.nil E ((h4.out.trans (((below_alloc (Below.refl W.heap.size W) _).mono h4.out.size).trans (hb2.out.mono (by have := h4.out.size; simp; omega)))).trans (below_putObj _ _ hD2))
end Go.Proofs.YtpimackoadfcmaaDoor.Hand
