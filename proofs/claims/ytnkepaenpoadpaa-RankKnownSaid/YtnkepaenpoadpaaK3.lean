/- rank: split: the places of the split by what is asked of words. -/
import Derived.Test.YtnkepaenpoadpaaK2
import Derived.Ground.SlsfProg
import Derived.Shelf.Lay
import Derived.Shelf.SlSortCmp.NoneTotal
import Derived.Sort.OwnSortedInts
namespace Go.Proofs.Ytnkepaenpoadpaa.Hand
open Go.RowKit Go.Proofs.YtnkepaenpoadpaaW.PrintWords Go.Proofs.YtnkepaenpoadpaaW.PrintLast Go.Proofs.YtnkepaenpoadpaaW.PrintMore
set_option linter.unusedVariables false
set_option linter.unusedSimpArgs false
attribute [local go_sem] Oper.semAt_some store_func store_nilFunc
/-- How many of the first k words of a segment are not behind. -/
def notsAt (f : Int → Bool) (l : List Int) (st : Nat) : Nat → Nat
  | 0 => 0
  | k + 1 => notsAt f l st k + (if f (rd l ((st + k : Nat) : Int)) then 0 else 1)
theorem notsAt_le (f : Int → Bool) (l : List Int) (st : Nat) : ∀ k, notsAt f l st k ≤ k
  | 0 => Nat.le_refl _
  | k + 1 => by
    have := notsAt_le f l st k
    unfold notsAt
    split <;> omega
def splitAt (f : Int → Bool) (l : List Int) (st n i : Nat) : Int := (st : Int) + (if f (rd l ((st + i : Nat) : Int)) then ((notsAt f l st n + (i - notsAt f l st i) : Nat) : Int) else ((notsAt f l st i : Nat) : Int))
def splitSeg (f : Int → Bool) (l : List Int) (st n : Nat) : Nat → List Int
  | 0 => []
  | k + 1 => splitSeg f l st n k ++ [splitAt f l st n k]
def splitTo (f : Int → Bool) (l lens : List Int) : Nat → List Int
  | 0 => []
  | i + 1 => splitTo f l lens i ++ splitSeg f l (startOf lens i) (rd lens (i : Int)).toNat (rd lens (i : Int)).toNat
def splitG (f : Int → Bool) (l lens : List Int) : List Int := splitTo f l lens lens.length
theorem splitSeg_length (f : Int → Bool) (l : List Int) (st n : Nat) : ∀ k, (splitSeg f l st n k).length = k
  | 0 => rfl
  | k + 1 => by simp [splitSeg, splitSeg_length f l st n k]
theorem splitTo_length (f : Int → Bool) (l lens : List Int) : ∀ i : Nat, i ≤ lens.length → (splitTo f l lens i).length = startOf lens (i : Int)
  | 0, _ => rfl
  | i + 1, h => by
    have h2 := startOf_succ lens (i : Int) (by omega) (by omega)
    rw [show ((i + 1 : Nat) : Int) = (i : Int) + 1 by omega, h2]
    simp [splitTo, splitTo_length f l lens i (by omega), splitSeg_length]
/-- A list, filled up with zeros. -/
def padTo (L : Nat) (ys : List Int) : List Int := ys ++ List.replicate (L - ys.length) 0
theorem padTo_length (L : Nat) (ys : List Int) (h : ys.length ≤ L) : (padTo L ys).length = L := by simp [padTo]; omega
theorem padTo_set (L : Nat) (ys : List Int) (v : Int) (k : Nat) (hk : ys.length = k) (h : k < L) : (padTo L ys).set k v = padTo L (ys ++ [v]) := by
  subst hk
  unfold padTo
  have e : L - ys.length = (L - (ys ++ [v]).length) + 1 := by simp; omega
  rw [e, List.replicate_succ, List.set_append_right _ _ (Nat.le_refl _)]
  simp
theorem padTo_nil (L : Nat) : padTo L [] = List.replicate L 0 := by simp [padTo]
theorem padTo_full (L : Nat) (ys : List Int) (h : ys.length = L) : padTo L ys = ys := by simp [padTo, h]
/-- What lies in memory: the list, what is asked, where the places are written. -/
structure SplitSt (w : World) (A A2 : Option Addr) (L c n2 c2 g : Nat) (cap : Array Value) (o : Nat) (v6 : Value) (W : World) : Prop where
  below : Below w.heap.size w W
  x : W.heap[w.heap.size]? = some (.cells #[.slice A L c, .slice A2 n2 c2] 49 (0, 0))
  beh : W.heap[w.heap.size + 1]? = some (.cells #[.func (.func g) #[] cap] 53 (0, 0))
  out : W.heap[o]? = some (.cells #[v6] 22 (0, 0))
set_option maxHeartbeats 4000000 in
set_option maxRecDepth 100000 in
theorem list_split (g : Nat) (cap : Array Value) (f : Int → Bool) (A : Option Addr) (c : Nat) (l : List Int) (A2 : Option Addr) (c2 : Nat) (lens : List Int) (w : World) (hg : ∀ args W, Sem.run Try.prog (callFunc g args) W = .ok (.enter g args) W)
    (hr : Kd.C (Kd.int .i64) w A l.length l) (hc : l.length ≤ c) (hr2 : Kd.C (Kd.int .i64) w A2 lens.length lens) (hl : l.length ≤ 1048576) (hl2 : lens.length ≤ 1048576) (hok : okLens l lens = true)
    (hF : ∀ x W, Below w.heap.size w W → Calls Try.prog g (#[.int .i64 x] ++ cap) W fun e W' => e = .returned (.bool (f x)) ∧ Drawn0 W W') :
    Calls Try.prog 51 #[ListV (.slice A l.length c) (.slice A2 lens.length c2), .func (.func g) #[] cap] w (Ret1 w (splitG f l lens)) := by
  have HR := Aside0.mk hr
  have HR2 := Aside0.mk hr2
  have HC := Aside0.mk hc
  have HG := Aside0.mk hg
  have HF := Aside0.mk hF
  have hposl := okLens_pos hok
  have H7 := Aside0.mk hposl
  clear hr hr2 hc hg hF hok
  refine calls_of_marks Try.func51 rfl ?_
  simp only [Try.ntmps51, List.size_toArray, List.length_cons, List.length_nil, Nat.reduceAdd, Nat.reduceSub, Array.replicate_succ, Array.replicate_zero, List.push_toArray, List.append_toArray, List.nil_append, List.cons_append]
  clear hposl
  go_wp2_with (first | (go_at_call 58; (with_reducible refine (rank_segments _ _ _ A A2 l.length c lens.length c2 rfl rfl).mono ?_); rintro e w7 ⟨rfl, hw7⟩; replace hw7 := Aside0.mk hw7) | ((with_reducible refine gate_ (.makeSlice 22 (.tmp 16) (.tmp 16)) rfl ?_); refine Kd.R_make (Kd.int .i64) (w0 := (w.alloc (.cells #[.slice A l.length c, .slice A2 lens.length c2] 49)).alloc (.cells #[.func (.func g) #[] cap] 53)) (w.heap.size + 2) 3 rfl rfl 22 (.tmp 16) (.tmp 16) rfl (l.length : Int) rfl rfl Try.underlying22 (.int .i64 0) 8 infoInt rfl (by decide) (by decide) 0 (ok := fun b => w.heap.size + 2 ≤ b) (okp := fun _ => False) rfl (fun _ h => h.elim) (by simp) (by omega) (by omega) (Below.refl _ _) (by simp) ?_; intro v6 w6 hR6 hb6 hg6 hat6; replace hR6 := Aside0.mk hR6; replace hb6 := Aside0.mk hb6; clear hg6 hat6; obtain ⟨A6, c6, hv6⟩ : ∃ A6 c6, v6 = .slice A6 l.length c6 := (by obtain ⟨A, c, h⟩ := Kd.R_slice hR6.out; exact ⟨A, c, by simpa using h⟩); subst hv6; have xk : w6.heap[w.heap.size]? = some (.cells #[.slice A l.length c, .slice A2 lens.length c2] 49 (0, 0)) := blk_kept_old hb6.out (blk_alloc (blk_new w _) _) (by omega); have xb : w6.heap[w.heap.size + 1]? = some (.cells #[.func (.func g) #[] cap] 53 (0, 0)) := blk_kept_old hb6.out (blk_new_at (by simp) _) (by omega); have cx0 : (w6.alloc (Obj.cells #[Value.slice A6 l.length c6] 22)).cell? ⟨w.heap.size, 0, none⟩ = some (.slice A l.length c) := blk_cell (blk_alloc xk _) 0; have cx1 : (w6.alloc (Obj.cells #[Value.slice A6 l.length c6] 22)).cell? ⟨w.heap.size, 1, none⟩ = some (.slice A2 lens.length c2) := blk_cell (blk_alloc xk _) 1; replace xk := Aside0.mk xk; replace xb := Aside0.mk xb))
  replace hw7 := hw7.out
  obtain ⟨O, hO⟩ : ∃ O, w6.heap.size = O := ⟨_, rfl⟩
  have s7 : w7.heap.size = O + 2 := by rw [hw7]; simp [hO]
  have o7 : w7.heap[O]? = some (.cells #[.slice A6 l.length c6] 22 (0, 0)) := by rw [hw7]; exact blk_alloc (blk_new_at hO _) _
  have x7 : w7.heap[w.heap.size + 1]? = some (.cells #[.func (.func g) #[] cap] 53 (0, 0)) := by rw [hw7]; exact blk_alloc (blk_alloc xb.out _) _
  have i0 : w7.cell? ⟨O + 1, 0, none⟩ = some (.slice A l.length c) := by rw [hw7]; exact (blk_cell (blk_new_at (by simp [hO]) _) 0).trans rfl
  have i1 : w7.cell? ⟨O + 1, 1, none⟩ = some (.slice A2 lens.length c2) := by rw [hw7]; exact (blk_cell (blk_new_at (by simp [hO]) _) 1).trans rfl
  have hb6' := hb6.out
  have hOle : w.heap.size + 2 ≤ O := by have h := hb6'.size; simp at h; omega
  have b7 : Below w.heap.size w w7 := by
    rw [hw7]
    exact below_alloc (below_alloc ((below_alloc (below_alloc (Below.refl w.heap.size w) _) _).trans (hb6'.mono (by omega))) _) _
  have R7 : (Kd.int .i64).R 3 w7 (w.heap.size + 2) (fun k => some k = (Value.slice A6 l.length c6).ownBlock) (.slice A6 l.length c6) (padTo l.length []) := by
    rw [hw7, padTo_nil]
    have h := hR6.out
    rw [Int.toNat_natCast] at h
    exact Kd.R_mono (Kd.R_tight2 (rfl : (Kd.int .i64).E = []) (Kd.R_alloc (Kd.R_alloc h _) _)) (fun k hk => hk.1)
  have hown : ∀ k, some k = (Value.slice A6 l.length c6).ownBlock → w.heap.size + 2 ≤ k ∧ k < O := fun k hk => by
    have h := R_cells hR6.out hk
    rw [hO] at h
    exact ⟨h.1, h.2.1⟩
  rw [hO]
  clear hw7 hb6 hb6' hR6 xk xb hO
  refine wp_rangeSeqK rfl Try.call69 (rank_segments_it (O + 1) A c l A2 c2 lens w.heap.size w7 i1 HC.out (fun W hW => Kd.C_below HR2.out (b7.trans hW)) b7.size H7.out.1 H7.out.2 hl) (Below.refl _ _) b7.size (segL_size A lens)
    (fun i W => Kp (fun k => some k = (Value.slice A6 l.length c6).ownBlock ∨ O + 2 ≤ k) w7 W ∧ (Kd.int .i64).R 3 W (w.heap.size + 2) (fun k => some k = (Value.slice A6 l.length c6).ownBlock) (.slice A6 l.length c6) (padTo l.length (splitTo f l lens i))) (fun _ _ => False) ?own ?ownx ?start ?keep
    ?round ?done ?stop
  case own =>
    rintro i W1 W2 row ⟨h3, h2⟩ hg hr
    exact ⟨h3.own hg (fun r e => .inr (by have := (hr r e).1; omega)), R_own h2 hg (fun r e => (hr r e).2)⟩
  case ownx => exact fun _ _ _ _ h _ _ => h.elim
  case start => exact ⟨Kp.refl _ _, R7⟩
  case keep =>
    rintro i W ⟨h3, h2⟩
    exact h3.cell i0 (fun h => h.elim (fun h => by have := (hown _ h).2; simp at this; omega) (fun h => absurd h (by show ¬ O + 2 ≤ O + 1; omega)))
  case stop => exact fun _ _ _ _ h _ => h.elim
  case round =>
    intro l0 i args W hi hI K hK
    obtain ⟨hlt, rfl⟩ := segL_get hi
    clear hI R7
    replace hK := Aside0.mk hK
    gi_wp2
    refine hK.out _ ?_
    rintro W2 ⟨hK2, hR⟩
    have hn0 := H7.out.1 _ (rd_mem lens (i : Int) (by omega) (by omega))
    have hs := startOf_succ lens (i : Int) (by omega) (by omega)
    have hmono := startOf_mono lens ((i : Int) + 1) (by omega) (lens.length - (i + 1)) (by omega)
    rw [show (i : Int) + 1 + ((lens.length - (i + 1) : Nat) : Int) = lens.length by omega, H7.out.2, hs] at hmono
    have hsl := splitTo_length f l lens i (by omega)
    have hsg : splitTo f l lens (i + 1) = splitTo f l lens i ++ splitSeg f l (startOf lens i) (rd lens (i : Int)).toNat (rd lens (i : Int)).toNat := rfl
    have hs0 := splitSeg_length f l (startOf lens i) (rd lens (i : Int)).toNat
    generalize (rd lens (i : Int)).toNat = n at *
    generalize startOf lens (i : Int) = st at *
    generalize splitTo f l lens i = xs0 at *
    have hq := (seg_slice A c l st n hmono HC.out).2
    generalize segA A st n = SA at *
    have HQ := Aside0.mk hq
    have hW2s : O + 2 ≤ W2.heap.size := by have := hK2.size; omega
    have HW2 : Below w.heap.size w W2 := b7.trans (hK2.below (fun k hk => ⟨by omega, fun h => h.elim (fun h => by have := (hown _ h).1; omega) (fun h => by omega)⟩))
    have hkeep : ∀ wr, Kp (fun b => b = W2.heap.size ∨ some b = (Value.slice A6 l.length c6).ownBlock) W2 wr → Below w.heap.size w wr ∧ wr.cell? ⟨w.heap.size + 1, 0, none⟩ = some (.func (.func g) #[] cap) ∧ wr.cell? ⟨O, 0, none⟩ = some (.slice A6 l.length c6) := fun wr h => by
      have hx2 := hK2.blk x7 (fun h => h.elim (fun h => by have := (hown _ h).1; omega) (fun h => by omega))
      have ho2 := hK2.blk o7 (fun h => h.elim (fun h => by have := (hown _ h).2; omega) (fun h => by omega))
      refine ⟨HW2.trans (h.below (fun k hk => ⟨by omega, fun h => h.elim (fun h => by omega) (fun h => by have := (hown _ h).1; omega)⟩)), ?_, ?_⟩
      · exact (blk_cell (h.blk hx2 (fun h => h.elim (fun h => by omega) (fun h => by have := (hown _ h).1; omega))) 0).trans rfl
      · exact (blk_cell (h.blk ho2 (fun h => h.elim (fun h => by omega) (fun h => by have := (hown _ h).2; omega))) 0).trans rfl
    have hR0 := Aside0.mk hR
    have HCell : Aside0 (∀ b, some b = (Value.slice A6 l.length c6).ownBlock → ∃ cs t fr, W2.heap[b]? = some (.cells cs t fr)) := ⟨fun b hb => (R_cells hR hb).2.2⟩
    have HKeep := Aside0.mk hkeep
    have HOwn := Aside0.mk hown
    have HK2 := Aside0.mk hK2
    have HB7 := Aside0.mk b7
    have HX7 := Aside0.mk x7
    have HO7 := Aside0.mk o7
    have HI0 := Aside0.mk i0
    have HI1 := Aside0.mk i1
    have HSl := Aside0.mk hsl
    have HSg := Aside0.mk hsg
    have HS0 := Aside0.mk hs0
    have HS := Aside0.mk hs
    have hmono2 : st + n ≤ 1048576 := by omega
    replace hmono := Aside0.mk hmono
    clear hn0 hs hsl hsg hs0 hq hR hkeep hown hK2 b7 x7 o7 i0 i1 HW2 hK K hi
    gi_wp2
    generalize hw3 : W2.alloc (Obj.cells #[Value.int IntKind.i64 (st : Int), Value.int IntKind.i64 (st : Int)] 67) = W3
    have m3 : Aside0 (W3.heap[W2.heap.size]? = some (.cells #[.int .i64 (st : Int), .int .i64 ((st + notsAt f l st 0 : Nat) : Int)] 67 (0, 0))) := ⟨by rw [← hw3]; exact blk_new W2 _⟩
    have K3 : Aside0 (Kp (fun b => b = W2.heap.size) W2 W3) := ⟨by rw [← hw3]; exact (Kp.refl _ _).alloc _⟩
    have hmonoS : Aside0 (∀ wr, Kp (fun b => b = W2.heap.size) W2 wr → Kp (fun b => b = W2.heap.size ∨ some b = (Value.slice A6 l.length c6).ownBlock) W2 wr) := ⟨fun wr h => h.mono (fun _ h => .inl h)⟩
    clear hw3
    gi_loopw [27] (fun i wr => ∃ k : Nat, i = .int .i64 (k : Int) ∧ k ≤ n ∧ Aside0 (wr.heap[W2.heap.size]? = some (.cells #[.int .i64 (st : Int), .int .i64 ((st + notsAt f l st k : Nat) : Int)] 67 (0, 0))) ∧ Aside0 (Kp (fun b => b = W2.heap.size) W2 wr)) (fun i _ => n - (intOf i).toNat)
    case atStart => exact ⟨0, rfl, by omega, m3, K3⟩
    case round =>
      clear m3 K3
      obtain ⟨k, rfl, p0, hM, hK⟩ := hrel
      obtain ⟨hB, cF, cO⟩ := HKeep.out _ (hmonoS.out _ hK.out)
      have hnk := notsAt_le f l st k
      by_cases hlt : k < n
      · obtain ⟨ad, e1, hx⟩ := Kd.at_int (HQ.out _ (Kd.C_below HR.out hB)) (k : Int) (by omega) (by omega)
        cases e1
        rw [rd_seg l st n k hlt, Int.toNat_natCast] at hx
        have hns : Aside0 (notsAt f l st (k + 1) = notsAt f l st k + (if f (rd l ((st + k : Nat) : Int)) then 0 else 1)) := ⟨rfl⟩
        have HFk := Aside0.mk (HF.out (rd l ((st + k : Nat) : Int)) wr hB)
        generalize rd l ((st + k : Nat) : Int) = el at *
        generalize notsAt f l st k = nk at *
        replace hB := Aside0.mk hB
        have hg := HG.out
        cases hfx : f el
        · rw [hfx] at HFk hns
          have hns2 : Aside0 (notsAt f l st (k + 1) = nk + 1) := ⟨by simpa using hns.out⟩
          clear hns hfx
          gi_wp2_with fail
          refine ⟨trivial, rfl, (CallsIn.inRound l0 (callsIn_wide.2 HFk.out)).mono ?_⟩
          rintro e w4 ⟨rfl, m4, rfl⟩
          have hM4 := blk_drewN hM.out m4
          have c1 := blk_cell hM4 1
          have f1 := blk_frozen hM4 1
          have hK4 := hK.out.drewN m4
          replace hM4 := Aside0.mk hM4
          replace hK4 := Aside0.mk hK4
          clear hx cF cO
          gi_wp2
          go_roundw
          case rel => exact ⟨k + 1, by simp, by omega, ⟨by rw [hns2.out]; exact blk_set hM4.out 1 _⟩, ⟨hK4.out.setCell _ (.inl rfl) _⟩⟩
          case measure => simp [intOf]; omega
        · rw [hfx] at HFk hns
          have hns2 : Aside0 (notsAt f l st (k + 1) = nk) := ⟨by simpa using hns.out⟩
          clear hns hfx
          gi_wp2_with fail
          refine ⟨trivial, rfl, (CallsIn.inRound l0 (callsIn_wide.2 HFk.out)).mono ?_⟩
          rintro e w4 ⟨rfl, m4, rfl⟩
          have hM4 := Aside0.mk (blk_drewN hM.out m4)
          have hK4 := Aside0.mk (hK.out.drewN m4)
          clear hx cF cO
          gi_wp2
          go_roundw
          case rel => exact ⟨k + 1, by simp, by omega, ⟨by rw [hns2.out]; exact hM4.out⟩, ⟨hK4.out⟩⟩
          case measure => simp [intOf]; omega
      · obtain rfl : k = n := by omega
        clear cF cO
        have hM0 : Aside0 (wr.heap[W2.heap.size]? = some (.cells #[.int .i64 ((st + notsAt f l st 0 : Nat) : Int), .int .i64 ((st + notsAt f l st k + (0 - notsAt f l st 0) : Nat) : Int)] 67 (0, 0))) := hM
        have hK0 : Aside0 (Kp (fun b => b = W2.heap.size ∨ some b = (Value.slice A6 l.length c6).ownBlock) W2 wr) := ⟨hmonoS.out _ hK.out⟩
        have hR1 : Aside0 ((Kd.int .i64).R 3 wr (w.heap.size + 2) (fun k => some k = (Value.slice A6 l.length c6).ownBlock) (.slice A6 l.length c6) (padTo l.length (xs0 ++ splitSeg f l st k 0))) := ⟨by
          rw [splitSeg, List.append_nil]
          exact Kd.R_step hR0.out (fun b hb hlt => hK.out.block b hlt (by omega))⟩
        clear hM hK hR0 hnk
        revert wr
        intro wo hB hM0 hK0 hR1
        replace hB := Aside0.mk hB
        gi_wp2
        gi_loopw [42] (fun i wr => ∃ j : Nat, i = .int .i64 (j : Int) ∧ j ≤ k ∧ Aside0 (wr.heap[W2.heap.size]? = some (.cells #[.int .i64 ((st + notsAt f l st j : Nat) : Int), .int .i64 ((st + notsAt f l st k + (j - notsAt f l st j) : Nat) : Int)] 67 (0, 0))) ∧ Aside0 (Kp (fun b => b = W2.heap.size ∨ some b = (Value.slice A6 l.length c6).ownBlock) W2 wr) ∧ Aside0 ((Kd.int .i64).R 3 wr (w.heap.size + 2) (fun k => some k = (Value.slice A6 l.length c6).ownBlock) (.slice A6 l.length c6) (padTo l.length (xs0 ++ splitSeg f l st k j)))) (fun i _ => k - (intOf i).toNat)
        case atStart => exact ⟨0, rfl, by omega, hM0, hK0, hR1⟩
        case round =>
          clear hM0 hK0 hR1
          obtain ⟨j, rfl, p1, hM, hK, hR⟩ := hrel
          obtain ⟨hB, cF, cO⟩ := HKeep.out _ hK.out
          have hnj := notsAt_le f l st j
          have hnk := notsAt_le f l st k
          by_cases hlt : j < k
          · obtain ⟨ad, e1, hx⟩ := Kd.at_int (HQ.out _ (Kd.C_below HR.out hB)) (j : Int) (by omega) (by omega)
            cases e1
            rw [rd_seg l st k j hlt, Int.toNat_natCast] at hx
            have hns : Aside0 (notsAt f l st (j + 1) = notsAt f l st j + (if f (rd l ((st + j : Nat) : Int)) then 0 else 1)) := ⟨rfl⟩
            have hsa : Aside0 (splitAt f l st k j = (st : Int) + (if f (rd l ((st + j : Nat) : Int)) then ((notsAt f l st k + (j - notsAt f l st j) : Nat) : Int) else ((notsAt f l st j : Nat) : Int))) := ⟨rfl⟩
            have hsg2 : Aside0 (splitSeg f l st k (j + 1) = splitSeg f l st k j ++ [splitAt f l st k j]) := ⟨rfl⟩
            have hlen : (xs0 ++ splitSeg f l st k j).length = st + j := by rw [List.length_append, HSl.out, splitSeg_length]
            have hjL : st + j < l.length := by have := hmono.out; omega
            have hps : Aside0 (∀ v, (padTo l.length (xs0 ++ splitSeg f l st k j)).set (st + j) v = padTo l.length (xs0 ++ (splitSeg f l st k j ++ [v]))) := ⟨fun v => by rw [padTo_set _ _ _ _ hlen hjL, List.append_assoc]⟩
            have HFk := Aside0.mk (HF.out (rd l ((st + j : Nat) : Int)) wr hB)
            generalize rd l ((st + j : Nat) : Int) = el at *
            generalize padTo l.length (xs0 ++ splitSeg f l st k j) = xs at *
            replace hB := Aside0.mk hB
            have hg := HG.out
            have hTn : ((st : Int) + (j : Int)).toNat = st + j := by omega
            have hwq : IntKind.i64.wrap ((st : Int) + (j : Int)) = (st : Int) + (j : Int) := by rw [i64_w]; unfold wrap64; omega
            obtain ⟨adr, rfl⟩ := R_some hR.out (by omega)
            have hsg3 := hsg2
            clear hlen hsg2
            cases hfx : f el
            · rw [hfx] at HFk hns hsa
              have hns2 : Aside0 (notsAt f l st (j + 1) = notsAt f l st j + 1) := ⟨by simpa using hns.out⟩
              have hsa2 : Aside0 (splitAt f l st k j = ((st + notsAt f l st j : Nat) : Int)) := ⟨by have := hsa.out; simp only [if_true, Bool.false_eq_true, if_false] at this; rw [this]; simp; try omega⟩
              clear hns hfx hsa
              generalize hvv : (st + notsAt f l st j : Nat) = vv at hM hsa2
              have HV := Aside0.mk hvv
              gi_wp2_with fail
              refine ⟨trivial, rfl, (CallsIn.inRound l0 (callsIn_wide.2 HFk.out)).mono ?_⟩
              rintro e w4 ⟨rfl, m4, rfl⟩
              have hM3 := blk_drewN hM.out m4
              have hK3 := hK.out.drewN m4
              have hR3 := Kd.R_drewN hR.out m4
              have cO3 : (wr.drewN m4).cell? ⟨O, 0, none⟩ = some (.slice (some adr) l.length c6) := cO
              generalize wr.drewN m4 = w4 at *
              have c1 := blk_cell (blk_drew hM3) 0
              have cO4 : w4.drew.cell? ⟨O, 0, none⟩ = some (.slice (some adr) l.length c6) := cO3
              obtain ⟨hc4, hf4, hR5, g6, hg6, hg7, hg8⟩ := R_store hR3 (st + j) (by omega) (vv : Int)
              have hgW : g6 ≠ W2.heap.size := by have := (HOwn.out g6 hg7.symm).2; omega
              have hM5 : (w4.setCell (adr.add (st + j)) (.int .i64 (vv : Int))).drew.heap[W2.heap.size]? = _ := (Below.heap_setCell _ _ _ _ (by rw [hg6]; omega)).trans hM3
              have hK5 : Kp (fun b => b = W2.heap.size ∨ some b = (Value.slice (some adr) l.length c6).ownBlock) W2 (w4.setCell (adr.add (st + j)) (.int .i64 (vv : Int))).drew := (hK3.setCell _ (.inl (.inr (by rw [hg6]; exact hg7.symm))) _).drew
              replace hM5 := Aside0.mk hM5
              replace hK5 := Aside0.mk hK5
              replace hR5 := Aside0.mk (Kd.R_drew hR5)
              clear hg6 hg7 hg8 hx hM3 hK3 hR3 cO3 hM hK hR
              generalize hw5 : (w4.setCell (adr.add (st + j)) (.int .i64 (vv : Int))).drew = w5 at *
              gi_wp2_with fail
              refine wpIn_region_any0 (by kernel_rfl) (by kernel_rfl) (fun _ _ h => h) ?_
              change wpAny _ _ _ _ _ _ _ w4.drew
              refine region_anyI (fun W => W.cell? ⟨O, 0, none⟩ = some (.slice (some adr) l.length c6) ∧ W.cell? ⟨W2.heap.size, 0, none⟩ = some (.int .i64 (vv : Int))) [0, 1, 2, 3, 4, 5, 6, 7] [8] [8] (by kernel_rfl) (by kernel_rfl) (by kernel_rfl) (by kernel_rfl) rfl (fun _ _ _ h => h) ⟨cO4, c1⟩ ?_
              iterate 8 refine ReadsI.step _ rfl rfl (fun W hW => by obtain ⟨k1, k2⟩ := hW; go_simp; first | rfl | done | (rw [if_pos (by omega)])) ?_
              change TailL _ _ _ _ _ _ _
              refine TailL.skip (w2 := w5) rfl rfl rfl (by first | (go_simp; done) | (go_simp; first | rfl | exact ⟨rfl, rfl⟩ | exact hw5)) (fun h => absurd rfl h) ?_
              unfold TailL
              simp only [List.getElem_toArray, List.getElem_cons_succ, List.getElem_cons_zero, Act.put, List.setIfInBounds_toArray, List.set_cons_zero, List.set_cons_succ]
              have c5 := blk_cell hM5.out 0
              have f5 := blk_frozen hM5.out 0
              clear c1 hc4 hf4 cO4 hw5 cO cF
              gi_wp2
              go_roundw
              case rel => exact ⟨j + 1, by simp, by omega, ⟨by
                refine (blk_set hM5.out 0 _).trans ?_
                have e1 : (vv : Int) + 1 = ((st + notsAt f l st (j + 1) : Nat) : Int) := by have h1 := HV.out; have h2 := hns2.out; omega
                have e2 : st + notsAt f l st k + (j - notsAt f l st j) = st + notsAt f l st k + (j + 1 - notsAt f l st (j + 1)) := by have := hns2.out; omega
                show some (Obj.cells #[.int .i64 ((vv : Int) + 1), .int .i64 ((st + notsAt f l st k + (j - notsAt f l st j) : Nat) : Int)] _ _) = _
                rw [e1, e2]⟩, ⟨hK5.out.setCell _ (.inl (.inl rfl)) _⟩, ⟨by rw [hsg3.out, hsa2.out, ← hps.out]; exact Kd.R_set hR5.out hM5.out (by decide) _ _⟩⟩
              case measure => simp [intOf]; omega
            · rw [hfx] at HFk hns hsa
              have hns2 : Aside0 (notsAt f l st (j + 1) = notsAt f l st j) := ⟨by simpa using hns.out⟩
              have hsa2 : Aside0 (splitAt f l st k j = ((st + notsAt f l st k + (j - notsAt f l st j) : Nat) : Int)) := ⟨by have := hsa.out; simp only [if_true, Bool.false_eq_true, if_false] at this; rw [this]; simp; try omega⟩
              clear hns hfx hsa
              generalize hvv : (st + notsAt f l st k + (j - notsAt f l st j) : Nat) = vv at hM hsa2
              have HV := Aside0.mk hvv
              gi_wp2_with fail
              refine ⟨trivial, rfl, (CallsIn.inRound l0 (callsIn_wide.2 HFk.out)).mono ?_⟩
              rintro e w4 ⟨rfl, m4, rfl⟩
              have hM3 := blk_drewN hM.out m4
              have hK3 := hK.out.drewN m4
              have hR3 := Kd.R_drewN hR.out m4
              have cO3 : (wr.drewN m4).cell? ⟨O, 0, none⟩ = some (.slice (some adr) l.length c6) := cO
              generalize wr.drewN m4 = w4 at *
              have c1 := blk_cell (blk_drew hM3) 1
              have cO4 : w4.drew.cell? ⟨O, 0, none⟩ = some (.slice (some adr) l.length c6) := cO3
              obtain ⟨hc4, hf4, hR5, g6, hg6, hg7, hg8⟩ := R_store hR3 (st + j) (by omega) (vv : Int)
              have hgW : g6 ≠ W2.heap.size := by have := (HOwn.out g6 hg7.symm).2; omega
              have hM5 : (w4.setCell (adr.add (st + j)) (.int .i64 (vv : Int))).drew.heap[W2.heap.size]? = _ := (Below.heap_setCell _ _ _ _ (by rw [hg6]; omega)).trans hM3
              have hK5 : Kp (fun b => b = W2.heap.size ∨ some b = (Value.slice (some adr) l.length c6).ownBlock) W2 (w4.setCell (adr.add (st + j)) (.int .i64 (vv : Int))).drew := (hK3.setCell _ (.inl (.inr (by rw [hg6]; exact hg7.symm))) _).drew
              replace hM5 := Aside0.mk hM5
              replace hK5 := Aside0.mk hK5
              replace hR5 := Aside0.mk (Kd.R_drew hR5)
              clear hg6 hg7 hg8 hx hM3 hK3 hR3 cO3 hM hK hR
              generalize hw5 : (w4.setCell (adr.add (st + j)) (.int .i64 (vv : Int))).drew = w5 at *
              gi_wp2_with fail
              refine wpIn_region_any0 (by kernel_rfl) (by kernel_rfl) (fun _ _ h => h) ?_
              change wpAny _ _ _ _ _ _ _ w4.drew
              refine region_anyI (fun W => W.cell? ⟨O, 0, none⟩ = some (.slice (some adr) l.length c6) ∧ W.cell? ⟨W2.heap.size, 1, none⟩ = some (.int .i64 (vv : Int))) [0, 1, 2, 3, 4, 5, 6, 7] [8] [8] (by kernel_rfl) (by kernel_rfl) (by kernel_rfl) (by kernel_rfl) rfl (fun _ _ _ h => h) ⟨cO4, c1⟩ ?_
              iterate 8 refine ReadsI.step _ rfl rfl (fun W hW => by obtain ⟨k1, k2⟩ := hW; go_simp; first | rfl | done | (rw [if_pos (by omega)])) ?_
              change TailL _ _ _ _ _ _ _
              refine TailL.skip (w2 := w5) rfl rfl rfl (by first | (go_simp; done) | (go_simp; first | rfl | exact ⟨rfl, rfl⟩ | exact hw5)) (fun h => absurd rfl h) ?_
              unfold TailL
              simp only [List.getElem_toArray, List.getElem_cons_succ, List.getElem_cons_zero, Act.put, List.setIfInBounds_toArray, List.set_cons_zero, List.set_cons_succ]
              have c5 := blk_cell hM5.out 1
              have f5 := blk_frozen hM5.out 1
              clear c1 hc4 hf4 cO4 hw5 cO cF
              gi_wp2
              go_roundw
              case rel => exact ⟨j + 1, by simp, by omega, ⟨by
                refine (blk_set hM5.out 1 _).trans ?_
                have e1 : (vv : Int) + 1 = ((st + notsAt f l st k + (j + 1 - notsAt f l st (j + 1)) : Nat) : Int) := by have h1 := HV.out; have h2 := hns2.out; omega
                show some (Obj.cells #[.int .i64 ((st + notsAt f l st j : Nat) : Int), .int .i64 ((vv : Int) + 1)] _ _) = _
                rw [e1, hns2.out]⟩, ⟨hK5.out.setCell _ (.inl (.inl rfl)) _⟩, ⟨by rw [hsg3.out, hsa2.out, ← hps.out]; exact Kd.R_set hR5.out hM5.out (by decide) _ _⟩⟩
              case measure => simp [intOf]; omega
          · obtain rfl : j = k := by omega
            clear cF cO
            gi_wp2
            refine ⟨hK.out.keepsFrom (fun b hb hlt => ?_), hK.out.below (fun b hb => ⟨by omega, fun h => h.elim (fun h => by omega) (fun h => by have := (HOwn.out _ h).1; omega)⟩), HK2.out.trans hK.out (fun b hb => hb.elim (fun h => .inl (.inr (by omega))) (fun h => .inl (.inl h))), ?_⟩
            · rcases hb with rfl | hb
              · omega
              · exact HCell.out b hb
            · rw [HSg.out]
              exact hR.out
  case done =>
    rintro D W hD ⟨h1, h2⟩ hd
    have cO : W.cell? ⟨O, 0, none⟩ = some (.slice A6 l.length c6) := blk_cell (h1.blk o7 (fun h => h.elim (fun h => by have := (hown _ h).2; omega) (fun h => by omega))) 0
    have hq := (Kd.R_reads' h2).2.1
    have hcap := R_cap h2
    rw [segL_length] at h2
    have hspl : splitG f l lens = splitTo f l lens lens.length := rfl
    have hlen : (splitTo f l lens lens.length).length = l.length := by rw [splitTo_length f l lens _ (Nat.le_refl _), H7.out.2]
    rw [padTo_full _ _ hlen, ← hspl] at h2
    have H1 := Aside0.mk h1
    have H2 := Aside0.mk h2
    have HD := Aside0.mk hd
    have HQ := Aside0.mk (rank_cut A6 l.length c6 W hq hcap)
    have HB7 := Aside0.mk b7
    have HOwn := Aside0.mk hown
    clear h1 h2 hq hcap hd hown b7 hspl hlen
    go_wp2_with (go_at_call 57; (with_reducible refine (HQ.out).mono ?_); rintro e w5 ⟨rfl, m5, rfl⟩)
    (try rw [Exit.noGoto_ret])
    have hd5 : (W.drewN m5).heap[D]? = some (.deferred (some [])) := HD.out
    refine Marks.one hd5 _ (results_tmp rfl _ _ _) ?_
    have r5 := R_own (Kd.R_drewN H2.out m5) (grownBy_putObj' (W.drewN m5) D (.deferred none)) (fun r e => by cases e; exact ⟨_, hd5, rfl⟩)
    have v5 := V_cut (base2 := w.heap.size) r5
    have hBW : Below w.heap.size w W := HB7.out.trans (H1.out.below (fun k hk => ⟨by have := HB7.out.size; omega, fun h => h.elim (fun h => by have := (HOwn.out _ h).1; omega) (fun h => by omega)⟩))
    have hb5 : Below w.heap.size w ((W.drewN m5).putObj D (.deferred none)) := (pw_below_drewN hBW m5).trans (below_putObj (l := D) (B := w.heap.size) (W.drewN m5) (.deferred none) (by omega))
    exact ⟨_, rfl, Kd.V_mono v5 (fun k hk => by have := (HOwn.out _ hk).1; omega), hb5⟩
end Go.Proofs.Ytnkepaenpoadpaa.Hand
/- rank: Split; moved. -/
namespace Go.Proofs.Ytnkepaenpoadpaa.Hand
open Go.RowKit Go.Proofs.YtnkepaenpoadpaaW.PrintWords Go.Proofs.YtnkepaenpoadpaaW.PrintLast Go.Proofs.YtnkepaenpoadpaaW.PrintMore
set_option linter.unusedVariables false
set_option linter.unusedSimpArgs false
attribute [local go_sem] store_func store_nilFunc
theorem rank_Split1 (n : Int) (w : World) : Calls Try.prog 52 #[.int .i64 n] w fun e w' => e = .returned (.bool (n != 0)) ∧ Drawn0 w w' := by
  go_enter Try.func52, Try.ntmps52
  go_wp2
  go_ret
  exact ⟨rfl, ⟨0, rfl⟩⟩
theorem openE_ok {l lens : List Int} (h : openE l lens = 0) : l.length ≤ 1048576 ∧ lens.length ≤ 1048576 ∧ (∀ n ∈ l, isWordB n = true) ∧ (∀ n ∈ lens, isWordB n = true) ∧ okLens l lens = true := by
  unfold openE at h
  split at h
  · rename_i h1
    have h2 := wordsE_ok h1
    refine ⟨h2.1 l (by simp), h2.1 lens (by simp), h2.2 l (by simp), h2.2 lens (by simp), ?_⟩
    split at h
    · assumption
    · cases h
  · rename_i h1
    exact absurd h h1
def rank_Split.g (l lens : List Int) : List Int × Int := if openE l lens = 0 then (splitG (fun n => n != 0) l lens, 0) else ([], openE l lens)
set_option maxHeartbeats 4000000 in
set_option maxRecDepth 100000 in
theorem rank_Split.run (A : Option Addr) (c : Nat) (l : List Int) (A2 : Option Addr) (c2 : Nat) (lens : List Int) (w : World) (hr : Kd.C (Kd.int .i64) w A l.length l) (hc : l.length ≤ c) (hr2 : Kd.C (Kd.int .i64) w A2 lens.length lens) (hc2 : lens.length ≤ c2) :
    Calls Try.prog 21 #[.slice A l.length c, .slice A2 lens.length c2] w (Ret2 w (rank_Split.g l lens)) := by
  have HO := Aside0.mk (rank_open A c l A2 c2 lens w hr hc hr2 hc2)
  unfold rank_Split.g
  obtain ⟨E, hE⟩ : ∃ E, E = openE l lens := ⟨_, rfl⟩
  rw [← hE] at HO ⊢
  by_cases h0 : E = 0
  · subst h0
    rw [if_pos rfl]
    have hk := openE_ok hE.symm
    have HS : Aside0 (∀ W, Below w.heap.size w W → Calls Try.prog 51 #[ListV (.slice A l.length c) (.slice A2 lens.length c2), .func (.func 52) #[] #[]] W (Ret1 W (splitG (fun n => n != 0) l lens))) := ⟨fun W hW => list_split 52 #[] _ A c l A2 c2 lens W Try.call52 (Kd.C_below hr hW) hc (Kd.C_below hr2 hW) hk.1 hk.2.1 hk.2.2.2.2 (fun x W2 _ => rank_Split1 x W2)⟩
    clear hr hc hr2 hc2 hk
    go_enter Try.func21, Try.ntmps21
    go_wp2_with fail
    refine (HO.out).mono ?_
    rintro e w1 ⟨he, hb1⟩
    unfold OpenP at he
    rw [if_pos rfl] at he
    subst he
    replace hb1 := Aside0.mk hb1
    go_wp2_with fail
    refine (HS.out _ (below_alloc hb1.out _)).mono ?_
    rintro e w2 ⟨v2, rfl, hV, hb2⟩
    replace hV := Aside0.mk hV
    replace hb2 := Aside0.mk hb2
    go_wp2
    go_ret2
    exact Ret2.lift ⟨_, rfl, hV.out, hb2.out⟩ (below_alloc hb1.out _)
  · rw [if_neg h0]
    have z : (E != 0) = true := bne_iff_ne.mpr h0
    clear hr hc hr2 hc2 hE
    go_enter Try.func21, Try.ntmps21
    go_wp2_with fail
    refine (HO.out).mono ?_
    rintro e w1 ⟨he, hb1⟩
    unfold OpenP at he
    rw [if_neg h0] at he
    subst he
    replace hb1 := Aside0.mk hb1
    clear h0
    go_wp2
    go_ret2
    exact Ret2.nil E (below_alloc hb1.out _)
/-! moved -/
def movedG (l p : List Int) : List Int := upTo (fun k => rd l (whereIs p p.length k)) l.length
def movedAt (l p : List Int) (m : Nat) : List Int := upTo (fun k => if stands p m k then rd l (whereIs p m k) else 0) l.length
theorem moved_step {p : List Int} (l : List Int) (h : okPlaces p.length p = true) (m : Nat) (hm : m < p.length) (q : Nat) (hq : rd p (m : Int) = q) : (movedAt l p m).set q (rd l (m : Int)) = movedAt l p (m + 1) := by
  obtain ⟨h1, h2, h3⟩ := okPlaces_pos h m hm
  rw [hq] at h3
  refine upTo_set _ _ _ _ _ ?_ fun k _ hk => ?_
  · rw [stands_succ, hq, whereIs_succ_new p m _ h3 hq]
    simp
  · have hne : rd p (m : Int) ≠ (k : Int) := by omega
    rw [stands_succ, whereIs_succ_old p m _ hne]
    simp [hne]
set_option maxHeartbeats 4000000 in
set_option maxRecDepth 100000 in
theorem list_moved (A : Option Addr) (c : Nat) (l : List Int) (A3 : Option Addr) (n3 c3 : Nat) (A2 : Option Addr) (c2 : Nat) (p : List Int) (w : World) (hr : Kd.C (Kd.int .i64) w A l.length l) (hr2 : Kd.C (Kd.int .i64) w A2 p.length p) (hl : l.length ≤ 1048576) (hpl : p.length = l.length) (hok : okPlaces p.length p = true) :
    Calls Try.prog 56 #[ListV (.slice A l.length c) (.slice A3 n3 c3), .slice A2 p.length c2] w fun e w' => ∃ A6 c6, e = .returned (ListV (.slice A6 l.length c6) (.slice A3 n3 c3)) ∧ Kd.V (Kd.int .i64) 3 w' w.heap.size (fun k => w.heap.size ≤ k) (.slice A6 l.length c6) (movedAt l p p.length) ∧ Below w.heap.size w w' := by
  have HR := Aside0.mk hr
  have HR2 := Aside0.mk hr2
  obtain ⟨st, hst⟩ : ∃ st : Nat → List Int, st = movedAt l p := ⟨_, rfl⟩
  have h0 : Aside0 (st 0 = List.replicate l.length 0) := ⟨by rw [hst]; exact upTo_zero _ _ fun k _ => rfl⟩
  have h1 : Aside0 (∀ m : Nat, m < p.length → ∃ (q : Nat) (v : Int), rd p (m : Int) = q ∧ q < l.length ∧ rd l (m : Int) = v ∧ st (m + 1) = (st m).set q v) := ⟨fun m hm => by
    have h := okPlaces_pos hok m hm
    refine ⟨(rd p (m : Int)).toNat, rd l (m : Int), by omega, by omega, rfl, ?_⟩
    rw [hst]
    exact (moved_step l hok m hm _ (by omega)).symm⟩
  have h3 : Aside0 (∀ m, (st m).length = l.length) := ⟨fun m => by rw [hst]; simp [movedAt, upTo_length]⟩
  rw [show movedAt l p p.length = st p.length by rw [hst]]
  clear hr hr2 hok hst
  go_enter Try.func56, Try.ntmps56
  go_wp2_with ((with_reducible refine gate_ (.makeSlice 22 (.tmp 10) (.tmp 10)) rfl ?_); refine Kd.R_make (Kd.int .i64) (w0 := (w.alloc (.cells #[.slice A l.length c, .slice A3 n3 c3] 49)).alloc (.cells #[.slice none 0 0, .slice none 0 0] 49)) (w.heap.size + 2) 3 rfl rfl 22 (.tmp 10) (.tmp 10) rfl (l.length : Int) rfl rfl Try.underlying22 (.int .i64 0) 8 infoInt rfl (by decide) (by decide) 0 (ok := fun b => w.heap.size + 2 ≤ b) (okp := fun _ => False) rfl (fun _ h => h.elim) (by simp) (by omega) (by omega) (Below.refl _ _) (by simp) ?_; intro v6 w6 hR6 hb6 hg6 hat6; replace hR6 := Aside0.mk hR6; replace hb6 := Aside0.mk hb6; clear hg6 hat6; obtain ⟨A6, c6, hv6⟩ : ∃ A6 c6, v6 = .slice A6 l.length c6 := (by obtain ⟨A, c, h⟩ := Kd.R_slice hR6.out; exact ⟨A, c, by simpa using h⟩); subst hv6)
  have x6 : w6.heap[w.heap.size]? = some (.cells #[.slice A l.length c, .slice A3 n3 c3] 49 (0, 0)) := blk_kept_old hb6.out (blk_alloc (blk_new w _) _) (by omega)
  have y6 : w6.heap[w.heap.size + 1]? = some (.cells #[.slice none 0 0, .slice none 0 0] 49 (0, 0)) := blk_kept_old hb6.out (blk_new_at (by simp) _) (by omega)
  have b6 : Below w.heap.size w w6 := (below_alloc (below_alloc (Below.refl w.heap.size w) _) _).trans (hb6.out.mono (by omega))
  have hR7 : (Kd.int .i64).R 3 w6 (w.heap.size + 2) (fun b => w.heap.size + 2 ≤ b) (.slice A6 l.length c6) (st 0) := by
    have h := hR6.out
    rw [Int.toNat_natCast, ← h0.out] at h
    exact h
  replace x6 := Aside0.mk x6
  replace y6 := Aside0.mk y6
  replace b6 := Aside0.mk b6
  replace hR7 := Aside0.mk hR7
  clear hb6 hR6
  go_loopw [14] (fun i W => ∃ m : Nat, i = .int .i64 (m : Int) ∧ m ≤ p.length ∧ Aside0 (Kp (fun b => w.heap.size + 2 ≤ b) w6 W) ∧ Aside0 ((Kd.int .i64).R 3 W (w.heap.size + 2) (fun b => w.heap.size + 2 ≤ b) (.slice A6 l.length c6) (st m))) (fun i _ => p.length - (intOf i).toNat)
  case atStart => exact ⟨0, rfl, by omega, ⟨Kp.refl _ _⟩, hR7⟩
  case round =>
    obtain ⟨m, rfl, p0, hK, hR⟩ := hrel
    have hB : Below w.heap.size w wr := b6.out.trans (hK.out.below (fun k hk => ⟨by have := b6.out.size; omega, by omega⟩))
    have kx := hK.out.blk x6.out (by omega)
    have ky := hK.out.blk y6.out (by omega)
    have cx0 := blk_cell kx 0
    have cx1 := blk_cell kx 1
    by_cases hlt : m < p.length
    · obtain ⟨q, v, hq, hq2, hv, hs⟩ := h1.out m hlt
      obtain ⟨ad, e1, hx⟩ := Kd.at_int (Kd.C_below HR2.out hB) (m : Int) (by omega) (by omega)
      cases e1
      rw [hq, Int.toNat_natCast] at hx
      obtain ⟨ad2, e2, hx2⟩ := Kd.at_int (Kd.C_below HR.out hB) (m : Int) (by omega) (by omega)
      cases e2
      rw [hv, Int.toNat_natCast] at hx2
      obtain ⟨adr, rfl⟩ := R_some hR.out (by omega)
      obtain ⟨hc4, hf4, hR5, g6, hg6, hg7, hg8⟩ := R_store hR.out q hq2 v
      have hK5 : Kp (fun b => w.heap.size + 2 ≤ b) w6 (wr.setCell (adr.add q) (.int .i64 v)) := hK.out.setCell _ (.inl (by rw [hg6]; exact hg8)) _
      replace hR5 := Aside0.mk hR5
      replace hK5 := Aside0.mk hK5
      replace hs := Aside0.mk hs
      replace hq := Aside0.mk hq
      replace hv := Aside0.mk hv
      clear hR hR7 hg6 hg7 hg8 hB kx ky
      go_wp2
      go_roundw
      case rel => exact ⟨m + 1, by simp, by omega, hK5, ⟨by rw [hs.out]; exact hR5.out⟩⟩
      case measure => simp [intOf]; omega
    · obtain rfl : m = p.length := by omega
      have ky0 := blk_cell ky 0
      have ky1 := blk_cell ky 1
      have kf0 := blk_frozen ky 0
      have kf1 := blk_frozen ky 1
      have kkx := Aside0.mk (blk_frozen kx 0)
      replace ky := Aside0.mk ky
      clear kx
      have hBw := Aside0.mk hB
      clear hB
      go_wp2
      refine bodyPost_ret (results_cell_row rfl _ _ (w.heap.size + 1) 49 _ (0, 0) _ rfl (blk_set (blk_set ky.out 0 _) 1 _) Try.underlying49 rfl (by kernel_rfl)) rfl ?_
      refine ⟨A6, c6, rfl, ?_, ?_⟩
      · have r1 := Kd.R_set hR.out ky.out (by decide) 0 (.slice A6 l.length c6)
        have r2 := Kd.R_set r1 (blk_set ky.out 0 (.slice A6 l.length c6)) (by decide) 1 (.slice A3 n3 c3)
        exact Kd.V_mono (Kd.R_V r2) (fun k hk => by omega)
      · exact (hBw.out.setCell (by show w.heap.size ≤ w.heap.size + 1; omega) _).setCell (by show w.heap.size ≤ w.heap.size + 1; omega) _
end Go.Proofs.Ytnkepaenpoadpaa.Hand
/- rank: the bits of a word; a split's places are places. -/
namespace Go.Proofs.Ytnkepaenpoadpaa.Hand
open Go.RowKit Go.Proofs.YtnkepaenpoadpaaW.PrintWords Go.Proofs.YtnkepaenpoadpaaW.PrintLast Go.Proofs.YtnkepaenpoadpaaW.PrintMore
set_option linter.unusedVariables false
set_option linter.unusedSimpArgs false
def bitB (k : Nat) (n : Int) : Bool := bits .and .i64 (wrap64 (n + 2147483648) / 2 ^ k) 1 == 1
theorem rank_Passes1 (n : Int) (k : Nat) (K : Nat) (w : World) (hc : w.cell? ⟨K, 0, none⟩ = some (.int .i64 (k : Int))) (h1 : k < 64) :
    Calls Try.prog 55 #[.int .i64 n, .pointer (some ⟨K, 0, none⟩)] w fun e w' => e = .returned (.bool (bitB k n)) ∧ Drawn0 w w' := by
  go_enter Try.func55, Try.ntmps55
  go_wp2
  go_ret
  exact ⟨by simp [bitB], ⟨0, rfl⟩⟩
/-! A split's places. -/
theorem notsAt_mono (f : Int → Bool) (l : List Int) (st i : Nat) : ∀ d, notsAt f l st i ≤ notsAt f l st (i + d) ∧ notsAt f l st (i + d) ≤ notsAt f l st i + d
  | 0 => by simp
  | d + 1 => by
    have h := notsAt_mono f l st i d
    have e : notsAt f l st (i + (d + 1)) = notsAt f l st (i + d) + (if f (rd l ((st + (i + d) : Nat) : Int)) then 0 else 1) := rfl
    rw [e]
    split <;> omega
theorem splitAt_range (f : Int → Bool) (l : List Int) (st n i : Nat) (hi : i < n) : (st : Int) ≤ splitAt f l st n i ∧ splitAt f l st n i < (st : Int) + n := by
  have h1 := notsAt_le f l st i
  have h2 := notsAt_mono f l st i (n - i)
  rw [show i + (n - i) = n by omega] at h2
  have h3 := notsAt_mono f l st (i + 1) (n - (i + 1))
  rw [show i + 1 + (n - (i + 1)) = n by omega] at h3
  have e : notsAt f l st (i + 1) = notsAt f l st i + (if f (rd l ((st + i : Nat) : Int)) then 0 else 1) := rfl
  unfold splitAt
  cases hf : f (rd l ((st + i : Nat) : Int))
  · rw [hf] at e
    simp only [Bool.false_eq_true, if_false] at e ⊢
    omega
  · rw [hf] at e
    simp only [if_true] at e ⊢
    omega
theorem splitAt_inj (f : Int → Bool) (l : List Int) (st n i j : Nat) (hij : i < j) (hj : j < n) : splitAt f l st n i ≠ splitAt f l st n j := by
  have a1 := notsAt_le f l st i
  have a2 := notsAt_le f l st j
  have ei : notsAt f l st (i + 1) = notsAt f l st i + (if f (rd l ((st + i : Nat) : Int)) then 0 else 1) := rfl
  have ej : notsAt f l st (j + 1) = notsAt f l st j + (if f (rd l ((st + j : Nat) : Int)) then 0 else 1) := rfl
  have m1 := notsAt_mono f l st (i + 1) (j - (i + 1))
  rw [show i + 1 + (j - (i + 1)) = j by omega] at m1
  have m2 := notsAt_mono f l st (j + 1) (n - (j + 1))
  rw [show j + 1 + (n - (j + 1)) = n by omega] at m2
  unfold splitAt
  cases hf : f (rd l ((st + i : Nat) : Int)) <;> cases hg : f (rd l ((st + j : Nat) : Int))
  all_goals
    rw [hf] at ei
    rw [hg] at ej
    simp only [Bool.false_eq_true, if_false, if_true] at ei ej ⊢
    omega
theorem splitSeg_map (f : Int → Bool) (l : List Int) (st n : Nat) : ∀ k, splitSeg f l st n k = (List.range k).map (splitAt f l st n)
  | 0 => rfl
  | k + 1 => by rw [splitSeg, splitSeg_map f l st n k, List.range_succ, List.map_append]; rfl
theorem splitSeg_nodup (f : Int → Bool) (l : List Int) (st n : Nat) : (splitSeg f l st n n).Nodup := by
  rw [splitSeg_map, List.nodup_iff_pairwise_ne, List.pairwise_map]
  refine List.Pairwise.imp_of_mem ?_ List.pairwise_lt_range
  intro a b ha hb hab
  rw [List.mem_range] at hb
  exact splitAt_inj f l st n a b hab hb
theorem splitSeg_mem (f : Int → Bool) (l : List Int) (st n : Nat) : ∀ x ∈ splitSeg f l st n n, (st : Int) ≤ x ∧ x < (st : Int) + n := by
  intro x hx
  rw [splitSeg_map] at hx
  obtain ⟨i, hi, rfl⟩ := List.mem_map.1 hx
  exact splitAt_range f l st n i (List.mem_range.1 hi)
theorem splitTo_ok (f : Int → Bool) (l lens : List Int) : ∀ i : Nat, i ≤ lens.length → (splitTo f l lens i).Nodup ∧ ∀ x ∈ splitTo f l lens i, 0 ≤ x ∧ x < (startOf lens (i : Int) : Int)
  | 0, _ => ⟨List.nodup_nil, fun x hx => by cases hx⟩
  | i + 1, h => by
    have ih := splitTo_ok f l lens i (by omega)
    have h2 := startOf_succ lens (i : Int) (by omega) (by omega)
    rw [show ((i + 1 : Nat) : Int) = (i : Int) + 1 by omega, h2]
    have e : splitTo f l lens (i + 1) = splitTo f l lens i ++ splitSeg f l (startOf lens i) (rd lens (i : Int)).toNat (rd lens (i : Int)).toNat := rfl
    rw [e]
    have h3 := splitSeg_mem f l (startOf lens i) (rd lens (i : Int)).toNat
    refine ⟨List.nodup_append.2 ⟨ih.1, splitSeg_nodup _ _ _ _, fun a ha b hb hab => ?_⟩, fun x hx => ?_⟩
    · have := ih.2 a ha
      have := h3 b hb
      omega
    · rcases List.mem_append.1 hx with hx | hx
      · have := ih.2 x hx
        omega
      · have := h3 x hx
        omega
theorem nodup_places {p : List Int} {n : Nat} (h1 : p.Nodup) (h2 : ∀ x ∈ p, 0 ≤ x ∧ x < (n : Int)) : okPlaces n p = true := by
  refine okPlaces_true n p fun i hi => ?_
  have h3 := h2 _ (rd_mem p (i : Int) (by omega) (by omega))
  have h4 : stands p i (rd p (i : Int)) = false := by
    unfold stands
    rw [List.any_eq_false]
    intro j hj
    rw [List.mem_range] at hj
    have h5 := List.pairwise_iff_getElem.1 (List.nodup_iff_pairwise_ne.1 h1) j i (by omega) hi hj
    simpa [rd, hi, show j < p.length by omega] using h5
  rw [h4]
  simp [h3.1, h3.2]
theorem split_places (f : Int → Bool) (l lens : List Int) (h : okLens l lens = true) : (splitG f l lens).length = l.length ∧ okPlaces (splitG f l lens).length (splitG f l lens) = true := by
  have h1 := okLens_pos h
  have h2 := splitTo_length f l lens lens.length (Nat.le_refl _)
  have h3 := splitTo_ok f l lens lens.length (Nat.le_refl _)
  rw [h1.2] at h2 h3
  refine ⟨h2, nodup_places h3.1 fun x hx => ?_⟩
  have := h3.2 x hx
  show 0 ≤ x ∧ x < ((splitTo f l lens lens.length).length : Int)
  omega
/-! Passes -/
/-- All places up to now, and what the list is then. -/
def passSt (l lens : List Int) : Nat → List Int × List Int
  | 0 => (upTo (fun k => k) l.length, l)
  | k + 1 => (compG (passSt l lens k).1 (splitG (bitB k) (passSt l lens k).2 lens), movedAt (passSt l lens k).2 (splitG (bitB k) (passSt l lens k).2 lens) (splitG (bitB k) (passSt l lens k).2 lens).length)
theorem okLens_length {l l2 lens : List Int} (h : okLens l lens = true) (h2 : l2.length = l.length) : okLens l2 lens = true := by
  unfold okLens at h ⊢
  rw [h2]
  exact h
theorem rd_upTo_id (n m : Nat) (h : m < n) : rd (upTo (fun k => k) n) (m : Int) = m := by rw [upTo_rd _ n m h]
theorem passSt_ok (l lens : List Int) (h : okLens l lens = true) : ∀ k, (passSt l lens k).1.length = l.length ∧ (passSt l lens k).2.length = l.length ∧ ∀ m : Nat, m < l.length → 0 ≤ rd (passSt l lens k).1 (m : Int) ∧ rd (passSt l lens k).1 (m : Int) < l.length
  | 0 => ⟨by simp [passSt, upTo_length], rfl, fun m hm => by
      show 0 ≤ rd (upTo (fun k => k) l.length) (m : Int) ∧ rd (upTo (fun k => k) l.length) (m : Int) < l.length
      rw [rd_upTo_id _ _ hm]; omega⟩
  | k + 1 => by
    obtain ⟨h1, h2, h3⟩ := passSt_ok l lens h k
    have hs := split_places (bitB k) (passSt l lens k).2 lens (okLens_length h h2)
    have e : passSt l lens (k + 1) = (compG (passSt l lens k).1 (splitG (bitB k) (passSt l lens k).2 lens), movedAt (passSt l lens k).2 (splitG (bitB k) (passSt l lens k).2 lens) (splitG (bitB k) (passSt l lens k).2 lens).length) := rfl
    rw [e]
    generalize splitG (bitB k) (passSt l lens k).2 lens = p at *
    refine ⟨by simp [compG, upTo_length, h1], by simp [movedAt, upTo_length, h2], fun m hm => ?_⟩
    have h4 := h3 m hm
    show 0 ≤ rd (upTo (fun j => rd p (rd (passSt l lens k).1 j)) (passSt l lens k).1.length) (m : Int) ∧ _
    rw [compG, upTo_rd _ _ m (by omega)]
    obtain ⟨q, hq⟩ : ∃ q : Nat, rd (passSt l lens k).1 (m : Int) = q := ⟨(rd (passSt l lens k).1 (m : Int)).toNat, by omega⟩
    rw [hq]
    have := okPlaces_pos hs.2 q (by omega)
    omega
def rank_Passes.g (l lens : List Int) (bits : Int) : List Int × Int := if openE l lens = 0 then (if decide (bits < 0) || decide (32 < bits) then ([], 2) else ((passSt l lens bits.toNat).1, 0)) else ([], openE l lens)
end Go.Proofs.Ytnkepaenpoadpaa.Hand
/- rank: Passes: split by bits, one behind the other. -/
namespace Go.Proofs.Ytnkepaenpoadpaa.Hand
open Go.RowKit Go.Proofs.YtnkepaenpoadpaaW.PrintWords Go.Proofs.YtnkepaenpoadpaaW.PrintLast Go.Proofs.YtnkepaenpoadpaaW.PrintMore
set_option linter.unusedVariables false
set_option linter.unusedSimpArgs false
attribute [local go_sem] store_func store_nilFunc
theorem rank_cut' (A : Option Addr) (n c : Nat) (w : World) (hn : n ≤ c) :
    Calls Try.prog 57 #[.slice A n c] w fun e w' => e = .returned (.slice A n n) ∧ Drawn0 w w' := by
  go_enter Try.func57, Try.ntmps57
  go_wp2
  go_ret
  exact ⟨rfl, ⟨0, rfl⟩⟩
theorem V_kp {e base : Nat} {ok S : Nat → Prop} {w w1 : World} {v : Value} {xs : List Int} (h : Kd.V (Kd.int .i64) e w base ok v xs) (hk : Kp S w w1) (hne : ∀ k, ok k → ¬ S k) : Kd.V (Kd.int .i64) e w1 base ok v xs := by
  obtain ⟨A, c, hv, hl, hF⟩ := h
  refine ⟨A, c, hv, hl, fun W' hW => hF W' fun k ho hlt => ?_⟩
  exact (hW k ho (Nat.lt_of_lt_of_le hlt hk.size)).trans (hk.block k hlt (hne k ho))
theorem V_now {e base : Nat} {ok : Nat → Prop} {w : World} {A : Option Addr} {n c : Nat} {xs : List Int} (h : Kd.V (Kd.int .i64) e w base ok (.slice A n c) xs) : n = xs.length ∧ n ≤ c ∧ (Kd.int .i64).C w A xs.length xs := by
  obtain ⟨A', c', hv, hl, hF⟩ := h
  injection hv with h1 h2 h3
  subst h1
  subst h2
  subst h3
  exact ⟨rfl, hl, Kd.F_now hF⟩
/-- Behind k passes. -/
structure PassSt (w2 : World) (X : Nat) (l lens : List Int) (A2 : Option Addr) (c2 : Nat) (k : Nat) (v : Value) (W : World) : Prop where
  kp : Kp (fun b => b = X) w2 W
  x : ∃ A7 c7, W.heap[X]? = some (.cells #[.slice A7 l.length c7, .slice A2 lens.length c2] 49 (0, 0)) ∧ l.length ≤ c7 ∧ ∀ W', Kp (fun b => b = X) W W' → (Kd.int .i64).C W' A7 l.length (passSt l lens k).2
  all : Kd.V (Kd.int .i64) 3 W 0 (fun b => X < b) v (passSt l lens k).1
set_option maxHeartbeats 4000000 in
set_option maxRecDepth 100000 in
theorem rank_Passes_yes (A : Option Addr) (c : Nat) (l : List Int) (A2 : Option Addr) (c2 : Nat) (lens : List Int) (bits : Nat) (w : World) (hr : Kd.C (Kd.int .i64) w A l.length l) (hc : l.length ≤ c) (hr2 : Kd.C (Kd.int .i64) w A2 lens.length lens) (hc2 : lens.length ≤ c2) (hE : openE l lens = 0) (hbt : bits ≤ 32) :
    Calls Try.prog 23 #[.slice A l.length c, .slice A2 lens.length c2, .int .i64 (bits : Int)] w (Ret2 w ((passSt l lens bits).1, 0)) := by
  have HO := rank_open A c l A2 c2 lens w hr hc hr2 hc2
  rw [hE] at HO
  replace HO := Aside0.mk HO
  have hk := openE_ok hE
  have hl := hk.1
  have HR := Aside0.mk hr
  have HR2 := Aside0.mk hr2
  have HC := Aside0.mk hc
  have HK := Aside0.mk hk
  clear hr hc hr2 hc2 hE hk
  refine calls_of_marks Try.func23 rfl ?_
  simp only [Try.ntmps23, List.size_toArray, List.length_cons, List.length_nil, Nat.reduceAdd, Nat.reduceSub, Array.replicate_succ, Array.replicate_zero, List.push_toArray, List.append_toArray, List.nil_append, List.cons_append]
  go_wp2_with fail
  refine (HO.out).mono ?_
  rintro e w1 ⟨he, hb1⟩
  unfold OpenP at he
  rw [if_pos rfl] at he
  subst he
  replace hb1 := Aside0.mk hb1
  go_wp2
  generalize hw2 : w1.alloc (Obj.cells #[Value.slice A l.length c, Value.slice A2 lens.length c2] 49) = w2
  have x2 : w2.heap[w1.heap.size]? = some (.cells #[.slice A l.length c, .slice A2 lens.length c2] 49 (0, 0)) := by rw [← hw2]; exact blk_new w1 _
  have b2 : Below w.heap.size w w2 := by rw [← hw2]; exact below_alloc hb1.out _
  have s2 : w2.heap.size = w1.heap.size + 1 := by rw [← hw2]; simp
  have sX : w.heap.size ≤ w1.heap.size := hb1.out.size
  clear hw2 hb1
  generalize w1.heap.size = X at *
  replace x2 := Aside0.mk x2
  replace b2 := Aside0.mk b2
  go_loopw [10, 32] (fun v i W => ∃ m : Nat, i = .int .i64 (m : Int) ∧ m ≤ l.length ∧ Aside0 (Below w2.heap.size w2 W) ∧ Aside0 ((Kd.int .i64).R 3 W w2.heap.size (fun b => w2.heap.size ≤ b) v (upTo (fun k => k) m))) (fun _ i _ => l.length - (intOf i).toNat)
  case atStart => exact ⟨0, rfl, by omega, ⟨Below.refl _ _⟩, ⟨Kd.R_nil _ _ _ _ _⟩⟩
  case round =>
    revert wr
    intro wo hrel
    obtain ⟨m, rfl, p0, hb, hR⟩ := hrel
    by_cases hlt : m < l.length
    · have hsu : Aside0 (upTo (fun k => k) ((m + 1 : Nat) : Int) = upTo (fun k => k) (m : Int) ++ [(m : Int)]) := ⟨by rw [show ((m + 1 : Nat) : Int) = (m : Int) + 1 by omega]; exact upTo_succ _ _ (by omega)⟩
      have hls : (upTo (fun k => k) (m : Int)).length = m := by simp [upTo_length]
      have HLs := Aside0.mk (show ((upTo (fun k => k) (m : Int)).length + 1) * 8 ≤ 140737488355328 by omega)
      clear hls
      generalize upTo (fun k => k) (m : Int) = xs at *
      go_wp2_with ((with_reducible refine gate_builtin (b := .append) (xs := #[.tmp 35, .tmp 37]) rfl ?_); at_builtin; refine Kd.R_append (Kd.int .i64) (w0 := w2) w2.heap.size rfl (.tmp 35) (.tmp 37) 22 3 (.int .i64 0) 8 rfl Try.underlying22 infoInt rfl (by decide) (by omega) u10 xs (m : Int) [.int .i64 (m : Int)] (fun k_ => (w2.heap.size ≤ k_)) (fun _ => False) rfl rfl rfl (fun _ hk => hk.elim) (fun k_ hk => Nat.le_trans hb.out.size hk) hR.out hb.out hb.out.size HLs.out ?_; intro v6 w6 ho hb6 hg hat; replace ho := Aside0.mk ho; replace hb6 := Aside0.mk hb6; clear hg hat)
      go_roundw
      case rel => exact ⟨m + 1, by simp, by omega, hb6, ⟨by rw [hsu.out]; exact ho.out⟩⟩
      case measure => simp [intOf]; omega
    · obtain rfl : m = l.length := by omega
      have hst : Aside0 (PassSt w2 X l lens A2 c2 0 u10 wo) := ⟨Kp.ofBelow hb.out, ⟨A, c, blk_below x2.out hb.out, HC.out, fun W' hW => Kd.C_below HR.out (b2.out.trans ((hb.out.mono b2.out.size).trans (hW.below (fun k hk => ⟨by have := hb.out.size; omega, by omega⟩))))⟩, Kd.V_mono (Kd.R_V hR.out) (fun k hk => by omega)⟩
      clear hb hR
      go_wp2
      go_loopw [10, 41] (fun v i W => ∃ k : Nat, i = .int .i64 (k : Int) ∧ k ≤ bits ∧ Aside0 (PassSt w2 X l lens A2 c2 k v W)) (fun _ i _ => bits - (intOf i).toNat)
      case atStart => exact ⟨0, rfl, by omega, hst⟩
      case round =>
        clear hst
        revert wr
        intro wq hrel
        obtain ⟨k, rfl, q0, hst⟩ := hrel
        by_cases hkb : k < bits
        · obtain ⟨A7, c7, hx7, hc7, hC7⟩ := hst.out.x
          obtain ⟨h1, h2, h3⟩ := passSt_ok l lens HK.out.2.2.2.2 k
          have hall := hst.out.all
          have hkp := hst.out.kp
          have hsz : X < wq.heap.size := blk_lt hx7
          have hnx : Aside0 (passSt l lens (k + 1) = (compG (passSt l lens k).1 (splitG (bitB k) (passSt l lens k).2 lens), movedAt (passSt l lens k).2 (splitG (bitB k) (passSt l lens k).2 lens) (splitG (bitB k) (passSt l lens k).2 lens).length)) := ⟨rfl⟩
          have hlx := split_places (bitB k) (passSt l lens k).2 lens (okLens_length HK.out.2.2.2.2 h2)
          have hBq : Below w.heap.size w wq := b2.out.trans (hkp.below (fun k hk => ⟨by have := b2.out.size; omega, by omega⟩))
          have hK3 : Kp (fun b => b = X) wq (wq.alloc (.cells #[.int .i64 (k : Int)] 3)) := (Kp.refl _ _).alloc _
          have HSp : Aside0 (Calls Try.prog 51 #[ListV (.slice A7 l.length c7) (.slice A2 lens.length c2), .func (.func 55) #[] #[.pointer (some ⟨wq.heap.size, 0, none⟩)]] (wq.alloc (.cells #[.int .i64 (k : Int)] 3)) (Ret1 (wq.alloc (.cells #[.int .i64 (k : Int)] 3)) (splitG (bitB k) (passSt l lens k).2 lens))) := ⟨by
            have h := list_split 55 #[.pointer (some ⟨wq.heap.size, 0, none⟩)] (bitB k) A7 c7 (passSt l lens k).2 A2 c2 lens (wq.alloc (.cells #[.int .i64 (k : Int)] 3)) Try.call55 (by rw [h2]; exact hC7 _ hK3) (by omega) (Kd.C_below HR2.out (below_alloc hBq _)) (by omega) HK.out.2.1 (okLens_length HK.out.2.2.2.2 h2) (fun x W hW => rank_Passes1 x k wq.heap.size W (pw_cell_below hW (blk_cell (blk_new wq _) 0)) (by omega))
            rw [h2] at h
            exact h⟩
          have hC7' := Aside0.mk hC7
          have cy0 : (wq.alloc (Obj.cells #[.int .i64 (k : Int)] 3)).cell? ⟨X, 0, none⟩ = some (.slice A7 l.length c7) := blk_cell (blk_alloc hx7 _) 0
          have cy1 : (wq.alloc (Obj.cells #[.int .i64 (k : Int)] 3)).cell? ⟨X, 1, none⟩ = some (.slice A2 lens.length c2) := blk_cell (blk_alloc hx7 _) 1
          generalize splitG (bitB k) (passSt l lens k).2 lens = p at *
          generalize (passSt l lens k).2 = xk at *
          generalize (passSt l lens k).1 = ak at *
          obtain ⟨A9, c9, rfl⟩ := Kd.V_slice hall
          have hC9 := V_now hall
          have HX7 := Aside0.mk hx7
          have HAll := Aside0.mk hall
          have HKp := Aside0.mk hkp
          have HBq := Aside0.mk hBq
          have H123 := Aside0.mk (And.intro h1 (And.intro h2 h3))
          have HLx := Aside0.mk hlx
          have HC9 := Aside0.mk hC9
          replace hc7 := Aside0.mk hc7
          clear hC7 hx7 hall hkp hBq hK3 h1 h2 h3 hlx hC9 hst
          go_wp2_with fail
          refine (HSp.out).mono ?_
          rintro e w4 ⟨v4, rfl, hV4, hb4⟩
          obtain ⟨A8, c8, rfl⟩ := Kd.V_slice hV4
          have hC8 := V_now hV4
          have hB4 : Below wq.heap.size wq w4 := (below_alloc (Below.refl _ _) _).trans (hb4.mono (by simp))
          have hbd : Below w4.heap.size w4 w4.drew := below_drew (Below.refl _ _)
          have HCo : Aside0 (∀ W, Below w4.heap.size w4 W → Calls Try.prog 47 #[.slice A9 ak.length c9, .slice A8 p.length c8] W (Ret1 W (compG ak p))) := ⟨fun W hW => rank_compose A9 c9 ak A8 c8 p W (Kd.C_below HC9.out.2.2 (hB4.trans (hW.mono hB4.size))) (Kd.C_below hC8.2.2 hW) (by have := H123.out.1; omega) (fun m hm => by
            have h1 := H123.out.1
            have h3 := H123.out.2.2 m (by omega)
            have h4 := HLx.out.1
            have h5 := H123.out.2.1
            omega)⟩
          have HMo : Aside0 (∀ W, Below w4.heap.size w4 W → Calls Try.prog 56 #[ListV (.slice A7 l.length c7) (.slice A2 lens.length c2), .slice A8 p.length c8] W fun e W' => ∃ A6 c6, e = .returned (ListV (.slice A6 l.length c6) (.slice A2 lens.length c2)) ∧ Kd.V (Kd.int .i64) 3 W' W.heap.size (fun k => W.heap.size ≤ k) (.slice A6 l.length c6) (movedAt xk p p.length) ∧ l.length ≤ c6 ∧ Below W.heap.size W W') := ⟨fun W hW => by
            have h := list_moved A7 c7 xk A2 lens.length c2 A8 c8 p W (by rw [H123.out.2.1]; exact hC7'.out W (Kp.ofBelow (hB4.trans (hW.mono hB4.size)))) (Kd.C_below hC8.2.2 hW) (by have := H123.out.2.1; omega) HLx.out.1 HLx.out.2
            rw [H123.out.2.1] at h
            refine h.mono ?_
            rintro e W' ⟨A6, c6, rfl, hv, hb⟩
            refine ⟨A6, c6, rfl, hv, ?_, hb⟩
            exact (V_now hv).2.1⟩
          have HSx : Aside0 (∀ W, Below w4.heap.size w4 W → W.cell? ⟨X, 0, none⟩ = some (.slice A7 l.length c7) ∧ W.cell? ⟨X, 1, none⟩ = some (.slice A2 lens.length c2) ∧ W.heap[X]? = some (.cells #[.slice A7 l.length c7, .slice A2 lens.length c2] 49 (0, 0))) := ⟨fun W hW => by
            have h := blk_below (blk_below HX7.out hB4) hW
            exact ⟨blk_cell h 0, blk_cell h 1, h⟩⟩
          have hszd : wq.heap.size ≤ w4.heap.size := hB4.size
          replace hB4 := Aside0.mk hB4
          clear hV4 hb4 hC8 cy0 cy1
          go_wp2_with fail
          refine wp_region_any (by kernel_rfl) ?_
          change wpAny _ _ _ _ _ _ _ w4.drew
          refine region_anyI (fun W => W.cell? ⟨X, 0, none⟩ = some (.slice A7 l.length c7) ∧ W.cell? ⟨X, 1, none⟩ = some (.slice A2 lens.length c2)) [0, 1, 3, 4] [2, 5, 6, 7] [7] (by kernel_rfl) (by kernel_rfl) (by kernel_rfl) (by kernel_rfl) rfl (fun _ _ _ h => h) ⟨(HSx.out _ hbd).1, (HSx.out _ hbd).2.1⟩ ?_
          iterate 4 refine ReadsI.step _ rfl rfl (fun W hW => by obtain ⟨k1, k2⟩ := hW; go_simp; first | rfl | done) ?_
          change TailL _ _ _ _ _ _ _
          refine TailL.call rfl rfl (by go_simp) (HCo.out _ hbd) ?_
          rintro en w5 ⟨v5, rfl, hV5, hb5⟩
          have hB5 := hbd.trans (hb5.mono hbd.size)
          refine ⟨_, rfl, fun _ => ⟨(HSx.out _ hB5).1, (HSx.out _ hB5).2.1⟩, ?_⟩
          refine TailL.call rfl rfl (by go_simp) (HMo.out _ hB5) ?_
          rintro en w6 ⟨A6, c6, rfl, hV6, hc6, hb6⟩
          have hB6 := hB5.trans (hb6.mono hB5.size)
          obtain ⟨g1, g2, g3⟩ := HSx.out _ hB6
          refine ⟨_, rfl, fun _ => ⟨g1, g2⟩, ?_⟩
          have f1 := blk_frozen g3 0
          have f2 := blk_frozen g3 1
          have hs5 := hB5.size
          have hVa : Aside0 (Kd.V (Kd.int .i64) 3 w6 0 (fun b => X < b) v5 (compG ak p)) := ⟨Kd.V_mono (Kd.V_below hV5 hb6) (fun b hb => by have := hbd.size; omega)⟩
          have hVx : Aside0 (Kd.V (Kd.int .i64) 3 w6 0 (fun b => X < b) (.slice A6 l.length c6) (movedAt xk p p.length)) := ⟨Kd.V_mono hV6 (fun b hb => by omega)⟩
          have hB6' := Aside0.mk (hB4.out.trans (hB6.mono hB4.out.size))
          have G3 := Aside0.mk g3
          clear hV5 hV6 hb5 hb6 hB5 hB6 g3 hs5 hbd
          refine TailL.val rfl rfl (by first | (go_simp; done) | (go_simp; first | rfl | exact ⟨rfl, rfl⟩)) (fun _ => ⟨g1, g2⟩) ?_
          refine TailL.skip rfl rfl rfl (by first | (go_simp; done) | (go_simp; first | rfl | exact ⟨rfl, rfl⟩)) (fun h => absurd rfl h) ?_
          unfold TailL
          simp only [List.getElem_toArray, List.getElem_cons_succ, List.getElem_cons_zero, Act.put, List.setIfInBounds_toArray, List.set_cons_zero, List.set_cons_succ]
          clear g1 g2 f1 f2
          go_wp2
          go_roundw
          case rel =>
            have hkk : Kp (fun b => b = X) w6 ((w6.setCell ⟨X, 0, none⟩ (.slice A6 l.length c6)).setCell ⟨X, 1, none⟩ (.slice A2 lens.length c2)) := ((Kp.refl (fun b => b = X) w6).setCell ⟨X, 0, none⟩ (.inl rfl) _).setCell ⟨X, 1, none⟩ (.inl rfl) _
            refine ⟨k + 1, by simp, by omega, ⟨(HKp.out.thenBelow hB6'.out).trans hkk (fun b hb => .inl hb), ⟨A6, c6, blk_set (blk_set G3.out 0 _) 1 _, hc6, fun W' hW => ?_⟩, ?_⟩⟩
            · have h := V_now (V_kp hVx.out (hkk.trans hW (fun b hb => .inl hb)) (fun b hb => by omega))
              have h2 := h.2.2
              rw [← h.1] at h2
              rw [hnx.out]
              exact h2
            · rw [hnx.out]
              exact V_kp hVa.out hkk (fun b hb => by omega)
          case measure => simp [intOf]; omega
        · obtain rfl : k = bits := by omega
          have hall := hst.out.all
          have hBq : Below w.heap.size w wq := b2.out.trans (hst.out.kp.below (fun k hk => ⟨by have := b2.out.size; omega, by omega⟩))
          obtain ⟨A9, c9, rfl⟩ := Kd.V_slice hall
          have hn := V_now hall
          have HQ := Aside0.mk (rank_cut' A9 _ c9 wq hn.2.1)
          replace hall := Aside0.mk hall
          replace hBq := Aside0.mk hBq
          generalize (passSt l lens k).1 = ak at *
          clear hn hst
          go_wp2_with (go_at_call 57; (with_reducible refine (HQ.out).mono ?_); rintro e w5 ⟨rfl, m5, rfl⟩)
          unfold MarksPost
          refine Marks.zero _ (results_tmp2 rfl _ _ _) ?_
          refine ⟨_, rfl, ?_, pw_below_drewN hBq.out _⟩
          obtain ⟨A', c', hv, hl', hF⟩ := hall.out
          injection hv with e1 e2 e3
          subst e1
          subst e3
          exact ⟨A9, ak.length, rfl, Nat.le_refl _, fun W' hW => hF W' fun b hb hlt => hW b (by omega) hlt⟩
theorem passes_no1 (A : Option Addr) (c : Nat) (l : List Int) (A2 : Option Addr) (c2 : Nat) (lens : List Int) (bits E : Int) (w : World) (hr : Kd.C (Kd.int .i64) w A l.length l) (hc : l.length ≤ c) (hr2 : Kd.C (Kd.int .i64) w A2 lens.length lens) (hc2 : lens.length ≤ c2) (hE : openE l lens = E) (h0 : E ≠ 0) :
    Calls Try.prog 23 #[.slice A l.length c, .slice A2 lens.length c2, .int .i64 bits] w (Ret2 w ([], E)) := by
  have HO := rank_open A c l A2 c2 lens w hr hc hr2 hc2
  rw [hE] at HO
  replace HO := Aside0.mk HO
  have z : (E != 0) = true := bne_iff_ne.mpr h0
  clear hr hc hr2 hc2 hE
  refine calls_of_marks Try.func23 rfl ?_
  simp only [Try.ntmps23, List.size_toArray, List.length_cons, List.length_nil, Nat.reduceAdd, Nat.reduceSub, Array.replicate_succ, Array.replicate_zero, List.push_toArray, List.append_toArray, List.nil_append, List.cons_append]
  go_wp2_with fail
  refine (HO.out).mono ?_
  rintro e w1 ⟨he, hb1⟩
  unfold OpenP at he
  rw [if_neg h0] at he
  subst he
  replace hb1 := Aside0.mk hb1
  clear h0
  go_wp2
  unfold MarksPost
  refine Marks.zero _ (results_tmp2 rfl _ _ _) ?_
  exact Ret2.nil E (below_alloc hb1.out _)
theorem passes_no2 (A : Option Addr) (c : Nat) (l : List Int) (A2 : Option Addr) (c2 : Nat) (lens : List Int) (bits : Int) (w : World) (hr : Kd.C (Kd.int .i64) w A l.length l) (hc : l.length ≤ c) (hr2 : Kd.C (Kd.int .i64) w A2 lens.length lens) (hc2 : lens.length ≤ c2) (hE : openE l lens = 0) (h0 : bits < 0 ∨ 32 < bits) :
    Calls Try.prog 23 #[.slice A l.length c, .slice A2 lens.length c2, .int .i64 bits] w (Ret2 w ([], 2)) := by
  have HO := rank_open A c l A2 c2 lens w hr hc hr2 hc2
  rw [hE] at HO
  replace HO := Aside0.mk HO
  clear hr hc hr2 hc2 hE
  rcases h0 with h0 | h0
  all_goals refine calls_of_marks Try.func23 rfl ?_
  all_goals simp only [Try.ntmps23, List.size_toArray, List.length_cons, List.length_nil, Nat.reduceAdd, Nat.reduceSub, Array.replicate_succ, Array.replicate_zero, List.push_toArray, List.append_toArray, List.nil_append, List.cons_append]
  all_goals go_wp2_with fail
  all_goals refine (HO.out).mono ?_
  all_goals rintro e w1 ⟨he, hb1⟩
  all_goals unfold OpenP at he
  all_goals rw [if_pos rfl] at he
  all_goals subst he
  all_goals replace hb1 := Aside0.mk hb1
  all_goals go_wp2
  all_goals first
    | (unfold MarksPost
       refine Marks.zero _ (results_tmp2 rfl _ _ _) ?_
       exact Ret2.nil 2 (below_alloc hb1.out _))
    | (exfalso; omega)
theorem rank_Passes.run (A : Option Addr) (c : Nat) (l : List Int) (A2 : Option Addr) (c2 : Nat) (lens : List Int) (bits : Int) (w : World) (hr : Kd.C (Kd.int .i64) w A l.length l) (hc : l.length ≤ c) (hr2 : Kd.C (Kd.int .i64) w A2 lens.length lens) (hc2 : lens.length ≤ c2) :
    Calls Try.prog 23 #[.slice A l.length c, .slice A2 lens.length c2, .int .i64 bits] w (Ret2 w (rank_Passes.g l lens bits)) := by
  unfold rank_Passes.g
  by_cases hE : openE l lens = 0
  · rw [if_pos hE]
    by_cases hb : (decide (bits < 0) || decide (32 < bits)) = true
    · rw [if_pos hb]
      exact passes_no2 A c l A2 c2 lens bits w hr hc hr2 hc2 hE (by simpa using hb)
    · rw [if_neg hb]
      have hb' : ¬ bits < 0 ∧ ¬ 32 < bits := by simpa using hb
      obtain ⟨k, rfl⟩ : ∃ k : Nat, bits = k := ⟨bits.toNat, by omega⟩
      exact rank_Passes_yes A c l A2 c2 lens k w hr hc hr2 hc2 hE (by omega)
  · rw [if_neg hE]
    exact passes_no1 A c l A2 c2 lens bits _ w hr hc hr2 hc2 rfl hE
end Go.Proofs.Ytnkepaenpoadpaa.Hand
/- cmp.Compare, cmp.Less, cmp.Or; the order of elements. -/
namespace Go.Proofs.Ytnkepaenpoadpaa.Hand
open Go.RowKit Go.Proofs.YtnkepaenpoadpaaW.PrintWords Go.Proofs.YtnkepaenpoadpaaW.PrintLast Go.Proofs.YtnkepaenpoadpaaW.PrintMore
open Go.Sort
set_option linter.unusedVariables false
set_option linter.unusedSimpArgs false
attribute [local go_sem] store_func store_nilFunc
theorem cmp_isNaN (n : Int) (w : World) : Calls Try.prog 83 #[.int .i64 n] w fun e w' => e = .returned (.bool false) ∧ Drawn0 w w' := by
  go_enter Try.func83, Try.ntmps83
  go_wp2
  go_ret
  exact ⟨by simp, ⟨0, rfl⟩⟩
def cmpI (x y : Int) : Int := if x < y then -1 else if y < x then 1 else 0
set_option maxRecDepth 100000 in
theorem cmp_Compare (x y : Int) (w : World) : Calls Try.prog 73 #[.int .i64 x, .int .i64 y] w fun e w' => e = .returned (.int .i64 (cmpI x y)) ∧ Drawn0 w w' := by
  have HE : Aside0 (cmpI x y = if x < y then -1 else if y < x then 1 else 0) := ⟨rfl⟩
  generalize cmpI x y = E at HE ⊢
  by_cases h1 : x < y
  · replace HE : Aside0 (E = -1) := ⟨by rw [HE.out, if_pos h1]⟩
    go_enter Try.func73, Try.ntmps73
    go_wp2_with (go_at_call 83; refine (cmp_isNaN _ _).mono ?_; rintro e w' ⟨rfl, m, rfl⟩)
    go_ret
    exact ⟨by rw [HE.out]; rfl, ⟨_, rfl⟩⟩
  · by_cases h2 : y < x
    · replace HE : Aside0 (E = 1) := ⟨by rw [HE.out, if_neg h1, if_pos h2]⟩
      go_enter Try.func73, Try.ntmps73
      go_wp2_with (go_at_call 83; refine (cmp_isNaN _ _).mono ?_; rintro e w' ⟨rfl, m, rfl⟩)
      go_ret
      exact ⟨by rw [HE.out]; rfl, ⟨_, rfl⟩⟩
    · replace HE : Aside0 (E = 0) := ⟨by rw [HE.out, if_neg h1, if_neg h2]⟩
      go_enter Try.func73, Try.ntmps73
      go_wp2_with (go_at_call 83; refine (cmp_isNaN _ _).mono ?_; rintro e w' ⟨rfl, m, rfl⟩)
      go_ret
      exact ⟨by rw [HE.out]; rfl, ⟨_, rfl⟩⟩
set_option maxRecDepth 100000 in
theorem cmp_Less (x y : Int) (w : World) : Calls Try.prog 79 #[.int .i64 x, .int .i64 y] w fun e w' => e = .returned (.bool (decide (x < y))) ∧ Drawn0 w w' := by
  go_enter Try.func79, Try.ntmps79
  go_wp2_with (go_at_call 83; refine (cmp_isNaN _ _).mono ?_; rintro e w' ⟨rfl, m, rfl⟩)
  go_ret
  exact ⟨rfl, ⟨_, rfl⟩⟩
/-- The first one of two that is not 0. -/
def orI (x y : Int) : Int := if x = 0 then y else x
set_option maxHeartbeats 4000000 in
set_option maxRecDepth 100000 in
theorem cmp_Or (g : Nat) (c : Nat) (x y : Int) (w : World) (hx : w.cell? ⟨g, 0, none⟩ = some (.int .i64 x)) (hy : w.cell? ⟨g, 1, none⟩ = some (.int .i64 y)) :
    Calls Try.prog 72 #[.slice (some ⟨g, 0, none⟩) 2 c] w fun e w' => e = .returned (.int .i64 (orI x y)) ∧ Drawn0 w w' := by
  have HE : Aside0 (orI x y = if x = 0 then y else x) := ⟨rfl⟩
  generalize orI x y = E at HE ⊢
  by_cases h0 : x = 0
  · subst h0
    replace HE : Aside0 (E = y) := ⟨by rw [HE.out, if_pos rfl]⟩
    by_cases h1 : y = 0
    · subst h1
      replace HE : Aside0 (E = 0) := HE
      go_enter Try.func72, Try.ntmps72
      go_wp2
      refine wp_loop_rounds 3 ?_
      rw [rounds_succ]
      go_wp2
      rw [rounds_succ]
      go_wp2
      rw [rounds_succ]
      go_wp2
      go_ret
      exact ⟨by rw [HE.out]; rfl, ⟨0, rfl⟩⟩
    · have z : (y != 0) = true := bne_iff_ne.mpr h1
      replace h1 := Aside0.mk h1
      go_enter Try.func72, Try.ntmps72
      go_wp2
      refine wp_loop_rounds 3 ?_
      rw [rounds_succ]
      go_wp2
      rw [rounds_succ]
      go_wp2
      go_ret
      exact ⟨by rw [HE.out]; rfl, ⟨0, rfl⟩⟩
  · have z : (x != 0) = true := bne_iff_ne.mpr h0
    replace HE : Aside0 (E = x) := ⟨by rw [HE.out, if_neg h0]⟩
    replace h0 := Aside0.mk h0
    go_enter Try.func72, Try.ntmps72
    go_wp2
    refine wp_loop_rounds 3 ?_
    rw [rounds_succ]
    go_wp2
    go_ret
    exact ⟨by rw [HE.out]; rfl, ⟨0, rfl⟩⟩
/-! Worlds that have drawn and grown. -/
def Gr (W W' : World) : Prop := ∃ q os, W' = grow (W.drewN q) os
theorem Gr.refl (W : World) : Gr W W := ⟨0, #[], by rw [grow_empty]; rfl⟩
theorem Gr.alloc {W W1 : World} (h : Gr W W1) (o : Obj) : Gr W (W1.alloc o) := by
  obtain ⟨q, os, rfl⟩ := h
  exact ⟨q, os ++ #[o], by rw [alloc_eq_grow, grow_grow]⟩
theorem Gr.drewN {W W1 : World} (h : Gr W W1) (m : Nat) : Gr W (W1.drewN m) := by
  obtain ⟨q, os, rfl⟩ := h
  refine ⟨q + m, os, ?_⟩
  rw [← World.drewN_drewN]
  rfl
theorem Gr.drew {W W1 : World} (h : Gr W W1) : Gr W W1.drew := h.drewN 1
theorem Gr.trans {W W1 W2 : World} (h : Gr W W1) (k : Gr W1 W2) : Gr W W2 := by
  obtain ⟨q, os, rfl⟩ := k
  obtain ⟨q2, os2, h2⟩ := h.drewN q
  rw [h2]
  exact ⟨q2, os2 ++ os, by rw [grow_grow]⟩
theorem Gr.below {W W1 : World} (h : Gr W W1) : Below W.heap.size W W1 := by
  obtain ⟨q, os, rfl⟩ := h
  refine (pw_below_drewN (Below.refl _ _) q).trans ⟨rfl, rfl, rfl, by rw [size_grow]; exact Nat.le_add_right _ _, fun k hk => heap_grow_old _ _ hk⟩
theorem Gr.of_drawn {W W1 : World} (h : Drawn0 W W1) : Gr W W1 := by
  obtain ⟨m, rfl⟩ := h
  exact (Gr.refl W).drewN m
/-! The order of elements. -/
def encE (x : Int × Int) : List Value := [.int .i64 x.1, .int .i64 x.2]
def cfB (x y : Int × Int) : Int := orI (cmpI x.1 y.1) (cmpI x.2 y.2)
def cfE (x y : Int × Int) : Int := if x = y then 0 else cfB x y
set_option maxHeartbeats 4000000 in
set_option maxRecDepth 100000 in
theorem rank_sorted1 (x y : Int × Int) (w : World) : Calls Try.prog 71 #[.agg #[.int .i64 x.1, .int .i64 x.2], .agg #[.int .i64 y.1, .int .i64 y.2]] w fun e w' => e = .returned (.int .i64 (cfB x y)) ∧ Gr w w' := by
  obtain ⟨a, b⟩ := x
  obtain ⟨c, d⟩ := y
  have HE : Aside0 (cfB (a, b) (c, d) = orI (cmpI a c) (cmpI b d)) := ⟨rfl⟩
  generalize cfB (a, b) (c, d) = E at HE ⊢
  have H1 : Aside0 (∀ W, Calls Try.prog 73 #[.int .i64 a, .int .i64 c] W fun e W' => e = .returned (.int .i64 (cmpI a c)) ∧ Drawn0 W W') := ⟨fun W => cmp_Compare a c W⟩
  have H2 : Aside0 (∀ W, Calls Try.prog 73 #[.int .i64 b, .int .i64 d] W fun e W' => e = .returned (.int .i64 (cmpI b d)) ∧ Drawn0 W W') := ⟨fun W => cmp_Compare b d W⟩
  have H3 : Aside0 (∀ g W, W.cell? ⟨g, 0, none⟩ = some (.int .i64 (cmpI a c)) → W.cell? ⟨g, 1, none⟩ = some (.int .i64 (cmpI b d)) → Calls Try.prog 72 #[.slice (some ⟨g, 0, none⟩) 2 2] W fun e W' => e = .returned (.int .i64 E) ∧ Drawn0 W W') := ⟨fun g W h1 h2 => by rw [HE.out]; exact cmp_Or g 2 _ _ W h1 h2⟩
  generalize cmpI a c = u at *
  generalize cmpI b d = v at *
  clear HE
  refine calls_of_marks Try.func71 rfl ?_
  simp only [Try.ntmps71, List.size_toArray, List.length_cons, List.length_nil, Nat.reduceAdd, Nat.reduceSub, Array.replicate_succ, Array.replicate_zero, List.push_toArray, List.append_toArray, List.nil_append, List.cons_append]
  go_wp2
  refine wp_region_any (by kernel_rfl) ?_
  generalize hw1 : (w.alloc (Obj.cells #[Value.int IntKind.i64 a, Value.int IntKind.i64 b] 62)).alloc (Obj.cells #[Value.int IntKind.i64 c, Value.int IntKind.i64 d] 62) = w1
  have hG1 : Gr w w1 := by rw [← hw1]; exact ((Gr.refl w).alloc _).alloc _
  have kx : w1.heap[w.heap.size]? = some (.cells #[.int .i64 a, .int .i64 b] 62 (0, 0)) := by rw [← hw1]; exact blk_alloc (blk_new w _) _
  have ky : w1.heap[w.heap.size + 1]? = some (.cells #[.int .i64 c, .int .i64 d] 62 (0, 0)) := by rw [← hw1]; exact blk_new_at (by simp) _
  clear hw1
  change wpAny _ _ _ _ _ _ _ w1.drew
  have HS : Aside0 (∀ W, Below w1.heap.size w1 W → W.cell? ⟨w.heap.size, 0, none⟩ = some (.int .i64 a) ∧ W.cell? ⟨w.heap.size, 1, none⟩ = some (.int .i64 b) ∧ W.cell? ⟨w.heap.size + 1, 0, none⟩ = some (.int .i64 c) ∧ W.cell? ⟨w.heap.size + 1, 1, none⟩ = some (.int .i64 d)) := ⟨fun W hW => ⟨blk_cell (blk_below kx hW) 0, blk_cell (blk_below kx hW) 1, blk_cell (blk_below ky hW) 0, blk_cell (blk_below ky hW) 1⟩⟩
  clear kx ky
  have hg0 : Gr w1 w1.drew := (Gr.refl w1).drew
  refine region_anyI (fun W => W.cell? ⟨w.heap.size, 0, none⟩ = some (.int .i64 a) ∧ W.cell? ⟨w.heap.size, 1, none⟩ = some (.int .i64 b) ∧ W.cell? ⟨w.heap.size + 1, 0, none⟩ = some (.int .i64 c) ∧ W.cell? ⟨w.heap.size + 1, 1, none⟩ = some (.int .i64 d)) [0, 1, 2, 3, 5, 6, 7, 8] [4, 9, 10, 11, 12] [12] (by kernel_rfl) (by kernel_rfl) (by kernel_rfl) (by kernel_rfl) rfl (fun _ _ _ h => h) (HS.out _ hg0.below) ?_
  iterate 8 refine ReadsI.step _ rfl rfl (fun W hW => by obtain ⟨k1, k2, k3, k4⟩ := hW; go_simp; first | rfl | done) ?_
  change TailL _ _ _ _ _ _ _
  refine TailL.call rfl rfl (by go_simp) (H1.out _) ?_
  rintro en w2 ⟨rfl, hd2⟩
  have hg2 := hg0.trans (Gr.of_drawn hd2)
  refine ⟨_, rfl, fun _ => HS.out _ hg2.below, ?_⟩
  refine TailL.call rfl rfl (by go_simp) (H2.out _) ?_
  rintro en w3 ⟨rfl, hd3⟩
  have hg3 := hg2.trans (Gr.of_drawn hd3)
  refine ⟨_, rfl, fun _ => HS.out _ hg3.below, ?_⟩
  refine TailL.val rfl rfl (by go_simp; exact ⟨rfl, rfl⟩) (fun _ => HS.out _ (hg3.alloc _).below) ?_
  refine TailL.call rfl rfl (by go_simp) (H3.out _ _ (blk_cell (blk_new w3 _) 0) (blk_cell (blk_new w3 _) 1)) ?_
  rintro en w5 ⟨rfl, hd5⟩
  have hg5 := (hg3.alloc (Obj.cells #[.int .i64 u, .int .i64 v] 3)).trans (Gr.of_drawn hd5)
  refine ⟨_, rfl, fun _ => HS.out _ hg5.below, ?_⟩
  have hG5 := hG1.trans hg5
  clear hg0 hg2 hg3 hg5 hd2 hd3 hd5
  refine TailL.val rfl rfl (by first | (go_simp; done) | (go_simp; first | rfl | exact ⟨rfl, rfl⟩)) (fun h => absurd rfl h) ?_
  unfold TailL
  simp only [List.getElem_toArray, List.getElem_cons_succ, List.getElem_cons_zero, Act.put, List.setIfInBounds_toArray, List.set_cons_zero, List.set_cons_succ]
  go_wp2
  unfold MarksPost
  refine Marks.zero _ (results_tmp rfl _ _ _) ?_
  exact ⟨rfl, hG5⟩
end Go.Proofs.Ytnkepaenpoadpaa.Hand
/- rank: ordered: the sort of elements, by the library's contract; sorted. -/
namespace Go.Proofs
open Go.Shelf Go.Lib Go.Sort Go.RowKit
shelf_lay_g SlLaysF0.n6 Slsf 6 at Try 81 as Ytnkepaenpoadpaa.Hand.sortE
end Go.Proofs
namespace Go.Proofs.Ytnkepaenpoadpaa.Hand
open Go.RowKit Go.Sort Go.Proofs.YtnkepaenpoadpaaW.PrintWords Go.Proofs.YtnkepaenpoadpaaW.PrintLast Go.Proofs.YtnkepaenpoadpaaW.PrintMore
set_option linter.unusedVariables false
set_option linter.unusedSimpArgs false
attribute [local go_sem] store_func store_nilFunc
set_option maxHeartbeats 4000000 in
set_option maxRecDepth 100000 in
theorem rank_ordered1 (x y : Int × Int) (Bb : Nat) (w : World) (hc : w.cell? ⟨Bb, 0, none⟩ = some (.func (.func 71) #[] #[])) :
    Calls Try.prog 82 #[.agg #[.int .i64 x.1, .int .i64 x.2], .agg #[.int .i64 y.1, .int .i64 y.2], .pointer (some ⟨Bb, 0, none⟩)] w fun e w' => e = .returned (.int .i64 (cfE x y)) ∧ Gr w w' := by
  have HB : Aside0 (∀ W, Calls Try.prog 71 #[.agg #[.int .i64 x.1, .int .i64 x.2], .agg #[.int .i64 y.1, .int .i64 y.2]] W fun e w' => e = .returned (.int .i64 (cfB x y)) ∧ Gr W w') := ⟨fun W => rank_sorted1 x y W⟩
  have HE : Aside0 (cfE x y = if x = y then 0 else cfB x y) := ⟨rfl⟩
  generalize cfE x y = E at HE ⊢
  generalize cfB x y = V at HB HE
  obtain ⟨a, b⟩ := x
  obtain ⟨c, d⟩ := y
  have hbl := World.block_lt_of_cell? w _ hc
  by_cases h1 : a = c
  · subst h1
    by_cases h2 : b = d
    · subst h2
      replace HE : Aside0 (E = 0) := ⟨by rw [HE.out, if_pos rfl]⟩
      refine calls_of_marks Try.func82 rfl ?_
      simp only [Try.ntmps82, List.size_toArray, List.length_cons, List.length_nil, Nat.reduceAdd, Nat.reduceSub, Array.replicate_succ, Array.replicate_zero, List.push_toArray, List.append_toArray, List.nil_append, List.cons_append]
      go_wp2
      unfold MarksPost
      refine Marks.zero _ (results_tmp rfl _ _ _) ?_
      exact ⟨by rw [HE.out]; rfl, ((Gr.refl w).alloc _).alloc _⟩
    · replace HE : Aside0 (E = V) := ⟨by rw [HE.out, if_neg (by simpa using h2)]⟩
      have z : (b == d) = false := beq_eq_false_iff_ne.mpr h2
      refine calls_of_marks Try.func82 rfl ?_
      simp only [Try.ntmps82, List.size_toArray, List.length_cons, List.length_nil, Nat.reduceAdd, Nat.reduceSub, Array.replicate_succ, Array.replicate_zero, List.push_toArray, List.append_toArray, List.nil_append, List.cons_append]
      go_wp2_with ((with_reducible refine (HB.out _).mono ?_); rintro e w5 ⟨rfl, hg5⟩; replace hg5 := Aside0.mk hg5)
      unfold MarksPost
      refine Marks.zero _ (results_tmp rfl _ _ _) ?_
      exact ⟨by rw [HE.out]; rfl, (((Gr.refl w).alloc _).alloc _).trans hg5.out⟩
  · replace HE : Aside0 (E = V) := ⟨by rw [HE.out, if_neg (by simp [h1])]⟩
    have z : (a == c) = false := beq_eq_false_iff_ne.mpr h1
    refine calls_of_marks Try.func82 rfl ?_
    simp only [Try.ntmps82, List.size_toArray, List.length_cons, List.length_nil, Nat.reduceAdd, Nat.reduceSub, Array.replicate_succ, Array.replicate_zero, List.push_toArray, List.append_toArray, List.nil_append, List.cons_append]
    go_wp2_with ((with_reducible refine (HB.out _).mono ?_); rintro e w5 ⟨rfl, hg5⟩; replace hg5 := Aside0.mk hg5)
    unfold MarksPost
    refine Marks.zero _ (results_tmp rfl _ _ _) ?_
    exact ⟨by rw [HE.out]; rfl, (((Gr.refl w).alloc _).alloc _).trans hg5.out⟩
end Go.Proofs.Ytnkepaenpoadpaa.Hand
/- rank: sorted: the elements of a segment in order. -/
namespace Go.Proofs.Ytnkepaenpoadpaa.Hand
open Go.RowKit Go.Sort Go.Proofs.YtnkepaenpoadpaaW.PrintWords Go.Proofs.YtnkepaenpoadpaaW.PrintLast Go.Proofs.YtnkepaenpoadpaaW.PrintMore
set_option linter.unusedVariables false
set_option linter.unusedSimpArgs false
attribute [local go_sem] store_func store_nilFunc
/-! Cells of elements. -/
abbrev kE : Kd (Int × Int) := Kd.pair (Kd.int .i64) (Kd.int .i64)
def flat (ys : List (Int × Int)) : List Value := ys.flatMap encE
theorem flat_length (ys : List (Int × Int)) : (flat ys).length = ys.length * 2 := by
  induction ys with
  | nil => rfl
  | cons a ys ih => simp [flat, encE] at ih ⊢; omega
theorem flat_get (ys : List (Int × Int)) (j : Nat) (p : Int × Int) (h : ys[j]? = some p) : (flat ys)[j * 2]? = some (.int .i64 p.1) ∧ (flat ys)[j * 2 + 1]? = some (.int .i64 p.2) := by
  induction ys generalizing j with
  | nil => simp at h
  | cons a ys ih =>
    cases j with
    | zero =>
      injection h with h
      subst h
      exact ⟨rfl, rfl⟩
    | succ j =>
      have h2 : ys[j]? = some p := h
      have := ih j h2
      have e : (j + 1) * 2 = j * 2 + 1 + 1 := by omega
      rw [e]
      exact this
theorem flatK_flat (ys : List (Int × Int)) : flatK encE 2 ys.toArray = (flat ys).toArray := by
  refine ext_get! (by simp [flat_length]) fun t ht => ?_
  have ht' : t < ys.length * 2 := by simpa using ht
  rw [get_flatK _ _ _ t (by simpa using ht')]
  have hj : t / 2 < ys.length := by omega
  have h := flat_get ys (t / 2) ys[t / 2] (List.getElem?_eq_getElem hj)
  have e1 : ys.toArray[t / 2]! = ys[t / 2] := by simp [hj]
  rw [e1]
  have hr : (flat ys).toArray[t]! = (flat ys)[t]! := by simp
  rw [hr]
  rcases Nat.mod_two_eq_zero_or_one t with h0 | h0
  · have e : t / 2 * 2 = t := by omega
    rw [e] at h
    rw [h0, List.getElem!_eq_getElem?_getD (l := flat ys), h.1]
    rfl
  · have e : t / 2 * 2 + 1 = t := by omega
    rw [e] at h
    rw [h0, List.getElem!_eq_getElem?_getD (l := flat ys), h.2]
    rfl
theorem holdsE {w : World} {g : Nat} {cur : Array Value} {e : TypeId} {ys : List (Int × Int)} (hb : w.heap[g]? = some (.cells cur e (0, 0))) (ht : cur.toList.take (ys.length * 2) = flat ys) : HoldsK encE 2 w g 0 ys.toArray := by
  unfold HoldsK
  rw [flatK_flat]
  intro j hj
  have hj' : j < (flat ys).length := by simpa using hj
  rw [flat_length] at hj'
  refine ⟨?_, by simp [World.frozen?, hb]⟩
  have h1 : (cur.toList.take (ys.length * 2))[j]? = (flat ys)[j]? := by rw [ht]
  rw [List.getElem?_take_of_lt hj'] at h1
  simp only [World.cell?, hb, Nat.zero_add]
  simp only [Option.isSome_none, Bool.false_eq_true, if_false]
  rw [← Array.getElem?_toList, h1]
  simp [flat_length, hj']
theorem heap_sortedV {w : World} {g n : Nat} {os : Array Obj} {cur : Array Value} {e : TypeId} {fr : Nat × Nat} (F : Array Value) (hb : w.heap[g]? = some (.cells cur e fr)) :
    (grow (putRow id (Sort.ahead w n) g 0 F) os).heap[g]? = some (.cells (putCells id 0 F cur) e fr) := by
  have hg : g < w.heap.size := (Array.getElem?_eq_some_iff.1 hb).1
  rw [heap_grow_old _ _ (by simpa using hg)]
  simp [putRow, mapBlock, Sort.ahead, Array.getElem?_modify, hb, onCells]
theorem kp_sortedV {w : World} {g n : Nat} {os : Array Obj} (F : Array Value) : Kp (fun k => k = g) w (grow (putRow id (Sort.ahead w n) g 0 F) os) := by
  refine ⟨rfl, rfl, rfl, by simp, fun k hk hne => ?_⟩
  rw [heap_grow_old _ _ (by simpa using hk)]
  have : g ≠ k := fun e => hne e.symm
  simp [putRow, mapBlock, Sort.ahead, Array.getElem?_modify, this]
theorem take_putCellsV (cur : Array Value) (ts : List Value) (h : ts.length ≤ cur.size) : (putCells id 0 ts.toArray cur).toList.take ts.length = ts := by
  apply List.ext_getElem?
  intro j
  by_cases hj : j < ts.length
  · rw [List.getElem?_take_of_lt hj, Array.getElem?_toList]
    simp [putCells, hj, show j < cur.size by omega]
  · rw [List.getElem?_take_eq_none (by omega), List.getElem?_eq_none (by omega)]
theorem elems_C {W : World} {g : Nat} {cur : Array Value} {e : TypeId} {ys : List (Int × Int)} (hb : W.heap[g]? = some (.cells cur e (0, 0))) (ht : cur.toList.take (ys.length * 2) = flat ys) (hm : ys.length ≤ 9223372036854775807) : kE.C W (some ⟨g, 0, none⟩) ys.length ys := by
  refine ⟨rfl, hm, fun _ => ⟨_, rfl, fun j p hj => ⟨[.int .i64 p.1, .int .i64 p.2], rfl, ⟨[.int .i64 p.1], [.int .i64 p.2], rfl, rfl, rfl⟩, fun i u hu => ?_⟩⟩⟩
  have hlt : j < ys.length := (List.getElem?_eq_some_iff.1 hj).1
  have hg := flat_get ys j p hj
  have hc : ∀ t v, t < ys.length * 2 → (flat ys)[t]? = some v → W.cell? ⟨g, t, none⟩ = some v := fun t v h1 h2 => by
    rw [blk_cell hb t, ← Array.getElem?_toList, ← h2, ← ht, List.getElem?_take_of_lt h1]
  show World.cell? _ ((⟨g, 0, none⟩ : Addr).add (j * 2 + i)) = _
  rw [addr0_add]
  match i, hu with
  | 0, hu => injection hu with hu; subst hu; exact hc _ _ (by omega) hg.1
  | 1, hu => injection hu with hu; subst hu; exact hc _ _ (by omega) hg.2
/-- The cells of a row of elements of the call's own. -/
theorem elems_own {e base : Nat} {ok : Nat → Prop} {w : World} {v : Value} {ys : List (Int × Int)} (h : kE.R e w base ok v ys) : (v = .slice none 0 0 ∧ ys = []) ∨ ∃ g cap cur, v = .slice (some ⟨g, 0, none⟩) ys.length cap ∧ base ≤ g ∧ w.heap[g]? = some (.cells cur e (0, 0)) ∧ ys.length ≤ cap ∧ cap ≤ maxLen ∧ cur.size = cap * 2 ∧ cur.toList.take (ys.length * 2) = flat ys := by
  obtain ⟨hok, inner, hown, hr⟩ := h
  have hin : inner = flat ys := by
    apply List.ext_getElem?
    intro t
    have hl : inner.length = ys.length * 2 := hr.1
    by_cases ht : t < ys.length * 2
    · have hj : t / 2 < ys.length := by omega
      have h1 := hr.2 (t / 2) ys[t / 2] (List.getElem?_eq_getElem hj)
      obtain ⟨c0, c1, hc, hc0, hc1⟩ := h1
      have h2 := flat_get ys (t / 2) ys[t / 2] (List.getElem?_eq_getElem hj)
      have hc0' : c0 = [.int .i64 ys[t / 2].1] := hc0
      have hc1' : c1 = [.int .i64 ys[t / 2].2] := hc1
      subst hc0'
      subst hc1'
      have hg : ∀ i, i < 2 → inner[t / 2 * 2 + i]? = ([Value.int .i64 ys[t / 2].1] ++ [Value.int .i64 ys[t / 2].2])[i]? := fun i hi => by
        have h5 : (List.take 2 (List.drop (t / 2 * 2) inner))[i]? = _ := congrArg (fun l => l[i]?) hc
        rw [List.getElem?_take_of_lt hi, List.getElem?_drop] at h5
        exact h5
      rcases Nat.mod_two_eq_zero_or_one t with h0 | h0
      · have e : t / 2 * 2 = t := by omega
        have h3 := hg 0 (by omega)
        rw [e] at h2
        rw [Nat.add_zero, e] at h3
        rw [h3, h2.1]
        rfl
      · have e : t / 2 * 2 + 1 = t := by omega
        have h3 := hg 1 (by omega)
        rw [e] at h2 h3
        rw [h3, h2.2]
        rfl
    · rw [List.getElem?_eq_none (by omega), List.getElem?_eq_none (by rw [flat_length]; omega)]
  subst hin
  rcases hown.2 with ⟨hv, hn⟩ | ⟨g, cap, cur, hv, hb, hm, h1, h2, h3, h4⟩
  · exact .inl ⟨hv, List.length_eq_zero_iff.1 hn⟩
  · exact .inr ⟨g, cap, cur, hv, hb, hm, h1, h2, h3, h4⟩
/-! The order. -/
theorem ltE (x y : Int × Int) : ltOf cfE x y = (decide (x.1 < y.1) || (decide (x.1 = y.1) && decide (x.2 < y.2))) := by
  obtain ⟨a, b⟩ := x
  obtain ⟨c, d⟩ := y
  unfold ltOf cfE cfB orI cmpI
  by_cases h : (a, b) = (c, d)
  · obtain ⟨rfl, rfl⟩ := Prod.mk.inj h
    simp
  · rw [if_neg h]
    rcases Int.lt_trichotomy a c with h1 | h1 | h1
    · simp [h1]
    · subst h1
      rcases Int.lt_trichotomy b d with h2 | h2 | h2
      · simp [h2]
      · subst h2; exact absurd rfl h
      · have : ¬ b < d := by omega
        simp [h2, this]
    · have g1 : ¬ a < c := by omega
      have g2 : a ≠ c := by omega
      simp [h1, g1, g2]
theorem swoE : SWO (ltOf cfE) where
  irrefl x := by rw [ltE]; simp
  trans x y z h1 h2 := by rw [ltE] at *; simp at *; omega
  ntrans x y z h1 h2 := by rw [ltE] at *; simp at *; omega
theorem totE (x y : Int × Int) (h1 : ltOf cfE x y = false) (h2 : ltOf cfE y x = false) : x = y := by
  rw [ltE] at h1 h2
  simp at h1 h2
  exact Prod.ext (by omega) (by omega)
end Go.Proofs.Ytnkepaenpoadpaa.Hand
/- rank: ordered, sorted. -/
namespace Go.Proofs.Ytnkepaenpoadpaa.Hand
open Go.RowKit Go.Sort Go.Proofs.YtnkepaenpoadpaaW.PrintWords Go.Proofs.YtnkepaenpoadpaaW.PrintLast Go.Proofs.YtnkepaenpoadpaaW.PrintMore
set_option linter.unusedVariables false
set_option linter.unusedSimpArgs false
attribute [local go_sem] store_func store_nilFunc
def leE (x y : Int × Int) : Bool := !(ltOf cfE) y x
set_option maxRecDepth 100000 in
theorem sortFunc_elems (g cap Bb : Nat) (cur : Array Value) (ys : List (Int × Int)) (w : World) (hb : w.heap[g]? = some (.cells cur 62 (0, 0))) (h3 : cur.size = cap * 2) (h1 : ys.length ≤ cap) (h4 : cur.toList.take (ys.length * 2) = flat ys) (hsz : ys.length ≤ 1048576)
    (hbb : w.cell? ⟨Bb, 0, none⟩ = some (.func (.func 71) #[] #[])) (hne : Bb ≠ g) :
    Calls Try.prog 81 #[.slice (some ⟨g, 0, none⟩) ys.length cap, .func (.func 82) #[] #[.pointer (some ⟨Bb, 0, none⟩)]] w fun e w' =>
      e = .returned (.tuple #[]) ∧ Kp (fun k => k = g) w w' ∧ ∃ cur', w'.heap[g]? = some (.cells cur' 62 (0, 0)) ∧ cur'.size = cap * 2 ∧ cur'.toList.take (ys.length * 2) = flat (ys.mergeSort leE) := by
  have hH := holdsE hb h4
  have hcmp : CmpLays Try.prog 82 #[.pointer (some ⟨Bb, 0, none⟩)] encE 2 cfE g 0 ys.toArray.size w := by
    intro m os dk hdk x y
    have hc : (sortWorldK encE 2 w g 0 m dk os).cell? ⟨Bb, 0, none⟩ = some (.func (.func 71) #[] #[]) := (kp_sortedV (w := w) (g := g) (n := m) (os := os) (flatK encE 2 dk)).cell hbb hne
    exact rank_ordered1 x y Bb _ hc
  have h := AnyQ.slices_SortFunc_total sortE 2 Try.isAgg62 Try.sizeOf62 encE (fun _ => rfl) (fun x v hv => by simp [encE] at hv; rcases hv with rfl | rfl <;> rfl) cfE swoE 82 #[.pointer (some ⟨Bb, 0, none⟩)] g 0 cap ys.toArray w Try.call82 hcmp hH (blk_lt hb) (by simp; omega) totE
  change Calls Try.prog 81 _ _ _ at h
  refine (show Calls Try.prog 81 #[.slice (some ⟨g, 0, none⟩) ys.toArray.size cap, .func (.func 82) #[] #[.pointer (some ⟨Bb, 0, none⟩)]] w _ from h).mono ?_
  rintro e w' ⟨rfl, n, os, rfl⟩
  have e1 : (ys.toArray.toList.mergeSort fun x y => !(ltOf cfE) y x) = ys.mergeSort leE := rfl
  rw [e1]
  unfold sortWorldK putRowK
  rw [flatK_flat]
  refine ⟨rfl, kp_sortedV _, _, heap_sortedV _ hb, by simp [putCells, h3], ?_⟩
  have hl : (flat (ys.mergeSort leE)).length = ys.length * 2 := by rw [flat_length, List.length_mergeSort]
  rw [← hl]
  exact take_putCellsV cur _ (by omega)
set_option maxHeartbeats 4000000 in
set_option maxRecDepth 100000 in
theorem rank_ordered (g cap : Nat) (cur : Array Value) (ys : List (Int × Int)) (w : World) (hb : w.heap[g]? = some (.cells cur 62 (0, 0))) (h3 : cur.size = cap * 2) (h1 : ys.length ≤ cap) (h4 : cur.toList.take (ys.length * 2) = flat ys) (hsz : ys.length ≤ 1048576) :
    Calls Try.prog 70 #[.slice (some ⟨g, 0, none⟩) ys.length cap, .func (.func 71) #[] #[]] w fun e w' =>
      e = .returned (.slice (some ⟨g, 0, none⟩) ys.length cap) ∧ Kp (fun k => k = g) w w' ∧ ∃ cur', w'.heap[g]? = some (.cells cur' 62 (0, 0)) ∧ cur'.size = cap * 2 ∧ cur'.toList.take (ys.length * 2) = flat (ys.mergeSort leE) := by
  have hgl := blk_lt hb
  have HS : Aside0 (∀ o, o = (Obj.cells #[.func (.func 71) #[] #[]] 74) → Calls Try.prog 81 #[.slice (some ⟨g, 0, none⟩) ys.length cap, .func (.func 82) #[] #[.pointer (some ⟨w.heap.size, 0, none⟩)]] (w.alloc o) fun e w' =>
      e = .returned (.tuple #[]) ∧ Kp (fun k => k = g) (w.alloc o) w' ∧ ∃ cur', w'.heap[g]? = some (.cells cur' 62 (0, 0)) ∧ cur'.size = cap * 2 ∧ cur'.toList.take (ys.length * 2) = flat (ys.mergeSort leE)) :=
    ⟨fun o ho => by subst ho; exact sortFunc_elems g cap w.heap.size cur ys _ (blk_alloc hb _) h3 h1 h4 hsz (blk_cell (blk_new w _) 0) (by omega)⟩
  clear hb h3 h4
  go_enter Try.func70, Try.ntmps70
  go_wp2_with fail
  refine (HS.out _ rfl).mono ?_
  rintro e w2 ⟨rfl, hk, cur', hb', hs', ht'⟩
  replace hk := Aside0.mk hk
  replace hb' := Aside0.mk hb'
  replace hs' := Aside0.mk hs'
  replace ht' := Aside0.mk ht'
  go_wp2
  go_ret
  exact ⟨rfl, ((Kp.refl _ _).alloc _).trans hk.out (fun k hk => .inl hk), cur', hb'.out, hs'.out, ht'.out⟩
set_option maxHeartbeats 4000000 in
set_option maxRecDepth 100000 in
theorem rank_ordered_none (w : World) :
    Calls Try.prog 70 #[.slice none 0 0, .func (.func 71) #[] #[]] w fun e w' => e = .returned (.slice none 0 0) ∧ Below w.heap.size w w' := by
  have HS : Aside0 (∀ W v, Calls Try.prog 81 #[.slice none 0 0, v] W fun e w' => e = .returned (.tuple #[]) ∧ w' = W) := ⟨fun W v => AnyF.slices_SortFunc_none sortE none 0 v W⟩
  go_enter Try.func70, Try.ntmps70
  go_wp2_with fail
  refine (HS.out _ _).mono ?_
  rintro e w2 ⟨rfl, rfl⟩
  go_wp2
  go_ret
  exact ⟨rfl, below_alloc (Below.refl _ _) _⟩
end Go.Proofs.Ytnkepaenpoadpaa.Hand
/- rank: sorted: the elements of a segment, in order. -/
namespace Go.Proofs.Ytnkepaenpoadpaa.Hand
open Go.RowKit Go.Sort Go.Proofs.YtnkepaenpoadpaaW.PrintWords Go.Proofs.YtnkepaenpoadpaaW.PrintLast Go.Proofs.YtnkepaenpoadpaaW.PrintMore
set_option linter.unusedVariables false
set_option linter.unusedSimpArgs false
attribute [local go_sem] store_func store_nilFunc
def elemsOf (b : Nat) (l : List Int) (k : Nat) : List (Int × Int) := (List.range k).map fun (i : Nat) => (rd l (i : Int), ((b + i : Nat) : Int))
theorem elemsOf_length (b : Nat) (l : List Int) (k : Nat) : (elemsOf b l k).length = k := by simp [elemsOf]
theorem elemsOf_succ (b : Nat) (l : List Int) (k : Nat) : elemsOf b l (k + 1) = elemsOf b l k ++ [(rd l (k : Int), ((b + k : Nat) : Int))] := by simp [elemsOf, List.range_succ]
def sortedG (b : Nat) (l : List Int) : List (Int × Int) := (elemsOf b l l.length).mergeSort leE
theorem sortedG_length (b : Nat) (l : List Int) : (sortedG b l).length = l.length := by rw [sortedG, List.length_mergeSort, elemsOf_length]
theorem infoElem : (Try.prog.info? 62).map (fun i => (i.zero, i.size, i.bytes)) = some (some (.agg #[.int .i64 0, .int .i64 0]), 2, 16) := by kernel_rfl
theorem kE_M {w : World} {base : Nat} {ok : Nat → Prop} (x : Int × Int) : kE.M w base ok x [.int .i64 x.1, .int .i64 x.2] := ⟨[.int .i64 x.1], [.int .i64 x.2], rfl, rfl, rfl⟩
set_option maxHeartbeats 4000000 in
set_option maxRecDepth 100000 in
theorem rank_sorted (A : Option Addr) (c : Nat) (b : Nat) (l : List Int) (w : World) (hr : Kd.C (Kd.int .i64) w A l.length l) (hl : b + l.length ≤ 1048576) :
    Calls Try.prog 59 #[.int .i64 (b : Int), .slice A l.length c] w fun e w' => ∃ A2 c2, e = .returned (.slice A2 l.length c2) ∧ l.length ≤ c2 ∧ (∀ ad, A2 = some ad → ∃ g, ad = ⟨g, 0, none⟩) ∧ Below w.heap.size w w' ∧ ∀ W, Kp (fun k => k < w.heap.size) w' W → kE.C W A2 l.length (sortedG b l) := by
  have HR := Aside0.mk hr
  have HOrd : Aside0 (∀ (g cap : Nat) (cur : Array Value) W, W.heap[g]? = some (.cells cur 62 (0, 0)) → cur.size = cap * 2 → l.length ≤ cap → cur.toList.take (l.length * 2) = flat (elemsOf b l l.length) → Calls Try.prog 70 #[.slice (some ⟨g, 0, none⟩) l.length cap, .func (.func 71) #[] #[]] W fun e w' =>
      e = .returned (.slice (some ⟨g, 0, none⟩) l.length cap) ∧ Kp (fun k => k = g) W w' ∧ ∃ cur', w'.heap[g]? = some (.cells cur' 62 (0, 0)) ∧ cur'.size = cap * 2 ∧ cur'.toList.take (l.length * 2) = flat (sortedG b l)) := ⟨fun g cap cur W h1 h2 h3 h4 => by
        have h := rank_ordered g cap cur (elemsOf b l l.length) W h1 h2 (by rw [elemsOf_length]; exact h3) (by rw [elemsOf_length]; exact h4) (by rw [elemsOf_length]; omega)
        rw [elemsOf_length] at h
        exact h⟩
  have HL := Aside0.mk (sortedG_length b l)
  clear hr
  generalize sortedG b l = S at *
  go_enter Try.func59, Try.ntmps59
  go_wp2
  go_loopw [5, 10] (fun v i W => ∃ m : Nat, i = .int .i64 (m : Int) ∧ m ≤ l.length ∧ Aside0 (Below w.heap.size w W) ∧ Aside0 (kE.R 62 W w.heap.size (fun b => w.heap.size ≤ b) v (elemsOf b l m))) (fun _ i _ => l.length - (intOf i).toNat)
  case atStart => exact ⟨0, rfl, by omega, ⟨Below.refl _ _⟩, ⟨Kd.R_nil _ _ _ _ _⟩⟩
  case round =>
    obtain ⟨m, rfl, p0, hb, hR⟩ := hrel
    by_cases hlt : m < l.length
    · obtain ⟨ad, e1, hx⟩ := Kd.at_int (Kd.C_below HR.out hb.out) (m : Int) (by omega) (by omega)
      cases e1
      rw [Int.toNat_natCast] at hx
      have hsu := Aside0.mk (elemsOf_succ b l m)
      have hls := elemsOf_length b l m
      have HLs := Aside0.mk (show ((elemsOf b l m).length + 1) * 16 ≤ 140737488355328 by omega)
      clear hls
      generalize elemsOf b l m = xs at *
      generalize rd l (m : Int) = n at *
      have hM : Aside0 (∀ W base ok, kE.M W base ok (n, ((b + m : Nat) : Int)) [.int .i64 n, .int .i64 ((b : Int) + (m : Int))]) := ⟨fun W base ok => by have := kE_M (w := W) (base := base) (ok := ok) (n, ((b + m : Nat) : Int)); simpa using this⟩
      go_wp2_with ((with_reducible refine gate_builtin (b := .append) (xs := #[.tmp 15, .tmp 21]) rfl ?_); at_builtin; refine Kd.R_append kE (w0 := w) w.heap.size rfl (.tmp 15) (.tmp 21) 59 62 (.agg #[.int .i64 0, .int .i64 0]) 16 rfl Try.underlying59 infoElem rfl (by decide) (by omega) u5 xs (n, ((b + m : Nat) : Int)) [.int .i64 n, .int .i64 ((b : Int) + (m : Int))] (fun k_ => (w.heap.size ≤ k_)) (fun _ => False) rfl rfl (hM.out _ _ _) (fun _ hk => hk.elim) (fun k_ hk => Nat.le_trans hb.out.size hk) hR.out hb.out hb.out.size HLs.out ?_; intro v6 w6 ho hb6 hg hat; replace ho := Aside0.mk ho; replace hb6 := Aside0.mk hb6; clear hg hat)
      go_roundw
      case rel => exact ⟨m + 1, by simp, by omega, hb6, ⟨by rw [hsu.out]; exact ho.out⟩⟩
      case measure => simp [intOf]; omega
    · obtain rfl : m = l.length := by omega
      rcases elems_own hR.out with ⟨rfl, hnil⟩ | ⟨g, cap, cur, rfl, hgb, hm, h1, h2, h3, h4⟩
      · have hl0 : l.length = 0 := by have := elemsOf_length b l l.length; rw [hnil] at this; exact this.symm
        have HB := hb
        clear hnil hR
        go_wp2_with (go_at_call 70; (with_reducible refine (rank_ordered_none _).mono ?_); rintro e w5 ⟨rfl, hb5⟩; replace hb5 := Aside0.mk hb5)
        go_ret
        refine ⟨none, 0, by rw [hl0]; rfl, by omega, (fun ad h => by cases h), HB.out.trans (hb5.out.mono HB.out.size), fun W hW => ?_⟩
        rw [hl0] at HL ⊢
        obtain rfl : S = [] := List.length_eq_zero_iff.1 HL.out
        exact ⟨rfl, by omega, fun h => by omega⟩
      · have hel := elemsOf_length b l l.length
        rw [hel] at h1 h4
        have HO := Aside0.mk (HOrd.out g cap cur wr hm h3 h1 h4)
        have HB := hb
        have HC := Aside0.mk h1
        have hsl : (elemsOf b l l.length).length = l.length := hel
        rw [hsl]
        clear hm h1 h2 h3 h4 hR hel hsl
        go_wp2_with (go_at_call 70; (with_reducible refine (HO.out).mono ?_); rintro e w5 ⟨rfl, hk5, cur', hb5, hs5, ht5⟩; replace hk5 := Aside0.mk hk5; replace hb5 := Aside0.mk hb5; replace hs5 := Aside0.mk hs5; replace ht5 := Aside0.mk ht5)
        go_ret
        refine ⟨some ⟨g, 0, none⟩, cap, rfl, HC.out, (fun ad h => by cases h; exact ⟨g, rfl⟩), HB.out.trans (hk5.out.below (fun k hk => ⟨by have := HB.out.size; omega, by omega⟩)), fun W hW => ?_⟩
        have hbW := hW.blk hb5.out (by omega)
        rw [← HL.out]
        exact elems_C hbW (by rw [HL.out]; exact ht5.out) (by rw [HL.out]; omega)
end Go.Proofs.Ytnkepaenpoadpaa.Hand
