/- rank: Order: the places that sort each segment. -/
import Derived.Test.YtnkepaenpoadpaaK2
import Derived.Test.YtnkepaenpoadpaaK3
import Derived.Maps.OwnIn
namespace Go.Proofs.Ytnkepaenpoadpaa.Hand
open Go.RowKit Go.Sort Go.Proofs.YtnkepaenpoadpaaW.PrintWords Go.Proofs.YtnkepaenpoadpaaW.PrintLast Go.Proofs.YtnkepaenpoadpaaW.PrintMore
set_option linter.unusedVariables false
set_option linter.unusedSimpArgs false
attribute [local go_sem] Oper.semAt_some store_func store_nilFunc
theorem sortedG_mem (b : Nat) (l : List Int) (k : Nat) (hk : k < l.length) : ∃ i : Nat, i < l.length ∧ (sortedG b l).getD k (0, 0) = (rd l (i : Int), ((b + i : Nat) : Int)) := by
  have hk' : k < (sortedG b l).length := by rw [sortedG_length]; exact hk
  have hm : (sortedG b l)[k] ∈ elemsOf b l l.length := (List.mergeSort_perm (elemsOf b l l.length) leE).mem_iff.1 (List.getElem_mem hk')
  obtain ⟨i, hi, he⟩ := List.mem_map.1 hm
  exact ⟨i, List.mem_range.1 hi, by rw [List.getD_eq_getElem?_getD, List.getElem?_eq_getElem hk', Option.getD_some, ← he]⟩
/-- Numbers written at the places of elements, one behind the other. -/
def setsTo (xs : List Int) (S : List (Int × Int)) (val : Nat → Int) : Nat → List Int
  | 0 => xs
  | k + 1 => (setsTo xs S val k).set (S.getD k (0, 0)).2.toNat (val k)
theorem setsTo_length (xs : List Int) (S : List (Int × Int)) (val : Nat → Int) : ∀ k, (setsTo xs S val k).length = xs.length
  | 0 => rfl
  | k + 1 => by rw [setsTo, List.length_set, setsTo_length xs S val k]
def segOf (l lens : List Int) (i : Nat) : List Int := (l.drop (startOf lens (i : Int))).take (rd lens (i : Int)).toNat
def orderTo (l lens : List Int) : Nat → List Int
  | 0 => List.replicate l.length 0
  | i + 1 => setsTo (orderTo l lens i) (sortedG (startOf lens (i : Int)) (segOf l lens i)) (fun k => ((startOf lens (i : Int) + k : Nat) : Int)) (rd lens (i : Int)).toNat
theorem orderTo_length (l lens : List Int) : ∀ i, (orderTo l lens i).length = l.length
  | 0 => by simp [orderTo]
  | i + 1 => by rw [orderTo, setsTo_length, orderTo_length l lens i]
def rank_Order.g (l lens : List Int) : List Int × Int := if openE l lens = 0 then (orderTo l lens lens.length, 0) else ([], openE l lens)
/-- An element of elements that are read. -/
theorem elem_at {w : World} {A : Option Addr} {n : Nat} {ys : List (Int × Int)} (h : kE.C w A n ys) (k : Nat) (hk : k < n) : ∃ ad, A = some ad ∧ w.cell? (ad.add (k * 2)) = some (.int .i64 (ys.getD k (0, 0)).1) ∧ w.cell? (ad.add (k * 2 + 1)) = some (.int .i64 (ys.getD k (0, 0)).2) := by
  obtain ⟨hn, _, hr⟩ := h
  obtain ⟨ad, e, hr⟩ := hr (by omega)
  have hk' : k < ys.length := by omega
  obtain ⟨c, hc, ⟨c0, c1, he, h0, h1⟩, hcell⟩ := hr k ys[k] (List.getElem?_eq_getElem hk')
  have h0' : c0 = [.int .i64 ys[k].1] := h0
  have h1' : c1 = [.int .i64 ys[k].2] := h1
  subst h0'
  subst h1'
  subst he
  have e2 : ys.getD k (0, 0) = ys[k] := by rw [List.getD_eq_getElem?_getD, List.getElem?_eq_getElem hk', Option.getD_some]
  rw [e2]
  exact ⟨ad, e, hcell 0 _ rfl, hcell 1 _ rfl⟩
set_option maxHeartbeats 4000000 in
set_option maxRecDepth 100000 in
theorem rank_Order_yes (A : Option Addr) (c : Nat) (l : List Int) (A2 : Option Addr) (c2 : Nat) (lens : List Int) (w : World) (hr : Kd.C (Kd.int .i64) w A l.length l) (hc : l.length ≤ c) (hr2 : Kd.C (Kd.int .i64) w A2 lens.length lens) (hc2 : lens.length ≤ c2) (hE : openE l lens = 0) :
    Calls Try.prog 25 #[.slice A l.length c, .slice A2 lens.length c2] w (Ret2 w (orderTo l lens lens.length, 0)) := by
  have HOp := rank_open A c l A2 c2 lens w hr hc hr2 hc2
  rw [hE] at HOp
  replace HOp := Aside0.mk HOp
  have hk := openE_ok hE
  have hl := hk.1
  have HR := Aside0.mk hr
  have HR2 := Aside0.mk hr2
  have HC := Aside0.mk hc
  have H7 := Aside0.mk (okLens_pos hk.2.2.2.2)
  clear hr hc hr2 hc2 hE hk
  refine calls_of_marks Try.func25 rfl ?_
  simp only [Try.ntmps25, List.size_toArray, List.length_cons, List.length_nil, Nat.reduceAdd, Nat.reduceSub, Array.replicate_succ, Array.replicate_zero, List.push_toArray, List.append_toArray, List.nil_append, List.cons_append]
  go_wp2_with fail
  refine (HOp.out).mono ?_
  rintro e w1 ⟨he, hb1⟩
  unfold OpenP at he
  rw [if_pos rfl] at he
  subst he
  replace hb1 := Aside0.mk hb1
  have hsz1 := hb1.out.size
  go_wp2_with (first | (go_at_call 58; (with_reducible refine (rank_segments _ _ _ A A2 l.length c lens.length c2 rfl rfl).mono ?_); rintro e w7 ⟨rfl, hw7⟩; replace hw7 := Aside0.mk hw7) | ((with_reducible refine gate_ (.makeSlice 22 (.tmp 23) (.tmp 23)) rfl ?_); refine Kd.R_make (Kd.int .i64) (w0 := w1.alloc (.cells #[.slice A l.length c, .slice A2 lens.length c2] 49)) (w1.heap.size + 1) 3 rfl rfl 22 (.tmp 23) (.tmp 23) rfl (l.length : Int) rfl rfl Try.underlying22 (.int .i64 0) 8 infoInt rfl (by decide) (by decide) 0 (ok := fun b => w1.heap.size + 1 ≤ b) (okp := fun _ => False) rfl (fun _ h => h.elim) (by simp) (by omega) (by omega) (Below.refl _ _) (by simp) ?_; intro v6 w6 hR6 hb6 hg6 hat6; replace hR6 := Aside0.mk hR6; replace hb6 := Aside0.mk hb6; clear hg6 hat6; obtain ⟨A6, c6, hv6⟩ : ∃ A6 c6, v6 = .slice A6 l.length c6 := (by obtain ⟨A, c, h⟩ := Kd.R_slice hR6.out; exact ⟨A, c, by simpa using h⟩); subst hv6; have xk : w6.heap[w1.heap.size]? = some (.cells #[.slice A l.length c, .slice A2 lens.length c2] 49 (0, 0)) := blk_kept_old hb6.out (blk_new w1 _) (by omega); have cx0 : (w6.alloc (Obj.cells #[Value.slice A6 l.length c6] 22)).cell? ⟨w1.heap.size, 0, none⟩ = some (.slice A l.length c) := blk_cell (blk_alloc xk _) 0; have cx1 : (w6.alloc (Obj.cells #[Value.slice A6 l.length c6] 22)).cell? ⟨w1.heap.size, 1, none⟩ = some (.slice A2 lens.length c2) := blk_cell (blk_alloc xk _) 1; clear xk))
  replace hw7 := hw7.out
  obtain ⟨O, hO⟩ : ∃ O, w6.heap.size = O := ⟨_, rfl⟩
  have s7 : w7.heap.size = O + 2 := by rw [hw7]; simp [hO]
  have o7 : w7.heap[O]? = some (.cells #[.slice A6 l.length c6] 22 (0, 0)) := by rw [hw7]; exact blk_alloc (blk_new_at hO _) _
  have i0 : w7.cell? ⟨O + 1, 0, none⟩ = some (.slice A l.length c) := by rw [hw7]; exact (blk_cell (blk_new_at (by simp [hO]) _) 0).trans rfl
  have i1 : w7.cell? ⟨O + 1, 1, none⟩ = some (.slice A2 lens.length c2) := by rw [hw7]; exact (blk_cell (blk_new_at (by simp [hO]) _) 1).trans rfl
  have hb6' := hb6.out
  have hOle : w1.heap.size + 1 ≤ O := by have h := hb6'.size; simp at h; omega
  have b7 : Below w.heap.size w w7 := by
    rw [hw7]
    exact below_alloc (below_alloc ((below_alloc hb1.out _).trans (hb6'.mono (by omega))) _) _
  have R7 : (Kd.int .i64).R 3 w7 (w1.heap.size + 1) (fun k => some k = (Value.slice A6 l.length c6).ownBlock) (.slice A6 l.length c6) (orderTo l lens 0) := by
    rw [hw7]
    have h := hR6.out
    rw [Int.toNat_natCast] at h
    exact Kd.R_mono (Kd.R_tight2 (rfl : (Kd.int .i64).E = []) (Kd.R_alloc (Kd.R_alloc h _) _)) (fun k hk => hk.1)
  have hown : ∀ k, some k = (Value.slice A6 l.length c6).ownBlock → w1.heap.size + 1 ≤ k ∧ k < O := fun k hk => by
    have h := R_cells hR6.out hk
    rw [hO] at h
    exact ⟨h.1, h.2.1⟩
  rw [hO]
  clear hw7 hb6 hb6' hR6 hO cx0 cx1
  generalize w1.heap.size = N1 at *
  refine wp_rangeSeqK rfl Try.call69 (rank_segments_it (O + 1) A c l A2 c2 lens w.heap.size w7 i1 HC.out (fun W hW => Kd.C_below HR2.out (b7.trans hW)) b7.size H7.out.1 H7.out.2 hl) (Below.refl _ _) b7.size (segL_size A lens)
    (fun i W => Kp (fun k => some k = (Value.slice A6 l.length c6).ownBlock ∨ O + 2 ≤ k) w7 W ∧ (Kd.int .i64).R 3 W (N1 + 1) (fun k => some k = (Value.slice A6 l.length c6).ownBlock) (.slice A6 l.length c6) (orderTo l lens i)) (fun _ _ => False) ?own ?ownx ?start ?keep
    ?round ?done ?stop
  case own =>
    rintro i W1 W2 row ⟨h3, h2⟩ hg hr
    exact ⟨h3.own hg (fun r e => .inr (by have := (hr r e).1; omega)), R_own h2 hg (fun r e => (hr r e).2)⟩
  case ownx => exact fun _ _ _ _ h _ _ => h.elim
  case start => exact ⟨Kp.refl _ _, R7⟩
  case keep =>
    rintro i W ⟨h3, h2⟩
    exact h3.cell i0 (fun h => h.elim (fun h => by have := (hown _ h).2; simp at this; omega) (fun h => absurd h (by show ¬ O + 2 ≤ O + 1; omega)))
  case stop => exact fun _ _ _ _ h _ => h.elim
  case round =>
    intro l0 i args W hi hI K hK
    obtain ⟨hlt, rfl⟩ := segL_get hi
    clear hI R7
    replace hK := Aside0.mk hK
    gi_wp2
    refine hK.out _ ?_
    rintro W2 ⟨hK2, hR⟩
    have hn0 := H7.out.1 _ (rd_mem lens (i : Int) (by omega) (by omega))
    have hs := startOf_succ lens (i : Int) (by omega) (by omega)
    have hmono := startOf_mono lens ((i : Int) + 1) (by omega) (lens.length - (i + 1)) (by omega)
    rw [show (i : Int) + 1 + ((lens.length - (i + 1) : Nat) : Int) = lens.length by omega, H7.out.2, hs] at hmono
    have hsl := orderTo_length l lens i
    have hsg : orderTo l lens (i + 1) = setsTo (orderTo l lens i) (sortedG (startOf lens (i : Int)) (segOf l lens i)) (fun k => ((startOf lens (i : Int) + k : Nat) : Int)) (rd lens (i : Int)).toNat := rfl
    have hse : segOf l lens i = (l.drop (startOf lens (i : Int))).take (rd lens (i : Int)).toNat := rfl
    generalize segOf l lens i = seg at *
    generalize (rd lens (i : Int)).toNat = n at *
    generalize startOf lens (i : Int) = st at *
    generalize orderTo l lens i = xs0 at *
    have hq := (seg_slice A c l st n hmono HC.out).2
    rw [← hse] at hq
    generalize segA A st n = SA at *
    obtain rfl : n = seg.length := by rw [hse, List.length_take, List.length_drop]; omega
    have hW2s : O + 2 ≤ W2.heap.size := by have := hK2.size; omega
    have HW2 : Below w.heap.size w W2 := b7.trans (hK2.below (fun k hk => ⟨by omega, fun h => h.elim (fun h => by have := (hown _ h).1; omega) (fun h => by omega)⟩))
    have HSo := Aside0.mk (rank_sorted SA seg.length st seg W2 (hq W2 (Kd.C_below HR.out HW2)) (by omega))
    have hmem : ∀ k : Nat, k < seg.length → ∃ q : Nat, ((sortedG st seg).getD k (0, 0)).2 = q ∧ q < l.length := fun k hk => by
      obtain ⟨j, hj, he⟩ := sortedG_mem st seg k hk
      exact ⟨st + j, by rw [he], by omega⟩
    have hkeep : ∀ wr, Kp (fun b => W2.heap.size ≤ b ∨ some b = (Value.slice A6 l.length c6).ownBlock) W2 wr → wr.cell? ⟨O, 0, none⟩ = some (.slice A6 l.length c6) := fun wr h => by
      have ho2 := hK2.blk o7 (fun h => h.elim (fun h => by have := (hown _ h).2; omega) (fun h => by omega))
      exact (blk_cell (h.blk ho2 (fun h => h.elim (fun h => by omega) (fun h => by have := (hown _ h).2; omega))) 0).trans rfl
    have hst0 : Aside0 (setsTo xs0 (sortedG st seg) (fun k => ((st + k : Nat) : Int)) 0 = xs0) := ⟨rfl⟩
    have hst1 : Aside0 (∀ k, setsTo xs0 (sortedG st seg) (fun k => ((st + k : Nat) : Int)) (k + 1) = (setsTo xs0 (sortedG st seg) (fun k => ((st + k : Nat) : Int)) k).set ((sortedG st seg).getD k (0, 0)).2.toNat ((st + k : Nat) : Int)) := ⟨fun _ => rfl⟩
    generalize setsTo xs0 (sortedG st seg) (fun k => ((st + k : Nat) : Int)) = sets at *
    generalize sortedG st seg = S at *
    have HCell : Aside0 (∀ b, some b = (Value.slice A6 l.length c6).ownBlock → ∃ cs t fr, W2.heap[b]? = some (.cells cs t fr)) := ⟨fun b hb => (R_cells hR hb).2.2⟩
    have hR0 := Aside0.mk hR
    have HMem := Aside0.mk hmem
    have HKeep := Aside0.mk hkeep
    have HOwn := Aside0.mk hown
    have HK2 := Aside0.mk hK2
    have HB7 := Aside0.mk b7
    have HO7 := Aside0.mk o7
    have HI0 := Aside0.mk i0
    have HI1 := Aside0.mk i1
    have HSg := Aside0.mk hsg
    have HS := Aside0.mk hs
    have HW2' := Aside0.mk HW2
    have hseg : seg.length ≤ 1048576 := by omega
    have hstn : st + seg.length ≤ 1048576 := by omega
    replace hmono := Aside0.mk hmono
    clear hn0 hs hsl hsg hq hR hkeep hown hK2 b7 o7 i0 i1 HW2 hK K hi hmem hse
    gi_wp2_with fail
    refine ⟨trivial, rfl, (CallsIn.inRound l0 (callsIn_wide.2 HSo.out)).mono ?_⟩
    rintro e w4 ⟨A9, c9, rfl, hc9, hA9, hb9, hC9⟩
    replace hA9 := Aside0.mk hA9
    have hw4s : W2.heap.size ≤ w4.heap.size := hb9.size
    have HC9 : Aside0 (∀ wr, Kp (fun b => some b = (Value.slice A6 l.length c6).ownBlock) w4 wr → kE.C wr A9 seg.length S) := ⟨fun wr h => hC9 wr (h.mono (fun b hb => by have := (HOwn.out b hb).2; omega))⟩
    have HKw : Aside0 (∀ wr, Kp (fun b => some b = (Value.slice A6 l.length c6).ownBlock) w4 wr → Kp (fun b => W2.heap.size ≤ b ∨ some b = (Value.slice A6 l.length c6).ownBlock) W2 wr) := ⟨fun wr h => (Kp.ofBelow hb9).trans h (fun b hb => .inl (.inr hb))⟩
    have hR4 : Aside0 ((Kd.int .i64).R 3 w4 (N1 + 1) (fun k => some k = (Value.slice A6 l.length c6).ownBlock) (.slice A6 l.length c6) (sets 0)) := ⟨by rw [hst0.out]; exact Kd.R_below hR0.out hb9⟩
    clear hC9 hb9 hR0 hst0
    gi_wp2
    gi_loopw [33] (fun i wr => ∃ k : Nat, i = .int .i64 (k : Int) ∧ k ≤ seg.length ∧ Aside0 (Kp (fun b => some b = (Value.slice A6 l.length c6).ownBlock) w4 wr) ∧ Aside0 ((Kd.int .i64).R 3 wr (N1 + 1) (fun k => some k = (Value.slice A6 l.length c6).ownBlock) (.slice A6 l.length c6) (sets k))) (fun i _ => seg.length - (intOf i).toNat)
    case atStart => exact ⟨0, rfl, by omega, ⟨Kp.refl _ _⟩, hR4⟩
    case round =>
      clear hR4
      obtain ⟨k, rfl, p0, hK, hR⟩ := hrel
      have cO := HKeep.out _ (HKw.out _ hK.out)
      by_cases hlt : k < seg.length
      · obtain ⟨ad, e1, hx0, hx1⟩ := elem_at (HC9.out _ hK.out) k hlt
        subst e1
        have hx1 : wr.cell? ⟨(ad.add (k * 2)).block, (ad.add (k * 2)).off + 1, none⟩ = some (.int .i64 (S.getD k (0, 0)).2) := by
          obtain ⟨g9, hg9⟩ := hA9.out ad rfl
          rw [hg9, addr0_add] at hx1
          rw [hg9, addr0_add]
          exact hx1
        obtain ⟨q, hq, hq2⟩ := HMem.out k hlt
        have hs1 := hst1.out k
        rw [hq, Int.toNat_natCast] at hs1
        rw [hq] at hx1
        generalize (S.getD k (0, 0)).1 = pn at *
        obtain ⟨adr, rfl⟩ := R_some hR.out (by omega)
        have hszr : w4.heap.size ≤ wr.heap.size := hK.out.size
        replace hq := Aside0.mk hq
        replace hs1 := Aside0.mk hs1
        obtain ⟨hc4, hf4, hR5, g6, hg6, hg7, hg8⟩ := R_store (Kd.R_alloc hR.out (Obj.cells #[.int .i64 pn, .int .i64 (q : Int)] 62)) q hq2 ((st : Int) + (k : Int))
        have hK5 := (hK.out.alloc (Obj.cells #[.int .i64 pn, .int .i64 (q : Int)] 62)).setCell (adr.add q) (.inl (by rw [hg6]; exact hg7.symm)) (.int .i64 ((st : Int) + (k : Int)))
        have hgl : g6 < wr.heap.size := by have := (HOwn.out g6 hg7.symm).2; omega
        have hca : (wr.alloc (Obj.cells #[.int .i64 pn, .int .i64 (q : Int)] 62)).cell? ⟨O, 0, none⟩ = some (.slice (some adr) l.length c6) := pw_cell_below (below_alloc (Below.refl _ _) _) cO
        replace hR5 := Aside0.mk hR5
        replace hK5 := Aside0.mk hK5
        replace hR := Aside0.mk hR.out
        clear hg7 hg8
        gi_wp2
        go_roundw
        case rel => exact ⟨k + 1, by simp, by omega, hK5, ⟨by rw [hs1.out, show ((st + k : Nat) : Int) = (st : Int) + (k : Int) by omega]; exact hR5.out⟩⟩
        case measure => simp [intOf]; omega
      · obtain rfl : k = seg.length := by omega
        have hKK := Aside0.mk (HKw.out _ hK.out)
        clear cO
        gi_wp2
        refine ⟨hKK.out.keepsFrom (fun b hb hlt => ?_), hKK.out.below (fun b hb => ⟨by have := HW2'.out.size; omega, fun h => h.elim (fun h => by have := HW2'.out.size; omega) (fun h => by have := (HOwn.out _ h).1; omega)⟩), HK2.out.trans hKK.out (fun b hb => hb.elim (fun h => .inl (.inr (by omega))) (fun h => .inl (.inl h))), ?_⟩
        · rcases hb with hb | hb
          · omega
          · exact HCell.out b hb
        · rw [HSg.out]
          exact hR.out
  case done =>
    rintro D W hD ⟨h1, h2⟩ hd
    have cO : W.cell? ⟨O, 0, none⟩ = some (.slice A6 l.length c6) := blk_cell (h1.blk o7 (fun h => h.elim (fun h => by have := (hown _ h).2; omega) (fun h => by omega))) 0
    have hq := (Kd.R_reads' h2).2.1
    have hcap := R_cap h2
    rw [segL_length] at h2
    have H1 := Aside0.mk h1
    have H2 := Aside0.mk h2
    have HD := Aside0.mk hd
    have HQ := Aside0.mk (rank_cut A6 l.length c6 W hq hcap)
    have HB7 := Aside0.mk b7
    have HOwn := Aside0.mk hown
    clear h1 h2 hq hcap hd hown b7
    go_wp2_with (go_at_call 57; (with_reducible refine (HQ.out).mono ?_); rintro e w5 ⟨rfl, m5, rfl⟩)
    (try rw [Exit.noGoto_ret])
    have hd5 : (W.drewN m5).heap[D]? = some (.deferred (some [])) := HD.out
    refine Marks.one hd5 _ (results_tmp2 rfl _ _ _) ?_
    have r5 := R_own (Kd.R_drewN H2.out m5) (grownBy_putObj' (W.drewN m5) D (.deferred none)) (fun r e => by cases e; exact ⟨_, hd5, rfl⟩)
    have v5 := V_cut (base2 := w.heap.size) r5
    have hBW : Below w.heap.size w W := HB7.out.trans (H1.out.below (fun k hk => ⟨by have := HB7.out.size; omega, fun h => h.elim (fun h => by have := (HOwn.out _ h).1; omega) (fun h => by omega)⟩))
    have hb5 : Below w.heap.size w ((W.drewN m5).putObj D (.deferred none)) := (pw_below_drewN hBW m5).trans (below_putObj (l := D) (B := w.heap.size) (W.drewN m5) (.deferred none) (by omega))
    exact ⟨_, rfl, Kd.V_mono v5 (fun k hk => by have := (HOwn.out _ hk).1; omega), hb5⟩
theorem rank_Order_no (A : Option Addr) (c : Nat) (l : List Int) (A2 : Option Addr) (c2 : Nat) (lens : List Int) (E : Int) (w : World) (hr : Kd.C (Kd.int .i64) w A l.length l) (hc : l.length ≤ c) (hr2 : Kd.C (Kd.int .i64) w A2 lens.length lens) (hc2 : lens.length ≤ c2) (hE : openE l lens = E) (h0 : E ≠ 0) :
    Calls Try.prog 25 #[.slice A l.length c, .slice A2 lens.length c2] w (Ret2 w ([], E)) := by
  have HO := rank_open A c l A2 c2 lens w hr hc hr2 hc2
  rw [hE] at HO
  replace HO := Aside0.mk HO
  have z : (E != 0) = true := bne_iff_ne.mpr h0
  clear hr hc hr2 hc2 hE
  refine calls_of_marks Try.func25 rfl ?_
  simp only [Try.ntmps25, List.size_toArray, List.length_cons, List.length_nil, Nat.reduceAdd, Nat.reduceSub, Array.replicate_succ, Array.replicate_zero, List.push_toArray, List.append_toArray, List.nil_append, List.cons_append]
  go_wp2_with fail
  refine (HO.out).mono ?_
  rintro e w1 ⟨he, hb1⟩
  unfold OpenP at he
  rw [if_neg h0] at he
  subst he
  replace hb1 := Aside0.mk hb1
  clear h0
  go_wp2
  unfold MarksPost
  refine Marks.zero _ (results_tmp2 rfl _ _ _) ?_
  exact Ret2.nil E (below_alloc hb1.out _)
theorem rank_Order.run (A : Option Addr) (c : Nat) (l : List Int) (A2 : Option Addr) (c2 : Nat) (lens : List Int) (w : World) (hr : Kd.C (Kd.int .i64) w A l.length l) (hc : l.length ≤ c) (hr2 : Kd.C (Kd.int .i64) w A2 lens.length lens) (hc2 : lens.length ≤ c2) :
    Calls Try.prog 25 #[.slice A l.length c, .slice A2 lens.length c2] w (Ret2 w (rank_Order.g l lens)) := by
  unfold rank_Order.g
  by_cases hE : openE l lens = 0
  · rw [if_pos hE]
    exact rank_Order_yes A c l A2 c2 lens w hr hc hr2 hc2 hE
  · rw [if_neg hE]
    exact rank_Order_no A c l A2 c2 lens _ w hr hc hr2 hc2 rfl hE
end Go.Proofs.Ytnkepaenpoadpaa.Hand
/- rank: Ranks: the ranks of all elements. -/
namespace Go.Proofs.Ytnkepaenpoadpaa.Hand
open Go.RowKit Go.Sort Go.Proofs.YtnkepaenpoadpaaW.PrintWords Go.Proofs.YtnkepaenpoadpaaW.PrintLast Go.Proofs.YtnkepaenpoadpaaW.PrintMore
set_option linter.unusedVariables false
set_option linter.unusedSimpArgs false
attribute [local go_sem] Oper.semAt_some store_func store_nilFunc
/-- The rank behind k elements. -/
def rkOf (S : List (Int × Int)) : Nat → Nat
  | 0 => 0
  | k + 1 => rkOf S k + (if 0 < k ∧ (S.getD k (0, 0)).1 ≠ (S.getD (k - 1) (0, 0)).1 then 1 else 0)
theorem rkOf_le (S : List (Int × Int)) : ∀ k, rkOf S k ≤ k
  | 0 => Nat.le_refl _
  | k + 1 => by
    have := rkOf_le S k
    unfold rkOf
    split <;> omega
def ranksTo (l lens : List Int) : Nat → List Int
  | 0 => List.replicate l.length 0
  | i + 1 => setsTo (ranksTo l lens i) (sortedG (startOf lens (i : Int)) (segOf l lens i)) (fun k => ((rkOf (sortedG (startOf lens (i : Int)) (segOf l lens i)) (k + 1) : Nat) : Int)) (rd lens (i : Int)).toNat
theorem ranksTo_length (l lens : List Int) : ∀ i, (ranksTo l lens i).length = l.length
  | 0 => by simp [ranksTo]
  | i + 1 => by rw [ranksTo, setsTo_length, ranksTo_length l lens i]
def rank_Ranks.g (l lens : List Int) : List Int × Int := if openE l lens = 0 then (ranksTo l lens lens.length, 0) else ([], openE l lens)
set_option maxHeartbeats 4000000 in
set_option maxRecDepth 100000 in
theorem rank_Ranks_yes (A : Option Addr) (c : Nat) (l : List Int) (A2 : Option Addr) (c2 : Nat) (lens : List Int) (w : World) (hr : Kd.C (Kd.int .i64) w A l.length l) (hc : l.length ≤ c) (hr2 : Kd.C (Kd.int .i64) w A2 lens.length lens) (hc2 : lens.length ≤ c2) (hE : openE l lens = 0) :
    Calls Try.prog 29 #[.slice A l.length c, .slice A2 lens.length c2] w (Ret2 w (ranksTo l lens lens.length, 0)) := by
  have HOp := rank_open A c l A2 c2 lens w hr hc hr2 hc2
  rw [hE] at HOp
  replace HOp := Aside0.mk HOp
  have hk := openE_ok hE
  have hl := hk.1
  have HR := Aside0.mk hr
  have HR2 := Aside0.mk hr2
  have HC := Aside0.mk hc
  have H7 := Aside0.mk (okLens_pos hk.2.2.2.2)
  clear hr hc hr2 hc2 hE hk
  refine calls_of_marks Try.func29 rfl ?_
  simp only [Try.ntmps29, List.size_toArray, List.length_cons, List.length_nil, Nat.reduceAdd, Nat.reduceSub, Array.replicate_succ, Array.replicate_zero, List.push_toArray, List.append_toArray, List.nil_append, List.cons_append]
  go_wp2_with fail
  refine (HOp.out).mono ?_
  rintro e w1 ⟨he, hb1⟩
  unfold OpenP at he
  rw [if_pos rfl] at he
  subst he
  replace hb1 := Aside0.mk hb1
  have hsz1 := hb1.out.size
  go_wp2_with (first | (go_at_call 58; (with_reducible refine (rank_segments _ _ _ A A2 l.length c lens.length c2 rfl rfl).mono ?_); rintro e w7 ⟨rfl, hw7⟩; replace hw7 := Aside0.mk hw7) | ((with_reducible refine gate_ (.makeSlice 22 (.tmp 25) (.tmp 25)) rfl ?_); refine Kd.R_make (Kd.int .i64) (w0 := w1.alloc (.cells #[.slice A l.length c, .slice A2 lens.length c2] 49)) (w1.heap.size + 1) 3 rfl rfl 22 (.tmp 25) (.tmp 25) rfl (l.length : Int) rfl rfl Try.underlying22 (.int .i64 0) 8 infoInt rfl (by decide) (by decide) 0 (ok := fun b => w1.heap.size + 1 ≤ b) (okp := fun _ => False) rfl (fun _ h => h.elim) (by simp) (by omega) (by omega) (Below.refl _ _) (by simp) ?_; intro v6 w6 hR6 hb6 hg6 hat6; replace hR6 := Aside0.mk hR6; replace hb6 := Aside0.mk hb6; clear hg6 hat6; obtain ⟨A6, c6, hv6⟩ : ∃ A6 c6, v6 = .slice A6 l.length c6 := (by obtain ⟨A, c, h⟩ := Kd.R_slice hR6.out; exact ⟨A, c, by simpa using h⟩); subst hv6; have xk : w6.heap[w1.heap.size]? = some (.cells #[.slice A l.length c, .slice A2 lens.length c2] 49 (0, 0)) := blk_kept_old hb6.out (blk_new w1 _) (by omega); have cx0 : (w6.alloc (Obj.cells #[Value.slice A6 l.length c6] 22)).cell? ⟨w1.heap.size, 0, none⟩ = some (.slice A l.length c) := blk_cell (blk_alloc xk _) 0; have cx1 : (w6.alloc (Obj.cells #[Value.slice A6 l.length c6] 22)).cell? ⟨w1.heap.size, 1, none⟩ = some (.slice A2 lens.length c2) := blk_cell (blk_alloc xk _) 1; clear xk))
  replace hw7 := hw7.out
  obtain ⟨O, hO⟩ : ∃ O, w6.heap.size = O := ⟨_, rfl⟩
  have s7 : w7.heap.size = O + 2 := by rw [hw7]; simp [hO]
  have o7 : w7.heap[O]? = some (.cells #[.slice A6 l.length c6] 22 (0, 0)) := by rw [hw7]; exact blk_alloc (blk_new_at hO _) _
  have i0 : w7.cell? ⟨O + 1, 0, none⟩ = some (.slice A l.length c) := by rw [hw7]; exact (blk_cell (blk_new_at (by simp [hO]) _) 0).trans rfl
  have i1 : w7.cell? ⟨O + 1, 1, none⟩ = some (.slice A2 lens.length c2) := by rw [hw7]; exact (blk_cell (blk_new_at (by simp [hO]) _) 1).trans rfl
  have hb6' := hb6.out
  have hOle : w1.heap.size + 1 ≤ O := by have h := hb6'.size; simp at h; omega
  have b7 : Below w.heap.size w w7 := by
    rw [hw7]
    exact below_alloc (below_alloc ((below_alloc hb1.out _).trans (hb6'.mono (by omega))) _) _
  have R7 : (Kd.int .i64).R 3 w7 (w1.heap.size + 1) (fun k => some k = (Value.slice A6 l.length c6).ownBlock) (.slice A6 l.length c6) (ranksTo l lens 0) := by
    rw [hw7]
    have h := hR6.out
    rw [Int.toNat_natCast] at h
    exact Kd.R_mono (Kd.R_tight2 (rfl : (Kd.int .i64).E = []) (Kd.R_alloc (Kd.R_alloc h _) _)) (fun k hk => hk.1)
  have hown : ∀ k, some k = (Value.slice A6 l.length c6).ownBlock → w1.heap.size + 1 ≤ k ∧ k < O := fun k hk => by
    have h := R_cells hR6.out hk
    rw [hO] at h
    exact ⟨h.1, h.2.1⟩
  rw [hO]
  clear hw7 hb6 hb6' hR6 hO cx0 cx1
  generalize w1.heap.size = N1 at *
  refine wp_rangeSeqK rfl Try.call69 (rank_segments_it (O + 1) A c l A2 c2 lens w.heap.size w7 i1 HC.out (fun W hW => Kd.C_below HR2.out (b7.trans hW)) b7.size H7.out.1 H7.out.2 hl) (Below.refl _ _) b7.size (segL_size A lens)
    (fun i W => Kp (fun k => some k = (Value.slice A6 l.length c6).ownBlock ∨ O + 2 ≤ k) w7 W ∧ (Kd.int .i64).R 3 W (N1 + 1) (fun k => some k = (Value.slice A6 l.length c6).ownBlock) (.slice A6 l.length c6) (ranksTo l lens i)) (fun _ _ => False) ?own ?ownx ?start ?keep
    ?round ?done ?stop
  case own =>
    rintro i W1 W2 row ⟨h3, h2⟩ hg hr
    exact ⟨h3.own hg (fun r e => .inr (by have := (hr r e).1; omega)), R_own h2 hg (fun r e => (hr r e).2)⟩
  case ownx => exact fun _ _ _ _ h _ _ => h.elim
  case start => exact ⟨Kp.refl _ _, R7⟩
  case keep =>
    rintro i W ⟨h3, h2⟩
    exact h3.cell i0 (fun h => h.elim (fun h => by have := (hown _ h).2; simp at this; omega) (fun h => absurd h (by show ¬ O + 2 ≤ O + 1; omega)))
  case stop => exact fun _ _ _ _ h _ => h.elim
  case round =>
    intro l0 i args W hi hI K hK
    obtain ⟨hlt, rfl⟩ := segL_get hi
    clear hI R7
    replace hK := Aside0.mk hK
    gi_wp2
    refine hK.out _ ?_
    rintro W2 ⟨hK2, hR⟩
    have hn0 := H7.out.1 _ (rd_mem lens (i : Int) (by omega) (by omega))
    have hs := startOf_succ lens (i : Int) (by omega) (by omega)
    have hmono := startOf_mono lens ((i : Int) + 1) (by omega) (lens.length - (i + 1)) (by omega)
    rw [show (i : Int) + 1 + ((lens.length - (i + 1) : Nat) : Int) = lens.length by omega, H7.out.2, hs] at hmono
    have hsl := ranksTo_length l lens i
    have hsg : ranksTo l lens (i + 1) = setsTo (ranksTo l lens i) (sortedG (startOf lens (i : Int)) (segOf l lens i)) (fun k => ((rkOf (sortedG (startOf lens (i : Int)) (segOf l lens i)) (k + 1) : Nat) : Int)) (rd lens (i : Int)).toNat := rfl
    have hse : segOf l lens i = (l.drop (startOf lens (i : Int))).take (rd lens (i : Int)).toNat := rfl
    generalize segOf l lens i = seg at *
    generalize (rd lens (i : Int)).toNat = n at *
    generalize startOf lens (i : Int) = st at *
    generalize ranksTo l lens i = xs0 at *
    have hq := (seg_slice A c l st n hmono HC.out).2
    rw [← hse] at hq
    generalize segA A st n = SA at *
    obtain rfl : n = seg.length := by rw [hse, List.length_take, List.length_drop]; omega
    have hW2s : O + 2 ≤ W2.heap.size := by have := hK2.size; omega
    have HW2 : Below w.heap.size w W2 := b7.trans (hK2.below (fun k hk => ⟨by omega, fun h => h.elim (fun h => by have := (hown _ h).1; omega) (fun h => by omega)⟩))
    have HSo := Aside0.mk (rank_sorted SA seg.length st seg W2 (hq W2 (Kd.C_below HR.out HW2)) (by omega))
    have hmem : ∀ k : Nat, k < seg.length → ∃ q : Nat, ((sortedG st seg).getD k (0, 0)).2 = q ∧ q < l.length := fun k hk => by
      obtain ⟨j, hj, he⟩ := sortedG_mem st seg k hk
      exact ⟨st + j, by rw [he], by omega⟩
    have hkeep : ∀ wr, Kp (fun b => W2.heap.size ≤ b ∨ some b = (Value.slice A6 l.length c6).ownBlock) W2 wr → wr.cell? ⟨O, 0, none⟩ = some (.slice A6 l.length c6) := fun wr h => by
      have ho2 := hK2.blk o7 (fun h => h.elim (fun h => by have := (hown _ h).2; omega) (fun h => by omega))
      exact (blk_cell (h.blk ho2 (fun h => h.elim (fun h => by omega) (fun h => by have := (hown _ h).2; omega))) 0).trans rfl
    have hst0 : Aside0 (setsTo xs0 (sortedG st seg) (fun k => ((rkOf (sortedG st seg) (k + 1) : Nat) : Int)) 0 = xs0) := ⟨rfl⟩
    have hst1 : Aside0 (∀ k, setsTo xs0 (sortedG st seg) (fun k => ((rkOf (sortedG st seg) (k + 1) : Nat) : Int)) (k + 1) = (setsTo xs0 (sortedG st seg) (fun k => ((rkOf (sortedG st seg) (k + 1) : Nat) : Int)) k).set ((sortedG st seg).getD k (0, 0)).2.toNat ((rkOf (sortedG st seg) (k + 1) : Nat) : Int)) := ⟨fun _ => rfl⟩
    generalize setsTo xs0 (sortedG st seg) (fun k => ((rkOf (sortedG st seg) (k + 1) : Nat) : Int)) = sets at *
    generalize sortedG st seg = S at *
    have HCell : Aside0 (∀ b, some b = (Value.slice A6 l.length c6).ownBlock → ∃ cs t fr, W2.heap[b]? = some (.cells cs t fr)) := ⟨fun b hb => (R_cells hR hb).2.2⟩
    have hR0 := Aside0.mk hR
    have HMem := Aside0.mk hmem
    have HKeep := Aside0.mk hkeep
    have HOwn := Aside0.mk hown
    have HK2 := Aside0.mk hK2
    have HB7 := Aside0.mk b7
    have HO7 := Aside0.mk o7
    have HI0 := Aside0.mk i0
    have HI1 := Aside0.mk i1
    have HSg := Aside0.mk hsg
    have HS := Aside0.mk hs
    have HW2' := Aside0.mk HW2
    have hseg : seg.length ≤ 1048576 := by omega
    have hstn : st + seg.length ≤ 1048576 := by omega
    replace hmono := Aside0.mk hmono
    clear hn0 hs hsl hsg hq hR hkeep hown hK2 b7 o7 i0 i1 HW2 hK K hi hmem hse
    gi_wp2_with fail
    refine ⟨trivial, rfl, (CallsIn.inRound l0 (callsIn_wide.2 HSo.out)).mono ?_⟩
    rintro e w4 ⟨A9, c9, rfl, hc9, hA9, hb9, hC9⟩
    replace hA9 := Aside0.mk hA9
    have hw4s : W2.heap.size ≤ w4.heap.size := hb9.size
    have HC9 : Aside0 (∀ wr, Kp (fun b => some b = (Value.slice A6 l.length c6).ownBlock) w4 wr → kE.C wr A9 seg.length S) := ⟨fun wr h => hC9 wr (h.mono (fun b hb => by have := (HOwn.out b hb).2; omega))⟩
    have HKw : Aside0 (∀ wr, Kp (fun b => some b = (Value.slice A6 l.length c6).ownBlock) w4 wr → Kp (fun b => W2.heap.size ≤ b ∨ some b = (Value.slice A6 l.length c6).ownBlock) W2 wr) := ⟨fun wr h => (Kp.ofBelow hb9).trans h (fun b hb => .inl (.inr hb))⟩
    have hR4 : Aside0 ((Kd.int .i64).R 3 w4 (N1 + 1) (fun k => some k = (Value.slice A6 l.length c6).ownBlock) (.slice A6 l.length c6) (sets 0)) := ⟨by rw [hst0.out]; exact Kd.R_below hR0.out hb9⟩
    clear hC9 hb9 hR0 hst0
    gi_wp2
    gi_loopw [11, 36] (fun r i wr => ∃ k : Nat, i = .int .i64 (k : Int) ∧ r = .int .i64 ((rkOf S k : Nat) : Int) ∧ k ≤ seg.length ∧ Aside0 (Kp (fun b => some b = (Value.slice A6 l.length c6).ownBlock) w4 wr) ∧ Aside0 ((Kd.int .i64).R 3 wr (N1 + 1) (fun k => some k = (Value.slice A6 l.length c6).ownBlock) (.slice A6 l.length c6) (sets k))) (fun _ i _ => seg.length - (intOf i).toNat)
    case atStart => exact ⟨0, rfl, rfl, by omega, ⟨Kp.refl _ _⟩, hR4⟩
    case round =>
      clear hR4
      obtain ⟨k, rfl, rfl, p0, hK, hR⟩ := hrel
      have cO := HKeep.out _ (HKw.out _ hK.out)
      have hrk := rkOf_le S k
      by_cases hlt : k < seg.length
      · obtain ⟨ad, e1, hx0, hx1⟩ := elem_at (HC9.out _ hK.out) k hlt
        subst e1
        have hx1 : wr.cell? ⟨(ad.add (k * 2)).block, (ad.add (k * 2)).off + 1, none⟩ = some (.int .i64 (S.getD k (0, 0)).2) := by
          obtain ⟨g9, hg9⟩ := hA9.out ad rfl
          rw [hg9, addr0_add] at hx1
          rw [hg9, addr0_add]
          exact hx1
        obtain ⟨q, hq, hq2⟩ := HMem.out k hlt
        have hs1 := hst1.out k
        rw [hq, Int.toNat_natCast] at hs1
        rw [hq] at hx1
        have hrs : rkOf S (k + 1) = rkOf S k + (if 0 < k ∧ (S.getD k (0, 0)).1 ≠ (S.getD (k - 1) (0, 0)).1 then 1 else 0) := rfl
        have hprev : Aside0 (∀ j, k = j + 1 → wr.cell? (ad.add (j * 2)) = some (.int .i64 (S.getD j (0, 0)).1)) := ⟨fun j hj => by
          obtain ⟨ad', e1', hy0, _⟩ := elem_at (HC9.out _ hK.out) j (by omega)
          cases e1'
          exact hy0⟩
        generalize (S.getD k (0, 0)).1 = pn at *
        obtain ⟨adr, rfl⟩ := R_some hR.out (by omega)
        have hszr : w4.heap.size ≤ wr.heap.size := hK.out.size
        replace hq := Aside0.mk hq
        replace hs1 := Aside0.mk hs1
        replace hrs := Aside0.mk hrs
        gi_wp2_with fail
        generalize hw5 : wr.alloc (Obj.cells #[.int .i64 pn, .int .i64 (q : Int)] 62) = w5
        have ky : w5.heap[wr.heap.size]? = some (.cells #[.int .i64 pn, .int .i64 (q : Int)] 62 (0, 0)) := by rw [← hw5]; exact blk_new wr _
        have hK5 : Kp (fun b => some b = (Value.slice (some adr) l.length c6).ownBlock) w4 w5 := by rw [← hw5]; exact hK.out.alloc _
        have hR5 : (Kd.int .i64).R 3 w5 (N1 + 1) (fun k => some k = (Value.slice (some adr) l.length c6).ownBlock) (.slice (some adr) l.length c6) (sets k) := by rw [← hw5]; exact Kd.R_alloc hR.out _
        have cO5 : w5.drew.cell? ⟨O, 0, none⟩ = some (.slice (some adr) l.length c6) := by rw [← hw5]; exact pw_cell_below (below_drew (below_alloc (Below.refl _ _) _)) cO
        have hb5 : Below wr.heap.size wr w5.drew := by rw [← hw5]; exact below_drew (below_alloc (Below.refl _ _) _)
        have kc0 := blk_cell (blk_drew ky) 0
        have kc1 := blk_cell (blk_drew ky) 1
        have hprev5 : Aside0 (∀ j, k = j + 1 → w5.drew.cell? (ad.add (j * 2)) = some (.int .i64 (S.getD j (0, 0)).1)) := ⟨fun j hj => pw_cell_below hb5 (hprev.out j hj)⟩
        clear hw5 hx0 hx1 cO hprev
        generalize wr.heap.size = Y at *
        obtain ⟨hc4, hf4, hRs, g6, hg6, hg7, hg8⟩ := R_store hR5 q hq2 ((rkOf S (k + 1) : Nat) : Int)
        have hKs := hK5.setCell (adr.add q) (.inl (by rw [hg6]; exact hg7.symm)) (.int .i64 ((rkOf S (k + 1) : Nat) : Int))
        replace hRs := Aside0.mk (Kd.R_drew hRs)
        replace hKs := Aside0.mk hKs.drew
        replace hb5 := Aside0.mk hb5
        clear hg6 hg7 hg8 hR5 hK5 hK hR
        by_cases hk0 : k = 0
        · have hrn : rkOf S (k + 1) = rkOf S k := by rw [hrs.out, if_neg (by omega)]; rfl
          rw [hrn] at hRs hKs
          subst hk0
          have z0 : decide ((0 : Int) < ((0 : Nat) : Int)) = false := rfl
          refine wpIn_region_any0 (by kernel_rfl) (by kernel_rfl) (fun _ _ h => h) ?_
          change wpAny _ _ _ _ _ _ _ w5.drew
          refine region_anyI (fun W => W.cell? ⟨Y, 0, none⟩ = some (.int .i64 pn) ∧ True) [0, 1, 2, 3, 4, 5, 6, 7, 8, 9, 10, 11, 12] [] [] (by kernel_rfl) (by kernel_rfl) (by kernel_rfl) rfl rfl (fun _ _ _ h => h) ⟨kc0, trivial⟩ ?_
          iterate 3 refine ReadsI.step _ rfl rfl (fun W hW => by obtain ⟨k1, k2⟩ := hW; go_simp; first | rfl | done) ?_
          iterate 9 refine ReadsI.stepN rfl (unwanted_of (j := 2) (d := 43) (b := true) rfl rfl (by go_simp; try omega) (by go_simp; try rfl)) ?_
          refine ReadsI.step _ rfl rfl (fun W hW => by obtain ⟨k1, k2⟩ := hW; go_simp; first | rfl | done) ?_
          change TailL _ _ _ _ _ _ _
          unfold TailL
          simp only [List.getElem_toArray, List.getElem_cons_succ, List.getElem_cons_zero, Act.put, List.setIfInBounds_toArray, List.set_cons_zero, List.set_cons_succ]
          gi_wp2
          go_roundw
          case rel => exact ⟨1, rfl, by rw [show (1 : Nat) = 0 + 1 from rfl, hrn], by omega, hKs, ⟨by rw [show (1 : Nat) = 0 + 1 from rfl, hs1.out, hrn]; exact hRs.out⟩⟩
          case measure => simp [intOf]; omega
        · obtain ⟨j, rfl⟩ : ∃ j, k = j + 1 := ⟨k - 1, by omega⟩
          have kp0 := hprev5.out j rfl
          have hwj : IntKind.i64.wrap (j : Int) = (j : Int) := by rw [i64_w]; unfold wrap64; omega
          rw [show j + 1 - 1 = j by omega] at hrs
          generalize (S.getD j (0, 0)).1 = pm at *
          by_cases hpe : pn = pm
          · have hrn : rkOf S (j + 1 + 1) = rkOf S (j + 1) := by rw [hrs.out, if_neg (fun h => h.2 hpe)]; rfl
            rw [hrn] at hRs hKs
            have z : (pn != pm) = false := bne_eq_false_iff_eq.mpr hpe
            replace hpe := Aside0.mk hpe
            refine wpIn_region_any0 (by kernel_rfl) (by kernel_rfl) (fun _ _ h => h) ?_
            change wpAny _ _ _ _ _ _ _ w5.drew
            refine region_anyI (fun W => W.cell? ⟨Y, 0, none⟩ = some (.int .i64 pn) ∧ W.cell? (ad.add (j * 2)) = some (.int .i64 pm)) [0, 1, 2, 3, 4, 5, 6, 7, 8, 9, 10, 11, 12] [] [] (by kernel_rfl) (by kernel_rfl) (by kernel_rfl) rfl rfl (fun _ _ _ h => h) ⟨kc0, kp0⟩ ?_
            iterate 3 refine ReadsI.step _ rfl rfl (fun W hW => by obtain ⟨k1, k2⟩ := hW; go_simp; first | rfl | done | (rw [if_pos (by omega)])) ?_
            iterate 9 refine ReadsI.stepW _ rfl (wanted_of (j := 2) (d := 43) (b := true) rfl rfl (by go_simp; try omega) (by go_simp; try rfl)) (fun W hW => by obtain ⟨k1, k2⟩ := hW; go_simp; first | rfl | done | (rw [if_pos (by omega)])) ?_
            refine ReadsI.step _ rfl rfl (fun W hW => by obtain ⟨k1, k2⟩ := hW; go_simp; first | rfl | done | (rw [if_pos (by omega)])) ?_
            change TailL _ _ _ _ _ _ _
            unfold TailL
            simp only [List.getElem_toArray, List.getElem_cons_succ, List.getElem_cons_zero, Act.put, List.setIfInBounds_toArray, List.set_cons_zero, List.set_cons_succ]
            gi_wp2
            go_roundw
            case rel => exact ⟨j + 1 + 1, by simp, by rw [hrn], by omega, hKs, ⟨by rw [hs1.out, hrn]; exact hRs.out⟩⟩
            case measure => simp [intOf]; omega
          · have hrn : rkOf S (j + 1 + 1) = rkOf S (j + 1) + 1 := by rw [hrs.out, if_pos ⟨by omega, hpe⟩]
            have z : (pn != pm) = true := bne_iff_ne.mpr hpe
            have hcast : ((rkOf S (j + 1 + 1) : Nat) : Int) = ((rkOf S (j + 1) : Nat) : Int) + 1 := by rw [hrn]; omega
            rw [hcast] at hRs hKs
            replace hrn := Aside0.mk hrn
            replace hcast := Aside0.mk hcast
            replace hpe := Aside0.mk hpe
            refine wpIn_region_any0 (by kernel_rfl) (by kernel_rfl) (fun _ _ h => h) ?_
            change wpAny _ _ _ _ _ _ _ w5.drew
            refine region_anyI (fun W => W.cell? ⟨Y, 0, none⟩ = some (.int .i64 pn) ∧ W.cell? (ad.add (j * 2)) = some (.int .i64 pm)) [0, 1, 2, 3, 4, 5, 6, 7, 8, 9, 10, 11, 12] [] [] (by kernel_rfl) (by kernel_rfl) (by kernel_rfl) rfl rfl (fun _ _ _ h => h) ⟨kc0, kp0⟩ ?_
            iterate 3 refine ReadsI.step _ rfl rfl (fun W hW => by obtain ⟨k1, k2⟩ := hW; go_simp; first | rfl | done | (rw [if_pos (by omega)])) ?_
            iterate 9 refine ReadsI.stepW _ rfl (wanted_of (j := 2) (d := 43) (b := true) rfl rfl (by go_simp; try omega) (by go_simp; try rfl)) (fun W hW => by obtain ⟨k1, k2⟩ := hW; go_simp; first | rfl | done | (rw [if_pos (by omega)])) ?_
            refine ReadsI.step _ rfl rfl (fun W hW => by obtain ⟨k1, k2⟩ := hW; go_simp; first | rfl | done | (rw [if_pos (by omega)])) ?_
            change TailL _ _ _ _ _ _ _
            unfold TailL
            simp only [List.getElem_toArray, List.getElem_cons_succ, List.getElem_cons_zero, Act.put, List.setIfInBounds_toArray, List.set_cons_zero, List.set_cons_succ]
            gi_wp2
            go_roundw
            case rel => exact ⟨j + 1 + 1, by simp, by rw [hcast.out], by omega, hKs, ⟨by rw [hs1.out, hcast.out]; exact hRs.out⟩⟩
            case measure => simp [intOf]; omega
      · obtain rfl : k = seg.length := by omega
        have hKK := Aside0.mk (HKw.out _ hK.out)
        clear cO
        gi_wp2
        refine ⟨hKK.out.keepsFrom (fun b hb hlt => ?_), hKK.out.below (fun b hb => ⟨by have := HW2'.out.size; omega, fun h => h.elim (fun h => by have := HW2'.out.size; omega) (fun h => by have := (HOwn.out _ h).1; omega)⟩), HK2.out.trans hKK.out (fun b hb => hb.elim (fun h => .inl (.inr (by omega))) (fun h => .inl (.inl h))), ?_⟩
        · rcases hb with hb | hb
          · omega
          · exact HCell.out b hb
        · rw [HSg.out]
          exact hR.out
  case done =>
    rintro D W hD ⟨h1, h2⟩ hd
    have cO : W.cell? ⟨O, 0, none⟩ = some (.slice A6 l.length c6) := blk_cell (h1.blk o7 (fun h => h.elim (fun h => by have := (hown _ h).2; omega) (fun h => by omega))) 0
    have hq := (Kd.R_reads' h2).2.1
    have hcap := R_cap h2
    rw [segL_length] at h2
    have H1 := Aside0.mk h1
    have H2 := Aside0.mk h2
    have HD := Aside0.mk hd
    have HQ := Aside0.mk (rank_cut A6 l.length c6 W hq hcap)
    have HB7 := Aside0.mk b7
    have HOwn := Aside0.mk hown
    clear h1 h2 hq hcap hd hown b7
    go_wp2_with (go_at_call 57; (with_reducible refine (HQ.out).mono ?_); rintro e w5 ⟨rfl, m5, rfl⟩)
    (try rw [Exit.noGoto_ret])
    have hd5 : (W.drewN m5).heap[D]? = some (.deferred (some [])) := HD.out
    refine Marks.one hd5 _ (results_tmp2 rfl _ _ _) ?_
    have r5 := R_own (Kd.R_drewN H2.out m5) (grownBy_putObj' (W.drewN m5) D (.deferred none)) (fun r e => by cases e; exact ⟨_, hd5, rfl⟩)
    have v5 := V_cut (base2 := w.heap.size) r5
    have hBW : Below w.heap.size w W := HB7.out.trans (H1.out.below (fun k hk => ⟨by have := HB7.out.size; omega, fun h => h.elim (fun h => by have := (HOwn.out _ h).1; omega) (fun h => by omega)⟩))
    have hb5 : Below w.heap.size w ((W.drewN m5).putObj D (.deferred none)) := (pw_below_drewN hBW m5).trans (below_putObj (l := D) (B := w.heap.size) (W.drewN m5) (.deferred none) (by omega))
    exact ⟨_, rfl, Kd.V_mono v5 (fun k hk => by have := (HOwn.out _ hk).1; omega), hb5⟩
theorem rank_Ranks_no (A : Option Addr) (c : Nat) (l : List Int) (A2 : Option Addr) (c2 : Nat) (lens : List Int) (E : Int) (w : World) (hr : Kd.C (Kd.int .i64) w A l.length l) (hc : l.length ≤ c) (hr2 : Kd.C (Kd.int .i64) w A2 lens.length lens) (hc2 : lens.length ≤ c2) (hE : openE l lens = E) (h0 : E ≠ 0) :
    Calls Try.prog 29 #[.slice A l.length c, .slice A2 lens.length c2] w (Ret2 w ([], E)) := by
  have HO := rank_open A c l A2 c2 lens w hr hc hr2 hc2
  rw [hE] at HO
  replace HO := Aside0.mk HO
  have z : (E != 0) = true := bne_iff_ne.mpr h0
  clear hr hc hr2 hc2 hE
  refine calls_of_marks Try.func29 rfl ?_
  simp only [Try.ntmps29, List.size_toArray, List.length_cons, List.length_nil, Nat.reduceAdd, Nat.reduceSub, Array.replicate_succ, Array.replicate_zero, List.push_toArray, List.append_toArray, List.nil_append, List.cons_append]
  go_wp2_with fail
  refine (HO.out).mono ?_
  rintro e w1 ⟨he, hb1⟩
  unfold OpenP at he
  rw [if_neg h0] at he
  subst he
  replace hb1 := Aside0.mk hb1
  clear h0
  go_wp2
  unfold MarksPost
  refine Marks.zero _ (results_tmp2 rfl _ _ _) ?_
  exact Ret2.nil E (below_alloc hb1.out _)
theorem rank_Ranks.run (A : Option Addr) (c : Nat) (l : List Int) (A2 : Option Addr) (c2 : Nat) (lens : List Int) (w : World) (hr : Kd.C (Kd.int .i64) w A l.length l) (hc : l.length ≤ c) (hr2 : Kd.C (Kd.int .i64) w A2 lens.length lens) (hc2 : lens.length ≤ c2) :
    Calls Try.prog 29 #[.slice A l.length c, .slice A2 lens.length c2] w (Ret2 w (rank_Ranks.g l lens)) := by
  unfold rank_Ranks.g
  by_cases hE : openE l lens = 0
  · rw [if_pos hE]
    exact rank_Ranks_yes A c l A2 c2 lens w hr hc hr2 hc2 hE
  · rw [if_neg hE]
    exact rank_Ranks_no A c l A2 c2 lens _ w hr hc hr2 hc2 rfl hE
end Go.Proofs.Ytnkepaenpoadpaa.Hand
/- rank: Firsts: where words stand that are not ahead in their segments, and how many there are of each segment. -/
namespace Go.Proofs.Ytnkepaenpoadpaa.Hand
open Go.RowKit Go.Proofs.YtnkepaenpoadpaaW.PrintWords Go.Proofs.YtnkepaenpoadpaaW.PrintLast Go.Proofs.YtnkepaenpoadpaaW.PrintMore
open Go.Maps
set_option linter.unusedVariables false
set_option linter.unusedSimpArgs false
attribute [local go_sem] Oper.semAt_some store_func store_nilFunc
/-- The places of the first ones of so many words of a segment. -/
def fstAt (st : Nat) (s : List Int) : Nat → List Int
  | 0 => []
  | m + 1 => if stands s m (rd s (m : Int)) then fstAt st s m else fstAt st s m ++ [((st + m : Nat) : Int)]
theorem fstAt_length (st : Nat) (s : List Int) : ∀ m, (fstAt st s m).length ≤ m
  | 0 => Nat.le_refl _
  | m + 1 => by
    have := fstAt_length st s m
    unfold fstAt
    split
    · omega
    · simp; omega
def firstsTo (l lens : List Int) : Nat → List Int
  | 0 => []
  | i + 1 => firstsTo l lens i ++ fstAt (startOf lens (i : Int)) (segOf l lens i) (segOf l lens i).length
def manyTo (l lens : List Int) : Nat → List Int
  | 0 => []
  | i + 1 => manyTo l lens i ++ [(((fstAt (startOf lens (i : Int)) (segOf l lens i) (segOf l lens i).length).length : Nat) : Int)]
theorem manyTo_length (l lens : List Int) : ∀ i, (manyTo l lens i).length = i
  | 0 => rfl
  | i + 1 => by simp [manyTo, manyTo_length l lens i]
theorem segOf_length {l lens : List Int} (hpos : ∀ n ∈ lens, 0 ≤ n) (htot : startOf lens lens.length = l.length) (i : Nat) (hi : i < lens.length) : (segOf l lens i).length = (rd lens (i : Int)).toNat ∧ startOf lens (i : Int) + (rd lens (i : Int)).toNat ≤ l.length := by
  have hs := startOf_succ lens (i : Int) (by omega) (by omega)
  have hmono := startOf_mono lens ((i : Int) + 1) (by omega) (lens.length - (i + 1)) (by omega)
  rw [show (i : Int) + 1 + ((lens.length - (i + 1) : Nat) : Int) = lens.length by omega, htot, hs] at hmono
  refine ⟨?_, hmono⟩
  rw [segOf, List.length_take, List.length_drop]
  omega
theorem firstsTo_length {l lens : List Int} (hpos : ∀ n ∈ lens, 0 ≤ n) (htot : startOf lens lens.length = l.length) : ∀ i : Nat, i ≤ lens.length → (firstsTo l lens i).length ≤ startOf lens (i : Int)
  | 0, _ => by simp [firstsTo]
  | i + 1, h => by
    have h1 := firstsTo_length hpos htot i (by omega)
    have hs := startOf_succ lens (i : Int) (by omega) (by omega)
    have h2 := segOf_length hpos htot i (by omega)
    have h3 := fstAt_length (startOf lens (i : Int)) (segOf l lens i) (segOf l lens i).length
    rw [show ((i + 1 : Nat) : Int) = (i : Int) + 1 by omega, hs, firstsTo, List.length_append]
    omega
def rank_Firsts.g (l lens : List Int) : List Int × List Int × Int := if openE l lens = 0 then (firstsTo l lens lens.length, manyTo l lens lens.length, 0) else ([], [], openE l lens)
/-- Two lists are returned, in new memory, and an error. -/
def Ret3 (w : World) (R : List Int × List Int × Int) (e : Ending) (w' : World) : Prop := ∃ v v2, e = .returned (.tuple #[v, v2, .int .i64 R.2.2]) ∧ Kd.V (Kd.int .i64) 3 w' w.heap.size (fun k => w.heap.size ≤ k) v R.1 ∧ Kd.V (Kd.int .i64) 3 w' w.heap.size (fun k => w.heap.size ≤ k) v2 R.2.1 ∧ Below w.heap.size w w'
theorem Ret3.nil {w w' : World} (E : Int) (h : Below w.heap.size w w') : Ret3 w ([], [], E) (.returned (.tuple #[.slice none 0 0, .slice none 0 0, .int .i64 E])) w' := ⟨_, _, rfl, Kd.V_nil _ _ _ _ _, Kd.V_nil _ _ _ _ _, h⟩
theorem SetAt.step {w w' : World} {B n : Nat} {D : DataW Unit} (h : SetAt w B n D) (hb : w'.heap[B]? = w.heap[B]?) : SetAt w' B n D := by
  obtain ⟨es, clock, hh, r⟩ := h
  exact ⟨es, clock, hb.trans hh, r⟩
theorem SetAt.lt {w : World} {B n : Nat} {D : DataW Unit} (h : SetAt w B n D) : B < w.heap.size := by
  obtain ⟨es, clock, hh, r⟩ := h
  exact blk_lt hh
theorem SetAt.ne {w : World} {B n : Nat} {D : DataW Unit} (h : SetAt w B n D) {e base : Nat} {ok : Nat → Prop} {v : Value} {xs : List Int} (hR : (Kd.int .i64).R e w base ok v xs) : some B ≠ v.ownBlock := by
  obtain ⟨es, clock, hh, r⟩ := h
  intro he
  obtain ⟨_, _, cs, t, fr, hc⟩ := R_cells hR he
  rw [hh] at hc
  injection hc with hc
  cases hc
theorem loadVar_cell {P : Program} {ty : TypeId} (w : World) (g : Nat) (d : TypeDesc) (v : Value) (hc : w.cell? ⟨g, 0, none⟩ = some v) (hu : P.underlying ty = some d) (hd : (match d with | .struct _ | .array _ _ => true | _ => false) = false) :
    (loadVar ty ⟨g, 0, none⟩).run P w = .ok v w := by
  have hagg : (isAgg ty).run P w = .ok false w := by
    unfold isAgg
    rw [Sem.run_bind, run_underlying hu w]
    cases d <;> simp_all
  simp [loadVar, Sem.run_bind, hagg]
  split
  · rename_i v' hv'
    have e := hv'.symm.trans hc
    injection e with e
    rw [e]
  · rename_i hv'
    have e := hv'.symm.trans hc
    exact absurd e (by simp)
theorem results_cct {P : Program} {fn : Func} {p p2 u : Tmp} {ty ty2 : TypeId} (h : fn.results = #[.cell p ty, .cell p2 ty2, .tmp u]) (tmps : Array Value) (w : World) (g g2 : Nat) (d d2 : TypeDesc) (v v2 : Value)
    (hp : tmps.getD p undef = .pointer (some ⟨g, 0, none⟩)) (hc : w.cell? ⟨g, 0, none⟩ = some v) (hu : P.underlying ty = some d) (hd : (match d with | .struct _ | .array _ _ => true | _ => false) = false)
    (hp2 : tmps.getD p2 undef = .pointer (some ⟨g2, 0, none⟩)) (hc2 : w.cell? ⟨g2, 0, none⟩ = some v2) (hu2 : P.underlying ty2 = some d2) (hd2 : (match d2 with | .struct _ | .array _ _ => true | _ => false) = false) :
    (results fn tmps).run P w = .ok (.tuple #[v, v2, tmps.getD u undef]) w := by
  have hp' : tmps[p]?.getD undef = .pointer (some ⟨g, 0, none⟩) := by simpa using hp
  have hp2' : tmps[p2]?.getD undef = .pointer (some ⟨g2, 0, none⟩) := by simpa using hp2
  have l1 := loadVar_cell w g d v hc hu hd
  have l2 := loadVar_cell w g2 d2 v2 hc2 hu2 hd2
  simp [results, h, hp', hp2', asAddr, Sem.run_bind, l1, l2]
/-- What lies in memory between rounds. -/
structure FirstSt (w w7 : World) (P M : Nat) (xs ys : List Int) (u v : Value) (W : World) : Prop where
  kp : Kp (fun k => k = P ∨ k = M ∨ w7.heap.size ≤ k) w7 W
  pp : W.heap[P]? = some (.cells #[u] 22 (0, 0))
  mm : W.heap[M]? = some (.cells #[v] 22 (0, 0))
  ru : (Kd.int .i64).R 3 W w7.heap.size (fun k => w7.heap.size ≤ k) u xs
  rv : (Kd.int .i64).R 3 W w7.heap.size (fun k => w7.heap.size ≤ k) v ys
  ne : ∀ k, some k = u.ownBlock → some k ≠ v.ownBlock
section
variable {w w7 W w5 : World} {P M : Nat} {xs ys zs : List Int} {u v v1 : Value}
theorem FirstSt.map (h : FirstSt w w7 P M xs ys u v W) (hP : P < w7.heap.size) (hM : M < w7.heap.size) {B n : Nat} {D : DataW Unit} (hB : SetAt W B n D) (hN : w7.heap.size ≤ B) (hg : W.grownBy w5 (some B)) : FirstSt w w7 P M xs ys u v w5 :=
  ⟨h.kp.grown hg (fun k e => by cases e; exact .inl (.inr (.inr hN))), blk_grown h.pp hg (fun e => by injection e with e; omega), blk_grown h.mm hg (fun e => by injection e with e; omega), Kd.R_grown2 h.ru rfl hg (fun k e => by cases e; exact hB.ne h.ru), Kd.R_grown2 h.rv rfl hg (fun k e => by cases e; exact hB.ne h.rv), h.ne⟩
theorem FirstSt.pushU (h : FirstSt w w7 P M xs ys u v W) (hP : P < w7.heap.size) (hM : M < w7.heap.size) (hPM : M ≠ P) (R5 : (Kd.int .i64).R 3 w5 w7.heap.size (fun k => w7.heap.size ≤ k) v1 zs) (hg : W.grownBy w5 u.ownBlock) (hat : v1.ownBlock = u.ownBlock ∨ ∃ b, v1.ownBlock = some b ∧ W.heap.size ≤ b) :
    FirstSt w w7 P M zs ys v1 v (w5.setCell ⟨P, 0, none⟩ v1) := by
  have hp := blk_grown h.pp hg (fun e => by have h2 : w7.heap.size ≤ P := h.ru.1 P e.symm; omega)
  have hm := blk_grown h.mm hg (fun e => by have h2 : w7.heap.size ≤ M := h.ru.1 M e.symm; omega)
  refine ⟨(h.kp.grown hg (fun k e => .inl (.inr (.inr (h.ru.1 k e))))).setCell ⟨P, 0, none⟩ (.inl (.inl rfl)) _, blk_set hp 0 v1, (Below.heap_setCell _ _ _ _ hPM).trans hm, Kd.R_set R5 hp (by decide) 0 v1, Kd.R_set (Kd.R_grown2 h.rv rfl hg (fun k hk => h.ne k hk.symm)) hp (by decide) 0 v1, fun k hk => ?_⟩
  rcases hat with e | ⟨b, e, hb⟩
  · exact h.ne k (hk.trans e)
  · intro hv
    have := Kd.R_lt h.rv k hv.symm
    rw [e] at hk
    injection hk with hk
    omega
theorem FirstSt.pushV (h : FirstSt w w7 P M xs ys u v W) (hP : P < w7.heap.size) (hM : M < w7.heap.size) (hPM : M ≠ P) (R5 : (Kd.int .i64).R 3 w5 w7.heap.size (fun k => w7.heap.size ≤ k) v1 zs) (hg : W.grownBy w5 v.ownBlock) (hat : v1.ownBlock = v.ownBlock ∨ ∃ b, v1.ownBlock = some b ∧ W.heap.size ≤ b) :
    FirstSt w w7 P M xs zs u v1 (w5.setCell ⟨M, 0, none⟩ v1) := by
  have hp := blk_grown h.pp hg (fun e => by have h2 : w7.heap.size ≤ P := h.rv.1 P e.symm; omega)
  have hm := blk_grown h.mm hg (fun e => by have h2 : w7.heap.size ≤ M := h.rv.1 M e.symm; omega)
  refine ⟨(h.kp.grown hg (fun k e => .inl (.inr (.inr (h.rv.1 k e))))).setCell ⟨M, 0, none⟩ (.inl (.inr (.inl rfl))) _, (Below.heap_setCell _ _ _ _ (Ne.symm hPM)).trans hp, blk_set hm 0 v1, Kd.R_set (Kd.R_grown2 h.ru rfl hg (fun k hk e => h.ne k e hk.symm)) hm (by decide) 0 v1, Kd.R_set R5 hm (by decide) 0 v1, fun k hk hv => ?_⟩
  rcases hat with e | ⟨b, e, hb⟩
  · exact h.ne k hk (hv.trans e)
  · have := Kd.R_lt h.ru k hk.symm
    rw [e] at hv
    injection hv with hv
    omega
end
set_option maxHeartbeats 4000000 in
set_option maxRecDepth 100000 in
theorem rank_Firsts_yes (A : Option Addr) (c : Nat) (l : List Int) (A2 : Option Addr) (c2 : Nat) (lens : List Int) (w : World) (hr : Kd.C (Kd.int .i64) w A l.length l) (hc : l.length ≤ c) (hr2 : Kd.C (Kd.int .i64) w A2 lens.length lens) (hc2 : lens.length ≤ c2) (hE : openE l lens = 0) :
    Calls Try.prog 31 #[.slice A l.length c, .slice A2 lens.length c2] w (Ret3 w (firstsTo l lens lens.length, manyTo l lens lens.length, 0)) := by
  have HOp : Aside0 (∀ W, Below w.heap.size w W → Calls Try.prog 50 #[.slice A l.length c, .slice A2 lens.length c2] W fun e w' => OpenP (.slice A l.length c) (.slice A2 lens.length c2) 0 e ∧ Below W.heap.size W w') := ⟨fun W hW => by
    have h := rank_open A c l A2 c2 lens W (Kd.C_below hr hW) hc (Kd.C_below hr2 hW) hc2
    rw [hE] at h
    exact h⟩
  have hk := openE_ok hE
  have hl := hk.1
  have hl2 := hk.2.1
  have HR := Aside0.mk hr
  have HR2 := Aside0.mk hr2
  have HC := Aside0.mk hc
  have HK := Aside0.mk hk
  have H7 := Aside0.mk (okLens_pos hk.2.2.2.2)
  clear hr hc hr2 hc2 hE hk
  refine calls_of_marks Try.func31 rfl ?_
  simp only [Try.ntmps31, List.size_toArray, List.length_cons, List.length_nil, Nat.reduceAdd, Nat.reduceSub, Array.replicate_succ, Array.replicate_zero, List.push_toArray, List.append_toArray, List.nil_append, List.cons_append]
  go_wp2_with fail
  refine (HOp.out _ (below_alloc (below_alloc (Below.refl _ _) _) _)).mono ?_
  rintro e w1 ⟨he, hb1⟩
  unfold OpenP at he
  rw [if_pos rfl] at he
  subst he
  have p1 : w1.heap[w.heap.size]? = some (.cells #[.slice none 0 0] 22 (0, 0)) := blk_below (blk_alloc (blk_new w _) _) hb1
  have m1 : w1.heap[w.heap.size + 1]? = some (.cells #[.slice none 0 0] 22 (0, 0)) := blk_below (blk_new_at (by simp) _) hb1
  have b1 : Below w.heap.size w w1 := (below_alloc (below_alloc (Below.refl _ _) _) _).trans (hb1.mono (by simp; omega))
  have s1 : w.heap.size + 2 ≤ w1.heap.size := by have := hb1.size; simpa using this
  clear hb1
  replace p1 := Aside0.mk p1
  replace m1 := Aside0.mk m1
  replace b1 := Aside0.mk b1
  go_wp2_with (go_at_call 58; (with_reducible refine (rank_segments _ _ _ A A2 l.length c lens.length c2 rfl rfl).mono ?_); rintro e w7 ⟨rfl, hw7⟩; replace hw7 := Aside0.mk hw7)
  replace hw7 := hw7.out
  have b17 : Below w1.heap.size w1 w7 := by rw [hw7]; exact below_alloc (below_alloc (Below.refl _ _) _) _
  have s7 : w7.heap.size = w1.heap.size + 2 := by rw [hw7]; simp
  have i0 : w7.cell? ⟨w1.heap.size + 1, 0, none⟩ = some (.slice A l.length c) := by rw [hw7]; exact (blk_cell (blk_new_at (by simp) _) 0).trans rfl
  have i1 : w7.cell? ⟨w1.heap.size + 1, 1, none⟩ = some (.slice A2 lens.length c2) := by rw [hw7]; exact (blk_cell (blk_new_at (by simp) _) 1).trans rfl
  have b7 : Below w.heap.size w w7 := b1.out.trans (b17.mono b1.out.size)
  have p7 := blk_below p1.out b17
  have m7 := blk_below m1.out b17
  clear hw7 p1 m1 b1 b17
  generalize w1.heap.size = N1 at *
  have h0 : FirstSt w w7 w.heap.size (w.heap.size + 1) [] [] (.slice none 0 0) (.slice none 0 0) w7 := ⟨Kp.refl _ _, p7, m7, Kd.R_nil _ _ _ _ _, Kd.R_nil _ _ _ _ _, fun k hk => by simp [Value.ownBlock] at hk⟩
  refine wp_rangeSeqK rfl Try.call69 (rank_segments_it (N1 + 1) A c l A2 c2 lens w.heap.size w7 i1 HC.out (fun W hW => Kd.C_below HR2.out (b7.trans hW)) b7.size H7.out.1 H7.out.2 hl) (Below.refl _ _) b7.size (segL_size A lens)
    (fun i W => ∃ u v, FirstSt w w7 w.heap.size (w.heap.size + 1) (firstsTo l lens i) (manyTo l lens i) u v W) (fun _ _ => False) ?own ?ownx ?start ?keep
    ?round ?done ?stop
  case own =>
    rintro i W1 W2 row ⟨u, v, h⟩ hg hr
    exact ⟨u, v, h.kp.own hg (fun r e => .inr (hr r e).1), blk_own h.pp hg (fun r e => (hr r e).2), blk_own h.mm hg (fun r e => (hr r e).2), R_own h.ru hg (fun r e => (hr r e).2), R_own h.rv hg (fun r e => (hr r e).2), h.ne⟩
  case ownx => exact fun _ _ _ _ h _ _ => h.elim
  case start => exact ⟨_, _, h0⟩
  case keep =>
    rintro i W ⟨u, v, h⟩
    exact h.kp.cell i0 (by show ¬ (N1 + 1 = w.heap.size ∨ N1 + 1 = w.heap.size + 1 ∨ w7.heap.size ≤ N1 + 1); omega)
  case stop => exact fun _ _ _ _ h _ => h.elim
  case round =>
    intro l0 i args W hi hI K hK
    obtain ⟨hlt, rfl⟩ := segL_get hi
    clear hI h0
    replace hK := Aside0.mk hK
    gi_wp2
    refine hK.out _ ?_
    rintro W2 ⟨u0, v0, hF⟩
    have hsl := segOf_length H7.out.1 H7.out.2 i hlt
    have hfl := firstsTo_length H7.out.1 H7.out.2 i (by omega)
    have hsg : firstsTo l lens (i + 1) = firstsTo l lens i ++ fstAt (startOf lens (i : Int)) (segOf l lens i) (segOf l lens i).length := rfl
    have hsm : manyTo l lens (i + 1) = manyTo l lens i ++ [(((fstAt (startOf lens (i : Int)) (segOf l lens i) (segOf l lens i).length).length : Nat) : Int)] := rfl
    have hml := manyTo_length l lens i
    have hse : segOf l lens i = (l.drop (startOf lens (i : Int))).take (rd lens (i : Int)).toNat := rfl
    have hwd : Aside0 (∀ n ∈ segOf l lens i, isWordB n = true) := ⟨fun n hn => HK.out.2.2.1 n (List.mem_of_mem_drop (List.mem_of_mem_take hn))⟩
    generalize segOf l lens i = seg at *
    generalize (rd lens (i : Int)).toNat = n at *
    generalize startOf lens (i : Int) = st at *
    generalize firstsTo l lens i = xs0 at *
    generalize manyTo l lens i = ys0 at *
    have hq := (seg_slice A c l st n hsl.2 HC.out).2
    rw [← hse] at hq
    generalize segA A st n = SA at *
    obtain rfl : n = seg.length := hsl.1.symm
    have HW2 : Below w.heap.size w W2 := b7.trans (hF.kp.below (fun k hk => ⟨by omega, fun h => by omega⟩))
    have HQ := Aside0.mk (fun W hW => hq W (Kd.C_below HR.out hW))
    have hW2s : w7.heap.size ≤ W2.heap.size := hF.kp.size
    have HF := Aside0.mk hF
    have HSg := Aside0.mk hsg
    have HSm := Aside0.mk hsm
    have HW2' := Aside0.mk HW2
    have HB7 := Aside0.mk b7
    have HI0 := Aside0.mk i0
    have HI1 := Aside0.mk i1
    have hstn : st + seg.length ≤ 1048576 := by omega
    have hxl : xs0.length ≤ 1048576 := by omega
    have hyl : ys0.length ≤ 1048576 := by omega
    have hfs := Aside0.mk (fstAt_length st seg)
    have hf0 : Aside0 (fstAt st seg 0 = []) := ⟨rfl⟩
    have hf1 : Aside0 (∀ m, fstAt st seg (m + 1) = if stands seg m (rd seg (m : Int)) then fstAt st seg m else fstAt st seg m ++ [((st + m : Nat) : Int)]) := ⟨fun _ => rfl⟩
    generalize fstAt st seg = fst at *
    have hmm := @run_makeMap Try.prog
    clear hF hsl hfl hsg hsm hq hse HW2 b7 i0 i1 hK K hi p7 m7 hml
    gi_wp2
    refine wpIn_scope ?_
    gi_wp2
    refine wpIn_label ?_
    gi_wp2
    have hP7 : w.heap.size < w7.heap.size := by omega
    have hM7 : w.heap.size + 1 < w7.heap.size := by omega
    obtain ⟨Sx, hSx⟩ : ∃ Sx : Nat → Prop, Sx = fun k => k = w.heap.size ∨ k = w.heap.size + 1 ∨ some k = u0.ownBlock ∨ some k = v0.ownBlock ∨ W2.heap.size ≤ k := ⟨_, rfl⟩
    generalize hw3 : W2.alloc (Obj.map #[] 0) = w3
    have o3 : Aside0 (SetAt w3 W2.heap.size 0 (.map [])) := ⟨by rw [← hw3]; exact World.ownsMap_made _ _ _ _⟩
    have f3 : Aside0 (FirstSt w w7 w.heap.size (w.heap.size + 1) (xs0 ++ fst 0) ys0 u0 v0 w3) := ⟨by
      have h := HF.out
      rw [← hw3, hf0.out, List.append_nil]
      exact ⟨h.kp.alloc _, blk_alloc h.pp _, blk_alloc h.mm _, Kd.R_alloc h.ru _, Kd.R_alloc h.rv _, h.ne⟩⟩
    have k3 : Aside0 (Kp Sx W2 w3) := ⟨by rw [← hw3]; exact (Kp.refl _ _).alloc _⟩
    clear hw3
    gi_loopw [11, 30] (fun cn i wr => ∃ (m : Nat) (u : Value), i = .int .i64 (m : Int) ∧ cn = .int .i64 (((fst m).length : Nat) : Int) ∧ m ≤ seg.length ∧ Aside0 (Kp Sx W2 wr) ∧ Aside0 (FirstSt w w7 w.heap.size (w.heap.size + 1) (xs0 ++ fst m) ys0 u v0 wr) ∧ Aside0 (∃ n D, n ≤ m ∧ SetAt wr W2.heap.size n D ∧ SetSt seg m D) ∧ Aside0 (∀ k, some k = u.ownBlock → some k = u0.ownBlock ∨ W2.heap.size ≤ k)) (fun _ i _ => seg.length - (intOf i).toNat)
    case atStart => exact ⟨0, u0, rfl, by rw [hf0.out]; rfl, by omega, k3, f3, ⟨0, _, Nat.le_refl _, o3.out, SetSt.zero seg⟩, ⟨fun k hk => .inl hk⟩⟩
    case round =>
      clear o3 f3 k3
      obtain ⟨m, u, rfl, rfl, p0, hK, hf, hmp, hou⟩ := hrel
      have hfl := hfs.out m
      by_cases hlt : m < seg.length
      · have hBw : Below w.heap.size w wr := HB7.out.trans (hf.out.kp.below (fun k hk => ⟨by omega, fun h => by omega⟩))
        obtain ⟨ad, e1, hx⟩ := Kd.at_int (HQ.out _ hBw) (m : Int) (by omega) (by omega)
        cases e1
        rw [Int.toNat_natCast] at hx
        obtain ⟨n, D, hn, hS, hD⟩ := hmp.out
        have hwn := hwd.out _ (rd_mem seg (m : Int) (by omega) (by omega))
        simp only [isWordB, Bool.and_eq_true, decide_eq_true_eq] at hwn
        have hlook := look_set hS hD (rd seg (m : Int)) (by omega)
        have hf1m := hf1.out m
        have hHas := Aside0.mk (fun h => hD.skip h)
        have hNew := Aside0.mk hD.succ
        cases hst : stands seg m (rd seg (m : Int))
        · rw [hst] at hlook hf1m
          have hf2 : Aside0 (fst (m + 1) = fst m ++ [((st + m : Nat) : Int)]) := ⟨by simpa using hf1m⟩
          have HKey := Aside0.mk (keyOf_int_mk (P := Try.prog) Try.underlying3 (WalkArith.wf_i64 (show -9223372036854775808 ≤ rd seg (m : Int) ∧ rd seg (m : Int) ≤ 9223372036854775807 by omega)))
          have hml : Aside0 (n < maxLen) := ⟨by unfold maxLen; omega⟩
          have HNew := Aside0.mk (hNew.out)
          have hlz : Aside0 (((xs0 ++ fst m).length + 1) * 8 ≤ 140737488355328) := ⟨by rw [List.length_append]; omega⟩
          have happ : Aside0 (xs0 ++ fst (m + 1) = xs0 ++ fst m ++ [(st : Int) + (m : Int)]) := ⟨by rw [hf2.out, List.append_assoc]; simp⟩
          replace hS := Aside0.mk hS
          replace hBw := Aside0.mk hBw
          clear hf1m hst hD hHas hNew hwn
          generalize rd seg (m : Int) = el at *
          generalize xs0 ++ fst m = zs at *
          obtain ⟨w5, hrun5, hown5, hgrow5⟩ := World.ownsMap.update hS.out keysInt Try.underlying47 hml.out HKey.out (plainElem_bool Try.underlying4 true)
          have F5 := hf.out.map hP7 hM7 hS.out hW2s hgrow5
          have cP5 := blk_cell F5.pp 0
          have hz5 : w7.heap.size ≤ w5.heap.size := F5.kp.size
          replace F5 := Aside0.mk F5
          have K5 := Aside0.mk (hK.out.grown hgrow5 (fun k e => by cases e; exact .inr (Nat.le_refl _)))
          replace hown5 := Aside0.mk hown5
          clear hgrow5
          gi_wp2_with (gi_at_builtin; (refine wpListIn_append_int 22 3 w7.heap.size rfl _ _ u zs ((st : Int) + (m : Int)) (fun k => w7.heap.size ≤ k) rfl Try.underlying22 infoInt rfl rfl (fun b hb => Nat.le_trans hz5 hb) F5.out.ru hz5 hlz.out ?_; intro v1 w6 R6 hg6 hat6; obtain ⟨A6, c6, ln, rfl⟩ : ∃ A c ln, v1 = .slice A ln c := (by obtain ⟨A, c, h⟩ := Kd.R_slice R6; exact ⟨A, c, _, h⟩); have hp6 := blk_grown F5.out.pp hg6 (fun e => by have h2 : w7.heap.size ≤ w.heap.size := F5.out.ru.1 _ e.symm; omega); have cP6 := blk_cell hp6 0; have fP6 := blk_frozen hp6 0; have F6 := Aside0.mk (F5.out.pushU hP7 hM7 (by omega) R6 hg6 hat6); have K6 := Aside0.mk (K5.out.grown hg6 (fun k e => (hou.out k e.symm).elim (fun h => .inl (by rw [hSx]; exact .inr (.inr (.inl h)))) (fun h => .inr h))); have S6 := Aside0.mk (SetAt.step (n := n + 1) hown5.out (hg6.block _ (SetAt.lt hown5.out) (SetAt.ne hown5.out F5.out.ru))); have hou6 : Aside0 (∀ k, some k = (Value.slice A6 ln c6).ownBlock → some k = u0.ownBlock ∨ W2.heap.size ≤ k) := ⟨fun k hk => hat6.elim (fun e => hou.out k (hk.trans e)) (fun ⟨b, e, hb⟩ => .inr (by rw [e] at hk; injection hk with hk; have := K5.out.size; omega))⟩; clear hg6 hat6 R6 hp6))
          go_roundw
          case rel =>
            refine ⟨m + 1, .slice A6 ln c6, by simp, by rw [hf2.out]; simp, by omega, ⟨K6.out.setCell _ (.inl (by rw [hSx]; exact .inl rfl)) _⟩, ⟨by rw [happ.out]; exact F6.out⟩, ⟨n + 1, _, by omega, SetAt.step S6.out (Below.heap_setCell _ _ _ _ (by show W2.heap.size ≠ w.heap.size; omega)), HNew.out⟩, hou6⟩
          case measure => simp [intOf]; omega
        · rw [hst] at hlook hf1m
          have hf2 : Aside0 (fst (m + 1) = fst m) := ⟨by simpa using hf1m⟩
          replace hHas := Aside0.mk (hHas.out hst)
          replace hS := Aside0.mk hS
          clear hf1m hst hD
          generalize rd seg (m : Int) = el at *
          gi_wp2
          go_roundw
          case rel => exact ⟨m + 1, u, by simp, by rw [hf2.out], by omega, hK, ⟨by rw [hf2.out]; exact hf.out⟩, ⟨n, D, by omega, hS.out, hHas.out⟩, hou⟩
          case measure => simp [intOf]; omega
      · obtain rfl : m = seg.length := by omega
        have hlz : Aside0 ((ys0.length + 1) * 8 ≤ 140737488355328) := ⟨by omega⟩
        have hz5 : w7.heap.size ≤ wr.heap.size := hf.out.kp.size
        have cM5 := blk_cell hf.out.mm 0
        have hsm2 := HSm
        generalize hcn : (fst seg.length).length = cn at *
        replace hcn := Aside0.mk hcn
        gi_wp2_with (gi_at_builtin; (refine wpListIn_append_int 22 3 w7.heap.size rfl _ _ v0 ys0 (cn : Int) (fun k => w7.heap.size ≤ k) rfl Try.underlying22 infoInt rfl rfl (fun b hb => Nat.le_trans hz5 hb) hf.out.rv hz5 hlz.out ?_; intro v1 w6 R6 hg6 hat6; obtain ⟨A6, c6, ln, rfl⟩ : ∃ A c ln, v1 = .slice A ln c := (by obtain ⟨A, c, h⟩ := Kd.R_slice R6; exact ⟨A, c, _, h⟩); have hm6 := blk_grown hf.out.mm hg6 (fun e => by have h2 : w7.heap.size ≤ w.heap.size + 1 := hf.out.rv.1 _ e.symm; omega); have cM6 := blk_cell hm6 0; have fM6 := blk_frozen hm6 0; have F6 := Aside0.mk (hf.out.pushV hP7 hM7 (by omega) R6 hg6 hat6); have K6 := Aside0.mk (hK.out.grown hg6 (fun k e => .inl (by rw [hSx]; exact .inr (.inr (.inr (.inl e.symm)))))); clear hg6 hat6 R6 hm6))
        have K7 := K6.out.setCell ⟨w.heap.size + 1, 0, none⟩ (.inl (by rw [hSx]; exact .inr (.inl rfl))) (.slice A6 ln c6)
        rw [Exit.noGoto_normal]
        gi_wp2
        refine ⟨K7.keepsFrom (fun b hb hlt => ?_), K7.below (fun b hb => ⟨by have := HF.out.kp.size; omega, fun h => ?_⟩), u, .slice A6 ln c6, ?_⟩
        · rw [hSx] at hb
          rcases hb with rfl | rfl | hb | hb | hb
          · exact ⟨_, _, _, HF.out.pp⟩
          · exact ⟨_, _, _, HF.out.mm⟩
          · exact (R_cells HF.out.ru hb).2.2
          · exact (R_cells HF.out.rv hb).2.2
          · omega
        · rw [hSx] at h
          rcases h with h | h | h | h | h
          · omega
          · omega
          · have := (R_cells HF.out.ru h).1; omega
          · have := (R_cells HF.out.rv h).1; omega
          · omega
        · rw [HSg.out, HSm.out]
          exact F6.out
  case done =>
    rintro D W hD ⟨u, v, hF⟩ hd
    rw [segL_length] at hF
    obtain ⟨A5, c5, rfl⟩ := Kd.R_slice hF.ru
    obtain ⟨A6, c6, rfl⟩ := Kd.R_slice hF.rv
    have hru := Aside0.mk (Kd.R_reads' hF.ru)
    have hrv := Aside0.mk (Kd.R_reads' hF.rv)
    have hBW : Below w.heap.size w W := b7.trans (hF.kp.below (fun k hk => ⟨by omega, fun h => by omega⟩))
    have hWs : w7.heap.size ≤ W.heap.size := hF.kp.size
    have hd1 := blk_drew hd
    have HF := Aside0.mk hF
    have HD := Aside0.mk hd
    have HB := Aside0.mk hBW
    have p0 := Aside0.mk (blk_drew hF.pp)
    have m0 := Aside0.mk (blk_drew hF.mm)
    have HQ1 : Aside0 (∀ X, Calls Try.prog 57 #[.slice A5 (firstsTo l lens lens.length).length c5] X fun e w' => e = .returned (.slice A5 (firstsTo l lens lens.length).length (firstsTo l lens lens.length).length) ∧ Drawn0 X w') := ⟨fun X => rank_cut A5 _ c5 X hru.out.2.1 (R_cap hF.ru)⟩
    have HQ2 : Aside0 (∀ X, Calls Try.prog 57 #[.slice A6 (manyTo l lens lens.length).length c6] X fun e w' => e = .returned (.slice A6 (manyTo l lens lens.length).length (manyTo l lens lens.length).length) ∧ Drawn0 X w') := ⟨fun X => rank_cut A6 _ c6 X hrv.out.2.1 (R_cap hF.rv)⟩
    generalize (firstsTo l lens lens.length) = xs at *
    generalize (manyTo l lens lens.length) = ys at *
    obtain ⟨n5, hn5⟩ : ∃ n, n = xs.length := ⟨_, rfl⟩
    obtain ⟨n6, hn6⟩ : ∃ n, n = ys.length := ⟨_, rfl⟩
    rw [← hn5] at p0 HQ1
    rw [← hn6] at m0 HQ2
    replace hn5 := Aside0.mk hn5
    replace hn6 := Aside0.mk hn6
    clear hF hd hBW b7 p7 m7 i0 i1 h0 hd1
    go_wp2_with fail
    refine wp_region_any (by kernel_rfl) ?_
    change wpAny _ _ _ _ _ _ _ W.drew
    refine region_anyD (fun X => X.cell? ⟨w.heap.size, 0, none⟩ = some (.slice A5 n5 c5) ∧ X.cell? ⟨w.heap.size + 1, 0, none⟩ = some (.slice A6 n6 c6)) [0, 2] [1, 3, 4, 5, 6] [4, 5, 6] (by kernel_rfl) (by kernel_rfl) (by kernel_rfl) rfl (fun _ _ _ h => h) ⟨blk_cell p0.out 0, blk_cell m0.out 0⟩ ?_
    iterate 2 refine ReadsI.step _ rfl rfl (fun W hW => by obtain ⟨k1, k2⟩ := hW; go_simp; first | rfl | done) ?_
    change TailD _ _ _ _ _ _ _ _
    refine TailD.call rfl rfl (by go_simp) (HQ1.out _) ?_
    rintro en w2 ⟨rfl, q1, rfl⟩
    refine ⟨_, rfl, fun _ => ⟨blk_cell (blk_drewN p0.out q1) 0, blk_cell (blk_drewN m0.out q1) 0⟩, ?_⟩
    refine TailD.call rfl rfl (by go_simp) (HQ2.out _) ?_
    rintro en w3 ⟨rfl, q2, rfl⟩
    refine ⟨_, rfl, fun _ => ⟨blk_cell (blk_drewN (blk_drewN p0.out q1) q2) 0, blk_cell (blk_drewN (blk_drewN m0.out q1) q2) 0⟩, ?_⟩
    have p3 := blk_drewN (blk_drewN p0.out q1) q2
    have m3 := blk_drewN (blk_drewN m0.out q1) q2
    have d3 := blk_drewN (blk_drewN (blk_drew HD.out) q1) q2
    have ru3 := Kd.R_drewN (Kd.R_drewN (Kd.R_drew HF.out.ru) q1) q2
    have rv3 := Kd.R_drewN (Kd.R_drewN (Kd.R_drew HF.out.rv) q1) q2
    have hB3 : Below w.heap.size w ((W.drew.drewN q1).drewN q2) := pw_below_drewN (pw_below_drewN (below_drew HB.out) q1) q2
    generalize (W.drew.drewN q1).drewN q2 = W3 at *
    have c1 := blk_cell p3 0
    have f1 := blk_frozen p3 0
    have cm' : (W3.setCell ⟨w.heap.size, 0, none⟩ (.slice A5 n5 n5)).heap[w.heap.size + 1]? = _ := (Below.heap_setCell _ _ _ _ (by show w.heap.size + 1 ≠ w.heap.size; omega)).trans m3
    have cm2 := blk_cell cm' 0
    have f2 := blk_frozen cm' 0
    refine TailD.skip rfl rfl rfl (by first | (go_simp; done) | (go_simp; first | rfl | exact ⟨rfl, rfl⟩)) (fun h => absurd h (by decide)) ?_
    refine TailD.skip rfl rfl rfl (by first | (go_simp; done) | (go_simp; first | rfl | exact ⟨rfl, rfl⟩)) (fun h => absurd h (by decide)) ?_
    refine TailD.val rfl rfl (by first | (go_simp; done) | (go_simp; first | rfl | exact ⟨rfl, rfl⟩)) (fun h => absurd h (by decide)) ?_
    unfold TailD
    simp only [List.getElem_toArray, List.getElem_cons_succ, List.getElem_cons_zero, Act.put, List.setIfInBounds_toArray, List.set_cons_zero, List.set_cons_succ]
    have p4 : ((W3.setCell ⟨w.heap.size, 0, none⟩ (.slice A5 n5 n5)).setCell ⟨w.heap.size + 1, 0, none⟩ (.slice A6 n6 n6)).heap[w.heap.size]? = _ := (Below.heap_setCell _ _ _ _ (by show w.heap.size ≠ w.heap.size + 1; omega)).trans (blk_set p3 0 (.slice A5 n5 n5))
    have m4 := blk_set cm' 0 (.slice A6 n6 n6)
    have ru4 := Kd.R_set (Kd.R_set ru3 p3 (by decide) 0 (.slice A5 n5 n5)) cm' (by decide) 0 (.slice A6 n6 n6)
    have rv4 := Kd.R_set (Kd.R_set rv3 p3 (by decide) 0 (.slice A5 n5 n5)) cm' (by decide) 0 (.slice A6 n6 n6)
    have hB4 : Below w.heap.size w ((W3.setCell ⟨w.heap.size, 0, none⟩ (.slice A5 n5 n5)).setCell ⟨w.heap.size + 1, 0, none⟩ (.slice A6 n6 n6)) := (hB3.setCell (Nat.le_refl _) _).setCell (by show w.heap.size ≤ w.heap.size + 1; omega) _
    have d4 : ((W3.setCell ⟨w.heap.size, 0, none⟩ (.slice A5 n5 n5)).setCell ⟨w.heap.size + 1, 0, none⟩ (.slice A6 n6 n6)).heap[D]? = some (.deferred (some [])) := (Below.heap_setCell _ _ _ _ (by show D ≠ w.heap.size + 1; omega)).trans ((Below.heap_setCell _ _ _ _ (by show D ≠ w.heap.size; omega)).trans d3)
    generalize ((W3.setCell ⟨w.heap.size, 0, none⟩ (.slice A5 n5 n5)).setCell ⟨w.heap.size + 1, 0, none⟩ (.slice A6 n6 n6)) = W4 at *
    replace p4 := Aside0.mk p4
    replace m4 := Aside0.mk m4
    replace ru4 := Aside0.mk ru4
    replace rv4 := Aside0.mk rv4
    replace hB4 := Aside0.mk hB4
    replace d4 := Aside0.mk d4
    clear p3 m3 d3 ru3 rv3 hB3 c1 f1 cm' cm2 f2
    go_wp2
    (try rw [Exit.noGoto_ret])
    refine Marks.one d4.out _ (results_cct rfl _ _ w.heap.size (w.heap.size + 1) _ _ (.slice A5 n5 n5) (.slice A6 n6 n6) rfl ?_ Try.underlying22 rfl rfl ?_ Try.underlying22 rfl) ?_
    · exact (blk_cell ((World.putObj_heap_other (by omega)).trans p4.out) 0).trans rfl
    · exact (blk_cell ((World.putObj_heap_other (by omega)).trans m4.out) 0).trans rfl
    · have r5 := R_own ru4.out (grownBy_putObj' W4 D (.deferred none)) (fun r e => by cases e; exact ⟨_, d4.out, rfl⟩)
      have r6 := R_own rv4.out (grownBy_putObj' W4 D (.deferred none)) (fun r e => by cases e; exact ⟨_, d4.out, rfl⟩)
      have v5 := V_cut (base2 := w.heap.size) r5
      have v6 := V_cut (base2 := w.heap.size) r6
      rw [← hn5.out] at v5
      rw [← hn6.out] at v6
      exact ⟨_, _, rfl, Kd.V_mono v5 (fun k hk => by omega), Kd.V_mono v6 (fun k hk => by omega), hB4.out.trans (below_putObj (l := D) (B := w.heap.size) W4 (.deferred none) (by omega))⟩
theorem rank_Firsts_no (A : Option Addr) (c : Nat) (l : List Int) (A2 : Option Addr) (c2 : Nat) (lens : List Int) (E : Int) (w : World) (hr : Kd.C (Kd.int .i64) w A l.length l) (hc : l.length ≤ c) (hr2 : Kd.C (Kd.int .i64) w A2 lens.length lens) (hc2 : lens.length ≤ c2) (hE : openE l lens = E) (h0 : E ≠ 0) :
    Calls Try.prog 31 #[.slice A l.length c, .slice A2 lens.length c2] w (Ret3 w ([], [], E)) := by
  have HOp : Aside0 (∀ W, Below w.heap.size w W → Calls Try.prog 50 #[.slice A l.length c, .slice A2 lens.length c2] W fun e w' => OpenP (.slice A l.length c) (.slice A2 lens.length c2) E e ∧ Below W.heap.size W w') := ⟨fun W hW => by
    have h := rank_open A c l A2 c2 lens W (Kd.C_below hr hW) hc (Kd.C_below hr2 hW) hc2
    rw [hE] at h
    exact h⟩
  have z : (E != 0) = true := bne_iff_ne.mpr h0
  clear hr hc hr2 hc2 hE
  refine calls_of_marks Try.func31 rfl ?_
  simp only [Try.ntmps31, List.size_toArray, List.length_cons, List.length_nil, Nat.reduceAdd, Nat.reduceSub, Array.replicate_succ, Array.replicate_zero, List.push_toArray, List.append_toArray, List.nil_append, List.cons_append]
  go_wp2_with fail
  refine (HOp.out _ (below_alloc (below_alloc (Below.refl _ _) _) _)).mono ?_
  rintro e w1 ⟨he, hb1⟩
  unfold OpenP at he
  rw [if_neg h0] at he
  subst he
  have p1 : w1.heap[w.heap.size]? = some (.cells #[.slice none 0 0] 22 (0, 0)) := blk_below (blk_alloc (blk_new w _) _) hb1
  have m1 : w1.heap[w.heap.size + 1]? = some (.cells #[.slice none 0 0] 22 (0, 0)) := blk_below (blk_new_at (by simp) _) hb1
  have b1 : Below w.heap.size w w1 := (below_alloc (below_alloc (Below.refl _ _) _) _).trans (hb1.mono (by simp; omega))
  clear hb1 h0
  obtain ⟨w2, hw2⟩ : ∃ w2, w1.alloc (Obj.cells #[Value.slice none 0 0, Value.slice none 0 0] 49) = w2 := ⟨_, rfl⟩
  have p2 : w2.heap[w.heap.size]? = some (.cells #[.slice none 0 0] 22 (0, 0)) := by rw [← hw2]; exact blk_alloc p1 _
  have m2 : w2.heap[w.heap.size + 1]? = some (.cells #[.slice none 0 0] 22 (0, 0)) := by rw [← hw2]; exact blk_alloc m1 _
  have b2 : Below w.heap.size w w2 := by rw [← hw2]; exact below_alloc b1 _
  have cP := blk_cell p2 0
  have fP := blk_frozen p2 0
  have cm' : (w2.setCell ⟨w.heap.size, 0, none⟩ (.slice none 0 0)).heap[w.heap.size + 1]? = _ := (Below.heap_setCell _ _ _ _ (by show w.heap.size + 1 ≠ w.heap.size; omega)).trans m2
  have cM := blk_cell m2 0
  have fM := blk_frozen m2 0
  have cM2 := blk_cell cm' 0
  have fM2 := blk_frozen cm' 0
  have p4 : ((w2.setCell ⟨w.heap.size, 0, none⟩ (.slice none 0 0)).setCell ⟨w.heap.size + 1, 0, none⟩ (.slice none 0 0)).heap[w.heap.size]? = _ := (Below.heap_setCell _ _ _ _ (by show w.heap.size ≠ w.heap.size + 1; omega)).trans (blk_set p2 0 (.slice none 0 0))
  have m4 := blk_set cm' 0 (.slice none 0 0)
  have hB4 : Below w.heap.size w ((w2.setCell ⟨w.heap.size, 0, none⟩ (.slice none 0 0)).setCell ⟨w.heap.size + 1, 0, none⟩ (.slice none 0 0)) := (b2.setCell (Nat.le_refl _) _).setCell (by show w.heap.size ≤ w.heap.size + 1; omega) _
  replace p4 := Aside0.mk p4
  replace m4 := Aside0.mk m4
  replace hB4 := Aside0.mk hB4
  clear p1 m1 b1 p2 m2 b2 cm'
  subst hw2
  go_wp2
  unfold MarksPost
  refine Marks.zero _ (results_cct rfl _ _ w.heap.size (w.heap.size + 1) _ _ (.slice none 0 0) (.slice none 0 0) rfl ?_ Try.underlying22 rfl rfl ?_ Try.underlying22 rfl) ?_
  · exact (blk_cell p4.out 0).trans rfl
  · exact (blk_cell m4.out 0).trans rfl
  · exact Ret3.nil E hB4.out
theorem rank_Firsts.run (A : Option Addr) (c : Nat) (l : List Int) (A2 : Option Addr) (c2 : Nat) (lens : List Int) (w : World) (hr : Kd.C (Kd.int .i64) w A l.length l) (hc : l.length ≤ c) (hr2 : Kd.C (Kd.int .i64) w A2 lens.length lens) (hc2 : lens.length ≤ c2) :
    Calls Try.prog 31 #[.slice A l.length c, .slice A2 lens.length c2] w (Ret3 w (rank_Firsts.g l lens)) := by
  unfold rank_Firsts.g
  by_cases hE : openE l lens = 0
  · rw [if_pos hE]
    exact rank_Firsts_yes A c l A2 c2 lens w hr hc hr2 hc2 hE
  · rw [if_neg hE]
    exact rank_Firsts_no A c l A2 c2 lens _ w hr hc hr2 hc2 rfl hE
end Go.Proofs.Ytnkepaenpoadpaa.Hand
