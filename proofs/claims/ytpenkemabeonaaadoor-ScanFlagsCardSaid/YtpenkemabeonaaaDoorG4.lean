/- slices.Clone, slices.Equal at []int. -/
import Derived.Test.YtpenkemabeonaaaDoorG3
import Derived.Ground.Names2Prog
import Derived.Shelf.Lay
import Derived.Shelf.Slices.Delete
import Derived.Sort.OwnSortedInts
namespace Go.Proofs.YtpenkemabeonaaaDoor.Hand
open Go.RowKit Go.Proofs.YtpenkemabeonaaaDoorW.PrintWords Go.Proofs.YtpenkemabeonaaaDoorW.PrintLast Go.Proofs.YtpenkemabeonaaaDoorW.PrintMore
set_option linter.unusedVariables false
set_option linter.unusedSimpArgs false
set_option maxRecDepth 100000 in
theorem eqlS_some (ad : Addr) (n c : Nat) (W : World) : (binOp BinOp.eql 22 (.slice (some ad) n c) (.slice none 0 0)).run Tryd.prog W = .ok (.bool false) W := by rfl
set_option maxRecDepth 100000 in
theorem eqlS_none (n c : Nat) (W : World) : (binOp BinOp.eql 22 (.slice none n c) (.slice none 0 0)).run Tryd.prog W = .ok (.bool true) W := by rfl
attribute [local go_sem] eqlS_some eqlS_none
set_option maxHeartbeats 2000000 in
set_option maxRecDepth 100000 in
theorem slices_Clone (A : Option Addr) (c : Nat) (l : List Int) (w : World) (hr : Kd.C (Kd.int .i64) w A l.length l) (hl : l.length ≤ 1048576) :
    Calls Tryd.prog 52 #[.slice A l.length c] w fun e w' => ∃ v, e = .returned v ∧ (Kd.int .i64).R 3 w' w.heap.size (fun k => w.heap.size ≤ k) v l ∧ Below w.heap.size w w' := by
  cases A with
  | none =>
    have e0 : l = [] := by
      cases l with
      | nil => rfl
      | cons x l => obtain ⟨ad, h, _⟩ := Kd.at_int hr 0 (by omega) (by simp); cases h
    subst e0
    clear hr hl
    go_enter Tryd.func52, Tryd.ntmps52
    go_wp2
    go_ret
    exact ⟨_, rfl, Kd.R_nil _ _ _ _ _, Below.refl _ _⟩
  | some ad =>
    have HR := Aside0.mk hr
    have HL := Aside0.mk hl
    have HE : Aside0 ((Kd.int .i64).R 3 (w.alloc (.cells #[] 3)) w.heap.size (fun k => w.heap.size ≤ k) (.slice (some ⟨w.heap.size, 0, none⟩) 0 0) ([] : List Int)) := ⟨Kd.R_of_own (enc := Value.int .i64) (h1 := fun _ => rfl) (by have h := World.ownsRow_lit (base := w.heap.size) (e := 3) (size := 1) w #[] 0 (Nat.le_refl _) (by decide) (by simp); simpa [encs] using h) (fun k hk => by have : w.heap.size = k := (by simpa [Value.ownBlock] using hk); omega)⟩
    clear hr hl
    go_enter Tryd.func52, Tryd.ntmps52
    go_wp2_with (at_builtin; refine Kd.R_append_row (w0 := w) (Value.int .i64) (0 : Int) (h1 := fun _ => rfl) w.heap.size rfl _ _ 22 3 (.int .i64 0) 8 rfl Tryd.underlying22 infoInt rfl (by decide) (.slice (some ⟨w.heap.size, 0, none⟩) 0 0) [] l (some ad) l.length c (fun k => w.heap.size ≤ k) rfl rfl (fun k hk => Nat.le_trans (by simp) hk) HE.out (Kd.C_below HR.out (below_alloc (Below.refl _ _) _)) (below_alloc (Below.refl _ _) _) (by simp) (by have := HL.out; simp; omega) ?_; intro v1 w1 R1 hb1 hg1 hat; replace R1 := Aside0.mk R1; replace hb1 := Aside0.mk hb1; clear hg1 hat)
    go_ret
    exact ⟨_, rfl, R1.out, hb1.out⟩
theorem rd_same {l l2 : List Int} (hl : l.length = l2.length) (h : ∀ j : Nat, j < l.length → rd l (j : Int) = rd l2 (j : Int)) : l = l2 := by
  refine List.ext_getElem hl (fun j h1 h2 => ?_)
  have := h j h1
  unfold rd at this
  simpa [h1, h2] using this
set_option maxHeartbeats 2000000 in
set_option maxRecDepth 100000 in
theorem slices_Equal (A : Option Addr) (c : Nat) (l : List Int) (A2 : Option Addr) (c2 : Nat) (l2 : List Int) (w : World) (hr : Kd.C (Kd.int .i64) w A l.length l) (hr2 : Kd.C (Kd.int .i64) w A2 l2.length l2) :
    Calls Tryd.prog 81 #[.slice A l.length c, .slice A2 l2.length c2] w fun e w' => e = .returned (.bool (l == l2)) ∧ Drawn0 w w' := by
  have hm : l.length ≤ 9223372036854775807 := hr.2.1
  have hm2 : l2.length ≤ 9223372036854775807 := hr2.2.1
  have HR := Aside0.mk hr
  have HR2 := Aside0.mk hr2
  obtain ⟨B, hB⟩ : ∃ B, (l == l2) = B := ⟨_, rfl⟩
  have HB := Aside0.mk hB
  rw [hB]
  clear hr hr2 hB
  refine calls_of_marks Tryd.func81 rfl ?_
  simp only [Tryd.ntmps81, List.size_toArray, List.length_cons, List.length_nil, Nat.reduceAdd, Nat.reduceSub, Array.replicate_succ, Array.replicate_zero, List.push_toArray, List.append_toArray, List.nil_append, List.cons_append]
  by_cases hl : l.length = l2.length
  · have hl2 : ((l.length : Int) != (l2.length : Int)) = false := by simp; omega
    replace hl := Aside0.mk hl
    go_wp2
    go_loopw [13] (fun i W => ∃ x : Nat, i = .int .i64 (x : Int) ∧ x ≤ l.length ∧ Aside0 (∀ j : Nat, j < x → rd l (j : Int) = rd l2 (j : Int)) ∧ Aside0 (Drawn0 w W)) (fun i _ => l.length - (intOf i).toNat)
    case atStart => exact ⟨0, rfl, by omega, ⟨fun j hj => absurd hj (Nat.not_lt_zero _)⟩, ⟨⟨0, rfl⟩⟩⟩
    case round =>
      obtain ⟨x, rfl, p1, HJ, HD⟩ := hrel
      by_cases hlt : x < l.length
      · obtain ⟨ad, e1, hx⟩ := Kd.at_int (kdC_drawn HR.out HD.out) (x : Int) (by omega) (by omega)
        obtain ⟨ad2, e2, hx2⟩ := Kd.at_int (kdC_drawn HR2.out HD.out) (x : Int) (by omega) (by have := hl.out; omega)
        cases e1
        cases e2
        rw [Int.toNat_natCast] at hx hx2
        have hlt2 : (x : Int) < (l2.length : Int) := by have := hl.out; omega
        have hc : Aside0 (rd l (x : Int) = rd l2 (x : Int) → ∀ j : Nat, j < x + 1 → rd l (j : Int) = rd l2 (j : Int)) := ⟨fun he j hj => by
          by_cases e : j = x
          · subst e; exact he
          · exact HJ.out j (by omega)⟩
        have hd : Aside0 (rd l (x : Int) ≠ rd l2 (x : Int) → B = false) := ⟨fun he => by
          rw [← HB.out, beq_eq_false_iff_ne]
          rintro rfl
          exact he rfl⟩
        generalize rd l (x : Int) = p at *
        generalize rd l2 (x : Int) = q at *
        go_wp2
        refine wp_region_any (by kernel_rfl) ?_
        change wpAny _ _ _ _ _ _ _ wr.drew
        refine region_any (fun W => W.cell? (ad.add x) = some (.int .i64 p) ∧ W.cell? (ad2.add x) = some (.int .i64 q)) 9 [] (by kernel_rfl) (by kernel_rfl) (by kernel_rfl) rfl (fun _ _ _ h => h) ⟨hx, hx2⟩ ?_
        simp only [List.take_succ_cons, List.take_zero]
        iterate 9 refine Reads.step _ rfl (fun W hW => by obtain ⟨k1, k2⟩ := hW; go_simp; rfl) ?_
        unfold Reads Tail
        simp only [List.getElem_toArray, List.getElem_cons_succ, List.getElem_cons_zero, Act.put, List.setIfInBounds_toArray, List.set_cons_zero, List.set_cons_succ]
        have HDd := Aside0.mk (drawn_trans HD.out ⟨1, rfl⟩ : Drawn0 w wr.drew)
        by_cases hpq : p = q
        · have hpq2 : (p != q) = false := by simpa using hpq
          replace hpq := Aside0.mk hpq
          go_wp2
          go_roundw
          case rel => exact ⟨x + 1, by simp, by omega, ⟨hc.out hpq.out⟩, HDd⟩
          case measure => simp [intOf]; omega
        · have hpq2 : (p != q) = true := by simpa using hpq
          have hBf := Aside0.mk (hd.out hpq)
          clear hpq
          go_wp2
          unfold MarksPost
          refine Marks.zero _ (results_tmp rfl _ _ _) ?_
          rw [hBf.out]
          exact ⟨rfl, HDd.out⟩
      · obtain rfl : x = l.length := by omega
        have hBt : Aside0 (B = true) := ⟨by rw [← HB.out, beq_iff_eq]; exact rd_same hl.out HJ.out⟩
        go_wp2
        unfold MarksPost
        refine Marks.zero _ (results_tmp rfl _ _ _) ?_
        rw [hBt.out]
        exact ⟨rfl, HD.out⟩
  · have hl2 : ((l.length : Int) != (l2.length : Int)) = true := by simp; omega
    have hBf : Aside0 (B = false) := ⟨by rw [← HB.out, beq_eq_false_iff_ne]; rintro rfl; exact hl rfl⟩
    clear hl
    go_wp2
    unfold MarksPost
    refine Marks.zero _ (results_tmp rfl _ _ _) ?_
    rw [hBf.out]
    exact ⟨rfl, ⟨0, rfl⟩⟩
end Go.Proofs.YtpenkemabeonaaaDoor.Hand
/- slices.Delete at []int, on a list that the call owns. -/
namespace Go.Proofs
open Go.Shelf Go.Lib Go.Sort Go.RowKit
shelf_lay Lays2.n23 Nm2 23 at Tryd as YtpenkemabeonaaaDoor.Hand.laysDelete
end Go.Proofs
namespace Go.Proofs.YtpenkemabeonaaaDoor.Hand
open Go.RowKit Go.Sort Go.Proofs.YtpenkemabeonaaaDoorW.PrintWords Go.Proofs.YtpenkemabeonaaaDoorW.PrintLast Go.Proofs.YtpenkemabeonaaaDoorW.PrintMore
set_option linter.unusedVariables false
set_option linter.unusedSimpArgs false
theorem slices_Delete (base : Nat) (ok : Nat → Prop) (A : Option Addr) (c i j : Nat) (l : List Int) (w : World) (hR : (Kd.int .i64).R 3 w base ok (.slice A l.length c) l) (hij : i ≤ j) (hj : j ≤ l.length) (h0 : 0 < l.length) :
    Calls Tryd.prog 53 #[.slice A l.length c, .int .i64 (i : Int), .int .i64 (j : Int)] w fun e w' => e = .returned (.slice A (l.length - (j - i)) c) ∧ (Kd.int .i64).R 3 w' base ok (.slice A (l.length - (j - i)) c) (l.take i ++ l.drop j) ∧ w.grownBy w' (Value.slice A l.length c).ownBlock := by
  have hok := hR.1
  have ho := Kd.own_of_R (enc := Value.int .i64) (h1 := fun _ => rfl) hR
  rcases ho.2 with ⟨hv, hn⟩ | ⟨g, cap, cur, hv, hb, hm, h1, h2, h3, h4⟩
  · omega
  · cases hv
    have hH := holds_of_blockI hm (by simpa [encs] using h4)
    refine (Any.slices_Delete_int laysDelete g 0 c i j l w hH h1 (by have := h2; simp only [maxLen] at this; omega) hij hj).mono ?_
    rintro e w' ⟨rfl, q, rfl⟩
    refine ⟨rfl, ?_, ?_⟩
    · have hl : (l.take i ++ l.drop j ++ List.replicate (j - i) (0 : Int)).length = l.length := by simp; omega
      have o := ownsRow_sortedI (n := q) (os := #[]) (ts := l.take i ++ l.drop j ++ List.replicate (j - i) (0 : Int)) hl hb hm h1 h2 h3
      rw [grow_empty] at o
      have o2 := own_take (m := l.length - (j - i)) o (by omega)
      refine Kd.R_of_own (enc := Value.int .i64) (h1 := fun _ => rfl) ?_ hok
      have e1 : (l.take i ++ l.drop j).length = l.length - (j - i) := by simp; omega
      rw [e1]
      have e2 : ((l.take i ++ l.drop j ++ List.replicate (j - i) (0 : Int)).map (Value.int .i64)).take ((l.length - (j - i)) * 1) = encs (Value.int .i64) (l.take i ++ l.drop j) := by
        rw [List.map_append, Nat.mul_one, ← e1, ← List.length_map (f := Value.int .i64), List.take_left]
        rfl
      rw [e2] at o2
      exact o2
    · have h := grownBy_sortedI (w := w) (g := g) (n := q) (os := #[]) (l.take i ++ l.drop j ++ List.replicate (j - i) (0 : Int)).toArray
      rw [grow_empty] at h
      exact h
end Go.Proofs.YtpenkemabeonaaaDoor.Hand
/- scan.Tree: what it computes; the walk. -/
namespace Go.Proofs.YtpenkemabeonaaaDoor.Hand
open Go.RowKit Go.Proofs.YtpenkemabeonaaaDoorW.PrintWords Go.Proofs.YtpenkemabeonaaaDoorW.PrintLast Go.Proofs.YtpenkemabeonaaaDoorW.PrintMore
set_option linter.unusedVariables false
set_option linter.unusedSimpArgs false
attribute [local go_sem] store_func store_nilFunc
theorem R_addr {e base n c : Nat} {ok : Nat → Prop} {w : World} {A : Option Addr} {l : List Int} (h : (Kd.int .i64).R e w base ok (.slice A n c) l) (h0 : 0 < n) : ∃ g, A = some ⟨g, 0, none⟩ ∧ base ≤ g := by
  have ho := Kd.own_of_R (enc := Value.int .i64) (h1 := fun _ => rfl) h
  rcases ho.2 with ⟨hv, hn⟩ | ⟨g, cap, cur, hv, hb, _⟩
  · cases hv; omega
  · cases hv; exact ⟨g, rfl, hb⟩
/-- Two neighbours, joined. -/
def treeStep (op : Int) (now : List Int) (i : Nat) : List Int := (now.set i (joinI op (rd now (i : Int)) (rd now ((i : Int) + 1)))).take (i + 1) ++ (now.set i (joinI op (rd now (i : Int)) (rd now ((i : Int) + 1)))).drop (i + 2)
theorem treeStep_length (op : Int) (now : List Int) (i : Nat) (h : i + 2 ≤ now.length) : (treeStep op now i).length = now.length - 1 := by
  simp [treeStep]; omega
def treeTo (op : Int) (l shape : List Int) : Nat → List Int
  | 0 => l
  | k + 1 => treeStep op (treeTo op l shape k) (rd shape (k : Int)).toNat
def shapeB (l shape : List Int) : Bool := decide (0 < l.length) && decide (shape.length + 1 = l.length) && (List.range shape.length).all (fun (k : Nat) => decide (0 ≤ rd shape (k : Int)) && decide (rd shape (k : Int) ≤ (l.length : Int) - 2 - (k : Int)))
theorem shapeB_pos {l shape : List Int} (h : shapeB l shape = true) : 0 < l.length ∧ shape.length + 1 = l.length ∧ ∀ k : Nat, k < shape.length → 0 ≤ rd shape (k : Int) ∧ rd shape (k : Int) ≤ (l.length : Int) - 2 - (k : Int) := by
  simp only [shapeB, Bool.and_eq_true, decide_eq_true_eq, List.all_eq_true, List.mem_range] at h
  exact ⟨h.1.1, h.1.2, h.2⟩
theorem treeTo_length (op : Int) {l shape : List Int} (h : shapeB l shape = true) : ∀ k, k ≤ shape.length → (treeTo op l shape k).length = l.length - k
  | 0, _ => rfl
  | k + 1, hk => by
    have ih := treeTo_length op h k (by omega)
    have h2 := shapeB_pos h
    have h3 := h2.2.2 k (by omega)
    show (treeStep op (treeTo op l shape k) (rd shape (k : Int)).toNat).length = _
    rw [treeStep_length op _ _ (by omega), ih]
    omega
def scan_Tree.g (op : Int) (l shape : List Int) : Int × Int := if (neutG op).2 = 0 then (if wsE l = 0 then (if shapeB l shape then (rd (treeTo op l shape shape.length) 0, 0) else (0, 6)) else (0, wsE l)) else (0, (neutG op).2)
set_option maxHeartbeats 2000000 in
set_option maxRecDepth 100000 in
theorem scan_Tree_yes (op nn : Int) (A : Option Addr) (c : Nat) (l : List Int) (A2 : Option Addr) (c2 : Nat) (shape : List Int) (w : World) (hT : Tabs w) (hr : Kd.C (Kd.int .i64) w A l.length l) (hr2 : Kd.C (Kd.int .i64) w A2 shape.length shape) (h1 : neutG op = (nn, 0)) (h2 : wsE l = 0) (h3 : shapeB l shape = true) :
    Calls Tryd.prog 20 #[.int .i64 op, .slice A l.length c, .slice A2 shape.length c2] w fun e w' => e = .returned (.tuple #[.int .i64 (rd (treeTo op l shape shape.length) 0), .int .i64 0]) ∧ Below w.heap.size w w' := by
  have HOf := Aside0.mk (BlkSt.of w op nn hT h1)
  have HW1 : Aside0 (∀ W, Below w.heap.size w W → Calls Tryd.prog 51 #[.slice A l.length c] W fun e w' => e = .returned (.int .i64 0) ∧ Drawn0 W w') := ⟨fun W hW => by have := scan_words A c l W (Kd.C_below hr hW); rwa [h2] at this⟩
  have hlen := (wsE_ok h2).1
  obtain ⟨g1, g2, g3⟩ := shapeB_pos h3
  have HR := Aside0.mk hr
  have HR2 := Aside0.mk hr2
  have HT := Aside0.mk hT
  have HSh := Aside0.mk g3
  have HS := Aside0.mk h3
  have HCl : Aside0 (∀ W, Below w.heap.size w W → Calls Tryd.prog 52 #[.slice A l.length c] W fun e w' => ∃ v, e = .returned v ∧ (Kd.int .i64).R 3 w' W.heap.size (fun k => W.heap.size ≤ k) v l ∧ Below W.heap.size W w') := ⟨fun W hW => slices_Clone A c l W (Kd.C_below hr hW) hlen⟩
  obtain ⟨res, hres⟩ : ∃ r, rd (treeTo op l shape shape.length) 0 = r := ⟨_, rfl⟩
  have HRes := Aside0.mk hres
  rw [hres]
  have gl : (shape.length : Int) = (l.length : Int) - 1 := by omega
  have gz : ((l.length : Int) == 0) = false := by rw [beq_eq_false_iff_ne]; omega
  clear hr hr2 hT h1 h2 h3 g3 hres
  refine calls_of_marks Tryd.func20 rfl ?_
  simp only [Tryd.ntmps20, List.size_toArray, List.length_cons, List.length_nil, Nat.reduceAdd, Nat.reduceSub, Array.replicate_succ, Array.replicate_zero, List.push_toArray, List.append_toArray, List.nil_append, List.cons_append]
  have gn : (((shape.length : Int)) != ((l.length : Int) - 1)) = false := by rw [bne_eq_false_iff_eq]; omega
  have GL := Aside0.mk gl
  clear gl
  go_wp2_with (first | (go_at_call 50; (with_reducible refine (HOf.out).mono ?_); rintro e w1 ⟨O, rfl, hst⟩; replace hst := Aside0.mk hst) | (go_at_call 51; (with_reducible refine (HW1.out _ (by exact BlkSt.below (Aside0.out (by assumption)))).mono ?_); rintro e w2 ⟨rfl, m2, rfl⟩))
  replace hst := Aside0.mk (hst.out.next (pw_below_drewN (Below.refl _ _) m2))
  generalize ((w1.alloc _).drewN m2) = w2 at *
  generalize w1.heap.size = bJ at *
  clear gn gz
  go_loopw [42] (fun i W => ∃ x : Nat, i = .int .i64 (x : Int) ∧ x ≤ shape.length ∧ Aside0 (BlkSt w op nn O bJ W)) (fun i _ => shape.length - (intOf i).toNat)
  case atStart => exact ⟨0, rfl, by omega, hst⟩
  case round =>
    revert wr
    intro wo hrel
    obtain ⟨x, rfl, p1, hso⟩ := hrel
    by_cases hlt : x < shape.length
    · obtain ⟨ad, e1, hx⟩ := Kd.at_int (Kd.C_below HR2.out hso.out.below) (x : Int) (by omega) (by omega)
      cases e1
      rw [Int.toNat_natCast] at hx
      have hq := HSh.out x hlt
      generalize rd shape (x : Int) = p at *
      obtain ⟨hq1, hq2⟩ := hq
      go_wp2
      go_roundw
      case rel => exact ⟨x + 1, by simp, by omega, hso⟩
      case measure => simp [intOf]; omega
    · obtain rfl : x = shape.length := by omega
      have hbo := Aside0.mk hso.out.below.size
      go_wp2_with (go_at_call 52; (with_reducible refine (HCl.out _ (BlkSt.below hso.out)).mono ?_); rintro e w3 ⟨v3, rfl, hR3, hb3⟩; replace hR3 := Aside0.mk hR3; replace hb3 := Aside0.mk hb3)
      have hbJ := blk_lt hso.out.jn
      go_loopw [13, 63] (fun v i W => ∃ x : Nat, i = .int .i64 (x : Int) ∧ x ≤ shape.length ∧ Aside0 ((Kd.int .i64).R 3 W wo.heap.size (fun k => wo.heap.size ≤ k) v (treeTo op l shape x)) ∧ Aside0 (Below wo.heap.size wo W)) (fun _ i _ => shape.length - (intOf i).toNat)
      case atStart => exact ⟨0, rfl, by omega, hR3, hb3⟩
      case round =>
        obtain ⟨x, rfl, r1, hR, hb⟩ := hrel
        have hs4 := Aside0.mk (hso.out.next hb.out)
        have hlx := treeTo_length op HS.out x r1
        by_cases hk : x < shape.length
        · obtain ⟨A6, c6, rfl⟩ := Kd.R_slice hR.out
          have hq := HSh.out x hk
          obtain ⟨p, hp⟩ : ∃ p : Nat, rd shape (x : Int) = p := ⟨(rd shape (x : Int)).toNat, by omega⟩
          obtain ⟨adS, eS, hxS⟩ := Kd.at_int (Kd.C_below HR2.out hs4.out.below) (x : Int) (by omega) (by omega)
          cases eS
          rw [Int.toNat_natCast, hp] at hxS
          rw [hp] at hq
          have hst1 : Aside0 (treeTo op l shape (x + 1) = treeStep op (treeTo op l shape x) p) := ⟨by show treeStep op (treeTo op l shape x) (rd shape (x : Int)).toNat = _; rw [hp]; rfl⟩
          have hst2 : Aside0 (treeStep op (treeTo op l shape x) p = ((treeTo op l shape x).set p (joinI op (rd (treeTo op l shape x) (p : Int)) (rd (treeTo op l shape x) ((p : Int) + 1)))).take (p + 1) ++ ((treeTo op l shape x).set p (joinI op (rd (treeTo op l shape x) (p : Int)) (rd (treeTo op l shape x) ((p : Int) + 1)))).drop (p + 2)) := ⟨rfl⟩
          clear hp
          generalize treeTo op l shape x = now at *
          obtain ⟨g, rfl, hg⟩ := R_addr hR.out (by omega)
          have hC6 := (Kd.R_reads' hR.out).2.2
          obtain ⟨ad1, e1, h1⟩ := Kd.at_int hC6 (p : Int) (by omega) (by omega)
          obtain ⟨ad2, e2, h2⟩ := Kd.at_int hC6 ((p : Int) + 1) (by omega) (by omega)
          cases e1
          cases e2
          have hcJ : wr.cell? ⟨bJ, 2, none⟩ = some (.func (.func 77) #[] #[.pointer (some ⟨O, 0, none⟩)]) := blk_cell hs4.out.jn 2
          have HJ := Aside0.mk (fun W (hW : BlkSt w op nn O bJ W) => joiner_by op nn (rd now (p : Int)) (rd now ((p : Int) + 1)) O W hW.opAt (HT.out.below hW.below).deeds)
          generalize hjj : joinI op (rd now (p : Int)) (rd now ((p : Int) + 1)) = jj at *
          replace hjj := Aside0.mk hjj
          generalize rd now (p : Int) = a1 at *
          generalize rd now ((p : Int) + 1) = a2 at *
          have hn2 : now.length ≤ 1048576 := by omega
          have hp2 : p + 2 ≤ now.length := by omega
          have hp3 : p < now.length := by omega
          have hwr : IntKind.i64.wrap ((p : Int) + 1) = ((p + 1 : Nat) : Int) := by rw [i64_w]; unfold wrap64; omega
          have hp4 : p + 1 < now.length := by omega
          replace hlx := Aside0.mk hlx
          replace hq := Aside0.mk hq
          have hR0 := Aside0.mk hR.out
          have hg0 := Aside0.mk hg
          have hAdd : Aside0 ((⟨g, 0, none⟩ : Addr).add p = ⟨g, p, none⟩) := ⟨by by_cases hp0 : p = 0 <;> simp [Addr.add, hp0]⟩
          rw [Int.toNat_natCast] at h1
          rw [show ((p : Int) + 1).toNat = p + 1 by omega, show (⟨g, 0, none⟩ : Addr).add (p + 1) = ⟨(⟨g, 0, none⟩ : Addr).block, (⟨g, 0, none⟩ : Addr).off + (p + 1), none⟩ by simp [Addr.add]] at h2
          have hfz : wr.frozen? ((⟨g, 0, none⟩ : Addr).add p) = false := by
            rw [hAdd.out]
            rcases (Kd.own_of_R (enc := Value.int .i64) (h1 := fun _ => rfl) hR.out).2 with ⟨hv, _⟩ | ⟨g', cap, cur, hv, _, hm, _⟩
            · cases hv
            · cases hv
              exact blk_frozen hm p
          generalize hadr : (⟨g, 0, none⟩ : Addr) = adr at *
          replace hadr := Aside0.mk hadr
          clear hR hg hC6
          go_wp2
          refine wp_region_any (by kernel_rfl) ?_
          change wpAny _ _ _ _ _ _ _ wr.drew
          have hS0 : wr.drew.cell? ⟨bJ, 2, none⟩ = some (.func (.func 77) #[] #[.pointer (some ⟨O, 0, none⟩)]) ∧ wr.drew.cell? (adr.add p) = some (.int .i64 a1) ∧ wr.drew.cell? ⟨adr.block, adr.off + (p + 1), none⟩ = some (.int .i64 a2) := ⟨hcJ, h1, h2⟩
          refine region_anyI (fun W => W.cell? ⟨bJ, 2, none⟩ = some (.func (.func 77) #[] #[.pointer (some ⟨O, 0, none⟩)]) ∧ W.cell? (adr.add p) = some (.int .i64 a1) ∧ W.cell? ⟨adr.block, adr.off + (p + 1), none⟩ = some (.int .i64 a2)) [0, 1, 2, 3, 4, 5, 6, 7, 8, 9, 10, 11, 12] [13, 14, 15] [15] (by kernel_rfl) (by kernel_rfl) (by kernel_rfl) (by kernel_rfl) rfl (fun _ _ _ h => h) hS0 ?_
          iterate 13 refine ReadsI.step _ rfl rfl (fun W hW => by obtain ⟨k1, k2, k3⟩ := hW; go_simp; first | rfl | done | (rw [if_pos (by omega)])) ?_
          change TailL _ _ _ _ _ _ _
          have hsd := hs4.out.next (below_drew (Below.refl _ _))
          refine TailL.call rfl rfl (by go_simp) (HJ.out wr.drew hsd) ?_
          rintro e w4 ⟨rfl, hb4⟩
          have hS4 : w4.cell? ⟨bJ, 2, none⟩ = some (.func (.func 77) #[] #[.pointer (some ⟨O, 0, none⟩)]) ∧ w4.cell? (adr.add p) = some (.int .i64 a1) ∧ w4.cell? ⟨adr.block, adr.off + (p + 1), none⟩ = some (.int .i64 a2) := ⟨pw_cell_below hb4 hcJ, pw_cell_below hb4 h1, pw_cell_below hb4 h2⟩
          have hc4 := hS4.2.1
          have hR4 := Kd.R_below (Kd.R_drew hR0.out) hb4
          have hB4 : Below wo.heap.size wo w4 := hb.out.trans ((below_drew (Below.refl _ _)).trans (hb4.mono hb.out.size))
          have hf4 : w4.frozen? (adr.add p) = false := by
            rw [hAdd.out]
            rw [← hadr.out] at hR4
            rcases (Kd.own_of_R (enc := Value.int .i64) (h1 := fun _ => rfl) hR4).2 with ⟨hv, _⟩ | ⟨g', cap, cur, hv, _, hm, _⟩
            · cases hv
            · cases hv
              exact blk_frozen hm p
          refine ⟨_, rfl, fun _ => hS4, ?_⟩
          replace hB4 := Aside0.mk hB4
          replace hR4 := Aside0.mk hR4
          clear hb4 h1 h2
          refine TailL.val rfl rfl (by go_simp; first | rfl | exact ⟨rfl, rfl⟩) (fun _ => hS4) ?_
          refine TailL.skip rfl rfl rfl (by go_simp; first | rfl | exact ⟨rfl, rfl⟩) (fun h => absurd rfl h) ?_
          unfold TailL
          simp only [List.getElem_toArray, List.getElem_cons_succ, List.getElem_cons_zero, Act.put, List.setIfInBounds_toArray, List.set_cons_zero, List.set_cons_succ]
          have hAdr : adr.add p = ⟨g, p, none⟩ := hAdd.out
          have hR5 : (Kd.int .i64).R 3 (w4.setCell (adr.add p) (.int .i64 jj)) wo.heap.size (fun k => wo.heap.size ≤ k) (.slice (some adr) now.length c6) (now.set p jj) := by
            have h := hR4.out
            rw [← hadr.out] at h
            have h2 := (Kd.R_putg h (p : Int) jj).1
            rw [Int.toNat_natCast] at h2
            rw [hAdr, ← hadr.out]
            exact h2
          have hB5 : Below wo.heap.size wo (w4.setCell (adr.add p) (.int .i64 jj)) := by
            rw [hAdr]
            exact hB4.out.setCell hg0.out _
          have hDel : Calls Tryd.prog 53 #[.slice (some adr) now.length c6, .int .i64 ((p : Int) + 1), .int .i64 ((p : Int) + 2)] (w4.setCell (adr.add p) (.int .i64 jj)) fun e w' => e = .returned (.slice (some adr) (now.length - 1) c6) ∧ (Kd.int .i64).R 3 w' wo.heap.size (fun k => wo.heap.size ≤ k) (.slice (some adr) (now.length - 1) c6) ((now.set p jj).take (p + 1) ++ (now.set p jj).drop (p + 2)) ∧ Below wo.heap.size wo w' := by
            have hl : (now.set p jj).length = now.length := by simp
            rw [← hl] at hR5
            have h := slices_Delete wo.heap.size (fun k => wo.heap.size ≤ k) (some adr) c6 (p + 1) (p + 2) (now.set p jj) _ hR5 (by omega) (by omega) (by omega)
            rw [hl, show p + 2 - (p + 1) = 1 by omega] at h
            refine h.mono ?_
            rintro e w' ⟨rfl, h5, h6⟩
            refine ⟨rfl, h5, ?_⟩
            exact hB5.grown h6 hB5.size (fun k hk => by have : adr.block = k := (by simpa [Value.ownBlock] using hk); rw [← hadr.out] at this; have := hg0.out; simp at *; omega)
          have HDel := Aside0.mk hDel
          clear hDel hR5 hB5 hAdr
          generalize w4.setCell (adr.add p) (.int .i64 jj) = w5 at *
          go_wp2_with (go_at_call 53; (with_reducible refine (HDel.out).mono ?_); rintro e w6 ⟨rfl, hR6, hB6⟩; replace hR6 := Aside0.mk hR6; replace hB6 := Aside0.mk hB6)
          go_roundw
          case rel => exact ⟨x + 1, by simp, by omega, ⟨by rw [hst1.out, hst2.out]; exact hR6.out⟩, hB6⟩
          case measure => simp [intOf]; omega
        · obtain rfl : x = shape.length := by omega
          obtain ⟨A6, c6, rfl⟩ := Kd.R_slice hR.out
          obtain ⟨g, rfl, hg⟩ := R_addr hR.out (by omega)
          obtain ⟨ad, e1, hx⟩ := Kd.at_int (Kd.R_reads' hR.out).2.2 0 (by omega) (by omega)
          cases e1
          rw [HRes.out] at hx
          have hx0 : wr.cell? ⟨g, 0, none⟩ = some (.int .i64 res) := hx
          clear hx
          have hln : 0 < (treeTo op l shape shape.length).length := by omega
          generalize (treeTo op l shape shape.length).length = n9 at *
          go_wp2
          unfold MarksPost
          refine Marks.zero _ (results_tmp2 rfl _ _ _) ?_
          exact ⟨rfl, hso.out.below.trans (hb.out.mono hbo.out)⟩
end Go.Proofs.YtpenkemabeonaaaDoor.Hand
/- scan.Tree where it answers an error; its contract. -/
namespace Go.Proofs.YtpenkemabeonaaaDoor.Hand
open Go.RowKit Go.Proofs.YtpenkemabeonaaaDoorW.PrintWords Go.Proofs.YtpenkemabeonaaaDoorW.PrintLast Go.Proofs.YtpenkemabeonaaaDoorW.PrintMore
set_option linter.unusedVariables false
set_option linter.unusedSimpArgs false
attribute [local go_sem] store_func store_nilFunc
set_option maxHeartbeats 2000000 in
set_option maxRecDepth 100000 in
theorem scan_Tree_noA (op err : Int) (A : Option Addr) (c : Nat) (l : List Int) (A2 : Option Addr) (c2 : Nat) (shape : List Int) (w : World) (hT : Tabs w) (h1 : (neutG op).2 = err) (he : err ≠ 0) :
    Calls Tryd.prog 20 #[.int .i64 op, .slice A l.length c, .slice A2 shape.length c2] w fun e w' => e = .returned (.tuple #[.int .i64 0, .int .i64 err]) ∧ Below w.heap.size w w' := by
  have HOf := Aside0.mk (scan_of_no op err w hT.laws hT.neut h1 he)
  have z : (err != 0) = true := bne_iff_ne.mpr he
  clear hT h1 he
  go_enter Tryd.func20, Tryd.ntmps20
  go_wp2_with (go_at_call 50; (with_reducible refine (HOf.out).mono ?_); rintro e w1 ⟨rfl, hb⟩; replace hb := Aside0.mk hb)
  go_ret2
  exact ⟨rfl, below_alloc hb.out _⟩
set_option maxHeartbeats 2000000 in
set_option maxRecDepth 100000 in
theorem scan_Tree_noB (op nn E : Int) (A : Option Addr) (c : Nat) (l : List Int) (A2 : Option Addr) (c2 : Nat) (shape : List Int) (w : World) (hT : Tabs w) (hr : Kd.C (Kd.int .i64) w A l.length l) (h1 : neutG op = (nn, 0)) (h2 : wsE l = E) (h3 : E ≠ 0) :
    Calls Tryd.prog 20 #[.int .i64 op, .slice A l.length c, .slice A2 shape.length c2] w fun e w' => e = .returned (.tuple #[.int .i64 0, .int .i64 E]) ∧ Below w.heap.size w w' := by
  have HOf := Aside0.mk (BlkSt.of w op nn hT h1)
  have HW1 : Aside0 (∀ W, Below w.heap.size w W → Calls Tryd.prog 51 #[.slice A l.length c] W fun e w' => e = .returned (.int .i64 E) ∧ Drawn0 W w') := ⟨fun W hW => by have := scan_words A c l W (Kd.C_below hr hW); rwa [h2] at this⟩
  have z : (E != 0) = true := bne_iff_ne.mpr h3
  clear hT hr h1 h2 h3
  go_enter Tryd.func20, Tryd.ntmps20
  go_wp2_with (first | (go_at_call 50; (with_reducible refine (HOf.out).mono ?_); rintro e w1 ⟨O, rfl, hst⟩; replace hst := Aside0.mk hst) | (go_at_call 51; (with_reducible refine (HW1.out _ (by exact BlkSt.below (Aside0.out (by assumption)))).mono ?_); rintro e w2 ⟨rfl, m2, rfl⟩))
  go_ret2
  exact ⟨rfl, pw_below_drewN hst.out.below _⟩
set_option maxHeartbeats 2000000 in
set_option maxRecDepth 100000 in
theorem scan_Tree_noC (op nn : Int) (A : Option Addr) (c : Nat) (l : List Int) (A2 : Option Addr) (c2 : Nat) (shape : List Int) (w : World) (hT : Tabs w) (hr : Kd.C (Kd.int .i64) w A l.length l) (h1 : neutG op = (nn, 0)) (h2 : wsE l = 0) (h3 : l.length = 0 ∨ (0 < l.length ∧ shape.length + 1 ≠ l.length)) (hm : shape.length ≤ 9223372036854775807) :
    Calls Tryd.prog 20 #[.int .i64 op, .slice A l.length c, .slice A2 shape.length c2] w fun e w' => e = .returned (.tuple #[.int .i64 0, .int .i64 6]) ∧ Below w.heap.size w w' := by
  have HOf := Aside0.mk (BlkSt.of w op nn hT h1)
  have HW1 : Aside0 (∀ W, Below w.heap.size w W → Calls Tryd.prog 51 #[.slice A l.length c] W fun e w' => e = .returned (.int .i64 0) ∧ Drawn0 W w') := ⟨fun W hW => by have := scan_words A c l W (Kd.C_below hr hW); rwa [h2] at this⟩
  have hlen := (wsE_ok h2).1
  clear hT hr h1 h2
  rcases h3 with h3 | ⟨h3, h4⟩
  · obtain rfl : l = [] := List.length_eq_zero_iff.1 h3
    clear h3
    simp only [List.length_nil] at HW1 ⊢
    go_enter Tryd.func20, Tryd.ntmps20
    go_wp2_with (first | (go_at_call 50; (with_reducible refine (HOf.out).mono ?_); rintro e w1 ⟨O, rfl, hst⟩; replace hst := Aside0.mk hst) | (go_at_call 51; (with_reducible refine (HW1.out _ (by exact BlkSt.below (Aside0.out (by assumption)))).mono ?_); rintro e w2 ⟨rfl, m2, rfl⟩))
    all_goals first
      | (go_ret2; exact ⟨rfl, pw_below_drewN (BlkSt.below (Aside0.out (by assumption))) _⟩)
      | (exfalso; omega)
  · have gz : ((l.length : Int) == 0) = false := by rw [beq_eq_false_iff_ne]; omega
    have gn : (((shape.length : Int)) != ((l.length : Int) - 1)) = true := by rw [bne_iff_ne]; omega
    go_enter Tryd.func20, Tryd.ntmps20
    go_wp2_with (first | (go_at_call 50; (with_reducible refine (HOf.out).mono ?_); rintro e w1 ⟨O, rfl, hst⟩; replace hst := Aside0.mk hst) | (go_at_call 51; (with_reducible refine (HW1.out _ (by exact BlkSt.below (Aside0.out (by assumption)))).mono ?_); rintro e w2 ⟨rfl, m2, rfl⟩))
    all_goals first
      | (go_ret2; exact ⟨rfl, pw_below_drewN (BlkSt.below (Aside0.out (by assumption))) _⟩)
      | (exfalso; omega)
set_option maxHeartbeats 2000000 in
set_option maxRecDepth 100000 in
theorem scan_Tree_noD (op nn : Int) (A : Option Addr) (c : Nat) (l : List Int) (A2 : Option Addr) (c2 : Nat) (shape : List Int) (w : World) (hT : Tabs w) (hr : Kd.C (Kd.int .i64) w A l.length l) (hr2 : Kd.C (Kd.int .i64) w A2 shape.length shape) (h1 : neutG op = (nn, 0)) (h2 : wsE l = 0) (h3 : 0 < l.length) (h4 : shape.length + 1 = l.length) (h5 : shapeB l shape = false) :
    Calls Tryd.prog 20 #[.int .i64 op, .slice A l.length c, .slice A2 shape.length c2] w fun e w' => e = .returned (.tuple #[.int .i64 0, .int .i64 6]) ∧ Below w.heap.size w w' := by
  have HOf := Aside0.mk (BlkSt.of w op nn hT h1)
  have HW1 : Aside0 (∀ W, Below w.heap.size w W → Calls Tryd.prog 51 #[.slice A l.length c] W fun e w' => e = .returned (.int .i64 0) ∧ Drawn0 W w') := ⟨fun W hW => by have := scan_words A c l W (Kd.C_below hr hW); rwa [h2] at this⟩
  have hlen := (wsE_ok h2).1
  have HR2 := Aside0.mk hr2
  have HBad : Aside0 ((∀ k : Nat, k < shape.length → 0 ≤ rd shape (k : Int) ∧ rd shape (k : Int) ≤ (l.length : Int) - 2 - (k : Int)) → False) := ⟨fun h => by
    have : shapeB l shape = true := by
      simp only [shapeB, Bool.and_eq_true, decide_eq_true_eq, List.all_eq_true, List.mem_range]
      exact ⟨⟨h3, h4⟩, h⟩
    rw [h5] at this
    cases this⟩
  have H4 := Aside0.mk h4
  have gz : ((l.length : Int) == 0) = false := by rw [beq_eq_false_iff_ne]; omega
  have gn : (((shape.length : Int)) != ((l.length : Int) - 1)) = false := by rw [bne_eq_false_iff_eq]; omega
  have hsl : shape.length ≤ 1048576 := by omega
  clear hT hr hr2 h1 h2 h4 h5
  refine calls_of_marks Tryd.func20 rfl ?_
  simp only [Tryd.ntmps20, List.size_toArray, List.length_cons, List.length_nil, Nat.reduceAdd, Nat.reduceSub, Array.replicate_succ, Array.replicate_zero, List.push_toArray, List.append_toArray, List.nil_append, List.cons_append]
  go_wp2_with (first | (go_at_call 50; (with_reducible refine (HOf.out).mono ?_); rintro e w1 ⟨O, rfl, hst⟩; replace hst := Aside0.mk hst) | (go_at_call 51; (with_reducible refine (HW1.out _ (by exact BlkSt.below (Aside0.out (by assumption)))).mono ?_); rintro e w2 ⟨rfl, m2, rfl⟩))
  replace hst := Aside0.mk (hst.out.next (pw_below_drewN (Below.refl _ _) m2))
  generalize ((w1.alloc _).drewN m2) = w2 at *
  generalize w1.heap.size = bJ at *
  clear gn gz
  go_loopw [42] (fun i W => ∃ x : Nat, i = .int .i64 (x : Int) ∧ x ≤ shape.length ∧ Aside0 (BlkSt w op nn O bJ W) ∧ Aside0 (∀ k : Nat, k < x → 0 ≤ rd shape (k : Int) ∧ rd shape (k : Int) ≤ (l.length : Int) - 2 - (k : Int))) (fun i _ => shape.length - (intOf i).toNat)
  case atStart => exact ⟨0, rfl, by omega, hst, ⟨fun k hk => absurd hk (Nat.not_lt_zero _)⟩⟩
  case round =>
    obtain ⟨x, rfl, p1, hso, hg⟩ := hrel
    by_cases hlt : x < shape.length
    · obtain ⟨ad, e1, hx⟩ := Kd.at_int (Kd.C_below HR2.out hso.out.below) (x : Int) (by omega) (by omega)
      cases e1
      rw [Int.toNat_natCast] at hx
      have hn : Aside0 (0 ≤ rd shape (x : Int) ∧ rd shape (x : Int) ≤ (l.length : Int) - 2 - (x : Int) → ∀ k : Nat, k < x + 1 → 0 ≤ rd shape (k : Int) ∧ rd shape (k : Int) ≤ (l.length : Int) - 2 - (k : Int)) := ⟨fun h k hk => by
        by_cases e : k = x
        · subst e; exact h
        · exact hg.out k (by omega)⟩
      have h4' := H4.out
      generalize rd shape (x : Int) = p at *
      by_cases hp1 : p < 0
      · go_wp2
        unfold MarksPost
        refine Marks.zero _ (results_tmp2 rfl _ _ _) ?_
        exact ⟨rfl, hso.out.below⟩
      · by_cases hp2 : (l.length : Int) - 2 - (x : Int) < p
        · go_wp2
          all_goals first
            | (unfold MarksPost; refine Marks.zero _ (results_tmp2 rfl _ _ _) ?_; exact ⟨rfl, hso.out.below⟩)
            | (exfalso; omega)
        · have hb2 : 0 ≤ p ∧ p ≤ (l.length : Int) - 2 - (x : Int) := by omega
          have HB2 := Aside0.mk hb2
          obtain ⟨hq1, hq2⟩ := hb2
          clear hp1 hp2 h4'
          go_wp2
          go_roundw
          case rel => exact ⟨x + 1, by simp, by omega, hso, ⟨hn.out HB2.out⟩⟩
          case measure => simp [intOf]; omega
    · obtain rfl : x = shape.length := by omega
      exact absurd hg.out HBad.out
theorem scan_Tree.run (op : Int) (A : Option Addr) (c : Nat) (l : List Int) (A2 : Option Addr) (c2 : Nat) (shape : List Int) (w : World) (hT : Tabs w) (hr : Kd.C (Kd.int .i64) w A l.length l) (hr2 : Kd.C (Kd.int .i64) w A2 shape.length shape) :
    Calls Tryd.prog 20 #[.int .i64 op, .slice A l.length c, .slice A2 shape.length c2] w fun e w' => e = .returned (.tuple #[.int .i64 (scan_Tree.g op l shape).1, .int .i64 (scan_Tree.g op l shape).2]) ∧ Below w.heap.size w w' := by
  unfold scan_Tree.g
  by_cases h1 : (neutG op).2 = 0
  · have e1 : neutG op = ((neutG op).1, 0) := Prod.ext rfl h1
    rw [if_pos h1]
    by_cases h2 : wsE l = 0
    · rw [if_pos h2]
      cases h3 : shapeB l shape
      · rw [if_neg (by decide)]
        by_cases h4 : l.length = 0
        · exact scan_Tree_noC op _ A c l A2 c2 shape w hT hr e1 h2 (.inl h4) hr2.2.1
        · by_cases h5 : shape.length + 1 = l.length
          · exact scan_Tree_noD op _ A c l A2 c2 shape w hT hr hr2 e1 h2 (by omega) h5 h3
          · exact scan_Tree_noC op _ A c l A2 c2 shape w hT hr e1 h2 (.inr ⟨by omega, h5⟩) hr2.2.1
      · rw [if_pos rfl]
        exact scan_Tree_yes op _ A c l A2 c2 shape w hT hr hr2 e1 h2 h3
    · rw [if_neg h2]
      exact scan_Tree_noB op _ _ A c l A2 c2 shape w hT hr e1 rfl h2
  · rw [if_neg h1]
    exact scan_Tree_noA op _ A c l A2 c2 shape w hT rfl h1
end Go.Proofs.YtpenkemabeonaaaDoor.Hand
/- scan.Flagged: what it computes (lists of flagged words: pairs of a flag and a word). -/
namespace Go.Proofs.YtpenkemabeonaaaDoor.Hand
open Go.RowKit Go.Proofs.YtpenkemabeonaaaDoorW.PrintWords Go.Proofs.YtpenkemabeonaaaDoorW.PrintLast Go.Proofs.YtpenkemabeonaaaDoorW.PrintMore
set_option linter.unusedVariables false
set_option linter.unusedSimpArgs false
attribute [local go_sem] store_func store_nilFunc
abbrev kF : Kd (Bool × Int) := Kd.pair Kd.bool (Kd.int .i64)
def rdF (xs : List (Bool × Int)) (i : Int) : Bool × Int := xs.getD i.toNat (false, 0)
theorem kF_open {w : World} {x : Bool × Int} {cs : List Value} (h : kF.K w x cs) : cs = [.bool x.1, .int .i64 x.2] := by
  obtain ⟨_, _, rfl, rfl, rfl⟩ := h
  exact rfl
theorem kF_mkM (w : World) (base : Nat) (ok : Nat → Prop) (x : Bool × Int) : kF.M w base ok x [.bool x.1, .int .i64 x.2] := ⟨[.bool x.1], [.int .i64 x.2], rfl, rfl, rfl⟩
theorem at_F {w : World} {A : Option Addr} {n : Nat} {xs : List (Bool × Int)} (h : Kd.C kF w A n xs) (i : Int) (h0 : 0 ≤ i) (h1 : i < n) : ∃ ad, A = some ad ∧ w.cell? (ad.add (i.toNat * 2)) = some (.bool (rdF xs i).1) ∧ w.cell? ⟨(ad.add (i.toNat * 2)).block, (ad.add (i.toNat * 2)).off + 1, none⟩ = some (.int .i64 (rdF xs i).2) := by
  obtain ⟨ad, c, e, _, hK, hc0⟩ := Kd.C_get h (false, 0) i h0 h1
  have hc : ∀ j u, c[j]? = some u → w.cell? (ad.add (i.toNat * 2 + j)) = some u := hc0
  obtain rfl := kF_open hK
  exact ⟨ad, e, hc 0 _ rfl, by rw [← add_field _ _ 1 (by omega)]; exact hc 1 _ rfl⟩
/-- The flagged words so far, joined. -/
def flagAt (op nn : Int) (l : List (Bool × Int)) : Nat → Bool × Int
  | 0 => (false, nn)
  | k + 1 => flagJ op nn (flagAt op nn l k) (rdF l (k : Int))
def flagsTo (op nn : Int) (l : List (Bool × Int)) (k : Nat) : List (Bool × Int) := (List.range k).map (fun j => flagAt op nn l (j + 1))
theorem flagsTo_succ (op nn : Int) (l : List (Bool × Int)) (k : Nat) : flagsTo op nn l (k + 1) = flagsTo op nn l k ++ [flagAt op nn l (k + 1)] := by simp [flagsTo, List.range_succ]
theorem flagsTo_length (op nn : Int) (l : List (Bool × Int)) (k : Nat) : (flagsTo op nn l k).length = k := by simp [flagsTo]
def scan_Flagged.g (op : Int) (l : List (Bool × Int)) : List (Bool × Int) × Int :=
  if (neutG op).2 = 0 then (if 1048576 < l.length then ([], 3) else if l.all (fun x => isWordB x.2) then (flagsTo op (neutG op).1 l l.length, 0) else ([], 2)) else ([], (neutG op).2)
end Go.Proofs.YtpenkemabeonaaaDoor.Hand
/- scan.Flagged: the walk. -/
namespace Go.Proofs.YtpenkemabeonaaaDoor.Hand
open Go.RowKit Go.Proofs.YtpenkemabeonaaaDoorW.PrintWords Go.Proofs.YtpenkemabeonaaaDoorW.PrintLast Go.Proofs.YtpenkemabeonaaaDoorW.PrintMore
set_option linter.unusedVariables false
set_option linter.unusedSimpArgs false
attribute [local go_sem] store_func store_nilFunc
theorem infoF : (Tryd.prog.info? 41).map (fun i => (i.zero, i.size, i.bytes)) = some (some (.agg #[.bool false, .int .i64 0]), 2, 16) := by kernel_rfl
set_option maxHeartbeats 2000000 in
set_option maxRecDepth 100000 in
theorem scan_Flagged_yes (op nn : Int) (A : Option Addr) (c : Nat) (l : List (Bool × Int)) (w : World) (hT : Tabs w) (hr : Kd.C kF w A l.length l) (h1 : neutG op = (nn, 0)) (h2 : l.length ≤ 1048576) (h3 : l.all (fun x => isWordB x.2) = true) :
    Calls Tryd.prog 31 #[.int .i64 op, .slice A l.length c] w fun e w' => ∃ v, e = .returned (.tuple #[v, .int .i64 0]) ∧ Kd.V kF 41 w' w.heap.size (fun k => w.heap.size ≤ k) v (flagsTo op nn l l.length) ∧ Below w.heap.size w w' := by
  have HOf := Aside0.mk (BlkSt.of w op nn hT h1)
  have HR := Aside0.mk hr
  have HT := Aside0.mk hT
  have H3 := Aside0.mk h3
  obtain ⟨RR, hRR⟩ : ∃ R, flagsTo op nn l l.length = R := ⟨_, rfl⟩
  have HRR := Aside0.mk hRR
  rw [hRR]
  clear hr hT h1 h3 hRR
  refine calls_of_marks Tryd.func31 rfl ?_
  simp only [Tryd.ntmps31, List.size_toArray, List.length_cons, List.length_nil, Nat.reduceAdd, Nat.reduceSub, Array.replicate_succ, Array.replicate_zero, List.push_toArray, List.append_toArray, List.nil_append, List.cons_append]
  go_wp2_with (first | (go_at_call 50; (with_reducible refine (HOf.out).mono ?_); rintro e w1 ⟨O, rfl, hst⟩; have c1 := blk_cell hst.jn 1; replace hst := Aside0.mk hst))
  have hsN := hst.out.next (below_alloc (Below.refl _ _) (Obj.cells #[.bool false, .int .i64 nn] 41))
  have hN : ((w1.alloc (Obj.cells #[.int .i64 op, .int .i64 nn, .func (.func 77) #[] #[.pointer (some ⟨O, 0, none⟩)]] 70)).alloc (Obj.cells #[.bool false, .int .i64 nn] 41)).heap[w1.heap.size + 1]? = some (.cells #[.bool false, .int .i64 nn] 41 (0, 0)) := blk_new_at (by simp) _
  have hOb : O < w1.heap.size + 1 := by have := blk_lt hst.out.opAt; simpa using this
  have hwn : w.heap.size ≤ w1.heap.size + 1 := by have := hst.out.below.size; simpa using this
  generalize ((w1.alloc _).alloc _) = W0 at *
  have hbN := blk_lt hN
  have hB0 := hsN.below.size
  clear hst c1
  have HS := Aside0.mk hsN
  go_loopw [8, 29] (fun v i W => ∃ k : Nat, i = .int .i64 (k : Int) ∧ k ≤ l.length ∧ Aside0 (W.heap[w1.heap.size + 1]? = some (.cells #[.bool (flagAt op nn l k).1, .int .i64 (flagAt op nn l k).2] 41 (0, 0))) ∧ Aside0 (kF.R 41 W W0.heap.size (fun q => W0.heap.size ≤ q) v (flagsTo op nn l k)) ∧ Aside0 (Kp (fun q => q = w1.heap.size + 1) W0 W)) (fun _ i _ => l.length - (intOf i).toNat)
  case atStart => exact ⟨0, rfl, by omega, ⟨hN⟩, ⟨Kd.R_nil _ _ _ _ _⟩, ⟨Kp.refl _ _⟩⟩
  case round =>
    obtain ⟨k, rfl, p1, hM, hR, hK⟩ := hrel
    have hW : Below w.heap.size w wr := HS.out.below.trans (hK.out.below (fun q hq => ⟨by omega, by omega⟩))
    by_cases hlt : k < l.length
    · obtain ⟨ad, e1, hx1, hx2⟩ := at_F (Kd.C_below HR.out hW) (k : Int) (by omega) (by omega)
      cases e1
      have hwx : isWordB (rdF l (k : Int)).2 = true := by
        have h := List.all_eq_true.1 H3.out (rdF l (k : Int)) (by unfold rdF; rw [Int.toNat_natCast, List.getD_eq_getElem?_getD, List.getElem?_eq_getElem hlt]; exact List.getElem_mem _)
        exact h
      have hfs := Aside0.mk (flagsTo_succ op nn l k)
      have hfl := flagsTo_length op nn l k
      have hfk : Aside0 (flagAt op nn l (k + 1) = flagJ op nn (flagAt op nn l k) (rdF l (k : Int))) := ⟨rfl⟩
      have hj5 := Aside0.mk (hK.out.blk HS.out.jn (by have := hwn; show ¬ _ = _; omega))
      rw [Int.toNat_natCast] at hx1 hx2
      generalize rdF l (k : Int) = x at *
      generalize flagAt op nn l k = fk at *
      obtain ⟨x1, x2⟩ := x
      obtain ⟨k1, k2⟩ := fk
      have HIs : Aside0 (∀ W, Calls Tryd.prog 65 #[.int .i64 x2] W fun e w' => e = .returned (.bool true) ∧ Drawn0 W w') := ⟨fun W => by have := word_Is x2 W; rwa [hwx] at this⟩
      have HJf : Aside0 (∀ W, Below w.heap.size w W → Calls Tryd.prog 66 #[JV op nn O, FlV (k1, k2), FlV (x1, x2)] W fun e w' => e = .returned (FlV (flagJ op nn (k1, k2) (x1, x2))) ∧ Below W.heap.size W w') := ⟨fun W hW => joiner_flagged op nn (k1, k2) (x1, x2) O W (HT.out.below hW).deeds⟩
      generalize flagJ op nn (k1, k2) (x1, x2) = fj at *
      obtain ⟨j1, j2⟩ := fj
      replace hW := Aside0.mk hW
      replace hfl := Aside0.mk hfl
      clear hwx
      go_wp2_with (first
        | (go_at_call 65; (with_reducible refine (HIs.out _).mono ?_); rintro e w5 ⟨rfl, hd5⟩
           have hb5 : Below (wr.alloc (Obj.cells #[.bool x1, .int .i64 x2] 41)).heap.size (wr.alloc (Obj.cells #[.bool x1, .int .i64 x2] 41)) w5 := by (obtain ⟨m, rfl⟩ := hd5; exact pw_below_drewN (Below.refl _ _) m)
           have bx := blk_below (blk_new wr (Obj.cells #[.bool x1, .int .i64 x2] 41)) hb5
           have bn := blk_below (blk_alloc hM.out _) hb5
           have bj := blk_below (blk_alloc hj5.out _) hb5
           have c0 := blk_cell bx 0
           have c1 := blk_cell bx 1
           have c2 := blk_cell bn 0
           have c3 := blk_cell bn 1
           have c4 := blk_cell bj 0
           have c5 := blk_cell bj 1
           have c6 := blk_cell bj 2
           have hb5w := Aside0.mk ((below_alloc (Below.refl _ _) _).trans (hb5.mono (by simp)) : Below wr.heap.size wr w5)
           replace bn := Aside0.mk bn
           clear bx bj hd5 hb5)
        | (go_at_call 66; (with_reducible refine (HJf.out _ (hW.out.trans (hb5w.out.mono hW.out.size))).mono ?_); rintro e w6 ⟨rfl, hb6⟩
           have bn6 := blk_below bn.out hb6
           have c0 := blk_cell bn6 0
           have c1 := blk_cell bn6 1
           have f0 := blk_frozen bn6 0
           have f1 := blk_frozen bn6 1
           have hR6 := Aside0.mk (Kd.R_below (Kd.R_below hR.out hb5w.out) hb6)
           have hK6 := Aside0.mk ((hK.out.thenBelow hb5w.out).thenBelow hb6)
           replace bn6 := Aside0.mk bn6
           clear hb6)
        | ((with_reducible refine gate_builtin (b := .append) (xs := #[.tmp 41, .tmp 43]) rfl ?_); at_builtin; go_loud (refine Kd.R_append kF (w0 := _) W0.heap.size rfl (.tmp 41) (.tmp 43) 42 41 (.agg #[.bool false, .int .i64 0]) 16 rfl Tryd.underlying42 infoF rfl (by decide) (by omega) u8 (flagsTo op nn l k) (j1, j2) [.bool j1, .int .i64 j2] (fun q => W0.heap.size ≤ q) (fun _ => False) rfl (by simp [Act.eval]) (kF_mkM _ _ _ (j1, j2)) (fun _ hk => hk.elim) (fun q hq => Nat.le_trans (by have := hK6.out.size; simpa using this) hq) (Kd.R_far (Kd.R_far hR6.out (fun q hq => by show q ≠ w1.heap.size + 1; omega) _) (fun q hq => by show q ≠ w1.heap.size + 1; omega) _) (Below.refl _ _) (by have := hK6.out.size; simpa using this) (by have := hfl.out; omega) ?_); intro v7 w7 ho hb7 hg hat
           have bn7 := Aside0.mk ((hb7.block (w1.heap.size + 1) hbN).trans (blk_set (blk_set bn6.out 0 (.bool j1)) 1 (.int .i64 j2)))
           replace ho := Aside0.mk ho
           replace hb7 := Aside0.mk hb7
           clear hg hat))
      have K := (hK6.out.setCell ⟨w1.heap.size + 1, 0, none⟩ (.inl rfl) (.bool j1)).setCell ⟨w1.heap.size + 1, 1, none⟩ (.inl rfl) (.int .i64 j2)
      have K7 : Kp (fun q => q = w1.heap.size + 1) W0 w7 := ⟨hb7.out.os.trans K.os, hb7.out.tape.trans K.tape, hb7.out.output.trans K.output, Nat.le_trans K.size hb7.out.size, fun q hq hn => (hb7.out.block q hq).trans (K.block q hq hn)⟩
      go_roundw
      case rel => exact ⟨k + 1, by simp, by omega, ⟨by rw [hfk.out]; exact bn7.out⟩, ⟨by rw [hfs.out, hfk.out]; exact ho.out⟩, ⟨K7⟩⟩
      case measure => simp [intOf]; omega
    · obtain rfl : k = l.length := by omega
      obtain ⟨A8, c8, rfl⟩ := Kd.R_slice hR.out
      have hq8 := Aside0.mk (Kd.R_reads' hR.out).2.1
      have hc8 := R_cap hR.out
      rw [HRR.out] at hR hq8
      have hq9 := hq8.out
      have hV := Aside0.mk (Kd.V_mono (V_cut (base2 := w.heap.size) hR.out) (ok' := fun q => w.heap.size ≤ q) (fun q hq => by omega))
      replace hW := Aside0.mk hW
      rw [HRR.out]
      generalize RR.length = n9 at *
      go_wp2
      unfold MarksPost
      refine Marks.zero _ (results_tmp2 rfl _ _ _) ?_
      exact ⟨_, rfl, hV.out, hW.out⟩
end Go.Proofs.YtpenkemabeonaaaDoor.Hand
/- scan.Flagged where it answers an error. -/
namespace Go.Proofs.YtpenkemabeonaaaDoor.Hand
open Go.RowKit Go.Proofs.YtpenkemabeonaaaDoorW.PrintWords Go.Proofs.YtpenkemabeonaaaDoorW.PrintLast Go.Proofs.YtpenkemabeonaaaDoorW.PrintMore
set_option linter.unusedVariables false
set_option linter.unusedSimpArgs false
attribute [local go_sem] store_func store_nilFunc
set_option maxHeartbeats 2000000 in
set_option maxRecDepth 100000 in
theorem scan_Flagged_noA (op err : Int) (A : Option Addr) (n c : Nat) (w : World) (hT : Tabs w) (h1 : (neutG op).2 = err) (he : err ≠ 0) :
    Calls Tryd.prog 31 #[.int .i64 op, .slice A n c] w fun e w' => e = .returned (.tuple #[.slice none 0 0, .int .i64 err]) ∧ Below w.heap.size w w' := by
  have HOf := Aside0.mk (scan_of_no op err w hT.laws hT.neut h1 he)
  have z : (err != 0) = true := bne_iff_ne.mpr he
  clear hT h1 he
  go_enter Tryd.func31, Tryd.ntmps31
  go_wp2_with (go_at_call 50; (with_reducible refine (HOf.out).mono ?_); rintro e w1 ⟨rfl, hb⟩; replace hb := Aside0.mk hb)
  go_ret2
  exact ⟨rfl, below_alloc hb.out _⟩
set_option maxHeartbeats 2000000 in
set_option maxRecDepth 100000 in
theorem scan_Flagged_noB (op nn : Int) (A : Option Addr) (n c : Nat) (w : World) (hT : Tabs w) (h1 : neutG op = (nn, 0)) (h2 : 1048576 < n) :
    Calls Tryd.prog 31 #[.int .i64 op, .slice A n c] w fun e w' => e = .returned (.tuple #[.slice none 0 0, .int .i64 3]) ∧ Below w.heap.size w w' := by
  have HOf := Aside0.mk (BlkSt.of w op nn hT h1)
  clear hT h1
  go_enter Tryd.func31, Tryd.ntmps31
  go_wp2_with (go_at_call 50; (with_reducible refine (HOf.out).mono ?_); rintro e w1 ⟨O, rfl, hst⟩; replace hst := Aside0.mk hst)
  all_goals first
    | (go_ret2; exact ⟨rfl, hst.out.below⟩)
    | (exfalso; omega)
set_option maxHeartbeats 2000000 in
set_option maxRecDepth 100000 in
theorem scan_Flagged_noC (op nn : Int) (A : Option Addr) (c : Nat) (l : List (Bool × Int)) (w : World) (hT : Tabs w) (hr : Kd.C kF w A l.length l) (h1 : neutG op = (nn, 0)) (h2 : l.length ≤ 1048576) (h3 : l.all (fun x => isWordB x.2) = false) :
    Calls Tryd.prog 31 #[.int .i64 op, .slice A l.length c] w fun e w' => e = .returned (.tuple #[.slice none 0 0, .int .i64 2]) ∧ Below w.heap.size w w' := by
  have HOf := Aside0.mk (BlkSt.of w op nn hT h1)
  have HR := Aside0.mk hr
  have HT := Aside0.mk hT
  have H3 := Aside0.mk h3
  clear hr hT h1 h3
  refine calls_of_marks Tryd.func31 rfl ?_
  simp only [Tryd.ntmps31, List.size_toArray, List.length_cons, List.length_nil, Nat.reduceAdd, Nat.reduceSub, Array.replicate_succ, Array.replicate_zero, List.push_toArray, List.append_toArray, List.nil_append, List.cons_append]
  go_wp2_with (first | (go_at_call 50; (with_reducible refine (HOf.out).mono ?_); rintro e w1 ⟨O, rfl, hst⟩; have c1 := blk_cell hst.jn 1; replace hst := Aside0.mk hst))
  have hsN := hst.out.next (below_alloc (Below.refl _ _) (Obj.cells #[.bool false, .int .i64 nn] 41))
  have hN : ((w1.alloc (Obj.cells #[.int .i64 op, .int .i64 nn, .func (.func 77) #[] #[.pointer (some ⟨O, 0, none⟩)]] 70)).alloc (Obj.cells #[.bool false, .int .i64 nn] 41)).heap[w1.heap.size + 1]? = some (.cells #[.bool false, .int .i64 nn] 41 (0, 0)) := blk_new_at (by simp) _
  have hOb : O < w1.heap.size + 1 := by have := blk_lt hst.out.opAt; simpa using this
  have hwn : w.heap.size ≤ w1.heap.size + 1 := by have := hst.out.below.size; simpa using this
  generalize ((w1.alloc _).alloc _) = W0 at *
  have hbN := blk_lt hN
  have hB0 := hsN.below.size
  clear hst c1
  have HS := Aside0.mk hsN
  go_loopw [8, 29] (fun v i W => ∃ k : Nat, i = .int .i64 (k : Int) ∧ k ≤ l.length ∧ Aside0 (W.heap[w1.heap.size + 1]? = some (.cells #[.bool (flagAt op nn l k).1, .int .i64 (flagAt op nn l k).2] 41 (0, 0))) ∧ Aside0 (kF.R 41 W W0.heap.size (fun q => W0.heap.size ≤ q) v (flagsTo op nn l k)) ∧ Aside0 (Kp (fun q => q = w1.heap.size + 1) W0 W) ∧ Aside0 (∀ j : Nat, j < k → isWordB (rdF l (j : Int)).2 = true)) (fun _ i _ => l.length - (intOf i).toNat)
  case atStart => exact ⟨0, rfl, by omega, ⟨hN⟩, ⟨Kd.R_nil _ _ _ _ _⟩, ⟨Kp.refl _ _⟩, ⟨fun j hj => absurd hj (Nat.not_lt_zero _)⟩⟩
  case round =>
    obtain ⟨k, rfl, p1, hM, hR, hK, hA⟩ := hrel
    have hW : Below w.heap.size w wr := HS.out.below.trans (hK.out.below (fun q hq => ⟨by omega, by omega⟩))
    by_cases hlt : k < l.length
    · obtain ⟨ad, e1, hx1, hx2⟩ := at_F (Kd.C_below HR.out hW) (k : Int) (by omega) (by omega)
      cases e1
      have hAn : Aside0 (isWordB (rdF l (k : Int)).2 = true → ∀ j : Nat, j < k + 1 → isWordB (rdF l (j : Int)).2 = true) := ⟨fun h j hj => by
        by_cases e : j = k
        · subst e; exact h
        · exact hA.out j (by omega)⟩
      have hfs := Aside0.mk (flagsTo_succ op nn l k)
      have hfl := flagsTo_length op nn l k
      have hfk : Aside0 (flagAt op nn l (k + 1) = flagJ op nn (flagAt op nn l k) (rdF l (k : Int))) := ⟨rfl⟩
      have hj5 := Aside0.mk (hK.out.blk HS.out.jn (by have := hwn; show ¬ _ = _; omega))
      rw [Int.toNat_natCast] at hx1 hx2
      generalize rdF l (k : Int) = x at *
      generalize flagAt op nn l k = fk at *
      obtain ⟨x1, x2⟩ := x
      obtain ⟨k1, k2⟩ := fk
      have HJf : Aside0 (∀ W, Below w.heap.size w W → Calls Tryd.prog 66 #[JV op nn O, FlV (k1, k2), FlV (x1, x2)] W fun e w' => e = .returned (FlV (flagJ op nn (k1, k2) (x1, x2))) ∧ Below W.heap.size W w') := ⟨fun W hW => joiner_flagged op nn (k1, k2) (x1, x2) O W (HT.out.below hW).deeds⟩
      generalize flagJ op nn (k1, k2) (x1, x2) = fj at *
      obtain ⟨j1, j2⟩ := fj
      replace hW := Aside0.mk hW
      replace hfl := Aside0.mk hfl
      cases hwx : isWordB x2
      · have HIs : Aside0 (∀ W, Calls Tryd.prog 65 #[.int .i64 x2] W fun e w' => e = .returned (.bool false) ∧ Drawn0 W w') := ⟨fun W => by have := word_Is x2 W; rwa [hwx] at this⟩
        clear hwx
        go_wp2_with (first
          | (go_at_call 65; (with_reducible refine (HIs.out _).mono ?_); rintro e w5 ⟨rfl, hd5⟩
             have hb5 : Below (wr.alloc (Obj.cells #[.bool x1, .int .i64 x2] 41)).heap.size (wr.alloc (Obj.cells #[.bool x1, .int .i64 x2] 41)) w5 := by (obtain ⟨m, rfl⟩ := hd5; exact pw_below_drewN (Below.refl _ _) m)
             have bx := blk_below (blk_new wr (Obj.cells #[.bool x1, .int .i64 x2] 41)) hb5
             have bn := blk_below (blk_alloc hM.out _) hb5
             have bj := blk_below (blk_alloc hj5.out _) hb5
             have c0 := blk_cell bx 0
             have c1 := blk_cell bx 1
             have c2 := blk_cell bn 0
             have c3 := blk_cell bn 1
             have c4 := blk_cell bj 0
             have c5 := blk_cell bj 1
             have c6 := blk_cell bj 2
             have hb5w := Aside0.mk ((below_alloc (Below.refl _ _) _).trans (hb5.mono (by simp)) : Below wr.heap.size wr w5)
             replace bn := Aside0.mk bn
             clear bx bj hd5 hb5)
          | (go_at_call 66; (with_reducible refine (HJf.out _ (hW.out.trans (hb5w.out.mono hW.out.size))).mono ?_); rintro e w6 ⟨rfl, hb6⟩
             have bn6 := blk_below bn.out hb6
             have c0 := blk_cell bn6 0
             have c1 := blk_cell bn6 1
             have f0 := blk_frozen bn6 0
             have f1 := blk_frozen bn6 1
             have hR6 := Aside0.mk (Kd.R_below (Kd.R_below hR.out hb5w.out) hb6)
             have hK6 := Aside0.mk ((hK.out.thenBelow hb5w.out).thenBelow hb6)
             replace bn6 := Aside0.mk bn6
             clear hb6)
          | ((with_reducible refine gate_builtin (b := .append) (xs := #[.tmp 41, .tmp 43]) rfl ?_); at_builtin; go_loud (refine Kd.R_append kF (w0 := _) W0.heap.size rfl (.tmp 41) (.tmp 43) 42 41 (.agg #[.bool false, .int .i64 0]) 16 rfl Tryd.underlying42 infoF rfl (by decide) (by omega) u8 (flagsTo op nn l k) (j1, j2) [.bool j1, .int .i64 j2] (fun q => W0.heap.size ≤ q) (fun _ => False) rfl (by simp [Act.eval]) (kF_mkM _ _ _ (j1, j2)) (fun _ hk => hk.elim) (fun q hq => Nat.le_trans (by have := hK6.out.size; simpa using this) hq) (Kd.R_far (Kd.R_far hR6.out (fun q hq => by show q ≠ w1.heap.size + 1; omega) _) (fun q hq => by show q ≠ w1.heap.size + 1; omega) _) (Below.refl _ _) (by have := hK6.out.size; simpa using this) (by have := hfl.out; omega) ?_); intro v7 w7 ho hb7 hg hat
             have bn7 := Aside0.mk ((hb7.block (w1.heap.size + 1) hbN).trans (blk_set (blk_set bn6.out 0 (.bool j1)) 1 (.int .i64 j2)))
             replace ho := Aside0.mk ho
             replace hb7 := Aside0.mk hb7
             clear hg hat))
        unfold MarksPost
        refine Marks.zero _ (results_tmp2 rfl _ _ _) ?_
        exact ⟨rfl, hW.out.trans (hb5w.out.mono hW.out.size)⟩
      · have HIs : Aside0 (∀ W, Calls Tryd.prog 65 #[.int .i64 x2] W fun e w' => e = .returned (.bool true) ∧ Drawn0 W w') := ⟨fun W => by have := word_Is x2 W; rwa [hwx] at this⟩
        have HAn := Aside0.mk (hAn.out hwx)
        clear hwx
        go_wp2_with (first
          | (go_at_call 65; (with_reducible refine (HIs.out _).mono ?_); rintro e w5 ⟨rfl, hd5⟩
             have hb5 : Below (wr.alloc (Obj.cells #[.bool x1, .int .i64 x2] 41)).heap.size (wr.alloc (Obj.cells #[.bool x1, .int .i64 x2] 41)) w5 := by (obtain ⟨m, rfl⟩ := hd5; exact pw_below_drewN (Below.refl _ _) m)
             have bx := blk_below (blk_new wr (Obj.cells #[.bool x1, .int .i64 x2] 41)) hb5
             have bn := blk_below (blk_alloc hM.out _) hb5
             have bj := blk_below (blk_alloc hj5.out _) hb5
             have c0 := blk_cell bx 0
             have c1 := blk_cell bx 1
             have c2 := blk_cell bn 0
             have c3 := blk_cell bn 1
             have c4 := blk_cell bj 0
             have c5 := blk_cell bj 1
             have c6 := blk_cell bj 2
             have hb5w := Aside0.mk ((below_alloc (Below.refl _ _) _).trans (hb5.mono (by simp)) : Below wr.heap.size wr w5)
             replace bn := Aside0.mk bn
             clear bx bj hd5 hb5)
          | (go_at_call 66; (with_reducible refine (HJf.out _ (hW.out.trans (hb5w.out.mono hW.out.size))).mono ?_); rintro e w6 ⟨rfl, hb6⟩
             have bn6 := blk_below bn.out hb6
             have c0 := blk_cell bn6 0
             have c1 := blk_cell bn6 1
             have f0 := blk_frozen bn6 0
             have f1 := blk_frozen bn6 1
             have hR6 := Aside0.mk (Kd.R_below (Kd.R_below hR.out hb5w.out) hb6)
             have hK6 := Aside0.mk ((hK.out.thenBelow hb5w.out).thenBelow hb6)
             replace bn6 := Aside0.mk bn6
             clear hb6)
          | ((with_reducible refine gate_builtin (b := .append) (xs := #[.tmp 41, .tmp 43]) rfl ?_); at_builtin; go_loud (refine Kd.R_append kF (w0 := _) W0.heap.size rfl (.tmp 41) (.tmp 43) 42 41 (.agg #[.bool false, .int .i64 0]) 16 rfl Tryd.underlying42 infoF rfl (by decide) (by omega) u8 (flagsTo op nn l k) (j1, j2) [.bool j1, .int .i64 j2] (fun q => W0.heap.size ≤ q) (fun _ => False) rfl (by simp [Act.eval]) (kF_mkM _ _ _ (j1, j2)) (fun _ hk => hk.elim) (fun q hq => Nat.le_trans (by have := hK6.out.size; simpa using this) hq) (Kd.R_far (Kd.R_far hR6.out (fun q hq => by show q ≠ w1.heap.size + 1; omega) _) (fun q hq => by show q ≠ w1.heap.size + 1; omega) _) (Below.refl _ _) (by have := hK6.out.size; simpa using this) (by have := hfl.out; omega) ?_); intro v7 w7 ho hb7 hg hat
             have bn7 := Aside0.mk ((hb7.block (w1.heap.size + 1) hbN).trans (blk_set (blk_set bn6.out 0 (.bool j1)) 1 (.int .i64 j2)))
             replace ho := Aside0.mk ho
             replace hb7 := Aside0.mk hb7
             clear hg hat))
        have K := (hK6.out.setCell ⟨w1.heap.size + 1, 0, none⟩ (.inl rfl) (.bool j1)).setCell ⟨w1.heap.size + 1, 1, none⟩ (.inl rfl) (.int .i64 j2)
        have K7 : Kp (fun q => q = w1.heap.size + 1) W0 w7 := ⟨hb7.out.os.trans K.os, hb7.out.tape.trans K.tape, hb7.out.output.trans K.output, Nat.le_trans K.size hb7.out.size, fun q hq hn => (hb7.out.block q hq).trans (K.block q hq hn)⟩
        go_roundw
        case rel => exact ⟨k + 1, by simp, by omega, ⟨by rw [hfk.out]; exact bn7.out⟩, ⟨by rw [hfs.out, hfk.out]; exact ho.out⟩, ⟨K7⟩, HAn⟩
        case measure => simp [intOf]; omega
    · obtain rfl : k = l.length := by omega
      exfalso
      have : l.all (fun x => isWordB x.2) = true := by
        rw [List.all_eq_true]
        intro x hx
        obtain ⟨i, hi, rfl⟩ := List.getElem_of_mem hx
        have := hA.out i hi
        unfold rdF at this
        rwa [Int.toNat_natCast, List.getD_eq_getElem?_getD, List.getElem?_eq_getElem hi] at this
      rw [H3.out] at this
      cases this
theorem scan_Flagged.run (op : Int) (A : Option Addr) (c : Nat) (l : List (Bool × Int)) (w : World) (hT : Tabs w) (hr : Kd.C kF w A l.length l) :
    Calls Tryd.prog 31 #[.int .i64 op, .slice A l.length c] w fun e w' => ∃ v, e = .returned (.tuple #[v, .int .i64 (scan_Flagged.g op l).2]) ∧ Kd.V kF 41 w' w.heap.size (fun k => w.heap.size ≤ k) v (scan_Flagged.g op l).1 ∧ Below w.heap.size w w' := by
  have nil : ∀ (E : Int) (e : Ending) (w' : World), e = .returned (.tuple #[.slice none 0 0, .int .i64 E]) ∧ Below w.heap.size w w' → ∃ v, e = .returned (.tuple #[v, .int .i64 E]) ∧ Kd.V kF 41 w' w.heap.size (fun k => w.heap.size ≤ k) v [] ∧ Below w.heap.size w w' := by
    rintro E e w' ⟨rfl, h⟩
    exact ⟨_, rfl, Kd.V_nil _ _ _ _ _, h⟩
  unfold scan_Flagged.g
  by_cases h1 : (neutG op).2 = 0
  · have e1 : neutG op = ((neutG op).1, 0) := Prod.ext rfl h1
    rw [if_pos h1]
    by_cases h2 : 1048576 < l.length
    · rw [if_pos h2]
      exact (scan_Flagged_noB op _ A l.length c w hT e1 h2).mono (nil 3)
    · rw [if_neg h2]
      cases h3 : l.all (fun x => isWordB x.2)
      · exact (scan_Flagged_noC op _ A c l w hT hr e1 (by omega) h3).mono (nil 2)
      · exact scan_Flagged_yes op _ A c l w hT hr e1 (by omega) h3
  · rw [if_neg h1]
    exact (scan_Flagged_noA op _ A l.length c w hT rfl h1).mono (nil _)
end Go.Proofs.YtpenkemabeonaaaDoor.Hand
