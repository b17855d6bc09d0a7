/- rank: Merge: the places of two sorted lists that are merged. -/
import Derived.Test.YtnkepaenpoadpaaK1
import Derived.Test.YtnkepaenpoadpaaK2
import Derived.Test.YtnkepaenpoadpaaK3
import Derived.Test.YtnkepaenpoadpaaK4
namespace Go.Proofs.Ytnkepaenpoadpaa.Hand
open Go.RowKit Go.Proofs.YtnkepaenpoadpaaW.PrintWords Go.Proofs.YtnkepaenpoadpaaW.PrintLast Go.Proofs.YtnkepaenpoadpaaW.PrintMore
set_option linter.unusedVariables false
set_option linter.unusedSimpArgs false
attribute [local go_sem] store_func store_nilFunc
def sortedB (l : List Int) : Bool := (List.range (l.length - 1)).all fun (i : Nat) => !decide (rd l ((i : Int) + 1) < rd l (i : Int))
set_option maxHeartbeats 4000000 in
set_option maxRecDepth 100000 in
theorem slices_IsSorted (A : Option Addr) (c : Nat) (l : List Int) (w : World) (hr : Kd.C (Kd.int .i64) w A l.length l) (hl : l.length ≤ 1048576) :
    Calls Try.prog 61 #[.slice A l.length c] w fun e w' => e = .returned (.bool (sortedB l)) ∧ Drawn0 w w' := by
  have HR := Aside0.mk hr
  clear hr
  have HE : Aside0 (sortedB l = (List.range (l.length - 1)).all fun (i : Nat) => !decide (rd l ((i : Int) + 1) < rd l (i : Int))) := ⟨rfl⟩
  generalize sortedB l = E at HE ⊢
  refine calls_of_marks Try.func61 rfl ?_
  simp only [Try.ntmps61, List.size_toArray, List.length_cons, List.length_nil, Nat.reduceAdd, Nat.reduceSub, Array.replicate_succ, Array.replicate_zero, List.push_toArray, List.append_toArray, List.nil_append, List.cons_append]
  go_wp2
  go_loopw [3] (fun i W => ∃ x : Int, i = .int .i64 x ∧ -1 ≤ x ∧ x < l.length ∧ (l.length = 0 ∨ 0 ≤ x) ∧ Aside0 (∀ j : Nat, x ≤ j → j < l.length - 1 → ¬ rd l ((j : Int) + 1) < rd l (j : Int)) ∧ Drawn0 w W) (fun i _ => (intOf i).toNat)
  case atStart => exact ⟨(l.length : Int) - 1, rfl, by omega, by omega, by omega, ⟨fun j h0 h1 => by omega⟩, ⟨0, rfl⟩⟩
  case round =>
    obtain ⟨x, rfl, p0, p1, p2, H0, m, rfl⟩ := hrel
    by_cases hx : 0 < x
    · obtain ⟨ad, e1, hx1⟩ := Kd.at_int HR.out x (by omega) (by omega)
      cases e1
      obtain ⟨ad2, e2, hx2⟩ := Kd.at_int HR.out (x - 1) (by omega) (by omega)
      cases e2
      rw [show (x - 1).toNat = x.toNat - 1 by omega] at hx2
      have hS : Aside0 (∀ W, Below w.heap.size w W → W.cell? (ad.add x.toNat) = some (.int .i64 (rd l x)) ∧ W.cell? (ad.add (x.toNat - 1)) = some (.int .i64 (rd l (x - 1)))) := ⟨fun W hW => ⟨pw_cell_below hW hx1, pw_cell_below hW hx2⟩⟩
      have hwx : IntKind.i64.wrap (x - 1) = x - 1 := by rw [i64_w]; unfold wrap64; omega
      have HL := Aside0.mk (fun W => cmp_Less (rd l x) (rd l (x - 1)) W)
      have HX : Aside0 (∀ j : Nat, ¬ (x ≤ j) → x - 1 ≤ j → rd l ((j : Int) + 1) = rd l x ∧ rd l (j : Int) = rd l (x - 1)) := ⟨fun j h1 h2 => by
        have : (j : Int) = x - 1 := by omega
        rw [this]
        exact ⟨by rw [show x - 1 + 1 = x by omega], rfl⟩⟩
      have HF : Aside0 (rd l x < rd l (x - 1) → E = false) := ⟨fun h => by
        rw [HE.out, List.all_eq_false]
        refine ⟨(x - 1).toNat, List.mem_range.2 (by omega), ?_⟩
        rw [show (((x - 1).toNat : Nat) : Int) = x - 1 by omega, show x - 1 + 1 = x by omega]
        simp [h]⟩
      generalize rd l x = a at *
      generalize rd l (x - 1) = b at *
      clear hx1 hx2
      go_wp2_with fail
      refine wp_region_any (by kernel_rfl) ?_
      change wpAny _ _ _ _ _ _ _ (w.drewN m).drew
      have hbd : Below w.heap.size w (w.drewN m).drew := below_drew (pw_below_drewN (Below.refl _ _) m)
      refine region_anyI (fun W => W.cell? (ad.add x.toNat) = some (.int .i64 a) ∧ W.cell? (ad.add (x.toNat - 1)) = some (.int .i64 b)) [0, 1, 2, 3, 4, 5, 6, 7, 8] [9] [9] (by kernel_rfl) (by kernel_rfl) (by kernel_rfl) (by kernel_rfl) rfl (fun _ _ _ h => h) (hS.out _ hbd) ?_
      iterate 9 refine ReadsI.step _ rfl rfl (fun W hW => by obtain ⟨k1, k2⟩ := hW; go_simp; first | rfl | done | (rw [if_pos (by omega)])) ?_
      change TailL _ _ _ _ _ _ _
      refine TailL.call rfl rfl (by go_simp) (HL.out _) ?_
      rintro en w2 ⟨rfl, m2, rfl⟩
      refine ⟨_, rfl, fun h => absurd rfl h, ?_⟩
      unfold TailL
      simp only [List.getElem_toArray, List.getElem_cons_succ, List.getElem_cons_zero, Act.put, List.setIfInBounds_toArray, List.set_cons_zero, List.set_cons_succ]
      have hdd : Aside0 (Drawn0 w ((w.drewN m).drew.drewN m2)) := ⟨⟨m + 1 + m2, by rw [← World.drewN_drewN, ← World.drewN_drewN]; rfl⟩⟩
      generalize (w.drewN m).drew.drewN m2 = w3 at *
      by_cases hab : a < b
      · have z : decide (a < b) = true := decide_eq_true hab
        have hE0 := HF.out hab
        replace hE0 := Aside0.mk hE0
        go_wp2
        unfold MarksPost
        refine Marks.zero _ (results_tmp rfl _ _ _) ?_
        exact ⟨by rw [hE0.out]; rfl, hdd.out⟩
      · have z : decide (a < b) = false := decide_eq_false hab
        go_wp2
        go_roundw
        case rel => exact ⟨x - 1, rfl, by omega, by omega, by omega, ⟨fun j h0 h1 => by
          by_cases hj : x ≤ (j : Int)
          · have := H0.out j hj h1
            omega
          · have h2 := HX.out j (by omega) h0
            rw [h2.1, h2.2]
            omega⟩, hdd.out⟩
        case measure => simp [intOf]; omega
    · have hE1 : Aside0 (E = true) := ⟨by
        rw [HE.out, List.all_eq_true]
        intro j hj
        rw [List.mem_range] at hj
        have := H0.out j (by omega) hj
        simpa using this⟩
      go_wp2
      unfold MarksPost
      refine Marks.zero _ (results_tmp rfl _ _ _) ?_
      exact ⟨by rw [hE1.out]; rfl, ⟨_, rfl⟩⟩
/-! Merge -/
/-- Is the next one of the first list? -/
def takeA (a b : List Int) (i j : Nat) : Bool := decide (j = b.length) || (decide (i < a.length) && decide (rd a (i : Int) ≤ rd b (j : Int)))
def mgOf (a b : List Int) : Nat → List Int × List Int
  | 0 => ([], [])
  | n + 1 => if takeA a b (mgOf a b n).1.length (mgOf a b n).2.length then ((mgOf a b n).1 ++ [(n : Int)], (mgOf a b n).2) else ((mgOf a b n).1, (mgOf a b n).2 ++ [(n : Int)])
theorem mgOf_len (a b : List Int) : ∀ n, n ≤ a.length + b.length → (mgOf a b n).1.length + (mgOf a b n).2.length = n ∧ (mgOf a b n).1.length ≤ a.length ∧ (mgOf a b n).2.length ≤ b.length
  | 0, _ => ⟨rfl, Nat.zero_le _, Nat.zero_le _⟩
  | n + 1, h => by
    obtain ⟨h1, h2, h3⟩ := mgOf_len a b n (by omega)
    unfold mgOf
    by_cases ht : takeA a b (mgOf a b n).1.length (mgOf a b n).2.length = true
    · rw [if_pos ht]
      simp only [List.length_append, List.length_cons, List.length_nil]
      unfold takeA at ht
      simp only [Bool.or_eq_true, Bool.and_eq_true, decide_eq_true_eq] at ht
      omega
    · rw [if_neg ht]
      simp only [List.length_append, List.length_cons, List.length_nil]
      unfold takeA at ht
      simp only [Bool.or_eq_true, Bool.and_eq_true, decide_eq_true_eq, not_or] at ht
      omega
def rank_Merge.g (a b : List Int) : List Int × List Int × Int :=
  if 1048576 < a.length + b.length then ([], [], 3) else if wordsE [a, b] = 0 then (if sortedB a && sortedB b then ((mgOf a b (a.length + b.length)).1, (mgOf a b (a.length + b.length)).2, 0) else ([], [], 7)) else ([], [], wordsE [a, b])
set_option maxHeartbeats 4000000 in
set_option maxRecDepth 100000 in
theorem rank_Merge_yes (A : Option Addr) (c : Nat) (a : List Int) (A2 : Option Addr) (c2 : Nat) (b : List Int) (w : World) (hr : Kd.C (Kd.int .i64) w A a.length a) (hc : a.length ≤ c) (hr2 : Kd.C (Kd.int .i64) w A2 b.length b) (hc2 : b.length ≤ c2) (hl : a.length + b.length ≤ 1048576) (hE : wordsE [a, b] = 0) (h1 : sortedB a = true) (h2 : sortedB b = true) :
    Calls Try.prog 27 #[.slice A a.length c, .slice A2 b.length c2] w (Ret3 w ((mgOf a b (a.length + b.length)).1, (mgOf a b (a.length + b.length)).2, 0)) := by
  have HS := Aside0.mk (Sl.of hr hc)
  have HS2 := Aside0.mk (Sl.of hr2 hc2)
  have HI1 : Aside0 (∀ W, Below w.heap.size w W → Calls Try.prog 61 #[.slice A a.length c] W fun e w' => e = .returned (.bool true) ∧ Drawn0 W w') := ⟨fun W hW => by have h := slices_IsSorted A c a W (Kd.C_below hr hW) (by omega); rwa [h1] at h⟩
  have HI2 : Aside0 (∀ W, Below w.heap.size w W → Calls Try.prog 61 #[.slice A2 b.length c2] W fun e w' => e = .returned (.bool true) ∧ Drawn0 W w') := ⟨fun W hW => by have h := slices_IsSorted A2 c2 b W (Kd.C_below hr2 hW) (by omega); rwa [h2] at h⟩
  have HR := Aside0.mk hr
  have HR2 := Aside0.mk hr2
  have HE := Aside0.mk hE
  have hla : a.length ≤ 1048576 := by omega
  have hlb : b.length ≤ 1048576 := by omega
  clear hr hc hr2 hc2 hE h1 h2
  obtain ⟨mg, hmg⟩ : ∃ mg, mg = mgOf a b := ⟨_, rfl⟩
  have HLen : Aside0 (∀ n, n ≤ a.length + b.length → (mg n).1.length + (mg n).2.length = n ∧ (mg n).1.length ≤ a.length ∧ (mg n).2.length ≤ b.length) := ⟨by rw [hmg]; exact mgOf_len a b⟩
  have HSt : Aside0 (∀ n, mg (n + 1) = if takeA a b (mg n).1.length (mg n).2.length then ((mg n).1 ++ [(n : Int)], (mg n).2) else ((mg n).1, (mg n).2 ++ [(n : Int)])) := ⟨by rw [hmg]; exact fun _ => rfl⟩
  have H0 : Aside0 (mg 0 = ([], [])) := ⟨by rw [hmg]; rfl⟩
  rw [← hmg]
  clear hmg
  refine calls_of_marks Try.func27 rfl ?_
  simp only [Try.ntmps27, List.size_toArray, List.length_cons, List.length_nil, Nat.reduceAdd, Nat.reduceSub, Array.replicate_succ, Array.replicate_zero, List.push_toArray, List.append_toArray, List.nil_append, List.cons_append]
  go_wp2_with fail
  refine (rank_words _ _ [a, b] _ (lit_rows_at _ _ (by simp) _ _ _ _ rfl (rows_of2 HS.out HS2.out) (by simp))).mono ?_
  rw [HE.out]
  rintro e w2 ⟨rfl, m2, hw2⟩
  have hb2 : Below w.heap.size w w2 := by rw [hw2]; exact pw_below_drewN (below_alloc (Below.refl _ _) _) _
  clear hw2
  go_wp2_with fail
  refine (HI1.out _ hb2).mono ?_
  rintro e w3 ⟨rfl, m3, hw3⟩
  have hb3 : Below w.heap.size w w3 := by rw [hw3]; exact pw_below_drewN hb2 _
  clear hw3 hb2
  go_wp2_with fail
  refine (HI2.out _ hb3).mono ?_
  rintro e w5 ⟨rfl, m4, hw4⟩
  have hb4 : Below w.heap.size w w5 := by rw [hw4]; exact pw_below_drewN hb3 _
  clear hw4 hb3
  replace hb4 := Aside0.mk hb4
  go_wp2
  go_loopw [4, 5] (fun u v W => ∃ n : Nat, n ≤ a.length + b.length ∧ Aside0 (Below w.heap.size w W) ∧ Aside0 ((Kd.int .i64).R 3 W w.heap.size (fun k => w.heap.size ≤ k) u (mg n).1) ∧ Aside0 ((Kd.int .i64).R 3 W w.heap.size (fun k => w.heap.size ≤ k) v (mg n).2) ∧ Aside0 (∀ k, some k = u.ownBlock → some k ≠ v.ownBlock)) (fun u v _ => a.length + b.length - (match u, v with | .slice _ i _, .slice _ j _ => i + j | _, _ => 0))
  case atStart => exact ⟨0, by omega, hb4, ⟨by rw [H0.out]; exact Kd.R_nil _ _ _ _ _⟩, ⟨by rw [H0.out]; exact Kd.R_nil _ _ _ _ _⟩, ⟨fun k hk => by simp [Value.ownBlock] at hk⟩⟩
  case round =>
    clear hb4 H0
    obtain ⟨n, p0, hb, hRf, hRs, hNe⟩ := hrel
    have hln := HLen.out n p0
    have hst := HSt.out n
    obtain ⟨f, hf⟩ : ∃ f, f = (mg n).1 := ⟨_, rfl⟩
    obtain ⟨s, hs⟩ : ∃ s, s = (mg n).2 := ⟨_, rfl⟩
    rw [← hf] at hRf hln hst
    rw [← hs] at hRs hln hst
    obtain ⟨A4, c4, rfl⟩ := Kd.R_slice hRf.out
    obtain ⟨A5, c5, rfl⟩ := Kd.R_slice hRs.out
    have hlm := HLen.out (n + 1)
    have HLs0 : Aside0 (f.length + s.length ≤ 1048576) := ⟨by omega⟩
    obtain ⟨i, hi⟩ : ∃ i, i = f.length := ⟨_, rfl⟩
    obtain ⟨j, hj⟩ : ∃ j, j = s.length := ⟨_, rfl⟩
    rw [← hi] at hln hst hRf hNe ⊢
    rw [← hj] at hln hst hRs hNe ⊢
    have hcf := Aside0.mk (R_cap hRf.out)
    have hfs : mg n = (f, s) := Prod.ext hf.symm hs.symm
    clear hf hs
    obtain rfl : n = i + j := hln.1.symm
    replace hfs := Aside0.mk hfs
    by_cases hlt : i + j < a.length + b.length
    · by_cases hjb : j = b.length
      · have hib : i < a.length := by omega
        have hT : takeA a b i j = true := by unfold takeA; simp [hjb]
        have z1 : ((j : Int) == (b.length : Int)) = true := beq_iff_eq.mpr (by omega)
        replace hjb := Aside0.mk hjb
        replace hst : Aside0 (mg (i + j + 1) = (f ++ [((i + j : Nat) : Int)], s)) := ⟨by rw [hst, if_pos hT]⟩
        have HLs : Aside0 ((f.length + 1) * 8 ≤ 140737488355328) := ⟨by omega⟩
        clear hT hlm
        replace hi := Aside0.mk hi
        replace hj := Aside0.mk hj
        go_wp2
        go_region
        replace hb := Aside0.mk (below_drew hb.out)
        replace hRf := Aside0.mk (Kd.R_drew hRf.out)
        replace hRs := Aside0.mk (Kd.R_drew hRs.out)
        generalize wr.drew = wd at *
        go_wp2_with ((with_reducible refine gate_builtin (b := .append) (xs := #[.tmp 82, .tmp 84]) rfl ?_); at_builtin; refine Kd.R_append (Kd.int .i64) (w0 := w) w.heap.size rfl (.tmp 82) (.tmp 84) 22 3 (.int .i64 0) 8 rfl Try.underlying22 infoInt rfl (by decide) (by omega) (.slice A4 i c4) f ((i : Int) + (j : Int)) [.int .i64 ((i : Int) + (j : Int))] (fun k_ => (w.heap.size ≤ k_)) (fun _ => False) rfl rfl rfl (fun _ hk => hk.elim) (fun k_ hk => Nat.le_trans hb.out.size hk) hRf.out hb.out hb.out.size HLs.out ?_; intro v6 w6 ho hb6 hg hat; have hoth := Aside0.mk (Kd.R_grown2 hRs.out rfl hg (fun k hk => hNe.out k hk.symm)); have hne6 : Aside0 (∀ k, some k = v6.ownBlock → some k ≠ (Value.slice A5 j c5).ownBlock) := ⟨fun k hk hv => hat.elim (fun e => hNe.out k (hk.trans e) hv) (fun ⟨b0, e, hb0⟩ => by have := Kd.R_lt hRs.out k hv.symm; rw [e] at hk; injection hk with hk; omega)⟩; obtain ⟨A6, c6, ln, hln6, rfl⟩ : ∃ A c ln, ln = i + 1 ∧ v6 = .slice A ln c := (by obtain ⟨A, c, h⟩ := Kd.R_slice ho; exact ⟨A, c, _, by rw [List.length_append]; have := hi.out; simp; omega, h⟩); replace hln6 := Aside0.mk hln6; replace ho := Aside0.mk ho; replace hb6 := Aside0.mk hb6; clear hg hat)
        go_roundw
        case rel => exact ⟨i + j + 1, by omega, hb6, ⟨by rw [hst.out, show ((i + j : Nat) : Int) = (i : Int) + (j : Int) by omega]; exact ho.out⟩, ⟨by rw [hst.out]; exact hoth.out⟩, hne6⟩
        case measure => have := hln6.out; simp; omega
      · have hjb2 : j < b.length := by omega
        have z1 : ((j : Int) == (b.length : Int)) = false := beq_eq_false_iff_ne.mpr (by omega)
        by_cases hia : i < a.length
        · obtain ⟨ad1, g1, hx1⟩ := Kd.at_int (Kd.C_below HR.out hb.out) (i : Int) (by omega) (by omega)
          cases g1
          obtain ⟨ad2, g2, hx2⟩ := Kd.at_int (Kd.C_below HR2.out hb.out) (j : Int) (by omega) (by omega)
          cases g2
          rw [Int.toNat_natCast] at hx1 hx2
          have hTd : takeA a b i j = decide (rd a (i : Int) ≤ rd b (j : Int)) := by unfold takeA; simp [hjb, hia]
          generalize rd a (i : Int) = x at *
          generalize rd b (j : Int) = y at *
          by_cases hxy : x ≤ y
          · have hT : takeA a b i j = true := by rw [hTd]; exact decide_eq_true hxy
            clear hTd
            replace hst : Aside0 (mg (i + j + 1) = (f ++ [((i + j : Nat) : Int)], s)) := ⟨by rw [hst, if_pos hT]⟩
            have HLs : Aside0 ((f.length + 1) * 8 ≤ 140737488355328) := ⟨by omega⟩
            clear hT hlm
            replace hi := Aside0.mk hi
            replace hj := Aside0.mk hj
            go_wp2
            go_region
            replace hb := Aside0.mk (below_drew hb.out)
            replace hRf := Aside0.mk (Kd.R_drew hRf.out)
            replace hRs := Aside0.mk (Kd.R_drew hRs.out)
            generalize wr.drew = wd at *
            go_wp2_with ((with_reducible refine gate_builtin (b := .append) (xs := #[.tmp 82, .tmp 84]) rfl ?_); at_builtin; refine Kd.R_append (Kd.int .i64) (w0 := w) w.heap.size rfl (.tmp 82) (.tmp 84) 22 3 (.int .i64 0) 8 rfl Try.underlying22 infoInt rfl (by decide) (by omega) (.slice A4 i c4) f ((i : Int) + (j : Int)) [.int .i64 ((i : Int) + (j : Int))] (fun k_ => (w.heap.size ≤ k_)) (fun _ => False) rfl rfl rfl (fun _ hk => hk.elim) (fun k_ hk => Nat.le_trans hb.out.size hk) hRf.out hb.out hb.out.size HLs.out ?_; intro v6 w6 ho hb6 hg hat; have hoth := Aside0.mk (Kd.R_grown2 hRs.out rfl hg (fun k hk => hNe.out k hk.symm)); have hne6 : Aside0 (∀ k, some k = v6.ownBlock → some k ≠ (Value.slice A5 j c5).ownBlock) := ⟨fun k hk hv => hat.elim (fun e => hNe.out k (hk.trans e) hv) (fun ⟨b0, e, hb0⟩ => by have := Kd.R_lt hRs.out k hv.symm; rw [e] at hk; injection hk with hk; omega)⟩; obtain ⟨A6, c6, ln, hln6, rfl⟩ : ∃ A c ln, ln = i + 1 ∧ v6 = .slice A ln c := (by obtain ⟨A, c, h⟩ := Kd.R_slice ho; exact ⟨A, c, _, by rw [List.length_append]; have := hi.out; simp; omega, h⟩); replace hln6 := Aside0.mk hln6; replace ho := Aside0.mk ho; replace hb6 := Aside0.mk hb6; clear hg hat)
            go_roundw
            case rel => exact ⟨i + j + 1, by omega, hb6, ⟨by rw [hst.out, show ((i + j : Nat) : Int) = (i : Int) + (j : Int) by omega]; exact ho.out⟩, ⟨by rw [hst.out]; exact hoth.out⟩, hne6⟩
            case measure => have := hln6.out; simp; omega
          · have hT : takeA a b i j = false := by rw [hTd]; exact decide_eq_false hxy
            clear hTd
            replace hst : Aside0 (mg (i + j + 1) = (f, s ++ [((i + j : Nat) : Int)])) := ⟨by rw [hst, if_neg (by rw [hT]; decide)]⟩
            have HLs : Aside0 ((s.length + 1) * 8 ≤ 140737488355328) := ⟨by omega⟩
            clear hT hlm
            replace hi := Aside0.mk hi
            replace hj := Aside0.mk hj
            go_wp2
            go_region
            replace hb := Aside0.mk (below_drew hb.out)
            replace hRf := Aside0.mk (Kd.R_drew hRf.out)
            replace hRs := Aside0.mk (Kd.R_drew hRs.out)
            generalize wr.drew = wd at *
            go_wp2_with ((with_reducible refine gate_builtin (b := .append) (xs := #[.tmp 86, .tmp 88]) rfl ?_); at_builtin; refine Kd.R_append (Kd.int .i64) (w0 := w) w.heap.size rfl (.tmp 86) (.tmp 88) 22 3 (.int .i64 0) 8 rfl Try.underlying22 infoInt rfl (by decide) (by omega) (.slice A5 j c5) s ((i : Int) + (j : Int)) [.int .i64 ((i : Int) + (j : Int))] (fun k_ => (w.heap.size ≤ k_)) (fun _ => False) rfl rfl rfl (fun _ hk => hk.elim) (fun k_ hk => Nat.le_trans hb.out.size hk) hRs.out hb.out hb.out.size HLs.out ?_; intro v6 w6 ho hb6 hg hat; have hoth := Aside0.mk (Kd.R_grown2 hRf.out rfl hg (fun k hk => fun e => hNe.out k e hk.symm)); have hne6 : Aside0 (∀ k, some k = (Value.slice A4 i c4).ownBlock → some k ≠ v6.ownBlock) := ⟨fun k hk hv => hat.elim (fun e => hNe.out k hk (hv.trans e)) (fun ⟨b0, e, hb0⟩ => by have := Kd.R_lt hRf.out k hk.symm; rw [e] at hv; injection hv with hv; omega)⟩; obtain ⟨A6, c6, ln, hln6, rfl⟩ : ∃ A c ln, ln = j + 1 ∧ v6 = .slice A ln c := (by obtain ⟨A, c, h⟩ := Kd.R_slice ho; exact ⟨A, c, _, by rw [List.length_append]; have := hj.out; simp; omega, h⟩); replace hln6 := Aside0.mk hln6; replace ho := Aside0.mk ho; replace hb6 := Aside0.mk hb6; clear hg hat)
            go_roundw
            case rel => exact ⟨i + j + 1, by omega, hb6, ⟨by rw [hst.out]; exact hoth.out⟩, ⟨by rw [hst.out, show ((i + j : Nat) : Int) = (i : Int) + (j : Int) by omega]; exact ho.out⟩, hne6⟩
            case measure => have := hln6.out; simp; omega
        · have hT : takeA a b i j = false := by unfold takeA; simp [hjb, hia]
          replace hst : Aside0 (mg (i + j + 1) = (f, s ++ [((i + j : Nat) : Int)])) := ⟨by rw [hst, if_neg (by rw [hT]; decide)]⟩
          have HLs : Aside0 ((s.length + 1) * 8 ≤ 140737488355328) := ⟨by omega⟩
          clear hT hlm
          replace hi := Aside0.mk hi
          replace hj := Aside0.mk hj
          go_wp2
          go_region
          replace hb := Aside0.mk (below_drew hb.out)
          replace hRf := Aside0.mk (Kd.R_drew hRf.out)
          replace hRs := Aside0.mk (Kd.R_drew hRs.out)
          generalize wr.drew = wd at *
          go_wp2_with ((with_reducible refine gate_builtin (b := .append) (xs := #[.tmp 86, .tmp 88]) rfl ?_); at_builtin; refine Kd.R_append (Kd.int .i64) (w0 := w) w.heap.size rfl (.tmp 86) (.tmp 88) 22 3 (.int .i64 0) 8 rfl Try.underlying22 infoInt rfl (by decide) (by omega) (.slice A5 j c5) s ((i : Int) + (j : Int)) [.int .i64 ((i : Int) + (j : Int))] (fun k_ => (w.heap.size ≤ k_)) (fun _ => False) rfl rfl rfl (fun _ hk => hk.elim) (fun k_ hk => Nat.le_trans hb.out.size hk) hRs.out hb.out hb.out.size HLs.out ?_; intro v6 w6 ho hb6 hg hat; have hoth := Aside0.mk (Kd.R_grown2 hRf.out rfl hg (fun k hk => fun e => hNe.out k e hk.symm)); have hne6 : Aside0 (∀ k, some k = (Value.slice A4 i c4).ownBlock → some k ≠ v6.ownBlock) := ⟨fun k hk hv => hat.elim (fun e => hNe.out k hk (hv.trans e)) (fun ⟨b0, e, hb0⟩ => by have := Kd.R_lt hRf.out k hk.symm; rw [e] at hv; injection hv with hv; omega)⟩; obtain ⟨A6, c6, ln, hln6, rfl⟩ : ∃ A c ln, ln = j + 1 ∧ v6 = .slice A ln c := (by obtain ⟨A, c, h⟩ := Kd.R_slice ho; exact ⟨A, c, _, by rw [List.length_append]; have := hj.out; simp; omega, h⟩); replace hln6 := Aside0.mk hln6; replace ho := Aside0.mk ho; replace hb6 := Aside0.mk hb6; clear hg hat)
          go_roundw
          case rel => exact ⟨i + j + 1, by omega, hb6, ⟨by rw [hst.out]; exact hoth.out⟩, ⟨by rw [hst.out, show ((i + j : Nat) : Int) = (i : Int) + (j : Int) by omega]; exact ho.out⟩, hne6⟩
          case measure => have := hln6.out; simp; omega
    · obtain hn : i + j = a.length + b.length := by omega
      have hi1 : i = a.length := by omega
      have hj1 : j = b.length := by omega
      have hq1 := (Kd.R_reads' hRf.out).2.1
      have hq2 := (Kd.R_reads' hRs.out).2.1
      have HQ1 : Aside0 (∀ X, Calls Try.prog 57 #[.slice A4 i c4] X fun e w' => e = .returned (.slice A4 i i) ∧ Drawn0 X w') := ⟨fun X => rank_cut A4 _ c4 X hq1 hcf.out⟩
      have HQ2 : Aside0 (∀ X, Calls Try.prog 57 #[.slice A5 j c5] X fun e w' => e = .returned (.slice A5 j j) ∧ Drawn0 X w') := ⟨fun X => rank_cut A5 _ c5 X hq2 (R_cap hRs.out)⟩
      have hfin : Aside0 (mg (a.length + b.length) = (f, s)) := ⟨by rw [← hn]; exact hfs.out⟩
      rw [hfin.out]
      clear hst hlm hq1 hq2 hfs hln
      replace hi := Aside0.mk hi
      replace hj := Aside0.mk hj
      subst hi1
      subst hj1
      clear hlt hn
      go_wp2_with (go_at_call 57; (first | (with_reducible refine (HQ1.out _).mono ?_) | (with_reducible refine (HQ2.out _).mono ?_)); rintro e w8 ⟨rfl, m8, rfl⟩)
      unfold MarksPost
      refine Marks.zero _ (results_tmp3 rfl _ _ _) ?_
      rw [hfin.out]
      exact ⟨_, _, rfl, V_cut (Kd.R_drewN hRf.out _), V_cut (Kd.R_drewN hRs.out _), pw_below_drewN hb.out _⟩
set_option maxHeartbeats 4000000 in
set_option maxRecDepth 100000 in
theorem merge_no1 (A : Option Addr) (c : Nat) (a : List Int) (A2 : Option Addr) (c2 : Nat) (b : List Int) (w : World) (ha : a.length ≤ 9223372036854775807) (hb : b.length ≤ 9223372036854775807) (hl : 1048576 < a.length + b.length) :
    Calls Try.prog 27 #[.slice A a.length c, .slice A2 b.length c2] w (Ret3 w ([], [], 3)) := by
  refine calls_of_marks Try.func27 rfl ?_
  simp only [Try.ntmps27, List.size_toArray, List.length_cons, List.length_nil, Nat.reduceAdd, Nat.reduceSub, Array.replicate_succ, Array.replicate_zero, List.push_toArray, List.append_toArray, List.nil_append, List.cons_append]
  go_wp2_with (go_at_call 60; exfalso; omega)
  all_goals first
    | (unfold MarksPost
       refine Marks.zero _ (results_tmp3 rfl _ _ _) ?_
       exact Ret3.nil 3 (Below.refl _ _))
    | (exfalso; omega)
set_option maxHeartbeats 4000000 in
set_option maxRecDepth 100000 in
theorem merge_no2 (A : Option Addr) (c : Nat) (a : List Int) (A2 : Option Addr) (c2 : Nat) (b : List Int) (E : Int) (w : World) (hr : Kd.C (Kd.int .i64) w A a.length a) (hc : a.length ≤ c) (hr2 : Kd.C (Kd.int .i64) w A2 b.length b) (hc2 : b.length ≤ c2) (hl : a.length + b.length ≤ 1048576) (hE : wordsE [a, b] = E) (h0 : E ≠ 0) :
    Calls Try.prog 27 #[.slice A a.length c, .slice A2 b.length c2] w (Ret3 w ([], [], E)) := by
  have HS := Aside0.mk (Sl.of hr hc)
  have HS2 := Aside0.mk (Sl.of hr2 hc2)
  have HE := Aside0.mk hE
  have hla : a.length ≤ 1048576 := by omega
  have hlb : b.length ≤ 1048576 := by omega
  have z : (E != 0) = true := bne_iff_ne.mpr h0
  clear hr hc hr2 hc2 hE h0
  refine calls_of_marks Try.func27 rfl ?_
  simp only [Try.ntmps27, List.size_toArray, List.length_cons, List.length_nil, Nat.reduceAdd, Nat.reduceSub, Array.replicate_succ, Array.replicate_zero, List.push_toArray, List.append_toArray, List.nil_append, List.cons_append]
  go_wp2_with fail
  refine (rank_words _ _ [a, b] _ (lit_rows_at _ _ (by simp) _ _ _ _ rfl (rows_of2 HS.out HS2.out) (by simp))).mono ?_
  rw [HE.out]
  rintro e w2 ⟨rfl, m2, rfl⟩
  go_wp2
  unfold MarksPost
  refine Marks.zero _ (results_tmp3 rfl _ _ _) ?_
  exact Ret3.nil E (pw_below_drewN (below_alloc (Below.refl _ _) _) _)
set_option maxHeartbeats 4000000 in
set_option maxRecDepth 100000 in
theorem merge_no3 (A : Option Addr) (c : Nat) (a : List Int) (A2 : Option Addr) (c2 : Nat) (b : List Int) (w : World) (hr : Kd.C (Kd.int .i64) w A a.length a) (hc : a.length ≤ c) (hr2 : Kd.C (Kd.int .i64) w A2 b.length b) (hc2 : b.length ≤ c2) (hl : a.length + b.length ≤ 1048576) (hE : wordsE [a, b] = 0) (s1 s2 : Bool) (h1 : sortedB a = s1) (h2 : sortedB b = s2) (h3 : (s1 && s2) = false) :
    Calls Try.prog 27 #[.slice A a.length c, .slice A2 b.length c2] w (Ret3 w ([], [], 7)) := by
  have HS := Aside0.mk (Sl.of hr hc)
  have HS2 := Aside0.mk (Sl.of hr2 hc2)
  have HI1 : Aside0 (∀ W, Below w.heap.size w W → Calls Try.prog 61 #[.slice A a.length c] W fun e w' => e = .returned (.bool s1) ∧ Drawn0 W w') := ⟨fun W hW => by have h := slices_IsSorted A c a W (Kd.C_below hr hW) (by omega); rwa [h1] at h⟩
  have HI2 : Aside0 (∀ W, Below w.heap.size w W → Calls Try.prog 61 #[.slice A2 b.length c2] W fun e w' => e = .returned (.bool s2) ∧ Drawn0 W w') := ⟨fun W hW => by have h := slices_IsSorted A2 c2 b W (Kd.C_below hr2 hW) (by omega); rwa [h2] at h⟩
  have HE := Aside0.mk hE
  have hla : a.length ≤ 1048576 := by omega
  have hlb : b.length ≤ 1048576 := by omega
  clear hr hc hr2 hc2 hE h1 h2
  cases s1
  · refine calls_of_marks Try.func27 rfl ?_
    simp only [Try.ntmps27, List.size_toArray, List.length_cons, List.length_nil, Nat.reduceAdd, Nat.reduceSub, Array.replicate_succ, Array.replicate_zero, List.push_toArray, List.append_toArray, List.nil_append, List.cons_append]
    go_wp2_with fail
    refine (rank_words _ _ [a, b] _ (lit_rows_at _ _ (by simp) _ _ _ _ rfl (rows_of2 HS.out HS2.out) (by simp))).mono ?_
    rw [HE.out]
    rintro e w2 ⟨rfl, m2, hw2⟩
    have hb2 : Below w.heap.size w w2 := by rw [hw2]; exact pw_below_drewN (below_alloc (Below.refl _ _) _) _
    clear hw2
    go_wp2_with fail
    refine (HI1.out _ hb2).mono ?_
    rintro e w3 ⟨rfl, m3, hw3⟩
    have hb3 : Below w.heap.size w w3 := by rw [hw3]; exact pw_below_drewN hb2 _
    clear hw3 hb2
    go_wp2
    unfold MarksPost
    refine Marks.zero _ (results_tmp3 rfl _ _ _) ?_
    exact Ret3.nil 7 hb3
  · cases s2
    · refine calls_of_marks Try.func27 rfl ?_
      simp only [Try.ntmps27, List.size_toArray, List.length_cons, List.length_nil, Nat.reduceAdd, Nat.reduceSub, Array.replicate_succ, Array.replicate_zero, List.push_toArray, List.append_toArray, List.nil_append, List.cons_append]
      go_wp2_with fail
      refine (rank_words _ _ [a, b] _ (lit_rows_at _ _ (by simp) _ _ _ _ rfl (rows_of2 HS.out HS2.out) (by simp))).mono ?_
      rw [HE.out]
      rintro e w2 ⟨rfl, m2, hw2⟩
      have hb2 : Below w.heap.size w w2 := by rw [hw2]; exact pw_below_drewN (below_alloc (Below.refl _ _) _) _
      clear hw2
      go_wp2_with fail
      refine (HI1.out _ hb2).mono ?_
      rintro e w3 ⟨rfl, m3, hw3⟩
      have hb3 : Below w.heap.size w w3 := by rw [hw3]; exact pw_below_drewN hb2 _
      clear hw3 hb2
      go_wp2_with fail
      refine (HI2.out _ hb3).mono ?_
      rintro e w5 ⟨rfl, m4, hw4⟩
      have hb4 : Below w.heap.size w w5 := by rw [hw4]; exact pw_below_drewN hb3 _
      clear hw4 hb3
      go_wp2
      unfold MarksPost
      refine Marks.zero _ (results_tmp3 rfl _ _ _) ?_
      exact Ret3.nil 7 hb4
    · cases h3
theorem rank_Merge.run (A : Option Addr) (c : Nat) (a : List Int) (A2 : Option Addr) (c2 : Nat) (b : List Int) (w : World) (hr : Kd.C (Kd.int .i64) w A a.length a) (hc : a.length ≤ c) (hr2 : Kd.C (Kd.int .i64) w A2 b.length b) (hc2 : b.length ≤ c2) :
    Calls Try.prog 27 #[.slice A a.length c, .slice A2 b.length c2] w (Ret3 w (rank_Merge.g a b)) := by
  unfold rank_Merge.g
  by_cases hl : 1048576 < a.length + b.length
  · rw [if_pos hl]
    exact merge_no1 A c a A2 c2 b w hr.2.1 hr2.2.1 hl
  · rw [if_neg hl]
    by_cases hE : wordsE [a, b] = 0
    · rw [if_pos hE]
      by_cases hs : (sortedB a && sortedB b) = true
      · rw [if_pos hs]
        rw [Bool.and_eq_true] at hs
        exact rank_Merge_yes A c a A2 c2 b w hr hc hr2 hc2 (by omega) hE hs.1 hs.2
      · rw [if_neg hs]
        exact merge_no3 A c a A2 c2 b w hr hc hr2 hc2 (by omega) hE _ _ rfl rfl (by simpa using hs)
    · rw [if_neg hE]
      exact merge_no2 A c a A2 c2 b _ w hr hc hr2 hc2 (by omega) rfl hE
end Go.Proofs.Ytnkepaenpoadpaa.Hand
/- The contracts of the chapter's functions, in the form that the session's printer takes. -/
namespace Go.Proofs.Ytnkepaenpoadpaa.Hand
open Go.RowKit Go.Proofs.YtnkepaenpoadpaaW.PrintWords Go.Proofs.YtnkepaenpoadpaaW.PrintLast Go.Proofs.YtnkepaenpoadpaaW.PrintMore
set_option linter.unusedVariables false

def rCheck.f (l0 : List Int) : Option (Int) := some (rank_Check.g l0)
theorem rCheck.calls (A0 : Option Addr) (c0 : Nat) (l0 : List Int) (r1 : Int) (w : World) (hr0 : Kd.C (Kd.int .i64) w A0 l0.length l0) (hc0 : l0.length ≤ c0) (h : rCheck.f l0 = some r1) :
    Calls Try.prog 17 #[.slice A0 l0.length c0] w fun e w' => e = .returned (.int .i64 r1) ∧ Below w.heap.size w w' := by
  have h2 : rank_Check.g l0 = r1 := by injection h
  have H := rank_Check.run A0 c0 l0 w hr0
  rw [h2] at H
  exact H
def rInverse.f (l0 : List Int) : Option (List Int × Int) := some (rank_Inverse.g l0)
theorem rInverse.calls (A0 : Option Addr) (c0 : Nat) (l0 : List Int) (r1 : List Int) (r2 : Int) (w : World) (hr0 : Kd.C (Kd.int .i64) w A0 l0.length l0) (hc0 : l0.length ≤ c0) (h : rInverse.f l0 = some (r1, r2)) :
    Calls Try.prog 13 #[.slice A0 l0.length c0] w fun e w' => ∃ v0_ : Value, e = .returned (.tuple #[v0_, .int .i64 r2]) ∧ Kd.V (Kd.int .i64) 3 w' w.heap.size (fun k_ => w.heap.size ≤ k_) v0_ r1 ∧ Below w.heap.size w w' := by
  have h2 : rank_Inverse.g l0 = (r1, r2) := by injection h
  have H := rank_Inverse.run A0 c0 l0 w hr0 hc0
  rw [h2] at H
  exact H
def rCompose.f (l0 : List Int) (l1 : List Int) : Option (List Int × Int) := some (rank_Compose.g l0 l1)
theorem rCompose.calls (A0 : Option Addr) (c0 : Nat) (l0 : List Int) (A1 : Option Addr) (c1 : Nat) (l1 : List Int) (r1 : List Int) (r2 : Int) (w : World) (hr0 : Kd.C (Kd.int .i64) w A0 l0.length l0) (hc0 : l0.length ≤ c0) (hr1 : Kd.C (Kd.int .i64) w A1 l1.length l1) (hc1 : l1.length ≤ c1) (h : rCompose.f l0 l1 = some (r1, r2)) :
    Calls Try.prog 15 #[.slice A0 l0.length c0, .slice A1 l1.length c1] w fun e w' => ∃ v0_ : Value, e = .returned (.tuple #[v0_, .int .i64 r2]) ∧ Kd.V (Kd.int .i64) 3 w' w.heap.size (fun k_ => w.heap.size ≤ k_) v0_ r1 ∧ Below w.heap.size w w' := by
  have h2 : rank_Compose.g l0 l1 = (r1, r2) := by injection h
  have H := rank_Compose.run A0 c0 l0 A1 c1 l1 w hr0 hc0 hr1 hc1
  rw [h2] at H
  exact H
def rSplit.f (l0 : List Int) (l1 : List Int) : Option (List Int × Int) := some (rank_Split.g l0 l1)
theorem rSplit.calls (A0 : Option Addr) (c0 : Nat) (l0 : List Int) (A1 : Option Addr) (c1 : Nat) (l1 : List Int) (r1 : List Int) (r2 : Int) (w : World) (hr0 : Kd.C (Kd.int .i64) w A0 l0.length l0) (hc0 : l0.length ≤ c0) (hr1 : Kd.C (Kd.int .i64) w A1 l1.length l1) (hc1 : l1.length ≤ c1) (h : rSplit.f l0 l1 = some (r1, r2)) :
    Calls Try.prog 21 #[.slice A0 l0.length c0, .slice A1 l1.length c1] w fun e w' => ∃ v0_ : Value, e = .returned (.tuple #[v0_, .int .i64 r2]) ∧ Kd.V (Kd.int .i64) 3 w' w.heap.size (fun k_ => w.heap.size ≤ k_) v0_ r1 ∧ Below w.heap.size w w' := by
  have h2 : rank_Split.g l0 l1 = (r1, r2) := by injection h
  have H := rank_Split.run A0 c0 l0 A1 c1 l1 w hr0 hc0 hr1 hc1
  rw [h2] at H
  exact H
def rPasses.f (l0 : List Int) (l1 : List Int) (a2 : Int) : Option (List Int × Int) := some (rank_Passes.g l0 l1 a2)
theorem rPasses.calls (A0 : Option Addr) (c0 : Nat) (l0 : List Int) (A1 : Option Addr) (c1 : Nat) (l1 : List Int) (a2 : Int) (r1 : List Int) (r2 : Int) (w : World) (hr0 : Kd.C (Kd.int .i64) w A0 l0.length l0) (hc0 : l0.length ≤ c0) (hr1 : Kd.C (Kd.int .i64) w A1 l1.length l1) (hc1 : l1.length ≤ c1) (h : rPasses.f l0 l1 a2 = some (r1, r2)) :
    Calls Try.prog 23 #[.slice A0 l0.length c0, .slice A1 l1.length c1, .int .i64 a2] w fun e w' => ∃ v0_ : Value, e = .returned (.tuple #[v0_, .int .i64 r2]) ∧ Kd.V (Kd.int .i64) 3 w' w.heap.size (fun k_ => w.heap.size ≤ k_) v0_ r1 ∧ Below w.heap.size w w' := by
  have h2 : rank_Passes.g l0 l1 a2 = (r1, r2) := by injection h
  have H := rank_Passes.run A0 c0 l0 A1 c1 l1 a2 w hr0 hc0 hr1 hc1
  rw [h2] at H
  exact H
def rOrder.f (l0 : List Int) (l1 : List Int) : Option (List Int × Int) := some (rank_Order.g l0 l1)
theorem rOrder.calls (A0 : Option Addr) (c0 : Nat) (l0 : List Int) (A1 : Option Addr) (c1 : Nat) (l1 : List Int) (r1 : List Int) (r2 : Int) (w : World) (hr0 : Kd.C (Kd.int .i64) w A0 l0.length l0) (hc0 : l0.length ≤ c0) (hr1 : Kd.C (Kd.int .i64) w A1 l1.length l1) (hc1 : l1.length ≤ c1) (h : rOrder.f l0 l1 = some (r1, r2)) :
    Calls Try.prog 25 #[.slice A0 l0.length c0, .slice A1 l1.length c1] w fun e w' => ∃ v0_ : Value, e = .returned (.tuple #[v0_, .int .i64 r2]) ∧ Kd.V (Kd.int .i64) 3 w' w.heap.size (fun k_ => w.heap.size ≤ k_) v0_ r1 ∧ Below w.heap.size w w' := by
  have h2 : rank_Order.g l0 l1 = (r1, r2) := by injection h
  have H := rank_Order.run A0 c0 l0 A1 c1 l1 w hr0 hc0 hr1 hc1
  rw [h2] at H
  exact H
def rRanks.f (l0 : List Int) (l1 : List Int) : Option (List Int × Int) := some (rank_Ranks.g l0 l1)
theorem rRanks.calls (A0 : Option Addr) (c0 : Nat) (l0 : List Int) (A1 : Option Addr) (c1 : Nat) (l1 : List Int) (r1 : List Int) (r2 : Int) (w : World) (hr0 : Kd.C (Kd.int .i64) w A0 l0.length l0) (hc0 : l0.length ≤ c0) (hr1 : Kd.C (Kd.int .i64) w A1 l1.length l1) (hc1 : l1.length ≤ c1) (h : rRanks.f l0 l1 = some (r1, r2)) :
    Calls Try.prog 29 #[.slice A0 l0.length c0, .slice A1 l1.length c1] w fun e w' => ∃ v0_ : Value, e = .returned (.tuple #[v0_, .int .i64 r2]) ∧ Kd.V (Kd.int .i64) 3 w' w.heap.size (fun k_ => w.heap.size ≤ k_) v0_ r1 ∧ Below w.heap.size w w' := by
  have h2 : rank_Ranks.g l0 l1 = (r1, r2) := by injection h
  have H := rank_Ranks.run A0 c0 l0 A1 c1 l1 w hr0 hc0 hr1 hc1
  rw [h2] at H
  exact H
def rMerge.f (l0 : List Int) (l1 : List Int) : Option (List Int × List Int × Int) := some (rank_Merge.g l0 l1)
theorem rMerge.calls (A0 : Option Addr) (c0 : Nat) (l0 : List Int) (A1 : Option Addr) (c1 : Nat) (l1 : List Int) (r1 : List Int) (r2 : List Int) (r3 : Int) (w : World) (hr0 : Kd.C (Kd.int .i64) w A0 l0.length l0) (hc0 : l0.length ≤ c0) (hr1 : Kd.C (Kd.int .i64) w A1 l1.length l1) (hc1 : l1.length ≤ c1) (h : rMerge.f l0 l1 = some (r1, r2, r3)) :
    Calls Try.prog 27 #[.slice A0 l0.length c0, .slice A1 l1.length c1] w fun e w' => ∃ v0_ : Value, ∃ v1_ : Value, e = .returned (.tuple #[v0_, v1_, .int .i64 r3]) ∧ Kd.V (Kd.int .i64) 3 w' w.heap.size (fun k_ => w.heap.size ≤ k_) v0_ r1 ∧ Kd.V (Kd.int .i64) 3 w' w.heap.size (fun k_ => w.heap.size ≤ k_) v1_ r2 ∧ Below w.heap.size w w' := by
  have h2 : rank_Merge.g l0 l1 = (r1, r2, r3) := by injection h
  have H := rank_Merge.run A0 c0 l0 A1 c1 l1 w hr0 hc0 hr1 hc1
  rw [h2] at H
  exact H
def rFirsts.f (l0 : List Int) (l1 : List Int) : Option (List Int × List Int × Int) := some (rank_Firsts.g l0 l1)
theorem rFirsts.calls (A0 : Option Addr) (c0 : Nat) (l0 : List Int) (A1 : Option Addr) (c1 : Nat) (l1 : List Int) (r1 : List Int) (r2 : List Int) (r3 : Int) (w : World) (hr0 : Kd.C (Kd.int .i64) w A0 l0.length l0) (hc0 : l0.length ≤ c0) (hr1 : Kd.C (Kd.int .i64) w A1 l1.length l1) (hc1 : l1.length ≤ c1) (h : rFirsts.f l0 l1 = some (r1, r2, r3)) :
    Calls Try.prog 31 #[.slice A0 l0.length c0, .slice A1 l1.length c1] w fun e w' => ∃ v0_ : Value, ∃ v1_ : Value, e = .returned (.tuple #[v0_, v1_, .int .i64 r3]) ∧ Kd.V (Kd.int .i64) 3 w' w.heap.size (fun k_ => w.heap.size ≤ k_) v0_ r1 ∧ Kd.V (Kd.int .i64) 3 w' w.heap.size (fun k_ => w.heap.size ≤ k_) v1_ r2 ∧ Below w.heap.size w w' := by
  have h2 : rank_Firsts.g l0 l1 = (r1, r2, r3) := by injection h
  have H := rank_Firsts.run A0 c0 l0 A1 c1 l1 w hr0 hc0 hr1 hc1
  rw [h2] at H
  exact H
def Eq_.f (l0 l1 : List Int) : Option Bool := some (l0 == l1)
theorem Eq_.calls (A0 : Option Addr) (c0 : Nat) (l0 : List Int) (A1 : Option Addr) (c1 : Nat) (l1 : List Int) (r : Bool) (w : World) (hr0 : Kd.C (Kd.int .i64) w A0 l0.length l0) (hc0 : l0.length ≤ c0) (hr1 : Kd.C (Kd.int .i64) w A1 l1.length l1) (hc1 : l1.length ≤ c1) (h : Eq_.f l0 l1 = some r) :
    Calls Try.prog 19 #[.slice A0 l0.length c0, .slice A1 l1.length c1] w fun e w' => e = .returned (.bool r) ∧ Drawn0 w w' := by
  have h2 : (l0 == l1) = r := by injection h
  have H := ref_Equal A0 c0 l0 A1 c1 l1 w hr0 hr1
  rw [h2] at H
  exact H
end Go.Proofs.Ytnkepaenpoadpaa.Hand
/- sheafworkslaw07.ranked: the examples of the chapter come out as they must. -/
namespace Go.Proofs.Ytnkepaenpoadpaa.Hand
open Go.RowKit Go.Proofs.YtnkepaenpoadpaaW.PrintWords Go.Proofs.YtnkepaenpoadpaaW.PrintLast Go.Proofs.YtnkepaenpoadpaaW.PrintMore
open Go.Sort
set_option linter.unusedVariables false
set_option linter.unusedSimpArgs false
theorem leE_trans (a b c : Int × Int) (h1 : leE a b = true) (h2 : leE b c = true) : leE a c = true := by
  unfold leE at *
  rw [ltE] at *
  simp at *
  omega
theorem leE_total (a b : Int × Int) : (leE a b || leE b a) = true := by
  unfold leE
  rw [ltE, ltE]
  simp
  omega
theorem leE_anti (a b : Int × Int) (h1 : leE a b = true) (h2 : leE b a = true) : a = b := by
  unfold leE at *
  exact totE a b (by simpa using h2) (by simpa using h1)
theorem sort_is (s l : List (Int × Int)) (h1 : s.isPerm l = true) (h2 : s.Pairwise (fun a b => leE a b = true)) : l.mergeSort leE = s :=
  List.Perm.eq_of_pairwise (fun a b _ _ => leE_anti a b) (List.pairwise_mergeSort leE_trans leE_total l) h2 ((List.mergeSort_perm l leE).trans (List.isPerm_iff.1 h1).symm)
/-- A slice, as long as what is there stays. -/
def Sk (w : World) (v : Value) (l : List Int) : Prop := ∀ W, Below w.heap.size w W → Sl W v l
theorem Sk.mono {w w2 : World} {v : Value} {l : List Int} (h : Sk w v l) (hb : Below w.heap.size w w2) : Sk w2 v l := fun W hW => h W (hb.trans (hW.mono hb.size))
theorem V_Sk {w : World} {v : Value} {e base : Nat} {ok : Nat → Prop} {l : List Int} (h : Kd.V (Kd.int .i64) e w base ok v l) : Sk w v l := fun W hW => by
  have h2 := Kd.V_below h hW
  obtain ⟨A, c, rfl⟩ := Kd.V_slice h2
  obtain ⟨_, h3, h4⟩ := Kd.V_reads' h2
  exact ⟨A, c, rfl, h3, h4⟩
def RetA (w : World) (R : List Int × Int) (e : Ending) (w' : World) : Prop := ∃ v, e = .returned (.tuple #[v, .int .i64 R.2]) ∧ Sk w' v R.1 ∧ Below w.heap.size w w'
def RetB (w : World) (R : List Int × List Int × Int) (e : Ending) (w' : World) : Prop := ∃ v v2, e = .returned (.tuple #[v, v2, .int .i64 R.2.2]) ∧ Sk w' v R.1 ∧ Sk w' v2 R.2.1 ∧ Below w.heap.size w w'
theorem Ret2.A {w w' : World} {R : List Int × Int} {e : Ending} (h : Ret2 w R e w') : RetA w R e w' := by
  obtain ⟨v, he, hv, hb⟩ := h
  exact ⟨v, he, V_Sk hv, hb⟩
theorem Ret3.B {w w' : World} {R : List Int × List Int × Int} {e : Ending} (h : Ret3 w R e w') : RetB w R e w' := by
  obtain ⟨v, v2, he, hv, hv2, hb⟩ := h
  exact ⟨v, v2, he, V_Sk hv, V_Sk hv2, hb⟩
theorem skInverse (v : Value) (l : List Int) (R : List Int × Int) (hR : rank_Inverse.g l = R) (w : World) (h1 : Sl w v l) : Calls Try.prog 13 #[v] w (RetA w R) := by
  obtain ⟨A, c, rfl, p1, p2⟩ := h1
  subst hR
  exact (rank_Inverse.run A c l w p2 p1).mono fun _ _ h => h.A
theorem skCheck (v : Value) (l : List Int) (R : Int) (hR : rank_Check.g l = R) (w : World) (h1 : Sl w v l) : Calls Try.prog 17 #[v] w fun e w' => e = .returned (.int .i64 R) ∧ Below w.heap.size w w' := by
  obtain ⟨A, c, rfl, p1, p2⟩ := h1
  subst hR
  exact rank_Check.run A c l w p2
theorem skCompose (v : Value) (l : List Int) (v2 : Value) (l2 : List Int) (R : List Int × Int) (hR : rank_Compose.g l l2 = R) (w : World) (h1 : Sl w v l) (h2 : Sl w v2 l2) : Calls Try.prog 15 #[v, v2] w (RetA w R) := by
  obtain ⟨A, c, rfl, p1, p2⟩ := h1
  obtain ⟨A2, c2, rfl, q1, q2⟩ := h2
  subst hR
  exact (rank_Compose.run A c l A2 c2 l2 w p2 p1 q2 q1).mono fun _ _ h => h.A
theorem skSplit (v : Value) (l : List Int) (v2 : Value) (l2 : List Int) (R : List Int × Int) (hR : rank_Split.g l l2 = R) (w : World) (h1 : Sl w v l) (h2 : Sl w v2 l2) : Calls Try.prog 21 #[v, v2] w (RetA w R) := by
  obtain ⟨A, c, rfl, p1, p2⟩ := h1
  obtain ⟨A2, c2, rfl, q1, q2⟩ := h2
  subst hR
  exact (rank_Split.run A c l A2 c2 l2 w p2 p1 q2 q1).mono fun _ _ h => h.A
theorem skOrder (v : Value) (l : List Int) (v2 : Value) (l2 : List Int) (R : List Int × Int) (hR : rank_Order.g l l2 = R) (w : World) (h1 : Sl w v l) (h2 : Sl w v2 l2) : Calls Try.prog 25 #[v, v2] w (RetA w R) := by
  obtain ⟨A, c, rfl, p1, p2⟩ := h1
  obtain ⟨A2, c2, rfl, q1, q2⟩ := h2
  subst hR
  exact (rank_Order.run A c l A2 c2 l2 w p2 p1 q2 q1).mono fun _ _ h => h.A
theorem skRanks (v : Value) (l : List Int) (v2 : Value) (l2 : List Int) (R : List Int × Int) (hR : rank_Ranks.g l l2 = R) (w : World) (h1 : Sl w v l) (h2 : Sl w v2 l2) : Calls Try.prog 29 #[v, v2] w (RetA w R) := by
  obtain ⟨A, c, rfl, p1, p2⟩ := h1
  obtain ⟨A2, c2, rfl, q1, q2⟩ := h2
  subst hR
  exact (rank_Ranks.run A c l A2 c2 l2 w p2 p1 q2 q1).mono fun _ _ h => h.A
theorem skMerge (v : Value) (l : List Int) (v2 : Value) (l2 : List Int) (R : List Int × List Int × Int) (hR : rank_Merge.g l l2 = R) (w : World) (h1 : Sl w v l) (h2 : Sl w v2 l2) : Calls Try.prog 27 #[v, v2] w (RetB w R) := by
  obtain ⟨A, c, rfl, p1, p2⟩ := h1
  obtain ⟨A2, c2, rfl, q1, q2⟩ := h2
  subst hR
  exact (rank_Merge.run A c l A2 c2 l2 w p2 p1 q2 q1).mono fun _ _ h => h.B
theorem skFirsts (v : Value) (l : List Int) (v2 : Value) (l2 : List Int) (R : List Int × List Int × Int) (hR : rank_Firsts.g l l2 = R) (w : World) (h1 : Sl w v l) (h2 : Sl w v2 l2) : Calls Try.prog 31 #[v, v2] w (RetB w R) := by
  obtain ⟨A, c, rfl, p1, p2⟩ := h1
  obtain ⟨A2, c2, rfl, q1, q2⟩ := h2
  subst hR
  exact (rank_Firsts.run A c l A2 c2 l2 w p2 p1 q2 q1).mono fun _ _ h => h.B
theorem skPasses (v : Value) (l : List Int) (v2 : Value) (l2 : List Int) (b : Int) (R : List Int × Int) (hR : rank_Passes.g l l2 b = R) (w : World) (h1 : Sl w v l) (h2 : Sl w v2 l2) : Calls Try.prog 23 #[v, v2, .int .i64 b] w (RetA w R) := by
  obtain ⟨A, c, rfl, p1, p2⟩ := h1
  obtain ⟨A2, c2, rfl, q1, q2⟩ := h2
  subst hR
  exact (rank_Passes.run A c l A2 c2 l2 b w p2 p1 q2 q1).mono fun _ _ h => h.A
theorem skEqual (v : Value) (l : List Int) (v2 : Value) (l2 : List Int) (R : Bool) (hR : (l == l2) = R) (w : World) (h1 : Sl w v l) (h2 : Sl w v2 l2) : Calls Try.prog 19 #[v, v2] w fun e w' => e = .returned (.bool R) ∧ Below w.heap.size w w' := by
  obtain ⟨A, c, rfl, p1, p2⟩ := h1
  obtain ⟨A2, c2, rfl, q1, q2⟩ := h2
  subst hR
  exact (ref_Equal A c l A2 c2 l2 w p2 q2).mono fun e w' ⟨he, hd⟩ => ⟨he, hd.below⟩
theorem exInverse : rank_Inverse.g [2, 0, 1] = ([1, 2, 0], 0) := by decide +kernel
theorem exCompose : rank_Compose.g [2, 0, 1] [1, 2, 0] = ([0, 1, 2], 0) := by decide +kernel
theorem exSplit : rank_Split.g [1, 0, 1, 0] [2, 2] = ([1, 0, 3, 2], 0) := by decide +kernel
theorem exPasses : rank_Passes.g [5, -1, 5, 2] [4] 1 = ([1, 2, 3, 0], 0) := by decide +kernel
theorem exMerge : rank_Merge.g [1, 3, 3] [2, 3, 4] = ([0, 2, 3], [1, 4, 5], 0) := by decide +kernel
theorem exFirsts : rank_Firsts.g [2, 1, 4, 3, 3] [2, 0, 3] = ([0, 1, 2, 3], [2, 0, 2], 0) := by decide +kernel
theorem exCheck1 : rank_Check.g [2, 0, 1] = 0 := by decide +kernel
theorem exCheck2 : rank_Check.g [0, 0] = 1 := by decide +kernel
theorem exS1 : sortedG (startOf [4] ((0 : Nat) : Int)) (segOf [5, -1, 5, 2] [4] 0) = [(-1, 1), (2, 3), (5, 0), (5, 2)] := sort_is _ _ (by decide +kernel) (by decide +kernel)
theorem exOrder : rank_Order.g [5, -1, 5, 2] [4] = ([2, 0, 3, 1], 0) := by
  have h0 : openE [5, -1, 5, 2] [4] = 0 := by decide +kernel
  unfold rank_Order.g
  rw [if_pos h0]
  show (setsTo _ (sortedG (startOf [4] ((0 : Nat) : Int)) (segOf [5, -1, 5, 2] [4] 0)) _ _, (0 : Int)) = _
  rw [exS1]
  decide +kernel
theorem exS2 : sortedG (startOf [2, 0, 3] ((0 : Nat) : Int)) (segOf [2, 1, 4, 3, 3] [2, 0, 3] 0) = [(1, 1), (2, 0)] := sort_is _ _ (by decide +kernel) (by decide +kernel)
theorem exS3 : sortedG (startOf [2, 0, 3] ((1 : Nat) : Int)) (segOf [2, 1, 4, 3, 3] [2, 0, 3] 1) = [] := sort_is _ _ (by decide +kernel) (by decide +kernel)
theorem exS4 : sortedG (startOf [2, 0, 3] ((2 : Nat) : Int)) (segOf [2, 1, 4, 3, 3] [2, 0, 3] 2) = [(3, 3), (3, 4), (4, 2)] := sort_is _ _ (by decide +kernel) (by decide +kernel)
theorem exRanks : rank_Ranks.g [2, 1, 4, 3, 3] [2, 0, 3] = ([1, 0, 1, 0, 0], 0) := by
  have h0 : openE [2, 1, 4, 3, 3] [2, 0, 3] = 0 := by decide +kernel
  unfold rank_Ranks.g
  rw [if_pos h0]
  show (setsTo (setsTo (setsTo _ (sortedG (startOf [2, 0, 3] ((0 : Nat) : Int)) (segOf [2, 1, 4, 3, 3] [2, 0, 3] 0)) (fun k => ((rkOf (sortedG (startOf [2, 0, 3] ((0 : Nat) : Int)) (segOf [2, 1, 4, 3, 3] [2, 0, 3] 0)) (k + 1) : Nat) : Int)) _) (sortedG (startOf [2, 0, 3] ((1 : Nat) : Int)) (segOf [2, 1, 4, 3, 3] [2, 0, 3] 1)) (fun k => ((rkOf (sortedG (startOf [2, 0, 3] ((1 : Nat) : Int)) (segOf [2, 1, 4, 3, 3] [2, 0, 3] 1)) (k + 1) : Nat) : Int)) _) (sortedG (startOf [2, 0, 3] ((2 : Nat) : Int)) (segOf [2, 1, 4, 3, 3] [2, 0, 3] 2)) (fun k => ((rkOf (sortedG (startOf [2, 0, 3] ((2 : Nat) : Int)) (segOf [2, 1, 4, 3, 3] [2, 0, 3] 2)) (k + 1) : Nat) : Int)) _, (0 : Int)) = _
  rw [exS2, exS3, exS4]
  decide +kernel
theorem below_allocs1 {w W : World} {o : Obj} (h : Below (w.alloc o).heap.size (w.alloc o) W) : Below w.heap.size w W := (below_alloc (Below.refl _ _) _).trans (h.mono (by simp))
theorem below_allocs2 {w W : World} {o o2 : Obj} (h : Below ((w.alloc o).alloc o2).heap.size ((w.alloc o).alloc o2) W) : Below w.heap.size w W := below_allocs1 (below_allocs1 h)

set_option maxHeartbeats 4000000 in
set_option maxRecDepth 100000 in
theorem law_ranked (w : World) : Calls Try.prog 20 #[] w fun e w' => e = .returned (.bool true) ∧ Below w.heap.size w w' := by
  have HB := Aside0.mk (Below.refl w.heap.size w)
  refine calls_of_marks Try.func20 rfl ?_
  simp only [Try.ntmps20, List.size_toArray, List.length_cons, List.length_nil, Nat.reduceAdd, Nat.reduceSub, Array.replicate_succ, Array.replicate_zero, List.push_toArray, List.append_toArray, List.nil_append, List.cons_append]
  go_wp2_with fail
  refine (skInverse _ [2, 0, 1] _ exInverse _ (Sl.lit_at _ _ (by simp) _ [2, 0, 1] _ rfl (by simp))).mono ?_
  rintro en w1 ⟨va, rfl, Sa, hb⟩
  replace hb := below_allocs1 hb
  replace HB := Aside0.mk (HB.out.trans (hb.mono HB.out.size))
  clear hb
  replace Sa := Aside0.mk Sa
  go_wp2_with fail
  refine (skCompose _ _ _ _ _ exCompose _ ((Sl.lit_at _ _ (by simp) _ [2, 0, 1] _ rfl (by simp)).alloc _) (Sl.lit_at _ _ (by simp) _ [1, 2, 0] _ rfl (by simp))).mono ?_
  rintro en w2 ⟨vb, rfl, Sb, hb⟩
  replace hb := below_allocs2 hb
  replace Sa := Aside0.mk (Sa.out.mono hb)
  replace HB := Aside0.mk (HB.out.trans (hb.mono HB.out.size))
  clear hb
  replace Sb := Aside0.mk Sb
  go_wp2_with fail
  refine (skSplit _ _ _ _ _ exSplit _ ((Sl.lit_at _ _ (by simp) _ [1, 0, 1, 0] _ rfl (by simp)).alloc _) (Sl.lit_at _ _ (by simp) _ [2, 2] _ rfl (by simp))).mono ?_
  rintro en w3 ⟨vc, rfl, Sc, hb⟩
  replace hb := below_allocs2 hb
  replace Sa := Aside0.mk (Sa.out.mono hb)
  replace Sb := Aside0.mk (Sb.out.mono hb)
  replace HB := Aside0.mk (HB.out.trans (hb.mono HB.out.size))
  clear hb
  replace Sc := Aside0.mk Sc
  go_wp2_with fail
  refine (skOrder _ _ _ _ _ exOrder _ ((Sl.lit_at _ _ (by simp) _ [5, -1, 5, 2] _ rfl (by simp)).alloc _) (Sl.lit_at _ _ (by simp) _ [4] _ rfl (by simp))).mono ?_
  rintro en w4 ⟨vd, rfl, Sd, hb⟩
  replace hb := below_allocs2 hb
  replace Sa := Aside0.mk (Sa.out.mono hb)
  replace Sb := Aside0.mk (Sb.out.mono hb)
  replace Sc := Aside0.mk (Sc.out.mono hb)
  replace HB := Aside0.mk (HB.out.trans (hb.mono HB.out.size))
  clear hb
  replace Sd := Aside0.mk Sd
  go_wp2_with fail
  refine (skPasses _ _ _ _ 1 _ exPasses _ ((Sl.lit_at _ _ (by simp) _ [5, -1, 5, 2] _ rfl (by simp)).alloc _) (Sl.lit_at _ _ (by simp) _ [4] _ rfl (by simp))).mono ?_
  rintro en w5 ⟨vk, rfl, Sk_, hb⟩
  replace hb := below_allocs2 hb
  replace Sa := Aside0.mk (Sa.out.mono hb)
  replace Sb := Aside0.mk (Sb.out.mono hb)
  replace Sc := Aside0.mk (Sc.out.mono hb)
  replace Sd := Aside0.mk (Sd.out.mono hb)
  replace HB := Aside0.mk (HB.out.trans (hb.mono HB.out.size))
  clear hb
  replace Sk_ := Aside0.mk Sk_
  go_wp2_with fail
  refine (skEqual _ [1, 2, 0] _ [1, 2, 0] true (by decide) _ (Sa.out _ (by repeat (first | exact Below.refl _ _ | apply below_alloc | apply pw_below_drewN))) (Sl.lit_at _ _ (by simp) _ [1, 2, 0] _ rfl (by simp))).mono ?_
  rintro en w6 ⟨rfl, hb⟩
  replace hb := below_allocs1 hb
  replace Sa := Aside0.mk (Sa.out.mono hb)
  replace Sb := Aside0.mk (Sb.out.mono hb)
  replace Sc := Aside0.mk (Sc.out.mono hb)
  replace Sd := Aside0.mk (Sd.out.mono hb)
  replace Sk_ := Aside0.mk (Sk_.out.mono hb)
  replace HB := Aside0.mk (HB.out.trans (hb.mono HB.out.size))
  clear hb
  clear Sa
  go_wp2_with fail
  refine (skEqual _ [0, 1, 2] _ [0, 1, 2] true (by decide) _ (Sb.out _ (by repeat (first | exact Below.refl _ _ | apply below_alloc | apply pw_below_drewN))) (Sl.lit_at _ _ (by simp) _ [0, 1, 2] _ rfl (by simp))).mono ?_
  rintro en w7 ⟨rfl, hb⟩
  replace hb := below_allocs1 hb
  replace Sb := Aside0.mk (Sb.out.mono hb)
  replace Sc := Aside0.mk (Sc.out.mono hb)
  replace Sd := Aside0.mk (Sd.out.mono hb)
  replace Sk_ := Aside0.mk (Sk_.out.mono hb)
  replace HB := Aside0.mk (HB.out.trans (hb.mono HB.out.size))
  clear hb
  clear Sb
  go_wp2_with fail
  refine (skEqual _ [1, 0, 3, 2] _ [1, 0, 3, 2] true (by decide) _ (Sc.out _ (by repeat (first | exact Below.refl _ _ | apply below_alloc | apply pw_below_drewN))) (Sl.lit_at _ _ (by simp) _ [1, 0, 3, 2] _ rfl (by simp))).mono ?_
  rintro en w8 ⟨rfl, hb⟩
  replace hb := below_allocs1 hb
  replace Sc := Aside0.mk (Sc.out.mono hb)
  replace Sd := Aside0.mk (Sd.out.mono hb)
  replace Sk_ := Aside0.mk (Sk_.out.mono hb)
  replace HB := Aside0.mk (HB.out.trans (hb.mono HB.out.size))
  clear hb
  clear Sc
  go_wp2_with fail
  refine (skEqual _ [2, 0, 3, 1] _ [2, 0, 3, 1] true (by decide) _ (Sd.out _ (by repeat (first | exact Below.refl _ _ | apply below_alloc | apply pw_below_drewN))) (Sl.lit_at _ _ (by simp) _ [2, 0, 3, 1] _ rfl (by simp))).mono ?_
  rintro en w9 ⟨rfl, hb⟩
  replace hb := below_allocs1 hb
  replace Sd := Aside0.mk (Sd.out.mono hb)
  replace Sk_ := Aside0.mk (Sk_.out.mono hb)
  replace HB := Aside0.mk (HB.out.trans (hb.mono HB.out.size))
  clear hb
  clear Sd
  go_wp2_with fail
  refine (skEqual _ [1, 2, 3, 0] _ [1, 2, 3, 0] true (by decide) _ (Sk_.out _ (by repeat (first | exact Below.refl _ _ | apply below_alloc | apply pw_below_drewN))) (Sl.lit_at _ _ (by simp) _ [1, 2, 3, 0] _ rfl (by simp))).mono ?_
  rintro en w10 ⟨rfl, hb⟩
  replace hb := below_allocs1 hb
  replace Sk_ := Aside0.mk (Sk_.out.mono hb)
  replace HB := Aside0.mk (HB.out.trans (hb.mono HB.out.size))
  clear hb
  clear Sk_
  go_wp2_with fail
  refine (skMerge _ _ _ _ _ exMerge _ ((Sl.lit_at _ _ (by simp) _ [1, 3, 3] _ rfl (by simp)).alloc _) (Sl.lit_at _ _ (by simp) _ [2, 3, 4] _ rfl (by simp))).mono ?_
  rintro en w11 ⟨vx, vy, rfl, Sx, Sy, hb⟩
  replace hb := below_allocs2 hb
  replace HB := Aside0.mk (HB.out.trans (hb.mono HB.out.size))
  clear hb
  replace Sx := Aside0.mk Sx
  replace Sy := Aside0.mk Sy
  go_wp2_with fail
  refine (skRanks _ _ _ _ _ exRanks _ ((Sl.lit_at _ _ (by simp) _ [2, 1, 4, 3, 3] _ rfl (by simp)).alloc _) (Sl.lit_at _ _ (by simp) _ [2, 0, 3] _ rfl (by simp))).mono ?_
  rintro en w12 ⟨vl, rfl, Sl_, hb⟩
  replace hb := below_allocs2 hb
  replace Sx := Aside0.mk (Sx.out.mono hb)
  replace Sy := Aside0.mk (Sy.out.mono hb)
  replace HB := Aside0.mk (HB.out.trans (hb.mono HB.out.size))
  clear hb
  replace Sl_ := Aside0.mk Sl_
  go_wp2_with fail
  refine (skFirsts _ _ _ _ _ exFirsts _ ((Sl.lit_at _ _ (by simp) _ [2, 1, 4, 3, 3] _ rfl (by simp)).alloc _) (Sl.lit_at _ _ (by simp) _ [2, 0, 3] _ rfl (by simp))).mono ?_
  rintro en w13 ⟨vm, vn, rfl, Sm, Sn, hb⟩
  replace hb := below_allocs2 hb
  replace Sx := Aside0.mk (Sx.out.mono hb)
  replace Sy := Aside0.mk (Sy.out.mono hb)
  replace Sl_ := Aside0.mk (Sl_.out.mono hb)
  replace HB := Aside0.mk (HB.out.trans (hb.mono HB.out.size))
  clear hb
  replace Sm := Aside0.mk Sm
  replace Sn := Aside0.mk Sn
  go_wp2_with fail
  refine (skEqual _ [0, 2, 3] _ [0, 2, 3] true (by decide) _ (Sx.out _ (by repeat (first | exact Below.refl _ _ | apply below_alloc | apply pw_below_drewN))) (Sl.lit_at _ _ (by simp) _ [0, 2, 3] _ rfl (by simp))).mono ?_
  rintro en w14 ⟨rfl, hb⟩
  replace hb := below_allocs1 hb
  replace Sx := Aside0.mk (Sx.out.mono hb)
  replace Sy := Aside0.mk (Sy.out.mono hb)
  replace Sl_ := Aside0.mk (Sl_.out.mono hb)
  replace Sm := Aside0.mk (Sm.out.mono hb)
  replace Sn := Aside0.mk (Sn.out.mono hb)
  replace HB := Aside0.mk (HB.out.trans (hb.mono HB.out.size))
  clear hb
  clear Sx
  go_wp2_with fail
  refine (skEqual _ [1, 4, 5] _ [1, 4, 5] true (by decide) _ (Sy.out _ (by repeat (first | exact Below.refl _ _ | apply below_alloc | apply pw_below_drewN))) (Sl.lit_at _ _ (by simp) _ [1, 4, 5] _ rfl (by simp))).mono ?_
  rintro en w15 ⟨rfl, hb⟩
  replace hb := below_allocs1 hb
  replace Sy := Aside0.mk (Sy.out.mono hb)
  replace Sl_ := Aside0.mk (Sl_.out.mono hb)
  replace Sm := Aside0.mk (Sm.out.mono hb)
  replace Sn := Aside0.mk (Sn.out.mono hb)
  replace HB := Aside0.mk (HB.out.trans (hb.mono HB.out.size))
  clear hb
  clear Sy
  go_wp2_with fail
  refine (skEqual _ [1, 0, 1, 0, 0] _ [1, 0, 1, 0, 0] true (by decide) _ (Sl_.out _ (by repeat (first | exact Below.refl _ _ | apply below_alloc | apply pw_below_drewN))) (Sl.lit_at _ _ (by simp) _ [1, 0, 1, 0, 0] _ rfl (by simp))).mono ?_
  rintro en w16 ⟨rfl, hb⟩
  replace hb := below_allocs1 hb
  replace Sl_ := Aside0.mk (Sl_.out.mono hb)
  replace Sm := Aside0.mk (Sm.out.mono hb)
  replace Sn := Aside0.mk (Sn.out.mono hb)
  replace HB := Aside0.mk (HB.out.trans (hb.mono HB.out.size))
  clear hb
  clear Sl_
  go_wp2_with fail
  refine (skEqual _ [0, 1, 2, 3] _ [0, 1, 2, 3] true (by decide) _ (Sm.out _ (by repeat (first | exact Below.refl _ _ | apply below_alloc | apply pw_below_drewN))) (Sl.lit_at _ _ (by simp) _ [0, 1, 2, 3] _ rfl (by simp))).mono ?_
  rintro en w17 ⟨rfl, hb⟩
  replace hb := below_allocs1 hb
  replace Sm := Aside0.mk (Sm.out.mono hb)
  replace Sn := Aside0.mk (Sn.out.mono hb)
  replace HB := Aside0.mk (HB.out.trans (hb.mono HB.out.size))
  clear hb
  clear Sm
  go_wp2_with fail
  refine (skEqual _ [2, 0, 2] _ [2, 0, 2] true (by decide) _ (Sn.out _ (by repeat (first | exact Below.refl _ _ | apply below_alloc | apply pw_below_drewN))) (Sl.lit_at _ _ (by simp) _ [2, 0, 2] _ rfl (by simp))).mono ?_
  rintro en w18 ⟨rfl, hb⟩
  replace hb := below_allocs1 hb
  replace Sn := Aside0.mk (Sn.out.mono hb)
  replace HB := Aside0.mk (HB.out.trans (hb.mono HB.out.size))
  clear hb
  clear Sn
  go_wp2_with fail
  refine (skCheck _ _ _ exCheck1 _ (Sl.lit_at _ _ (by simp) _ [2, 0, 1] _ rfl (by simp))).mono ?_
  rintro en w19 ⟨rfl, hb⟩
  replace hb := below_allocs1 hb
  replace HB := Aside0.mk (HB.out.trans (hb.mono HB.out.size))
  clear hb
  go_wp2_with fail
  refine (skCheck _ _ _ exCheck2 _ (Sl.lit_at _ _ (by simp) _ [0, 0] _ rfl (by simp))).mono ?_
  rintro en w20 ⟨rfl, hb⟩
  replace hb := below_allocs1 hb
  replace HB := Aside0.mk (HB.out.trans (hb.mono HB.out.size))
  clear hb
  go_wp2
  unfold MarksPost
  refine Marks.zero _ (results_tmp rfl _ _ _) ?_
  exact ⟨rfl, HB.out⟩
def law_ranked.f : Option Bool := some true
theorem law_ranked.calls (r : Bool) (w : World) (h : law_ranked.f = some r) :
    Calls Try.prog 20 #[] w fun e w' => e = .returned (.bool r) ∧ Below w.heap.size w w' := by
  have h2 : true = r := by injection h
  subst h2
  exact law_ranked w
end Go.Proofs.Ytnkepaenpoadpaa.Hand
