/- prim: the maker: put appends to its list, done hands the list back, many appends a word many times, all collects what a function value says. -/
import Derived.Test.YtpimackoadfcmaaDoorHprim1
namespace Go.Proofs.YtpimackoadfcmaaDoor.Hand
open Go.RowKit Go.Proofs.YtpimackoadfcmaaDoorW.PrintWords Go.Proofs.YtpimackoadfcmaaDoorW.PrintLast Go.Proofs.YtpimackoadfcmaaDoorW.PrintMore
set_option linter.unusedVariables false
set_option linter.unusedSimpArgs false
theorem infoInt : (Tryd.prog.info? 3).map (fun i => (i.zero, i.size, i.bytes)) = some (some (.int .i64 0), 1, 8) := by kernel_rfl

/-- Block M is a maker (or a list): its list is the slice value v. -/
abbrev Mk (w : World) (M : Nat) (v : Value) (b : Bool) : Prop := w.heap[M]? = some (.cells #[v, .bool b] 61 (0, 0))

set_option maxHeartbeats 4000000 in
set_option maxRecDepth 100000 in
theorem list_put (M : Nat) (v : Value) (b : Bool) (base : Nat) (ok : Nat → Prop) (xs ys : List Int) (A : Option Addr) (c : Nat) (w : World)
    (hM : Mk w M v b) (hR : (Kd.int .i64).R 3 w base ok v xs) (hC : (Kd.int .i64).C w A ys.length ys) (hf : ∀ k, w.heap.size ≤ k → ok k) (hbase : base ≤ w.heap.size) (hl : (xs.length + ys.length) * 8 ≤ 140737488355328) :
    Calls Tryd.prog 64 #[.pointer (some ⟨M, 0, none⟩), .slice A ys.length c] w fun e w' => e = .returned (.tuple #[]) ∧ ∃ v', Mk w' M v' b ∧ (Kd.int .i64).R 3 w' base ok v' (xs ++ ys) ∧ Kp (fun k => k = M ∨ some k = v.ownBlock) w w' := by
  have hc0 : w.cell? ⟨M, 0, none⟩ = some v := blk_cell hM 0
  have HM := Aside0.mk hM
  have HR := Aside0.mk hR
  have HC := Aside0.mk hC
  have HF := Aside0.mk hf
  have HL := Aside0.mk hl
  have HB := Aside0.mk hbase
  clear hM hR hC hf hl hbase
  go_enter Tryd.func64, Tryd.ntmps64
  go_wp2_with (at_builtin; refine Kd.R_append_row (w0 := w) (Value.int .i64) (0 : Int) (h1 := fun _ => rfl) base rfl _ _ 22 3 (.int .i64 0) 8 rfl Tryd.underlying22 infoInt rfl (by decide) v xs ys A ys.length c ok rfl rfl HF.out HR.out HC.out (Below.refl _ _) HB.out HL.out ?_; intro v1 w1 R1 hb1 hg1 hat; have M1 := blk_grown HM.out hg1 (Kd.R_ne HR.out HM.out (by decide)); have c1 : w1.cell? ⟨M, 0, none⟩ = some v := blk_cell M1 0; have f1 := blk_frozen M1 0; obtain ⟨A1, cap1, rfl⟩ := Kd.R_slice R1; replace M1 := Aside0.mk M1; replace R1 := Aside0.mk R1; replace hg1 := Aside0.mk hg1; clear hb1 hat)
  go_end0
  exact ⟨rfl, _, blk_set M1.out 0 _, (by have h := Kd.R_set R1.out M1.out (by decide) 0 (.slice A1 (xs ++ ys).length cap1); rw [List.length_append] at h; exact h), ((Kp.refl _ _).grown hg1.out (fun k e => .inl (.inr e.symm))).setCell _ (.inl (.inl rfl)) _⟩

set_option maxHeartbeats 4000000 in
set_option maxRecDepth 100000 in
theorem list_done (M : Nat) (A : Option Addr) (b : Bool) (n c : Nat) (w : World) (hM : Mk w M (.slice A n c) b) (hn : n ≤ c) (hc : c ≤ 9223372036854775807) :
    Calls Tryd.prog 65 #[.pointer (some ⟨M, 0, none⟩)] w fun e w' => e = .returned (.slice A n n) ∧ Drawn0 w w' := by
  have hc0 : w.cell? ⟨M, 0, none⟩ = some (.slice A n c) := blk_cell hM 0
  clear hM
  go_enter Tryd.func65, Tryd.ntmps65
  go_wp2
  go_quiet (fail)
  go_wp2
  go_ret
  exact ⟨rfl, ⟨_, rfl⟩⟩

/-- What a function value says at the places from 0 on; it traps where it says false. -/
def allOf (n : Nat) (val : Int → Int) (okb : Int → Bool) : List Int × Int := if (List.range n).all (fun (i : Nat) => okb (i : Int)) then ((List.range n).map (fun (i : Nat) => val (i : Int)), 0) else ([], 14)
def upTo (val : Int → Int) (x : Int) : List Int := (List.range x.toNat).map (fun (i : Nat) => val (i : Int))
theorem upTo_succ (val : Int → Int) (x : Int) (h0 : 0 ≤ x) : upTo val (x + 1) = upTo val x ++ [val x] := by
  unfold upTo
  have e : (x + 1).toNat = x.toNat + 1 := by omega
  have e2 : ((x.toNat : Nat) : Int) = x := by omega
  rw [e, List.range_succ, List.map_append, List.map_singleton, e2]
theorem upTo_length (val : Int → Int) (x : Int) : (upTo val x).length = x.toNat := by simp [upTo]
theorem allOf_yes (n : Nat) (val : Int → Int) (okb : Int → Bool) (h : ∀ j : Int, 0 ≤ j → j < n → okb j = true) : allOf n val okb = (upTo val n, 0) := by
  unfold allOf
  rw [if_pos (by rw [List.all_eq_true]; intro j hj; rw [List.mem_range] at hj; exact h j (by omega) (by omega))]
  rfl
theorem allOf_no (n : Nat) (val : Int → Int) (okb : Int → Bool) (x : Int) (h0 : 0 ≤ x) (hx : x < n) (h : okb x = false) : allOf n val okb = ([], 14) := by
  unfold allOf
  rw [if_neg]
  rw [List.all_eq_true]
  intro hh
  have e2 : ((x.toNat : Nat) : Int) = x := by omega
  have := hh x.toNat (by rw [List.mem_range]; omega)
  rw [e2, h] at this
  exact absurd this (by decide)

set_option maxHeartbeats 4000000 in
set_option maxRecDepth 100000 in
theorem each_all (g : Nat) (fst cap : Array Value) (n : Nat) (val : Int → Int) (okb : Int → Bool) (w : World) (hg : ∀ args W, Sem.run Tryd.prog (callFunc g args) W = .ok (.enter g args) W) (hn : n ≤ 1048576)
    (hp : ∀ x, 0 ≤ x → x < (n : Int) → ∀ W, Below w.heap.size w W → Calls Tryd.prog g (fst.push (.int .i64 x) ++ cap) W fun e W' => e = .returned (.tuple #[.int .i64 (val x), .bool (okb x)]) ∧ Below W.heap.size W W') :
    Calls Tryd.prog 55 #[.agg #[.func (.func g) fst cap], .int .i64 n] w fun e w' => ∃ v, e = .returned (.tuple #[v, .int .i64 (allOf n val okb).2]) ∧ Kd.V (Kd.int .i64) 3 w' w.heap.size (fun k => w.heap.size ≤ k) v (allOf n val okb).1 ∧ Below w.heap.size w w' := by
  have HP := Aside0.mk hp
  clear hp
  obtain ⟨w2, hw2⟩ : ∃ w2 : World, w2 = (w.alloc (Obj.cells #[Value.func (Fn.func g) fst cap] 50)).alloc (Obj.cells #[Value.slice none 0 0, Value.bool false] 61) := ⟨_, rfl⟩
  have z2 : w2.heap.size = w.heap.size + 2 := by rw [hw2]; simp
  have m2 : Mk w2 (w.heap.size + 1) (.slice none 0 0) false := by
    rw [hw2]
    exact blk_new_at (by simp) _
  have d2 : w2.heap[w.heap.size]? = some (.cells #[Value.func (Fn.func g) fst cap] 50 (0, 0)) := by
    rw [hw2]
    exact blk_alloc (blk_new w _) _
  have b2 : Below w.heap.size w w2 := by rw [hw2]; exact below_alloc (below_alloc (Below.refl _ _) _) _
  have Z2 := Aside0.mk z2
  have M2 := Aside0.mk m2
  have D2 := Aside0.mk d2
  have B2 := Aside0.mk b2
  clear z2 m2 d2 b2
  go_enter Tryd.func55, Tryd.ntmps55
  go_wp2
  rw [← hw2]
  replace hw2 := Aside0.mk hw2
  go_loopw [18] (fun i W => ∃ (x : Int) (v : Value), i = .int .i64 x ∧ 0 ≤ x ∧ x ≤ n ∧ Aside0 (Mk W (w.heap.size + 1) v false) ∧ Aside0 ((Kd.int .i64).R 3 W (w.heap.size + 2) (fun k => w.heap.size + 2 ≤ k) v (upTo val x)) ∧ Aside0 (∀ j, 0 ≤ j → j < x → okb j = true) ∧ Aside0 (Kp (fun k => k = w.heap.size + 1 ∨ w.heap.size + 2 ≤ k) w2 W)) (fun i _ => n - (intOf i).toNat)
  case atStart => exact ⟨0, _, rfl, by omega, by omega, M2, ⟨Kd.R_nil _ _ _ _ _⟩, ⟨by omega⟩, ⟨Kp.refl _ _⟩⟩
  case round =>
    obtain ⟨x, v, rfl, p0, p1, HM, HR, HO, HK⟩ := hrel
    by_cases hlt : x < n
    · have hd := HK.out.blk D2.out (by omega)
      have c0 : wr.cell? ⟨w.heap.size, 0, none⟩ = some (.func (.func g) fst cap) := blk_cell hd 0
      clear hd
      have HB : Below w.heap.size w wr := B2.out.trans (HK.out.below (fun k hk => ⟨by rw [Z2.out]; omega, by omega⟩))
      have HP1 := Aside0.mk (HP.out x p0 hlt wr HB)
      replace HB := Aside0.mk HB
      cases hb : okb x
      · have Hb := Aside0.mk hb
        go_wp2_with ((with_reducible refine (HP1.out).mono ?_); rintro e w3 ⟨rfl, hb3⟩)
        go_ret2
        exact ⟨_, by rw [allOf_no n val okb x p0 hlt Hb.out]; rfl, by rw [allOf_no n val okb x p0 hlt Hb.out]; exact Kd.V_nil _ _ _ _ _, HB.out.trans (hb3.mono HB.out.size)⟩
      · have Hb := Aside0.mk hb
        go_wp2_with ((with_reducible refine (HP1.out).mono ?_); rintro e w3 ⟨rfl, hb3⟩)
        have M3 : Mk w3 (w.heap.size + 1) v false := blk_below HM.out hb3
        have R3 := Kd.R_below HR.out hb3
        have s3 : w.heap.size + 2 ≤ w3.heap.size := by have := HK.out.size; rw [Z2.out] at this; exact Nat.le_trans this hb3.size
        refine (list_put (w.heap.size + 1) v false (w.heap.size + 2) (fun k => w.heap.size + 2 ≤ k) (upTo val x) [val x] _ _ _ (blk_alloc M3 _) (Kd.R_alloc R3 _) (lit_ints _ _ [val x] _ rfl (by simp)) (fun k hk => ?_) ?_ ?_).mono ?_
        · simp at hk; omega
        · simp; omega
        · rw [upTo_length]; simp; omega
        · rintro e w4 ⟨rfl, v4, M4, R4, K4⟩
          rw [← upTo_succ val x p0] at R4
          have K5 := Aside0.mk (((HK.out.thenBelow hb3).alloc _).trans K4 (fun k hk => .inl (hk.imp_right (fun e => HR.out.1 k e.symm))))
          replace M4 := Aside0.mk M4
          replace R4 := Aside0.mk R4
          clear K4 M3 R3 hb3
          go_wp2
          go_roundw
          case rel => exact ⟨x + 1, v4, rfl, by omega, by omega, M4, R4, ⟨fun j h0 h1 => by
            by_cases hj : j < x
            · exact HO.out j h0 hj
            · obtain rfl : j = x := by omega
              exact Hb.out⟩, K5⟩
          case measure => simp [intOf]; omega
    · have hx : x = n := by omega
      have Hx := Aside0.mk hx
      clear hx
      obtain ⟨A1, c1, rfl⟩ := Kd.R_slice HR.out
      have hl1 := (Kd.R_reads' HR.out).2.1
      have HD := Aside0.mk (list_done (w.heap.size + 1) A1 false (upTo val x).length c1 wr HM.out (by omega) (R_cap HR.out))
      go_wp2_with ((with_reducible refine (HD.out).mono ?_); rintro e w3 ⟨rfl, hd3⟩)
      go_ret2
      have hy : allOf n val okb = (upTo val x, 0) := by rw [Hx.out]; exact allOf_yes n val okb (fun j h0 h1 => HO.out j h0 (by rw [Hx.out]; exact h1))
      obtain ⟨m, rfl⟩ := hd3
      refine ⟨_, by rw [hy]; rfl, ?_, ?_⟩
      · rw [hy]
        exact Kd.V_mono (Kd.V_drewN (V_cut HR.out) _) (fun k hk => by omega)
      · exact pw_below_drewN (B2.out.trans (HK.out.below (fun k hk => ⟨by rw [Z2.out]; omega, by omega⟩))) _

/-- A list and whether it is full, behind 'many'. -/
def manyG (xs : List Int) (b : Bool) (n t : Int) : List Int × Bool := if b || decide (1048576 - (xs.length : Int) < t) then (xs, true) else (xs ++ List.replicate t.toNat n, false)
def ManyP (M base : Nat) (ok : Nat → Prop) (w : World) (G : List Int × Bool) (e : Ending) (w' : World) : Prop := e = .returned (.tuple #[]) ∧ ∃ v', Mk w' M v' G.2 ∧ (Kd.int .i64).R 3 w' base ok v' G.1 ∧ Kp (fun k => k = M ∨ ok k) w w'
theorem R_cellset {base M : Nat} {ok : Nat → Prop} {w : World} {v v2 : Value} {b : Bool} {xs : List Int} (hM : Mk w M v2 b) (hR : (Kd.int .i64).R 3 w base ok v xs) (j : Nat) (u : Value) : (Kd.int .i64).R 3 (w.setCell ⟨M, j, none⟩ u) base ok v xs := Kd.R_set hR hM (by decide) j u
set_option maxHeartbeats 4000000 in
set_option maxRecDepth 100000 in
theorem maker_many (M : Nat) (v : Value) (b : Bool) (base : Nat) (ok : Nat → Prop) (xs : List Int) (n t : Int) (w : World)
    (hM : Mk w M v b) (hR : (Kd.int .i64).R 3 w base ok v xs) (hf : ∀ k, w.heap.size ≤ k → ok k) (hbase : base ≤ w.heap.size) (hl : xs.length ≤ 1048576) :
    Calls Tryd.prog 73 #[.pointer (some ⟨M, 0, none⟩), .int .i64 n, .int .i64 t] w (ManyP M base ok w (manyG xs b n t)) := by
  obtain ⟨A, c, rfl⟩ := Kd.R_slice hR
  have c0 : w.cell? ⟨M, 0, none⟩ = some (.slice A xs.length c) := blk_cell hM 0
  have c1 : w.cell? ⟨M, 1, none⟩ = some (.bool b) := blk_cell hM 1
  have f1 := blk_frozen hM 1
  have HM := Aside0.mk hM
  have HR := Aside0.mk hR
  have HF := Aside0.mk hf
  have HB := Aside0.mk hbase
  clear hM hR hf hbase
  unfold manyG
  cases b
  · by_cases h1 : 1048576 - (xs.length : Int) < t
    · rw [if_pos (by simp [h1])]
      have z1 : decide (1048576 - (xs.length : Int) < t) = true := decide_eq_true h1
      clear h1
      go_enter Tryd.func73, Tryd.ntmps73
      go_wp2
      go_end0
      exact ⟨rfl, _, blk_set HM.out 1 _, R_cellset HM.out HR.out 1 _, (Kp.refl _ _).setCell _ (.inl (.inl rfl)) _⟩
    · rw [if_neg (by simp [h1])]
      have z1 : decide (1048576 - (xs.length : Int) < t) = false := decide_eq_false h1
      have h2 : t ≤ 1048576 - (xs.length : Int) := by omega
      clear h1
      obtain ⟨w1, hw1⟩ : ∃ w1 : World, w1 = w.setCell ⟨M, 1, none⟩ (.bool false) := ⟨_, rfl⟩
      have M1 : Mk w1 M (.slice A xs.length c) false := by rw [hw1]; exact blk_set HM.out 1 _
      have R1 := R_cellset HM.out HR.out 1 (.bool false)
      rw [← hw1] at R1
      have K1 : Kp (fun k => k = M ∨ ok k) w w1 := by rw [hw1]; exact (Kp.refl _ _).setCell _ (.inl (.inl rfl)) _
      replace M1 := Aside0.mk M1
      replace R1 := Aside0.mk R1
      replace K1 := Aside0.mk K1
      go_enter Tryd.func73, Tryd.ntmps73
      go_wp2
      rw [← hw1]
      replace hw1 := Aside0.mk hw1
      go_loopw [34] (fun i W => ∃ (x : Int) (v : Value), i = .int .i64 x ∧ 0 ≤ x ∧ (0 < t → x ≤ t) ∧ (t ≤ 0 → x = 0) ∧ Aside0 (Mk W M v false) ∧ Aside0 ((Kd.int .i64).R 3 W base ok v (xs ++ List.replicate x.toNat n)) ∧ Aside0 (Kp (fun k => k = M ∨ ok k) w W)) (fun i _ => t.toNat - (intOf i).toNat)
      case atStart => exact ⟨0, _, rfl, by omega, by omega, by omega, M1, ⟨by simpa using R1.out⟩, K1⟩
      case round =>
        obtain ⟨x, v, rfl, p0, p1, p2, HM, HR, HK⟩ := hrel
        by_cases hlt : x < t
        · have hle := Aside0.mk HK.out.size
          have hl' := Aside0.mk hl
          have hx := Aside0.mk p1
          clear p1 p2
          go_wp2_with fail
          refine (list_put M v false base ok (xs ++ List.replicate x.toNat n) [n] _ _ _ (blk_alloc HM.out _) (Kd.R_alloc HR.out _) (lit_ints _ _ [n] _ rfl (by simp)) (fun k hk => HF.out k ?_) ?_ ?_).mono ?_
          · have := hle.out; simp at hk; omega
          · have := hle.out; have := HB.out; simp; omega
          · have := hl'.out; simp; omega
          · rintro e w4 ⟨rfl, v4, M4, R4, K4⟩
            have e4 : xs ++ List.replicate x.toNat n ++ [n] = xs ++ List.replicate (x + 1).toNat n := by
              have e5 : (x + 1).toNat = x.toNat + 1 := by omega
              rw [e5, List.append_assoc, List.replicate_succ']
            rw [e4] at R4
            have K5 := Aside0.mk ((HK.out.alloc _).trans K4 (fun k hk => .inl (hk.imp_right (fun e => HR.out.1 k e.symm))))
            replace M4 := Aside0.mk M4
            replace R4 := Aside0.mk R4
            clear K4 e4
            go_wp2
            go_roundw
            case rel => exact ⟨x + 1, v4, rfl, by omega, by omega, by omega, M4, R4, K5⟩
            case measure => simp [intOf]; omega
        · have ex : x.toNat = t.toNat := by omega
          have Ex := Aside0.mk ex
          clear ex
          go_wp2
          go_end0
          rw [Ex.out] at HR
          exact ⟨rfl, v, HM.out, HR.out, HK.out⟩
  · rw [if_pos (by simp)]
    go_enter Tryd.func73, Tryd.ntmps73
    go_wp2
    refine bodyPost_ret (results_none rfl _ _ _) rfl ?_
    exact ⟨rfl, _, blk_set HM.out 1 _, R_cellset HM.out HR.out 1 _, (Kp.refl _ _).setCell _ (.inl (.inl rfl)) _⟩
end Go.Proofs.YtpimackoadfcmaaDoor.Hand
