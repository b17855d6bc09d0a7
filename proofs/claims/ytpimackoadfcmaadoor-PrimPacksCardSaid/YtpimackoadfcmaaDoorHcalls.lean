/- The contracts of the chapter's functions, in the form that the session's printer takes. -/
import Derived.Test.YtpimackoadfcmaaDoorHdone
namespace Go.Proofs.YtpimackoadfcmaaDoor.Hand
open Go.RowKit Go.Proofs.YtpimackoadfcmaaDoorW.PrintWords Go.Proofs.YtpimackoadfcmaaDoorW.PrintLast Go.Proofs.YtpimackoadfcmaaDoorW.PrintMore
set_option linter.unusedVariables false

def pFill.f (a0 : Int) (l1 : List Int) : Option (List Int × Int) := some (prim_Fill.g a0 l1)
theorem pFill.calls (a0 : Int) (A1 : Option Addr) (c1 : Nat) (l1 : List Int) (r1 : List Int) (r2 : Int) (w : World) (hr1 : Kd.C (Kd.int .i64) w A1 l1.length l1) (hc1 : l1.length ≤ c1) (h : pFill.f a0 l1 = some (r1, r2)) :
    Calls Tryd.prog 13 #[.int .i64 a0, .slice A1 l1.length c1] w fun e w' => ∃ v0_ : Value, e = .returned (.tuple #[v0_, .int .i64 r2]) ∧ Kd.V (Kd.int .i64) 3 w' w.heap.size (fun k_ => w.heap.size ≤ k_) v0_ r1 ∧ Below w.heap.size w w' := by
  have h2 : prim_Fill.g a0 l1 = (r1, r2) := by injection h
  have H := prim_Fill.run a0 A1 c1 l1 w hr1 hc1
  rw [h2] at H
  exact H
def pBin.f (a0 : Int) (l1 : List Int) (l2 : List Int) : Option (List Int × Int) := some (prim_Bin.g a0 l1 l2)
theorem pBin.calls (a0 : Int) (A1 : Option Addr) (c1 : Nat) (l1 : List Int) (A2 : Option Addr) (c2 : Nat) (l2 : List Int) (r1 : List Int) (r2 : Int) (w : World) (hG : Deeds w) (hr1 : Kd.C (Kd.int .i64) w A1 l1.length l1) (hc1 : l1.length ≤ c1) (hr2 : Kd.C (Kd.int .i64) w A2 l2.length l2) (hc2 : l2.length ≤ c2) (h : pBin.f a0 l1 l2 = some (r1, r2)) :
    Calls Tryd.prog 15 #[.int .i64 a0, .slice A1 l1.length c1, .slice A2 l2.length c2] w fun e w' => ∃ v0_ : Value, e = .returned (.tuple #[v0_, .int .i64 r2]) ∧ Kd.V (Kd.int .i64) 3 w' w.heap.size (fun k_ => w.heap.size ≤ k_) v0_ r1 ∧ Below w.heap.size w w' := by
  have h2 : prim_Bin.g a0 l1 l2 = (r1, r2) := by injection h
  have H := prim_Bin.run a0 A1 c1 l1 A2 c2 l2 w hG hr1 hc1 hr2 hc2
  rw [h2] at H
  exact H
def pPick.f (l0 : List Int) (l1 : List Int) (l2 : List Int) : Option (List Int × Int) := some (prim_Pick.g l0 l1 l2)
theorem pPick.calls (A0 : Option Addr) (c0 : Nat) (l0 : List Int) (A1 : Option Addr) (c1 : Nat) (l1 : List Int) (A2 : Option Addr) (c2 : Nat) (l2 : List Int) (r1 : List Int) (r2 : Int) (w : World) (hr0 : Kd.C (Kd.int .i64) w A0 l0.length l0) (hc0 : l0.length ≤ c0) (hr1 : Kd.C (Kd.int .i64) w A1 l1.length l1) (hc1 : l1.length ≤ c1) (hr2 : Kd.C (Kd.int .i64) w A2 l2.length l2) (hc2 : l2.length ≤ c2) (h : pPick.f l0 l1 l2 = some (r1, r2)) :
    Calls Tryd.prog 18 #[.slice A0 l0.length c0, .slice A1 l1.length c1, .slice A2 l2.length c2] w fun e w' => ∃ v0_ : Value, e = .returned (.tuple #[v0_, .int .i64 r2]) ∧ Kd.V (Kd.int .i64) 3 w' w.heap.size (fun k_ => w.heap.size ≤ k_) v0_ r1 ∧ Below w.heap.size w w' := by
  have h2 : prim_Pick.g l0 l1 l2 = (r1, r2) := by injection h
  have H := prim_Pick.run A0 c0 l0 A1 c1 l1 A2 c2 l2 w hr0 hc0 hr1 hc1 hr2 hc2
  rw [h2] at H
  exact H
def pOff.f (l0 : List Int) (l1 : List Int) : Option (List Int × Int) := some (prim_Off.g l0 l1)
theorem pOff.calls (A0 : Option Addr) (c0 : Nat) (l0 : List Int) (A1 : Option Addr) (c1 : Nat) (l1 : List Int) (r1 : List Int) (r2 : Int) (w : World) (hr0 : Kd.C (Kd.int .i64) w A0 l0.length l0) (hc0 : l0.length ≤ c0) (hr1 : Kd.C (Kd.int .i64) w A1 l1.length l1) (hc1 : l1.length ≤ c1) (h : pOff.f l0 l1 = some (r1, r2)) :
    Calls Tryd.prog 20 #[.slice A0 l0.length c0, .slice A1 l1.length c1] w fun e w' => ∃ v0_ : Value, e = .returned (.tuple #[v0_, .int .i64 r2]) ∧ Kd.V (Kd.int .i64) 3 w' w.heap.size (fun k_ => w.heap.size ≤ k_) v0_ r1 ∧ Below w.heap.size w w' := by
  have h2 : prim_Off.g l0 l1 = (r1, r2) := by injection h
  have H := prim_Off.run A0 c0 l0 A1 c1 l1 w hr0 hc0 hr1 hc1
  rw [h2] at H
  exact H
def pPack.f (l0 : List Int) (l1 : List Int) : Option (List Int × Int) := some (prim_Pack.g l0 l1)
theorem pPack.calls (A0 : Option Addr) (c0 : Nat) (l0 : List Int) (A1 : Option Addr) (c1 : Nat) (l1 : List Int) (r1 : List Int) (r2 : Int) (w : World) (hr0 : Kd.C (Kd.int .i64) w A0 l0.length l0) (hc0 : l0.length ≤ c0) (hr1 : Kd.C (Kd.int .i64) w A1 l1.length l1) (hc1 : l1.length ≤ c1) (h : pPack.f l0 l1 = some (r1, r2)) :
    Calls Tryd.prog 23 #[.slice A0 l0.length c0, .slice A1 l1.length c1] w fun e w' => ∃ v0_ : Value, e = .returned (.tuple #[v0_, .int .i64 r2]) ∧ Kd.V (Kd.int .i64) 3 w' w.heap.size (fun k_ => w.heap.size ≤ k_) v0_ r1 ∧ Below w.heap.size w w' := by
  have h2 : prim_Pack.g l0 l1 = (r1, r2) := by injection h
  have H := prim_Pack.run A0 c0 l0 A1 c1 l1 w hr0 hc0 hr1 hc1
  rw [h2] at H
  exact H
def pMerge.f (l0 : List Int) (l1 : List Int) (l2 : List Int) : Option (List Int × Int) := some (prim_Merge.g l0 l1 l2)
theorem pMerge.calls (A0 : Option Addr) (c0 : Nat) (l0 : List Int) (A1 : Option Addr) (c1 : Nat) (l1 : List Int) (A2 : Option Addr) (c2 : Nat) (l2 : List Int) (r1 : List Int) (r2 : Int) (w : World) (hr0 : Kd.C (Kd.int .i64) w A0 l0.length l0) (hc0 : l0.length ≤ c0) (hr1 : Kd.C (Kd.int .i64) w A1 l1.length l1) (hc1 : l1.length ≤ c1) (hr2 : Kd.C (Kd.int .i64) w A2 l2.length l2) (hc2 : l2.length ≤ c2) (h : pMerge.f l0 l1 l2 = some (r1, r2)) :
    Calls Tryd.prog 25 #[.slice A0 l0.length c0, .slice A1 l1.length c1, .slice A2 l2.length c2] w fun e w' => ∃ v0_ : Value, e = .returned (.tuple #[v0_, .int .i64 r2]) ∧ Kd.V (Kd.int .i64) 3 w' w.heap.size (fun k_ => w.heap.size ≤ k_) v0_ r1 ∧ Below w.heap.size w w' := by
  have h2 : prim_Merge.g l0 l1 l2 = (r1, r2) := by injection h
  have H := prim_Merge.run A0 c0 l0 A1 c1 l1 A2 c2 l2 w hr0 hc0 hr1 hc1 hr2 hc2
  rw [h2] at H
  exact H
def pGather.f (l0 : List Int) (l1 : List Int) : Option (List Int × Int) := some (prim_Gather.g l0 l1)
theorem pGather.calls (A0 : Option Addr) (c0 : Nat) (l0 : List Int) (A1 : Option Addr) (c1 : Nat) (l1 : List Int) (r1 : List Int) (r2 : Int) (w : World) (hr0 : Kd.C (Kd.int .i64) w A0 l0.length l0) (hc0 : l0.length ≤ c0) (hr1 : Kd.C (Kd.int .i64) w A1 l1.length l1) (hc1 : l1.length ≤ c1) (h : pGather.f l0 l1 = some (r1, r2)) :
    Calls Tryd.prog 30 #[.slice A0 l0.length c0, .slice A1 l1.length c1] w fun e w' => ∃ v0_ : Value, e = .returned (.tuple #[v0_, .int .i64 r2]) ∧ Kd.V (Kd.int .i64) 3 w' w.heap.size (fun k_ => w.heap.size ≤ k_) v0_ r1 ∧ Below w.heap.size w w' := by
  have h2 : prim_Gather.g l0 l1 = (r1, r2) := by injection h
  have H := prim_Gather.run A0 c0 l0 A1 c1 l1 w hr0 hc0 hr1 hc1
  rw [h2] at H
  exact H
def pPut.f (l0 : List Int) (l1 : List Int) : Option (List Int × Int) := some (prim_Put.g l0 l1)
theorem pPut.calls (A0 : Option Addr) (c0 : Nat) (l0 : List Int) (A1 : Option Addr) (c1 : Nat) (l1 : List Int) (r1 : List Int) (r2 : Int) (w : World) (hr0 : Kd.C (Kd.int .i64) w A0 l0.length l0) (hc0 : l0.length ≤ c0) (hr1 : Kd.C (Kd.int .i64) w A1 l1.length l1) (hc1 : l1.length ≤ c1) (h : pPut.f l0 l1 = some (r1, r2)) :
    Calls Tryd.prog 32 #[.slice A0 l0.length c0, .slice A1 l1.length c1] w fun e w' => ∃ v0_ : Value, e = .returned (.tuple #[v0_, .int .i64 r2]) ∧ Kd.V (Kd.int .i64) 3 w' w.heap.size (fun k_ => w.heap.size ≤ k_) v0_ r1 ∧ Below w.heap.size w w' := by
  have h2 : prim_Put.g l0 l1 = (r1, r2) := by injection h
  have H := prim_Put.run A0 c0 l0 A1 c1 l1 w hr0 hc0 hr1 hc1
  rw [h2] at H
  exact H
def pRep.f (l0 : List Int) (l1 : List Int) : Option (List Int × Int) := some (prim_Rep.g l0 l1)
theorem pRep.calls (A0 : Option Addr) (c0 : Nat) (l0 : List Int) (A1 : Option Addr) (c1 : Nat) (l1 : List Int) (r1 : List Int) (r2 : Int) (w : World) (hr0 : Kd.C (Kd.int .i64) w A0 l0.length l0) (hc0 : l0.length ≤ c0) (hr1 : Kd.C (Kd.int .i64) w A1 l1.length l1) (hc1 : l1.length ≤ c1) (h : pRep.f l0 l1 = some (r1, r2)) :
    Calls Tryd.prog 34 #[.slice A0 l0.length c0, .slice A1 l1.length c1] w fun e w' => ∃ v0_ : Value, e = .returned (.tuple #[v0_, .int .i64 r2]) ∧ Kd.V (Kd.int .i64) 3 w' w.heap.size (fun k_ => w.heap.size ≤ k_) v0_ r1 ∧ Below w.heap.size w w' := by
  have h2 : prim_Rep.g l0 l1 = (r1, r2) := by injection h
  have H := prim_Rep.run A0 c0 l0 A1 c1 l1 w hr0 hc0 hr1 hc1
  rw [h2] at H
  exact H
def pIota.f (l0 : List Int) : Option (List Int × Int) := some (prim_Iota.g l0)
theorem pIota.calls (A0 : Option Addr) (c0 : Nat) (l0 : List Int) (r1 : List Int) (r2 : Int) (w : World) (hr0 : Kd.C (Kd.int .i64) w A0 l0.length l0) (hc0 : l0.length ≤ c0) (h : pIota.f l0 = some (r1, r2)) :
    Calls Tryd.prog 36 #[.slice A0 l0.length c0] w fun e w' => ∃ v0_ : Value, e = .returned (.tuple #[v0_, .int .i64 r2]) ∧ Kd.V (Kd.int .i64) 3 w' w.heap.size (fun k_ => w.heap.size ≤ k_) v0_ r1 ∧ Below w.heap.size w w' := by
  have h2 : prim_Iota.g l0 = (r1, r2) := by injection h
  have H := prim_Iota.run A0 c0 l0 w hr0 hc0
  rw [h2] at H
  exact H
def pCat.f (l0 : List Int) (l1 : List Int) : Option (List Int × Int) := some (prim_Cat.g l0 l1)
theorem pCat.calls (A0 : Option Addr) (c0 : Nat) (l0 : List Int) (A1 : Option Addr) (c1 : Nat) (l1 : List Int) (r1 : List Int) (r2 : Int) (w : World) (hr0 : Kd.C (Kd.int .i64) w A0 l0.length l0) (hc0 : l0.length ≤ c0) (hr1 : Kd.C (Kd.int .i64) w A1 l1.length l1) (hc1 : l1.length ≤ c1) (h : pCat.f l0 l1 = some (r1, r2)) :
    Calls Tryd.prog 38 #[.slice A0 l0.length c0, .slice A1 l1.length c1] w fun e w' => ∃ v0_ : Value, e = .returned (.tuple #[v0_, .int .i64 r2]) ∧ Kd.V (Kd.int .i64) 3 w' w.heap.size (fun k_ => w.heap.size ≤ k_) v0_ r1 ∧ Below w.heap.size w w' := by
  have h2 : prim_Cat.g l0 l1 = (r1, r2) := by injection h
  have H := prim_Cat.run A0 c0 l0 A1 c1 l1 w hr0 hc0 hr1 hc1
  rw [h2] at H
  exact H
def pLen.f (l0 : List Int) : Option (List Int × Int) := some (prim_Len.g l0)
theorem pLen.calls (A0 : Option Addr) (c0 : Nat) (l0 : List Int) (r1 : List Int) (r2 : Int) (w : World) (hr0 : Kd.C (Kd.int .i64) w A0 l0.length l0) (hc0 : l0.length ≤ c0) (h : pLen.f l0 = some (r1, r2)) :
    Calls Tryd.prog 40 #[.slice A0 l0.length c0] w fun e w' => ∃ v0_ : Value, e = .returned (.tuple #[v0_, .int .i64 r2]) ∧ Kd.V (Kd.int .i64) 3 w' w.heap.size (fun k_ => w.heap.size ≤ k_) v0_ r1 ∧ Below w.heap.size w w' := by
  have h2 : prim_Len.g l0 = (r1, r2) := by injection h
  have H := prim_Len.run A0 c0 l0 w hr0 hc0
  rw [h2] at H
  exact H
def pTrap.f (l0 : List Int) : Option Int := some (prim_Trap.g l0)
theorem pTrap.calls (A0 : Option Addr) (c0 : Nat) (l0 : List Int) (r : Int) (w : World) (hr0 : Kd.C (Kd.int .i64) w A0 l0.length l0) (hc0 : l0.length ≤ c0) (h : pTrap.f l0 = some r) :
    Calls Tryd.prog 42 #[.slice A0 l0.length c0] w fun e w' => e = .returned (.int .i64 r) ∧ Below w.heap.size w w' := by
  have h2 : prim_Trap.g l0 = r := by injection h
  have H := prim_Trap.run A0 c0 l0 w hr0 hc0
  rw [h2] at H
  exact H
def pWeave.f (l0 : List (List Int)) : Option (List Int × Int) := some (prim_Weave.g l0)
theorem pWeave.calls (A0 : Option Addr) (c0 : Nat) (l0 : List (List Int)) (r1 : List Int) (r2 : Int) (w : World) (hr0 : Kd.C (Kd.slice 3 (Kd.int .i64)) w A0 l0.length l0) (hc0 : l0.length ≤ c0) (h : pWeave.f l0 = some (r1, r2)) :
    Calls Tryd.prog 27 #[.slice A0 l0.length c0] w fun e w' => ∃ v0_ : Value, e = .returned (.tuple #[v0_, .int .i64 r2]) ∧ Kd.V (Kd.int .i64) 3 w' w.heap.size (fun k_ => w.heap.size ≤ k_) v0_ r1 ∧ Below w.heap.size w w' := by
  have h2 : prim_Weave.g l0 = (r1, r2) := by injection h
  have H := prim_Weave.run A0 c0 l0 w hr0 hc0
  rw [h2] at H
  exact H
def Eq_.f (l0 l1 : List Int) : Option Bool := some (l0 == l1)
theorem Eq_.calls (A0 : Option Addr) (c0 : Nat) (l0 : List Int) (A1 : Option Addr) (c1 : Nat) (l1 : List Int) (r : Bool) (w : World) (hr0 : Kd.C (Kd.int .i64) w A0 l0.length l0) (hc0 : l0.length ≤ c0) (hr1 : Kd.C (Kd.int .i64) w A1 l1.length l1) (hc1 : l1.length ≤ c1) (h : Eq_.f l0 l1 = some r) :
    Calls Tryd.prog 17 #[.slice A0 l0.length c0, .slice A1 l1.length c1] w fun e w' => e = .returned (.bool r) ∧ Drawn0 w w' := by
  have h2 : (l0 == l1) = r := by injection h
  have H := ref_Equal A0 c0 l0 A1 c1 l1 w hr0 hr1
  rw [h2] at H
  exact H
def law_done.f : Option Bool := some true
theorem law_done.calls (r : Bool) (w : World) (hG : Deeds w) (h : law_done.f = some r) :
    Calls Tryd.prog 22 #[] w fun e w' => e = .returned (.bool r) ∧ Below w.heap.size w w' := by
  have h2 : true = r := by injection h
  subst h2
  exact law_done w hG

end Go.Proofs.YtpimackoadfcmaaDoor.Hand
