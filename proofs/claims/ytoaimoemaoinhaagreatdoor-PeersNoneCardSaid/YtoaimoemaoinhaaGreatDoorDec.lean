/- What both Decodes answer, in plain words (the walks are not written yet). -/
import Derived.Test.YtoaimoemaoinhaaGreatDoorPenc
import Derived.Test.YtoaimoemaoinhaaGreatDoorPlain
namespace Go.Proofs.YtoaimoemaoinhaaGreatDoor
open Go.RowKit Go.Rt Go.Rw

def zeroSg : Sg := ⟨0, zerT, zerT, noB, noB, zerT, 0, zerT⟩
/-- The rounds over the fields that are left. -/
def decL (u : Int) : List Nat → Sg → ByteArray → Option (Sg × ByteArray)
 | [], s, b => some (s, b)
 | i :: r, s, b =>
  if hasU u i then
   if (takeF b).2.2 ≠ 0 ∨ (fldK i ≠ 0 ∧ (takeF b).1.f.k ≠ fldK i) then none
   else decL u r (setF s (takeF b).1 i) (b.extract (takeF b).2.1 b.size)
  else decL u r s b
def decS (b : ByteArray) : Option Sg :=
 if b.size = 0 then none else
 let k : Int := (b.data[0]?.getD 0).toNat
 match decL (usesF k) [0, 1, 2, 3, 4, 5, 6] { zeroSg with k := k } (b.extract 1 b.size) with
 | none => none
 | some (s, r) => if r.size = 0 ∧ validS s = true then some s else none
theorem decL_nil (u : Int) (s : Sg) (b : ByteArray) : decL u [] s b = some (s, b) := rfl
theorem decL_no {u : Int} {i : Nat} (r : List Nat) (s : Sg) (b : ByteArray) (h : hasU u i = false) : decL u (i :: r) s b = decL u r s b := by
 rw [decL, if_neg (by rw [h]; decide)]
theorem decL_bad {u : Int} {i : Nat} (r : List Nat) (s : Sg) (b : ByteArray) (h : hasU u i = true) (hb : (takeF b).2.2 ≠ 0 ∨ (fldK i ≠ 0 ∧ (takeF b).1.f.k ≠ fldK i)) : decL u (i :: r) s b = none := by
 rw [decL, if_pos h, if_pos hb]
theorem decL_yes {u : Int} {i : Nat} (r : List Nat) (s : Sg) (b : ByteArray) (h : hasU u i = true) (hb : ¬ ((takeF b).2.2 ≠ 0 ∨ (fldK i ≠ 0 ∧ (takeF b).1.f.k ≠ fldK i))) : decL u (i :: r) s b = decL u r (setF s (takeF b).1 i) (b.extract (takeF b).2.1 b.size) := by
 rw [decL, if_pos h, if_neg hb]
end Go.Proofs.YtoaimoemaoinhaaGreatDoor
