/- The rows' condition on the two tables; the world that the program's start leaves meets it. -/
import Derived.Test.YtoaimoemaoinhaaGreatDoorBlk
import Derived.Test.YtoaimoemaoinhaaGreatDoorRows
import Derived.Carry
import Derived.ProofKit
import Derived.LaidMore
import Derived.OpenShut
import Derived.ShutString
import Derived.Stop.Joined
namespace Go.Proofs.YtoaimoemaoinhaaGreatDoor
open Go.ChangeShapes Go.WideShapes Go.ChangeAt Go.RowKit

abbrev laid2 {H : Type} : List (String × DataW H) := [("stagehand/digest.start", Rows.laid_stagehand_digest_start), ("stagehand/digest.rounds", Rows.laid_stagehand_digest_rounds)]
theorem own : ownKnob Tryz.prog.godebug = none := by kernel_rfl
/-- The door's own heap meets the condition. -/
theorem door_met (os : Os) (args : Array Value) : laidMetH Tryz.prog laid2 ((World.doorLaid Tryz.prog 400 os).forCall (fun _ _ => 0) ⟨#[], args, []⟩).memory :=
  laidMetH_of_parts3 (fuel := 8) (laidMet_of_run' 8 (by kernel_rfl) (by kernel_rfl)) (by kernel_rfl) (by kernel_rfl)
end Go.Proofs.YtoaimoemaoinhaaGreatDoor
