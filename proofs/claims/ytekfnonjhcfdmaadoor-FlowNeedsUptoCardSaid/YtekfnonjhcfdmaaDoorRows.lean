/-
  NARROWER THAN 'FOR EVERY INPUT', by the rows' own cells (each row's printed sentence says how): FlowLives: laid · FlowSteps: laid · FlowKnown: laid · FlowClosed: laid · FlowReaches: laid · FlowNeeds: laid · FlowNests: laid.
  DERIVED. THE GIVEN ROWS OF THIS SEAT. 7 by the template 'for every input the law returns true; each argument reads behind the call as it read before'; 0 by the template 'total and deterministic' (their statements: YtekfnonjhcfdmaaDoorTotals.lean).
  GIVEN WITH THE SEED: the statements are not yours to turn. If you find one false, say at which input.
  Laid BY PROGRAM, IN A SANDBOX (cutbox-rows.mjs): the forced cells as the released guide's own fill.sh prints them over the translation 48a112ab1ca34b32… (all of the seat's roots in one cut). By AI agents, Wed Nov 11 2026. No macro, syntax, notation, axiom, sorry.
-/
import Derived.Test.YtekfnonjhcfdmaaDoorChecked
import GoSem.Claim
import GoSem.ClaimJoined
import GoSem.ClaimMapViews
import Derived.JoinedTies
import Derived.KernelRfl
namespace Go.Proofs.YtekfnonjhcfdmaaDoor
/- THE CELL 'sum', in the pinned program and in every row, IS THE sha256 OF THE DUMP (.gsa) THAT YtekfnonjhcfdmaaDoorProg.lean LOADS. Nothing in Lean hashes anything: it is a label: what it is worth is what the hold of that sum in a sandbox is worth. -/
noncomputable def Tryd.pinned : Pinned := { name := "ytekfnonjhcfdmaadoor", sum := "48a112ab1ca34b32883a58920446b2bd3f592f6ee8d1e2dd77400aab99915450", checked := Tryd.checked }
namespace Rows
def none {H : Type} : Left H := { results := [], args := [] }

/- WHAT THE LISTED PACKAGE-LEVEL VARIABLES READ AS WHEN THE CALL BEGINS. Each datum BY PROGRAM (the guide's laid-datum.mjs) off the statement by which the dump's own 'gosem.cut.vars' lays the variable. In a bare row this is a premise. The card (YtekfnonjhcfdmaaDoorCards.lean) ties it to the program's text. -/
def laid_math_bits_deBruijn64tab {H : Type} : DataW H := .agg [.lit (.int .u8 0), .lit (.int .u8 1), .lit (.int .u8 56), .lit (.int .u8 2), .lit (.int .u8 57), .lit (.int .u8 49), .lit (.int .u8 28), .lit (.int .u8 3), .lit (.int .u8 61), .lit (.int .u8 58), .lit (.int .u8 42), .lit (.int .u8 50), .lit (.int .u8 38), .lit (.int .u8 29), .lit (.int .u8 17), .lit (.int .u8 4), .lit (.int .u8 62), .lit (.int .u8 47), .lit (.int .u8 59), .lit (.int .u8 36), .lit (.int .u8 45), .lit (.int .u8 43), .lit (.int .u8 51), .lit (.int .u8 22), .lit (.int .u8 53), .lit (.int .u8 39), .lit (.int .u8 33), .lit (.int .u8 30), .lit (.int .u8 24), .lit (.int .u8 18), .lit (.int .u8 12), .lit (.int .u8 5), .lit (.int .u8 63), .lit (.int .u8 55), .lit (.int .u8 48), .lit (.int .u8 27), .lit (.int .u8 60), .lit (.int .u8 41), .lit (.int .u8 37), .lit (.int .u8 16), .lit (.int .u8 46), .lit (.int .u8 35), .lit (.int .u8 44), .lit (.int .u8 21), .lit (.int .u8 52), .lit (.int .u8 32), .lit (.int .u8 23), .lit (.int .u8 11), .lit (.int .u8 54), .lit (.int .u8 26), .lit (.int .u8 40), .lit (.int .u8 15), .lit (.int .u8 34), .lit (.int .u8 20), .lit (.int .u8 31), .lit (.int .u8 10), .lit (.int .u8 25), .lit (.int .u8 14), .lit (.int .u8 19), .lit (.int .u8 9), .lit (.int .u8 13), .lit (.int .u8 8), .lit (.int .u8 7), .lit (.int .u8 6)]

/-- 'stagehandlaw17.FlowLives': WHATEVER THE INPUT: true; the input reads as it did. -/
def flowLivesSpec : ChangeSpec := { name := "flowLives", fn := fun _ => fun
  | [d1, d2, d3] => { results := [.lit (.bool true)], args := [d1, d2, d3] }
  | _ => none }
def flowLivesRow : OpenClaim := { program := "ytekfnonjhcfdmaadoor", sum := "48a112ab1ca34b32883a58920446b2bd3f592f6ee8d1e2dd77400aab99915450", func := "stagehand/stagehandlaw17.FlowLives", spec := "flowLives", unfollowed := true, recurses := true, named := ["math/bits.deBruijn64tab"], apart := false, laid := [("math/bits.deBruijn64tab", laid_math_bits_deBruijn64tab)] }
def FlowLivesSaid : Prop := flowLivesRow.holds Tryd.pinned (OpenSpec.ofChange flowLivesSpec)

/-- ITS FALSE NEIGHBOUR: 'it returns false'. Refute it at one input. -/
def flowLivesWrong : ChangeSpec := { name := "flowLives", fn := fun _ => fun
  | [d1, d2, d3] => { results := [.lit (.bool false)], args := [d1, d2, d3] }
  | _ => none }
def FlowLivesWrongFalsely : Prop := flowLivesRow.holds Tryd.pinned (OpenSpec.ofChange flowLivesWrong)

/-- 'stagehandlaw17.FlowSteps': WHATEVER THE INPUT: true; the input reads as it did. -/
def flowStepsSpec : ChangeSpec := { name := "flowSteps", fn := fun _ => fun
  | [d] => { results := [.lit (.bool true)], args := [d] }
  | _ => none }
def flowStepsRow : OpenClaim := { program := "ytekfnonjhcfdmaadoor", sum := "48a112ab1ca34b32883a58920446b2bd3f592f6ee8d1e2dd77400aab99915450", func := "stagehand/stagehandlaw17.FlowSteps", spec := "flowSteps", unfollowed := true, recurses := true, named := ["math/bits.deBruijn64tab"], apart := false, laid := [("math/bits.deBruijn64tab", laid_math_bits_deBruijn64tab)] }
def FlowStepsSaid : Prop := flowStepsRow.holds Tryd.pinned (OpenSpec.ofChange flowStepsSpec)

/-- ITS FALSE NEIGHBOUR: 'it returns false'. Refute it at one input. -/
def flowStepsWrong : ChangeSpec := { name := "flowSteps", fn := fun _ => fun
  | [d] => { results := [.lit (.bool false)], args := [d] }
  | _ => none }
def FlowStepsWrongFalsely : Prop := flowStepsRow.holds Tryd.pinned (OpenSpec.ofChange flowStepsWrong)

/-- 'stagehandlaw17.FlowKnown': WHATEVER THE INPUT: true; the input reads as it did. -/
def flowKnownSpec : ChangeSpec := { name := "flowKnown", fn := fun _ => fun
  | [] => { results := [.lit (.bool true)], args := [] }
  | _ => none }
def flowKnownRow : OpenClaim := { program := "ytekfnonjhcfdmaadoor", sum := "48a112ab1ca34b32883a58920446b2bd3f592f6ee8d1e2dd77400aab99915450", func := "stagehand/stagehandlaw17.FlowKnown", spec := "flowKnown", unfollowed := true, recurses := true, named := ["math/bits.deBruijn64tab"], apart := false, laid := [("math/bits.deBruijn64tab", laid_math_bits_deBruijn64tab)] }
def FlowKnownSaid : Prop := flowKnownRow.holds Tryd.pinned (OpenSpec.ofChange flowKnownSpec)

/-- ITS FALSE NEIGHBOUR: 'it returns false'. Refute it at one input. -/
def flowKnownWrong : ChangeSpec := { name := "flowKnown", fn := fun _ => fun
  | [] => { results := [.lit (.bool false)], args := [] }
  | _ => none }
def FlowKnownWrongFalsely : Prop := flowKnownRow.holds Tryd.pinned (OpenSpec.ofChange flowKnownWrong)

/-- 'stagehandlaw17.FlowClosed': WHATEVER THE INPUT: true; the input reads as it did. -/
def flowClosedSpec : ChangeSpec := { name := "flowClosed", fn := fun _ => fun
  | [d1, d2, d3] => { results := [.lit (.bool true)], args := [d1, d2, d3] }
  | _ => none }
def flowClosedRow : OpenClaim := { program := "ytekfnonjhcfdmaadoor", sum := "48a112ab1ca34b32883a58920446b2bd3f592f6ee8d1e2dd77400aab99915450", func := "stagehand/stagehandlaw17.FlowClosed", spec := "flowClosed", unfollowed := true, recurses := true, named := ["math/bits.deBruijn64tab"], apart := false, laid := [("math/bits.deBruijn64tab", laid_math_bits_deBruijn64tab)] }
def FlowClosedSaid : Prop := flowClosedRow.holds Tryd.pinned (OpenSpec.ofChange flowClosedSpec)

/-- ITS FALSE NEIGHBOUR: 'it returns false'. Refute it at one input. -/
def flowClosedWrong : ChangeSpec := { name := "flowClosed", fn := fun _ => fun
  | [d1, d2, d3] => { results := [.lit (.bool false)], args := [d1, d2, d3] }
  | _ => none }
def FlowClosedWrongFalsely : Prop := flowClosedRow.holds Tryd.pinned (OpenSpec.ofChange flowClosedWrong)

/-- 'stagehandlaw17.FlowReaches': WHATEVER THE INPUT: true; the input reads as it did. -/
def flowReachesSpec : ChangeSpec := { name := "flowReaches", fn := fun _ => fun
  | [d1, d2] => { results := [.lit (.bool true)], args := [d1, d2] }
  | _ => none }
def flowReachesRow : OpenClaim := { program := "ytekfnonjhcfdmaadoor", sum := "48a112ab1ca34b32883a58920446b2bd3f592f6ee8d1e2dd77400aab99915450", func := "stagehand/stagehandlaw17.FlowReaches", spec := "flowReaches", unfollowed := true, recurses := true, named := ["math/bits.deBruijn64tab"], apart := false, laid := [("math/bits.deBruijn64tab", laid_math_bits_deBruijn64tab)] }
def FlowReachesSaid : Prop := flowReachesRow.holds Tryd.pinned (OpenSpec.ofChange flowReachesSpec)

/-- ITS FALSE NEIGHBOUR: 'it returns false'. Refute it at one input. -/
def flowReachesWrong : ChangeSpec := { name := "flowReaches", fn := fun _ => fun
  | [d1, d2] => { results := [.lit (.bool false)], args := [d1, d2] }
  | _ => none }
def FlowReachesWrongFalsely : Prop := flowReachesRow.holds Tryd.pinned (OpenSpec.ofChange flowReachesWrong)

/-- 'stagehandlaw17.FlowNeeds': WHATEVER THE INPUT: true; the input reads as it did. -/
def flowNeedsSpec : ChangeSpec := { name := "flowNeeds", fn := fun _ => fun
  | [d1, d2, d3] => { results := [.lit (.bool true)], args := [d1, d2, d3] }
  | _ => none }
def flowNeedsRow : OpenClaim := { program := "ytekfnonjhcfdmaadoor", sum := "48a112ab1ca34b32883a58920446b2bd3f592f6ee8d1e2dd77400aab99915450", func := "stagehand/stagehandlaw17.FlowNeeds", spec := "flowNeeds", unfollowed := true, recurses := true, named := ["math/bits.deBruijn64tab"], apart := false, laid := [("math/bits.deBruijn64tab", laid_math_bits_deBruijn64tab)] }
def FlowNeedsSaid : Prop := flowNeedsRow.holds Tryd.pinned (OpenSpec.ofChange flowNeedsSpec)

/-- ITS FALSE NEIGHBOUR: 'it returns false'. Refute it at one input. -/
def flowNeedsWrong : ChangeSpec := { name := "flowNeeds", fn := fun _ => fun
  | [d1, d2, d3] => { results := [.lit (.bool false)], args := [d1, d2, d3] }
  | _ => none }
def FlowNeedsWrongFalsely : Prop := flowNeedsRow.holds Tryd.pinned (OpenSpec.ofChange flowNeedsWrong)

/-- 'stagehandlaw17.FlowNests': WHATEVER THE INPUT: true; the input reads as it did. -/
def flowNestsSpec : ChangeSpec := { name := "flowNests", fn := fun _ => fun
  | [d1, d2] => { results := [.lit (.bool true)], args := [d1, d2] }
  | _ => none }
def flowNestsRow : OpenClaim := { program := "ytekfnonjhcfdmaadoor", sum := "48a112ab1ca34b32883a58920446b2bd3f592f6ee8d1e2dd77400aab99915450", func := "stagehand/stagehandlaw17.FlowNests", spec := "flowNests", unfollowed := true, recurses := true, named := ["math/bits.deBruijn64tab"], apart := false, laid := [("math/bits.deBruijn64tab", laid_math_bits_deBruijn64tab)] }
def FlowNestsSaid : Prop := flowNestsRow.holds Tryd.pinned (OpenSpec.ofChange flowNestsSpec)

/-- ITS FALSE NEIGHBOUR: 'it returns false'. Refute it at one input. -/
def flowNestsWrong : ChangeSpec := { name := "flowNests", fn := fun _ => fun
  | [d1, d2] => { results := [.lit (.bool false)], args := [d1, d2] }
  | _ => none }
def FlowNestsWrongFalsely : Prop := flowNestsRow.holds Tryd.pinned (OpenSpec.ofChange flowNestsWrong)

/- THE SECOND FORM. 'bulk': how many values and letters a reading holds, each counted each time it is reached (what is shared counts as often as it is met; a slice's spare places count too). A statement '..UptoSaid' is the law's where the arguments, and the package variables that the reading takes, are together of bulk at most 1048576: NARROWER than '..Said'. Prove '..Said' where nothing that the law and all that it calls make is longer than what came in: it says more and counts as full. Else prove '..UptoSaid'. A law counts once. -/
mutual
def uptoBulk {H : Type} : DataW H → Nat
  | .lit (.string bytes) => bytes.length + 1
  | .lit _ => 1
  | .nil => 1
  | .ptr d => uptoBulk d + 1
  | .slice elems spare => uptoBulkAll elems + uptoBulkAll spare + 1
  | .agg parts => uptoBulkAll parts + 1
  | .iface _ d => uptoBulk d + 1
  | .map entries => uptoBulkEntries entries + 1
  | .held _ => 1
def uptoBulkAll {H : Type} : List (DataW H) → Nat
  | [] => 0
  | d :: r => uptoBulk d + uptoBulkAll r
def uptoBulkEntries {H : Type} : List (Lit × DataW H) → Nat
  | [] => 0
  | x :: r => uptoBulkEntry x + uptoBulkEntries r
def uptoBulkEntry {H : Type} : Lit × DataW H → Nat
  | (.string bytes, d) => bytes.length + uptoBulk d + 1
  | (_, d) => uptoBulk d + 1
 end
def uptoSmall : (H : Type) → List (DataW H) → Bool := fun _ ds => decide (uptoBulkAll ds ≤ 1048576)
def OpenSpec.upto (s : _root_.Go.ChangeSpec) : _root_.Go.OpenSpec := { _root_.Go.OpenSpec.ofChange s with cond := some uptoSmall }

/-- 'stagehandlaw17.FlowLives', WHERE WHAT IT READS IS OF BULK AT MOST 1048576: true; the input reads as it did. -/
def flowLivesUptoRow : OpenClaim := { program := "ytekfnonjhcfdmaadoor", sum := "48a112ab1ca34b32883a58920446b2bd3f592f6ee8d1e2dd77400aab99915450", func := "stagehand/stagehandlaw17.FlowLives", spec := "flowLives", unfollowed := true, recurses := true, named := ["math/bits.deBruijn64tab"], apart := false, laid := [("math/bits.deBruijn64tab", laid_math_bits_deBruijn64tab)], narrowed := true }
def FlowLivesUptoSaid : Prop := flowLivesUptoRow.holds Tryd.pinned (OpenSpec.upto flowLivesSpec)

/-- 'stagehandlaw17.FlowSteps', WHERE WHAT IT READS IS OF BULK AT MOST 1048576: true; the input reads as it did. -/
def flowStepsUptoRow : OpenClaim := { program := "ytekfnonjhcfdmaadoor", sum := "48a112ab1ca34b32883a58920446b2bd3f592f6ee8d1e2dd77400aab99915450", func := "stagehand/stagehandlaw17.FlowSteps", spec := "flowSteps", unfollowed := true, recurses := true, named := ["math/bits.deBruijn64tab"], apart := false, laid := [("math/bits.deBruijn64tab", laid_math_bits_deBruijn64tab)], narrowed := true }
def FlowStepsUptoSaid : Prop := flowStepsUptoRow.holds Tryd.pinned (OpenSpec.upto flowStepsSpec)

/-- 'stagehandlaw17.FlowKnown', WHERE WHAT IT READS IS OF BULK AT MOST 1048576: true; the input reads as it did. -/
def flowKnownUptoRow : OpenClaim := { program := "ytekfnonjhcfdmaadoor", sum := "48a112ab1ca34b32883a58920446b2bd3f592f6ee8d1e2dd77400aab99915450", func := "stagehand/stagehandlaw17.FlowKnown", spec := "flowKnown", unfollowed := true, recurses := true, named := ["math/bits.deBruijn64tab"], apart := false, laid := [("math/bits.deBruijn64tab", laid_math_bits_deBruijn64tab)], narrowed := true }
def FlowKnownUptoSaid : Prop := flowKnownUptoRow.holds Tryd.pinned (OpenSpec.upto flowKnownSpec)

/-- 'stagehandlaw17.FlowClosed', WHERE WHAT IT READS IS OF BULK AT MOST 1048576: true; the input reads as it did. -/
def flowClosedUptoRow : OpenClaim := { program := "ytekfnonjhcfdmaadoor", sum := "48a112ab1ca34b32883a58920446b2bd3f592f6ee8d1e2dd77400aab99915450", func := "stagehand/stagehandlaw17.FlowClosed", spec := "flowClosed", unfollowed := true, recurses := true, named := ["math/bits.deBruijn64tab"], apart := false, laid := [("math/bits.deBruijn64tab", laid_math_bits_deBruijn64tab)], narrowed := true }
def FlowClosedUptoSaid : Prop := flowClosedUptoRow.holds Tryd.pinned (OpenSpec.upto flowClosedSpec)

/-- 'stagehandlaw17.FlowReaches', WHERE WHAT IT READS IS OF BULK AT MOST 1048576: true; the input reads as it did. -/
def flowReachesUptoRow : OpenClaim := { program := "ytekfnonjhcfdmaadoor", sum := "48a112ab1ca34b32883a58920446b2bd3f592f6ee8d1e2dd77400aab99915450", func := "stagehand/stagehandlaw17.FlowReaches", spec := "flowReaches", unfollowed := true, recurses := true, named := ["math/bits.deBruijn64tab"], apart := false, laid := [("math/bits.deBruijn64tab", laid_math_bits_deBruijn64tab)], narrowed := true }
def FlowReachesUptoSaid : Prop := flowReachesUptoRow.holds Tryd.pinned (OpenSpec.upto flowReachesSpec)

/-- 'stagehandlaw17.FlowNeeds', WHERE WHAT IT READS IS OF BULK AT MOST 1048576: true; the input reads as it did. -/
def flowNeedsUptoRow : OpenClaim := { program := "ytekfnonjhcfdmaadoor", sum := "48a112ab1ca34b32883a58920446b2bd3f592f6ee8d1e2dd77400aab99915450", func := "stagehand/stagehandlaw17.FlowNeeds", spec := "flowNeeds", unfollowed := true, recurses := true, named := ["math/bits.deBruijn64tab"], apart := false, laid := [("math/bits.deBruijn64tab", laid_math_bits_deBruijn64tab)], narrowed := true }
def FlowNeedsUptoSaid : Prop := flowNeedsUptoRow.holds Tryd.pinned (OpenSpec.upto flowNeedsSpec)

/-- 'stagehandlaw17.FlowNests', WHERE WHAT IT READS IS OF BULK AT MOST 1048576: true; the input reads as it did. -/
def flowNestsUptoRow : OpenClaim := { program := "ytekfnonjhcfdmaadoor", sum := "48a112ab1ca34b32883a58920446b2bd3f592f6ee8d1e2dd77400aab99915450", func := "stagehand/stagehandlaw17.FlowNests", spec := "flowNests", unfollowed := true, recurses := true, named := ["math/bits.deBruijn64tab"], apart := false, laid := [("math/bits.deBruijn64tab", laid_math_bits_deBruijn64tab)], narrowed := true }
def FlowNestsUptoSaid : Prop := flowNestsUptoRow.holds Tryd.pinned (OpenSpec.upto flowNestsSpec)

end Rows
end Go.Proofs.YtekfnonjhcfdmaaDoor
