/-
  NARROWER THAN 'FOR EVERY INPUT', by the rows' own cells (each row's printed sentence says how): PeersEncodes: loops · PeersRound: loops.
  DERIVED. THE GIVEN ROWS OF THIS SEAT. 3 by the template 'for every input the law returns true; each argument reads behind the call as it read before'; 0 by the template 'total and deterministic' (their statements: YtemlogadbopffaaGreatTotals.lean).
  GIVEN WITH THE SEED: the statements are not yours to turn. If you find one false, say at which input.
  Laid BY PROGRAM, IN A SANDBOX (cutbox-rows.mjs): the forced cells as the released guide's own fill.sh prints them over the translation e409ec7d838dedd0… (all of the seat's roots in one cut). By AI agents, Wed Nov 11 2026. No macro, syntax, notation, axiom, sorry.
-/
import Derived.Test.YtemlogadbopffaaGreatChecked
import GoSem.Claim
import GoSem.ClaimJoined
import GoSem.ClaimMapViews
import Derived.JoinedTies
import Derived.KernelRfl
namespace Go.Proofs.YtemlogadbopffaaGreat
/- THE CELL 'sum', in the pinned program and in every row, IS THE sha256 OF THE DUMP (.gsa) THAT YtemlogadbopffaaGreatProg.lean LOADS. Nothing in Lean hashes anything: it is a label: what it is worth is what the hold of that sum in a sandbox is worth. -/
noncomputable def Tryz.pinned : Pinned := { name := "ytemlogadbopffaagreat", sum := "e409ec7d838dedd0b3becdd42cf511ebd35bb53363d584c04702d46b25d22ea5", checked := Tryz.checked }
namespace Rows
def none {H : Type} : Left H := { results := [], args := [] }

/-- 'stagehandlaw37.PeersEncodes': WHATEVER THE INPUT: true; the input reads as it did. -/
def peersEncodesSpec : ChangeSpec := { name := "peersEncodes", fn := fun _ => fun
  | [d] => { results := [.lit (.bool true)], args := [d] }
  | _ => none }
def peersEncodesRow : OpenClaim := { program := "ytemlogadbopffaagreat", sum := "e409ec7d838dedd0b3becdd42cf511ebd35bb53363d584c04702d46b25d22ea5", func := "stagehand/stagehandlaw37.PeersEncodes", spec := "peersEncodes", inPlace := ["internal/abi.NoEscape"], unfollowed := true, recurses := true, loops := true, apart := false }
def PeersEncodesSaid : Prop := peersEncodesRow.holds Tryz.pinned (OpenSpec.ofChange peersEncodesSpec)

/-- ITS FALSE NEIGHBOUR: 'it returns false'. Refute it at one input. -/
def peersEncodesWrong : ChangeSpec := { name := "peersEncodes", fn := fun _ => fun
  | [d] => { results := [.lit (.bool false)], args := [d] }
  | _ => none }
def PeersEncodesWrongFalsely : Prop := peersEncodesRow.holds Tryz.pinned (OpenSpec.ofChange peersEncodesWrong)

/-- 'stagehandlaw37.PeersDecodes': WHATEVER THE INPUT: true; the input reads as it did. -/
def peersDecodesSpec : ChangeSpec := { name := "peersDecodes", fn := fun _ => fun
  | [d] => { results := [.lit (.bool true)], args := [d] }
  | _ => none }
def peersDecodesRow : OpenClaim := { program := "ytemlogadbopffaagreat", sum := "e409ec7d838dedd0b3becdd42cf511ebd35bb53363d584c04702d46b25d22ea5", func := "stagehand/stagehandlaw37.PeersDecodes", spec := "peersDecodes", inPlace := ["internal/abi.NoEscape"], unfollowed := true, recurses := true, apart := false }
def PeersDecodesSaid : Prop := peersDecodesRow.holds Tryz.pinned (OpenSpec.ofChange peersDecodesSpec)

/-- ITS FALSE NEIGHBOUR: 'it returns false'. Refute it at one input. -/
def peersDecodesWrong : ChangeSpec := { name := "peersDecodes", fn := fun _ => fun
  | [d] => { results := [.lit (.bool false)], args := [d] }
  | _ => none }
def PeersDecodesWrongFalsely : Prop := peersDecodesRow.holds Tryz.pinned (OpenSpec.ofChange peersDecodesWrong)

/-- 'stagehandlaw37.PeersRound': WHATEVER THE INPUT: true; the input reads as it did. -/
def peersRoundSpec : ChangeSpec := { name := "peersRound", fn := fun _ => fun
  | [d1, d2] => { results := [.lit (.bool true)], args := [d1, d2] }
  | _ => none }
def peersRoundRow : OpenClaim := { program := "ytemlogadbopffaagreat", sum := "e409ec7d838dedd0b3becdd42cf511ebd35bb53363d584c04702d46b25d22ea5", func := "stagehand/stagehandlaw37.PeersRound", spec := "peersRound", inPlace := ["internal/abi.NoEscape"], unfollowed := true, recurses := true, loops := true, apart := false }
def PeersRoundSaid : Prop := peersRoundRow.holds Tryz.pinned (OpenSpec.ofChange peersRoundSpec)

/-- ITS FALSE NEIGHBOUR: 'it returns false'. Refute it at one input. -/
def peersRoundWrong : ChangeSpec := { name := "peersRound", fn := fun _ => fun
  | [d1, d2] => { results := [.lit (.bool false)], args := [d1, d2] }
  | _ => none }
def PeersRoundWrongFalsely : Prop := peersRoundRow.holds Tryz.pinned (OpenSpec.ofChange peersRoundWrong)

/- THE SECOND FORM. 'bulk': how many values and letters a reading holds, each counted each time it is reached (what is shared counts as often as it is met; a slice's spare places count too). A statement '..UptoSaid' is the law's where the arguments, and the package variables that the reading takes, are together of bulk at most 1048576: NARROWER than '..Said'. Prove '..Said' where nothing that the law and all that it calls make is longer than what came in: it says more and counts as full. Else prove '..UptoSaid'. A law counts once. -/
mutual
def uptoBulk {H : Type} : DataW H → Nat
  | .lit (.string bytes) => bytes.length + 1
  | .lit _ => 1
  | .nil => 1
  | .ptr d => uptoBulk d + 1
  | .slice elems spare => uptoBulkAll elems + uptoBulkAll spare + 1
  | .agg parts => uptoBulkAll parts + 1
  | .iface _ d => uptoBulk d + 1
  | .map entries => uptoBulkEntries entries + 1
  | .held _ => 1
def uptoBulkAll {H : Type} : List (DataW H) → Nat
  | [] => 0
  | d :: r => uptoBulk d + uptoBulkAll r
def uptoBulkEntries {H : Type} : List (Lit × DataW H) → Nat
  | [] => 0
  | x :: r => uptoBulkEntry x + uptoBulkEntries r
def uptoBulkEntry {H : Type} : Lit × DataW H → Nat
  | (.string bytes, d) => bytes.length + uptoBulk d + 1
  | (_, d) => uptoBulk d + 1
 end
def uptoSmall : (H : Type) → List (DataW H) → Bool := fun _ ds => decide (uptoBulkAll ds ≤ 1048576)
def OpenSpec.upto (s : _root_.Go.ChangeSpec) : _root_.Go.OpenSpec := { _root_.Go.OpenSpec.ofChange s with cond := some uptoSmall }

/-- 'stagehandlaw37.PeersEncodes', WHERE WHAT IT READS IS OF BULK AT MOST 1048576: true; the input reads as it did. -/
def peersEncodesUptoRow : OpenClaim := { program := "ytemlogadbopffaagreat", sum := "e409ec7d838dedd0b3becdd42cf511ebd35bb53363d584c04702d46b25d22ea5", func := "stagehand/stagehandlaw37.PeersEncodes", spec := "peersEncodes", inPlace := ["internal/abi.NoEscape"], unfollowed := true, recurses := true, loops := true, apart := false, narrowed := true }
def PeersEncodesUptoSaid : Prop := peersEncodesUptoRow.holds Tryz.pinned (OpenSpec.upto peersEncodesSpec)

/-- 'stagehandlaw37.PeersDecodes', WHERE WHAT IT READS IS OF BULK AT MOST 1048576: true; the input reads as it did. -/
def peersDecodesUptoRow : OpenClaim := { program := "ytemlogadbopffaagreat", sum := "e409ec7d838dedd0b3becdd42cf511ebd35bb53363d584c04702d46b25d22ea5", func := "stagehand/stagehandlaw37.PeersDecodes", spec := "peersDecodes", inPlace := ["internal/abi.NoEscape"], unfollowed := true, recurses := true, apart := false, narrowed := true }
def PeersDecodesUptoSaid : Prop := peersDecodesUptoRow.holds Tryz.pinned (OpenSpec.upto peersDecodesSpec)

/-- 'stagehandlaw37.PeersRound', WHERE WHAT IT READS IS OF BULK AT MOST 1048576: true; the input reads as it did. -/
def peersRoundUptoRow : OpenClaim := { program := "ytemlogadbopffaagreat", sum := "e409ec7d838dedd0b3becdd42cf511ebd35bb53363d584c04702d46b25d22ea5", func := "stagehand/stagehandlaw37.PeersRound", spec := "peersRound", inPlace := ["internal/abi.NoEscape"], unfollowed := true, recurses := true, loops := true, apart := false, narrowed := true }
def PeersRoundUptoSaid : Prop := peersRoundUptoRow.holds Tryz.pinned (OpenSpec.upto peersRoundSpec)

end Rows
end Go.Proofs.YtemlogadbopffaaGreat
