/-
  No cell of these rows narrows 'for every input' (looked for: loops, veiled, ifaces, maps, wideKeys, modest, calm, conditions, laid).
  DERIVED. THE GIVEN ROWS OF THIS SEAT. 8 by the template 'for every input the law returns true; each argument reads behind the call as it read before'; 0 by the template 'total and deterministic' (their statements: YtbddggdbhfmlnaaTotals.lean).
  GIVEN WITH THE SEED: the statements are not yours to turn. If you find one false, say at which input.
  Laid BY PROGRAM, IN A SANDBOX (cutbox-rows.mjs): the forced cells as the released guide's own fill.sh prints them over the translation c1d5ad54b0c35695… (all of the seat's roots in one cut). By AI agents, Wed Nov 11 2026. No macro, syntax, notation, axiom, sorry.
-/
import Derived.Test.YtbddggdbhfmlnaaChecked
import GoSem.Claim
import GoSem.ClaimJoined
import GoSem.ClaimMapViews
import Derived.JoinedTies
import Derived.KernelRfl
namespace Go.Proofs.Ytbddggdbhfmlnaa
/- THE CELL 'sum', in the pinned program and in every row, IS THE sha256 OF THE DUMP (.gsa) THAT YtbddggdbhfmlnaaProg.lean LOADS. Nothing in Lean hashes anything: it is a label: what it is worth is what the hold of that sum in a sandbox is worth. -/
noncomputable def Try.pinned : Pinned := { name := "ytbddggdbhfmlnaa", sum := "c1d5ad54b0c35695b0d78accee853e4233da0f6f81b508b440d16f51217928d5", checked := Try.checked }
namespace Rows
def none {H : Type} : Left H := { results := [], args := [] }

/-- 'stagehandlaw36.FragsCuts': WHATEVER THE INPUT: true; the input reads as it did. -/
def fragsCutsSpec : ChangeSpec := { name := "fragsCuts", fn := fun _ => fun
  | [d1, d2, d3] => { results := [.lit (.bool true)], args := [d1, d2, d3] }
  | _ => none }
def fragsCutsRow : OpenClaim := { program := "ytbddggdbhfmlnaa", sum := "c1d5ad54b0c35695b0d78accee853e4233da0f6f81b508b440d16f51217928d5", func := "stagehand/stagehandlaw36.FragsCuts", spec := "fragsCuts", unfollowed := true, recurses := true, apart := false }
def FragsCutsSaid : Prop := fragsCutsRow.holds Try.pinned (OpenSpec.ofChange fragsCutsSpec)

/-- ITS FALSE NEIGHBOUR: 'it returns false'. Refute it at one input. -/
def fragsCutsWrong : ChangeSpec := { name := "fragsCuts", fn := fun _ => fun
  | [d1, d2, d3] => { results := [.lit (.bool false)], args := [d1, d2, d3] }
  | _ => none }
def FragsCutsWrongFalsely : Prop := fragsCutsRow.holds Try.pinned (OpenSpec.ofChange fragsCutsWrong)

/-- 'stagehandlaw36.FragsWhole': WHATEVER THE INPUT: true; the input reads as it did. -/
def fragsWholeSpec : ChangeSpec := { name := "fragsWhole", fn := fun _ => fun
  | [d1, d2, d3] => { results := [.lit (.bool true)], args := [d1, d2, d3] }
  | _ => none }
def fragsWholeRow : OpenClaim := { program := "ytbddggdbhfmlnaa", sum := "c1d5ad54b0c35695b0d78accee853e4233da0f6f81b508b440d16f51217928d5", func := "stagehand/stagehandlaw36.FragsWhole", spec := "fragsWhole", unfollowed := true, recurses := true, apart := false }
def FragsWholeSaid : Prop := fragsWholeRow.holds Try.pinned (OpenSpec.ofChange fragsWholeSpec)

/-- ITS FALSE NEIGHBOUR: 'it returns false'. Refute it at one input. -/
def fragsWholeWrong : ChangeSpec := { name := "fragsWhole", fn := fun _ => fun
  | [d1, d2, d3] => { results := [.lit (.bool false)], args := [d1, d2, d3] }
  | _ => none }
def FragsWholeWrongFalsely : Prop := fragsWholeRow.holds Try.pinned (OpenSpec.ofChange fragsWholeWrong)

/-- 'stagehandlaw36.FragsWeaves': WHATEVER THE INPUT: true; the input reads as it did. -/
def fragsWeavesSpec : ChangeSpec := { name := "fragsWeaves", fn := fun _ => fun
  | [d] => { results := [.lit (.bool true)], args := [d] }
  | _ => none }
def fragsWeavesRow : OpenClaim := { program := "ytbddggdbhfmlnaa", sum := "c1d5ad54b0c35695b0d78accee853e4233da0f6f81b508b440d16f51217928d5", func := "stagehand/stagehandlaw36.FragsWeaves", spec := "fragsWeaves", unfollowed := true, recurses := true, apart := false }
def FragsWeavesSaid : Prop := fragsWeavesRow.holds Try.pinned (OpenSpec.ofChange fragsWeavesSpec)

/-- ITS FALSE NEIGHBOUR: 'it returns false'. Refute it at one input. -/
def fragsWeavesWrong : ChangeSpec := { name := "fragsWeaves", fn := fun _ => fun
  | [d] => { results := [.lit (.bool false)], args := [d] }
  | _ => none }
def FragsWeavesWrongFalsely : Prop := fragsWeavesRow.holds Try.pinned (OpenSpec.ofChange fragsWeavesWrong)

/-- 'stagehandlaw36.FragsRefuses': WHATEVER THE INPUT: true; the input reads as it did. -/
def fragsRefusesSpec : ChangeSpec := { name := "fragsRefuses", fn := fun _ => fun
  | [d1, d2, d3] => { results := [.lit (.bool true)], args := [d1, d2, d3] }
  | _ => none }
def fragsRefusesRow : OpenClaim := { program := "ytbddggdbhfmlnaa", sum := "c1d5ad54b0c35695b0d78accee853e4233da0f6f81b508b440d16f51217928d5", func := "stagehand/stagehandlaw36.FragsRefuses", spec := "fragsRefuses", unfollowed := true, recurses := true, apart := false }
def FragsRefusesSaid : Prop := fragsRefusesRow.holds Try.pinned (OpenSpec.ofChange fragsRefusesSpec)

/-- ITS FALSE NEIGHBOUR: 'it returns false'. Refute it at one input. -/
def fragsRefusesWrong : ChangeSpec := { name := "fragsRefuses", fn := fun _ => fun
  | [d1, d2, d3] => { results := [.lit (.bool false)], args := [d1, d2, d3] }
  | _ => none }
def FragsRefusesWrongFalsely : Prop := fragsRefusesRow.holds Try.pinned (OpenSpec.ofChange fragsRefusesWrong)

/-- 'stagehandlaw36.FragsGathers': WHATEVER THE INPUT: true; the input reads as it did. -/
def fragsGathersSpec : ChangeSpec := { name := "fragsGathers", fn := fun _ => fun
  | [d] => { results := [.lit (.bool true)], args := [d] }
  | _ => none }
def fragsGathersRow : OpenClaim := { program := "ytbddggdbhfmlnaa", sum := "c1d5ad54b0c35695b0d78accee853e4233da0f6f81b508b440d16f51217928d5", func := "stagehand/stagehandlaw36.FragsGathers", spec := "fragsGathers", unfollowed := true, recurses := true, apart := false }
def FragsGathersSaid : Prop := fragsGathersRow.holds Try.pinned (OpenSpec.ofChange fragsGathersSpec)

/-- ITS FALSE NEIGHBOUR: 'it returns false'. Refute it at one input. -/
def fragsGathersWrong : ChangeSpec := { name := "fragsGathers", fn := fun _ => fun
  | [d] => { results := [.lit (.bool false)], args := [d] }
  | _ => none }
def FragsGathersWrongFalsely : Prop := fragsGathersRow.holds Try.pinned (OpenSpec.ofChange fragsGathersWrong)

/-- 'stagehandlaw36.FragsKnown': WHATEVER THE INPUT: true; the input reads as it did. -/
def fragsKnownSpec : ChangeSpec := { name := "fragsKnown", fn := fun _ => fun
  | [] => { results := [.lit (.bool true)], args := [] }
  | _ => none }
def fragsKnownRow : OpenClaim := { program := "ytbddggdbhfmlnaa", sum := "c1d5ad54b0c35695b0d78accee853e4233da0f6f81b508b440d16f51217928d5", func := "stagehand/stagehandlaw36.FragsKnown", spec := "fragsKnown", unfollowed := true, recurses := true, apart := false }
def FragsKnownSaid : Prop := fragsKnownRow.holds Try.pinned (OpenSpec.ofChange fragsKnownSpec)

/-- ITS FALSE NEIGHBOUR: 'it returns false'. Refute it at one input. -/
def fragsKnownWrong : ChangeSpec := { name := "fragsKnown", fn := fun _ => fun
  | [] => { results := [.lit (.bool false)], args := [] }
  | _ => none }
def FragsKnownWrongFalsely : Prop := fragsKnownRow.holds Try.pinned (OpenSpec.ofChange fragsKnownWrong)

/-- 'stagehandlaw36.FragsCodes': WHATEVER THE INPUT: true; the input reads as it did. -/
def fragsCodesSpec : ChangeSpec := { name := "fragsCodes", fn := fun _ => fun
  | [d1, d2] => { results := [.lit (.bool true)], args := [d1, d2] }
  | _ => none }
def fragsCodesRow : OpenClaim := { program := "ytbddggdbhfmlnaa", sum := "c1d5ad54b0c35695b0d78accee853e4233da0f6f81b508b440d16f51217928d5", func := "stagehand/stagehandlaw36.FragsCodes", spec := "fragsCodes", unfollowed := true, recurses := true, apart := false }
def FragsCodesSaid : Prop := fragsCodesRow.holds Try.pinned (OpenSpec.ofChange fragsCodesSpec)

/-- ITS FALSE NEIGHBOUR: 'it returns false'. Refute it at one input. -/
def fragsCodesWrong : ChangeSpec := { name := "fragsCodes", fn := fun _ => fun
  | [d1, d2] => { results := [.lit (.bool false)], args := [d1, d2] }
  | _ => none }
def FragsCodesWrongFalsely : Prop := fragsCodesRow.holds Try.pinned (OpenSpec.ofChange fragsCodesWrong)

/-- 'stagehandlaw36.FragsBack': WHATEVER THE INPUT: true; the input reads as it did. -/
def fragsBackSpec : ChangeSpec := { name := "fragsBack", fn := fun _ => fun
  | [d1, d2] => { results := [.lit (.bool true)], args := [d1, d2] }
  | _ => none }
def fragsBackRow : OpenClaim := { program := "ytbddggdbhfmlnaa", sum := "c1d5ad54b0c35695b0d78accee853e4233da0f6f81b508b440d16f51217928d5", func := "stagehand/stagehandlaw36.FragsBack", spec := "fragsBack", unfollowed := true, recurses := true, apart := false }
def FragsBackSaid : Prop := fragsBackRow.holds Try.pinned (OpenSpec.ofChange fragsBackSpec)

/-- ITS FALSE NEIGHBOUR: 'it returns false'. Refute it at one input. -/
def fragsBackWrong : ChangeSpec := { name := "fragsBack", fn := fun _ => fun
  | [d1, d2] => { results := [.lit (.bool false)], args := [d1, d2] }
  | _ => none }
def FragsBackWrongFalsely : Prop := fragsBackRow.holds Try.pinned (OpenSpec.ofChange fragsBackWrong)

/- THE SECOND FORM. 'bulk': how many values and letters a reading holds, each counted each time it is reached (what is shared counts as often as it is met; a slice's spare places count too). A statement '..UptoSaid' is the law's where the arguments, and the package variables that the reading takes, are together of bulk at most 1048576: NARROWER than '..Said'. Prove '..Said' where nothing that the law and all that it calls make is longer than what came in: it says more and counts as full. Else prove '..UptoSaid'. A law counts once. -/
mutual
def uptoBulk {H : Type} : DataW H → Nat
  | .lit (.string bytes) => bytes.length + 1
  | .lit _ => 1
  | .nil => 1
  | .ptr d => uptoBulk d + 1
  | .slice elems spare => uptoBulkAll elems + uptoBulkAll spare + 1
  | .agg parts => uptoBulkAll parts + 1
  | .iface _ d => uptoBulk d + 1
  | .map entries => uptoBulkEntries entries + 1
  | .held _ => 1
def uptoBulkAll {H : Type} : List (DataW H) → Nat
  | [] => 0
  | d :: r => uptoBulk d + uptoBulkAll r
def uptoBulkEntries {H : Type} : List (Lit × DataW H) → Nat
  | [] => 0
  | x :: r => uptoBulkEntry x + uptoBulkEntries r
def uptoBulkEntry {H : Type} : Lit × DataW H → Nat
  | (.string bytes, d) => bytes.length + uptoBulk d + 1
  | (_, d) => uptoBulk d + 1
 end
def uptoSmall : (H : Type) → List (DataW H) → Bool := fun _ ds => decide (uptoBulkAll ds ≤ 1048576)
def OpenSpec.upto (s : _root_.Go.ChangeSpec) : _root_.Go.OpenSpec := { _root_.Go.OpenSpec.ofChange s with cond := some uptoSmall }

/-- 'stagehandlaw36.FragsCuts', WHERE WHAT IT READS IS OF BULK AT MOST 1048576: true; the input reads as it did. -/
def fragsCutsUptoRow : OpenClaim := { program := "ytbddggdbhfmlnaa", sum := "c1d5ad54b0c35695b0d78accee853e4233da0f6f81b508b440d16f51217928d5", func := "stagehand/stagehandlaw36.FragsCuts", spec := "fragsCuts", unfollowed := true, recurses := true, apart := false, narrowed := true }
def FragsCutsUptoSaid : Prop := fragsCutsUptoRow.holds Try.pinned (OpenSpec.upto fragsCutsSpec)

/-- 'stagehandlaw36.FragsWhole', WHERE WHAT IT READS IS OF BULK AT MOST 1048576: true; the input reads as it did. -/
def fragsWholeUptoRow : OpenClaim := { program := "ytbddggdbhfmlnaa", sum := "c1d5ad54b0c35695b0d78accee853e4233da0f6f81b508b440d16f51217928d5", func := "stagehand/stagehandlaw36.FragsWhole", spec := "fragsWhole", unfollowed := true, recurses := true, apart := false, narrowed := true }
def FragsWholeUptoSaid : Prop := fragsWholeUptoRow.holds Try.pinned (OpenSpec.upto fragsWholeSpec)

/-- 'stagehandlaw36.FragsWeaves', WHERE WHAT IT READS IS OF BULK AT MOST 1048576: true; the input reads as it did. -/
def fragsWeavesUptoRow : OpenClaim := { program := "ytbddggdbhfmlnaa", sum := "c1d5ad54b0c35695b0d78accee853e4233da0f6f81b508b440d16f51217928d5", func := "stagehand/stagehandlaw36.FragsWeaves", spec := "fragsWeaves", unfollowed := true, recurses := true, apart := false, narrowed := true }
def FragsWeavesUptoSaid : Prop := fragsWeavesUptoRow.holds Try.pinned (OpenSpec.upto fragsWeavesSpec)

/-- 'stagehandlaw36.FragsRefuses', WHERE WHAT IT READS IS OF BULK AT MOST 1048576: true; the input reads as it did. -/
def fragsRefusesUptoRow : OpenClaim := { program := "ytbddggdbhfmlnaa", sum := "c1d5ad54b0c35695b0d78accee853e4233da0f6f81b508b440d16f51217928d5", func := "stagehand/stagehandlaw36.FragsRefuses", spec := "fragsRefuses", unfollowed := true, recurses := true, apart := false, narrowed := true }
def FragsRefusesUptoSaid : Prop := fragsRefusesUptoRow.holds Try.pinned (OpenSpec.upto fragsRefusesSpec)

/-- 'stagehandlaw36.FragsGathers', WHERE WHAT IT READS IS OF BULK AT MOST 1048576: true; the input reads as it did. -/
def fragsGathersUptoRow : OpenClaim := { program := "ytbddggdbhfmlnaa", sum := "c1d5ad54b0c35695b0d78accee853e4233da0f6f81b508b440d16f51217928d5", func := "stagehand/stagehandlaw36.FragsGathers", spec := "fragsGathers", unfollowed := true, recurses := true, apart := false, narrowed := true }
def FragsGathersUptoSaid : Prop := fragsGathersUptoRow.holds Try.pinned (OpenSpec.upto fragsGathersSpec)

/-- 'stagehandlaw36.FragsKnown', WHERE WHAT IT READS IS OF BULK AT MOST 1048576: true; the input reads as it did. -/
def fragsKnownUptoRow : OpenClaim := { program := "ytbddggdbhfmlnaa", sum := "c1d5ad54b0c35695b0d78accee853e4233da0f6f81b508b440d16f51217928d5", func := "stagehand/stagehandlaw36.FragsKnown", spec := "fragsKnown", unfollowed := true, recurses := true, apart := false, narrowed := true }
def FragsKnownUptoSaid : Prop := fragsKnownUptoRow.holds Try.pinned (OpenSpec.upto fragsKnownSpec)

/-- 'stagehandlaw36.FragsCodes', WHERE WHAT IT READS IS OF BULK AT MOST 1048576: true; the input reads as it did. -/
def fragsCodesUptoRow : OpenClaim := { program := "ytbddggdbhfmlnaa", sum := "c1d5ad54b0c35695b0d78accee853e4233da0f6f81b508b440d16f51217928d5", func := "stagehand/stagehandlaw36.FragsCodes", spec := "fragsCodes", unfollowed := true, recurses := true, apart := false, narrowed := true }
def FragsCodesUptoSaid : Prop := fragsCodesUptoRow.holds Try.pinned (OpenSpec.upto fragsCodesSpec)

/-- 'stagehandlaw36.FragsBack', WHERE WHAT IT READS IS OF BULK AT MOST 1048576: true; the input reads as it did. -/
def fragsBackUptoRow : OpenClaim := { program := "ytbddggdbhfmlnaa", sum := "c1d5ad54b0c35695b0d78accee853e4233da0f6f81b508b440d16f51217928d5", func := "stagehand/stagehandlaw36.FragsBack", spec := "fragsBack", unfollowed := true, recurses := true, apart := false, narrowed := true }
def FragsBackUptoSaid : Prop := fragsBackUptoRow.holds Try.pinned (OpenSpec.upto fragsBackSpec)

end Rows
end Go.Proofs.Ytbddggdbhfmlnaa
