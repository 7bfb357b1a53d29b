/-
  No cell of these rows narrows 'for every input' (looked for: loops, veiled, ifaces, maps, wideKeys, modest, calm, conditions, laid).
  DERIVED. THE GIVEN ROWS OF THIS SEAT. 6 by the template 'for every input the law returns true; each argument reads behind the call as it read before'; 0 by the template 'total and deterministic' (their statements: YtfgnagnnmibmaaaTotals.lean).
  GIVEN WITH THE SEED: the statements are not yours to turn. If you find one false, say at which input.
  Laid BY PROGRAM, IN A SANDBOX (cutbox-rows.mjs): the forced cells as the released guide's own fill.sh prints them over the translation a0b9d17fe0998fd9… (all of the seat's roots in one cut). By AI agents, Wed Nov 11 2026. No macro, syntax, notation, axiom, sorry.
-/
import Derived.Test.YtfgnagnnmibmaaaChecked
import GoSem.Claim
import GoSem.ClaimJoined
import GoSem.ClaimMapViews
import Derived.JoinedTies
import Derived.KernelRfl
namespace Go.Proofs.Ytfgnagnnmibmaaa
/- THE CELL 'sum', in the pinned program and in every row, IS THE sha256 OF THE DUMP (.gsa) THAT YtfgnagnnmibmaaaProg.lean LOADS. Nothing in Lean hashes anything: it is a label: what it is worth is what the hold of that sum in a sandbox is worth. -/
noncomputable def Try.pinned : Pinned := { name := "ytfgnagnnmibmaaa", sum := "a0b9d17fe0998fd923ad05a43c91d72a64d8227429ffc5099e01646f61a6cf14", checked := Try.checked }
namespace Rows
def none {H : Type} : Left H := { results := [], args := [] }

/-- 'stagehandlaw22.BlobsCounts': WHATEVER THE INPUT: true; the input reads as it did. -/
def blobsCountsSpec : ChangeSpec := { name := "blobsCounts", fn := fun _ => fun
  | [d] => { results := [.lit (.bool true)], args := [d] }
  | _ => none }
def blobsCountsRow : OpenClaim := { program := "ytfgnagnnmibmaaa", sum := "a0b9d17fe0998fd923ad05a43c91d72a64d8227429ffc5099e01646f61a6cf14", func := "stagehand/stagehandlaw22.BlobsCounts", spec := "blobsCounts", apart := false }
def BlobsCountsSaid : Prop := blobsCountsRow.holds Try.pinned (OpenSpec.ofChange blobsCountsSpec)

/-- ITS FALSE NEIGHBOUR: 'it returns false'. Refute it at one input. -/
def blobsCountsWrong : ChangeSpec := { name := "blobsCounts", fn := fun _ => fun
  | [d] => { results := [.lit (.bool false)], args := [d] }
  | _ => none }
def BlobsCountsWrongFalsely : Prop := blobsCountsRow.holds Try.pinned (OpenSpec.ofChange blobsCountsWrong)

/-- 'stagehandlaw22.BlobsPlays': WHATEVER THE INPUT: true; the input reads as it did. -/
def blobsPlaysSpec : ChangeSpec := { name := "blobsPlays", fn := fun _ => fun
  | [d1, d2] => { results := [.lit (.bool true)], args := [d1, d2] }
  | _ => none }
def blobsPlaysRow : OpenClaim := { program := "ytfgnagnnmibmaaa", sum := "a0b9d17fe0998fd923ad05a43c91d72a64d8227429ffc5099e01646f61a6cf14", func := "stagehand/stagehandlaw22.BlobsPlays", spec := "blobsPlays", unfollowed := true, recurses := true, apart := false }
def BlobsPlaysSaid : Prop := blobsPlaysRow.holds Try.pinned (OpenSpec.ofChange blobsPlaysSpec)

/-- ITS FALSE NEIGHBOUR: 'it returns false'. Refute it at one input. -/
def blobsPlaysWrong : ChangeSpec := { name := "blobsPlays", fn := fun _ => fun
  | [d1, d2] => { results := [.lit (.bool false)], args := [d1, d2] }
  | _ => none }
def BlobsPlaysWrongFalsely : Prop := blobsPlaysRow.holds Try.pinned (OpenSpec.ofChange blobsPlaysWrong)

/-- 'stagehandlaw22.BlobsOnce': WHATEVER THE INPUT: true; the input reads as it did. -/
def blobsOnceSpec : ChangeSpec := { name := "blobsOnce", fn := fun _ => fun
  | [d] => { results := [.lit (.bool true)], args := [d] }
  | _ => none }
def blobsOnceRow : OpenClaim := { program := "ytfgnagnnmibmaaa", sum := "a0b9d17fe0998fd923ad05a43c91d72a64d8227429ffc5099e01646f61a6cf14", func := "stagehand/stagehandlaw22.BlobsOnce", spec := "blobsOnce", unfollowed := true, recurses := true, apart := false }
def BlobsOnceSaid : Prop := blobsOnceRow.holds Try.pinned (OpenSpec.ofChange blobsOnceSpec)

/-- ITS FALSE NEIGHBOUR: 'it returns false'. Refute it at one input. -/
def blobsOnceWrong : ChangeSpec := { name := "blobsOnce", fn := fun _ => fun
  | [d] => { results := [.lit (.bool false)], args := [d] }
  | _ => none }
def BlobsOnceWrongFalsely : Prop := blobsOnceRow.holds Try.pinned (OpenSpec.ofChange blobsOnceWrong)

/-- 'stagehandlaw22.BlobsQuiet': WHATEVER THE INPUT: true; the input reads as it did. -/
def blobsQuietSpec : ChangeSpec := { name := "blobsQuiet", fn := fun _ => fun
  | [d1, d2] => { results := [.lit (.bool true)], args := [d1, d2] }
  | _ => none }
def blobsQuietRow : OpenClaim := { program := "ytfgnagnnmibmaaa", sum := "a0b9d17fe0998fd923ad05a43c91d72a64d8227429ffc5099e01646f61a6cf14", func := "stagehand/stagehandlaw22.BlobsQuiet", spec := "blobsQuiet", unfollowed := true, recurses := true, apart := false }
def BlobsQuietSaid : Prop := blobsQuietRow.holds Try.pinned (OpenSpec.ofChange blobsQuietSpec)

/-- ITS FALSE NEIGHBOUR: 'it returns false'. Refute it at one input. -/
def blobsQuietWrong : ChangeSpec := { name := "blobsQuiet", fn := fun _ => fun
  | [d1, d2] => { results := [.lit (.bool false)], args := [d1, d2] }
  | _ => none }
def BlobsQuietWrongFalsely : Prop := blobsQuietRow.holds Try.pinned (OpenSpec.ofChange blobsQuietWrong)

/-- 'stagehandlaw22.BlobsNil': WHATEVER THE INPUT: true; the input reads as it did. -/
def blobsNilSpec : ChangeSpec := { name := "blobsNil", fn := fun _ => fun
  | [d1, d2] => { results := [.lit (.bool true)], args := [d1, d2] }
  | _ => none }
def blobsNilRow : OpenClaim := { program := "ytfgnagnnmibmaaa", sum := "a0b9d17fe0998fd923ad05a43c91d72a64d8227429ffc5099e01646f61a6cf14", func := "stagehand/stagehandlaw22.BlobsNil", spec := "blobsNil", unfollowed := true, recurses := true, apart := false }
def BlobsNilSaid : Prop := blobsNilRow.holds Try.pinned (OpenSpec.ofChange blobsNilSpec)

/-- ITS FALSE NEIGHBOUR: 'it returns false'. Refute it at one input. -/
def blobsNilWrong : ChangeSpec := { name := "blobsNil", fn := fun _ => fun
  | [d1, d2] => { results := [.lit (.bool false)], args := [d1, d2] }
  | _ => none }
def BlobsNilWrongFalsely : Prop := blobsNilRow.holds Try.pinned (OpenSpec.ofChange blobsNilWrong)

/-- 'stagehandlaw22.BlobsKnown': WHATEVER THE INPUT: true; the input reads as it did. -/
def blobsKnownSpec : ChangeSpec := { name := "blobsKnown", fn := fun _ => fun
  | [] => { results := [.lit (.bool true)], args := [] }
  | _ => none }
def blobsKnownRow : OpenClaim := { program := "ytfgnagnnmibmaaa", sum := "a0b9d17fe0998fd923ad05a43c91d72a64d8227429ffc5099e01646f61a6cf14", func := "stagehand/stagehandlaw22.BlobsKnown", spec := "blobsKnown", unfollowed := true, recurses := true, apart := false }
def BlobsKnownSaid : Prop := blobsKnownRow.holds Try.pinned (OpenSpec.ofChange blobsKnownSpec)

/-- ITS FALSE NEIGHBOUR: 'it returns false'. Refute it at one input. -/
def blobsKnownWrong : ChangeSpec := { name := "blobsKnown", fn := fun _ => fun
  | [] => { results := [.lit (.bool false)], args := [] }
  | _ => none }
def BlobsKnownWrongFalsely : Prop := blobsKnownRow.holds Try.pinned (OpenSpec.ofChange blobsKnownWrong)

/- THE SECOND FORM. 'bulk': how many values and letters a reading holds, each counted each time it is reached (what is shared counts as often as it is met; a slice's spare places count too). A statement '..UptoSaid' is the law's where the arguments, and the package variables that the reading takes, are together of bulk at most 1048576: NARROWER than '..Said'. Prove '..Said' where nothing that the law and all that it calls make is longer than what came in: it says more and counts as full. Else prove '..UptoSaid'. A law counts once. -/
mutual
def uptoBulk {H : Type} : DataW H → Nat
  | .lit (.string bytes) => bytes.length + 1
  | .lit _ => 1
  | .nil => 1
  | .ptr d => uptoBulk d + 1
  | .slice elems spare => uptoBulkAll elems + uptoBulkAll spare + 1
  | .agg parts => uptoBulkAll parts + 1
  | .iface _ d => uptoBulk d + 1
  | .map entries => uptoBulkEntries entries + 1
  | .held _ => 1
def uptoBulkAll {H : Type} : List (DataW H) → Nat
  | [] => 0
  | d :: r => uptoBulk d + uptoBulkAll r
def uptoBulkEntries {H : Type} : List (Lit × DataW H) → Nat
  | [] => 0
  | x :: r => uptoBulkEntry x + uptoBulkEntries r
def uptoBulkEntry {H : Type} : Lit × DataW H → Nat
  | (.string bytes, d) => bytes.length + uptoBulk d + 1
  | (_, d) => uptoBulk d + 1
 end
def uptoSmall : (H : Type) → List (DataW H) → Bool := fun _ ds => decide (uptoBulkAll ds ≤ 1048576)
def OpenSpec.upto (s : _root_.Go.ChangeSpec) : _root_.Go.OpenSpec := { _root_.Go.OpenSpec.ofChange s with cond := some uptoSmall }

/-- 'stagehandlaw22.BlobsCounts', WHERE WHAT IT READS IS OF BULK AT MOST 1048576: true; the input reads as it did. -/
def blobsCountsUptoRow : OpenClaim := { program := "ytfgnagnnmibmaaa", sum := "a0b9d17fe0998fd923ad05a43c91d72a64d8227429ffc5099e01646f61a6cf14", func := "stagehand/stagehandlaw22.BlobsCounts", spec := "blobsCounts", apart := false, narrowed := true }
def BlobsCountsUptoSaid : Prop := blobsCountsUptoRow.holds Try.pinned (OpenSpec.upto blobsCountsSpec)

/-- 'stagehandlaw22.BlobsPlays', WHERE WHAT IT READS IS OF BULK AT MOST 1048576: true; the input reads as it did. -/
def blobsPlaysUptoRow : OpenClaim := { program := "ytfgnagnnmibmaaa", sum := "a0b9d17fe0998fd923ad05a43c91d72a64d8227429ffc5099e01646f61a6cf14", func := "stagehand/stagehandlaw22.BlobsPlays", spec := "blobsPlays", unfollowed := true, recurses := true, apart := false, narrowed := true }
def BlobsPlaysUptoSaid : Prop := blobsPlaysUptoRow.holds Try.pinned (OpenSpec.upto blobsPlaysSpec)

/-- 'stagehandlaw22.BlobsOnce', WHERE WHAT IT READS IS OF BULK AT MOST 1048576: true; the input reads as it did. -/
def blobsOnceUptoRow : OpenClaim := { program := "ytfgnagnnmibmaaa", sum := "a0b9d17fe0998fd923ad05a43c91d72a64d8227429ffc5099e01646f61a6cf14", func := "stagehand/stagehandlaw22.BlobsOnce", spec := "blobsOnce", unfollowed := true, recurses := true, apart := false, narrowed := true }
def BlobsOnceUptoSaid : Prop := blobsOnceUptoRow.holds Try.pinned (OpenSpec.upto blobsOnceSpec)

/-- 'stagehandlaw22.BlobsQuiet', WHERE WHAT IT READS IS OF BULK AT MOST 1048576: true; the input reads as it did. -/
def blobsQuietUptoRow : OpenClaim := { program := "ytfgnagnnmibmaaa", sum := "a0b9d17fe0998fd923ad05a43c91d72a64d8227429ffc5099e01646f61a6cf14", func := "stagehand/stagehandlaw22.BlobsQuiet", spec := "blobsQuiet", unfollowed := true, recurses := true, apart := false, narrowed := true }
def BlobsQuietUptoSaid : Prop := blobsQuietUptoRow.holds Try.pinned (OpenSpec.upto blobsQuietSpec)

/-- 'stagehandlaw22.BlobsNil', WHERE WHAT IT READS IS OF BULK AT MOST 1048576: true; the input reads as it did. -/
def blobsNilUptoRow : OpenClaim := { program := "ytfgnagnnmibmaaa", sum := "a0b9d17fe0998fd923ad05a43c91d72a64d8227429ffc5099e01646f61a6cf14", func := "stagehand/stagehandlaw22.BlobsNil", spec := "blobsNil", unfollowed := true, recurses := true, apart := false, narrowed := true }
def BlobsNilUptoSaid : Prop := blobsNilUptoRow.holds Try.pinned (OpenSpec.upto blobsNilSpec)

/-- 'stagehandlaw22.BlobsKnown', WHERE WHAT IT READS IS OF BULK AT MOST 1048576: true; the input reads as it did. -/
def blobsKnownUptoRow : OpenClaim := { program := "ytfgnagnnmibmaaa", sum := "a0b9d17fe0998fd923ad05a43c91d72a64d8227429ffc5099e01646f61a6cf14", func := "stagehand/stagehandlaw22.BlobsKnown", spec := "blobsKnown", unfollowed := true, recurses := true, apart := false, narrowed := true }
def BlobsKnownUptoSaid : Prop := blobsKnownUptoRow.holds Try.pinned (OpenSpec.upto blobsKnownSpec)

end Rows
end Go.Proofs.Ytfgnagnnmibmaaa
