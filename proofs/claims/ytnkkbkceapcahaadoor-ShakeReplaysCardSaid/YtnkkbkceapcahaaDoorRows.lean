/-
  NARROWER THAN 'FOR EVERY INPUT', by the rows' own cells (each row's printed sentence says how): ShakeSilent: laid · ShakeKnown: laid · ShakeFlips: laid · ShakeReplays: laid · ShakeSides: laid · ShakeMeets: laid · ShakeBoth: laid.
  DERIVED. THE GIVEN ROWS OF THIS SEAT. 7 by the template 'for every input the law returns true; each argument reads behind the call as it read before'; 0 by the template 'total and deterministic' (their statements: YtnkkbkceapcahaaDoorTotals.lean).
  GIVEN WITH THE SEED: the statements are not yours to turn. If you find one false, say at which input.
  Laid BY PROGRAM, IN A SANDBOX (cutbox-rows.mjs): the forced cells as the released guide's own fill.sh prints them over the translation 87aecce330f1110c… (all of the seat's roots in one cut). By AI agents, Wed Nov 11 2026. No macro, syntax, notation, axiom, sorry.
-/
import Derived.Test.YtnkkbkceapcahaaDoorChecked
import GoSem.Claim
import GoSem.ClaimJoined
import GoSem.ClaimMapViews
import Derived.JoinedTies
import Derived.KernelRfl
namespace Go.Proofs.YtnkkbkceapcahaaDoor
/- THE CELL 'sum', in the pinned program and in every row, IS THE sha256 OF THE DUMP (.gsa) THAT YtnkkbkceapcahaaDoorProg.lean LOADS. Nothing in Lean hashes anything: it is a label: what it is worth is what the hold of that sum in a sandbox is worth. -/
noncomputable def Tryd.pinned : Pinned := { name := "ytnkkbkceapcahaadoor", sum := "87aecce330f1110cc53b9d79e364e173aaed5d635b6ad280c0582ec8ee07da3e", checked := Tryd.checked }
namespace Rows
def none {H : Type} : Left H := { results := [], args := [] }

/- WHAT THE LISTED PACKAGE-LEVEL VARIABLES READ AS WHEN THE CALL BEGINS. Each datum BY PROGRAM (the guide's laid-datum.mjs) off the statement by which the dump's own 'gosem.cut.vars' lays the variable. In a bare row this is a premise. The card (YtnkkbkceapcahaaDoorCards.lean) ties it to the program's text. -/
def laid_stagehand_digest_start {H : Type} : DataW H := .agg [.lit (.int .u32 1779033703), .lit (.int .u32 3144134277), .lit (.int .u32 1013904242), .lit (.int .u32 2773480762), .lit (.int .u32 1359893119), .lit (.int .u32 2600822924), .lit (.int .u32 528734635), .lit (.int .u32 1541459225)]
def laid_stagehand_digest_rounds {H : Type} : DataW H := .agg [.lit (.int .u32 1116352408), .lit (.int .u32 1899447441), .lit (.int .u32 3049323471), .lit (.int .u32 3921009573), .lit (.int .u32 961987163), .lit (.int .u32 1508970993), .lit (.int .u32 2453635748), .lit (.int .u32 2870763221), .lit (.int .u32 3624381080), .lit (.int .u32 310598401), .lit (.int .u32 607225278), .lit (.int .u32 1426881987), .lit (.int .u32 1925078388), .lit (.int .u32 2162078206), .lit (.int .u32 2614888103), .lit (.int .u32 3248222580), .lit (.int .u32 3835390401), .lit (.int .u32 4022224774), .lit (.int .u32 264347078), .lit (.int .u32 604807628), .lit (.int .u32 770255983), .lit (.int .u32 1249150122), .lit (.int .u32 1555081692), .lit (.int .u32 1996064986), .lit (.int .u32 2554220882), .lit (.int .u32 2821834349), .lit (.int .u32 2952996808), .lit (.int .u32 3210313671), .lit (.int .u32 3336571891), .lit (.int .u32 3584528711), .lit (.int .u32 113926993), .lit (.int .u32 338241895), .lit (.int .u32 666307205), .lit (.int .u32 773529912), .lit (.int .u32 1294757372), .lit (.int .u32 1396182291), .lit (.int .u32 1695183700), .lit (.int .u32 1986661051), .lit (.int .u32 2177026350), .lit (.int .u32 2456956037), .lit (.int .u32 2730485921), .lit (.int .u32 2820302411), .lit (.int .u32 3259730800), .lit (.int .u32 3345764771), .lit (.int .u32 3516065817), .lit (.int .u32 3600352804), .lit (.int .u32 4094571909), .lit (.int .u32 275423344), .lit (.int .u32 430227734), .lit (.int .u32 506948616), .lit (.int .u32 659060556), .lit (.int .u32 883997877), .lit (.int .u32 958139571), .lit (.int .u32 1322822218), .lit (.int .u32 1537002063), .lit (.int .u32 1747873779), .lit (.int .u32 1955562222), .lit (.int .u32 2024104815), .lit (.int .u32 2227730452), .lit (.int .u32 2361852424), .lit (.int .u32 2428436474), .lit (.int .u32 2756734187), .lit (.int .u32 3204031479), .lit (.int .u32 3329325298)]

/-- 'stagehandlaw35.ShakeSilent': WHATEVER THE INPUT: true; the input reads as it did. -/
def shakeSilentSpec : ChangeSpec := { name := "shakeSilent", fn := fun _ => fun
  | [d] => { results := [.lit (.bool true)], args := [d] }
  | _ => none }
def shakeSilentRow : OpenClaim := { program := "ytnkkbkceapcahaadoor", sum := "87aecce330f1110cc53b9d79e364e173aaed5d635b6ad280c0582ec8ee07da3e", func := "stagehand/stagehandlaw35.ShakeSilent", spec := "shakeSilent", unfollowed := true, recurses := true, named := ["stagehand/digest.start", "stagehand/digest.rounds"], plainKeys := false, apart := false, laid := [("stagehand/digest.start", laid_stagehand_digest_start), ("stagehand/digest.rounds", laid_stagehand_digest_rounds)] }
def ShakeSilentSaid : Prop := shakeSilentRow.holds Tryd.pinned (OpenSpec.ofChange shakeSilentSpec)

/-- ITS FALSE NEIGHBOUR: 'it returns false'. Refute it at one input. -/
def shakeSilentWrong : ChangeSpec := { name := "shakeSilent", fn := fun _ => fun
  | [d] => { results := [.lit (.bool false)], args := [d] }
  | _ => none }
def ShakeSilentWrongFalsely : Prop := shakeSilentRow.holds Tryd.pinned (OpenSpec.ofChange shakeSilentWrong)

/-- 'stagehandlaw35.ShakeKnown': WHATEVER THE INPUT: true; the input reads as it did. -/
def shakeKnownSpec : ChangeSpec := { name := "shakeKnown", fn := fun _ => fun
  | [] => { results := [.lit (.bool true)], args := [] }
  | _ => none }
def shakeKnownRow : OpenClaim := { program := "ytnkkbkceapcahaadoor", sum := "87aecce330f1110cc53b9d79e364e173aaed5d635b6ad280c0582ec8ee07da3e", func := "stagehand/stagehandlaw35.ShakeKnown", spec := "shakeKnown", unfollowed := true, recurses := true, named := ["stagehand/digest.start", "stagehand/digest.rounds"], plainKeys := false, apart := false, laid := [("stagehand/digest.start", laid_stagehand_digest_start), ("stagehand/digest.rounds", laid_stagehand_digest_rounds)] }
def ShakeKnownSaid : Prop := shakeKnownRow.holds Tryd.pinned (OpenSpec.ofChange shakeKnownSpec)

/-- ITS FALSE NEIGHBOUR: 'it returns false'. Refute it at one input. -/
def shakeKnownWrong : ChangeSpec := { name := "shakeKnown", fn := fun _ => fun
  | [] => { results := [.lit (.bool false)], args := [] }
  | _ => none }
def ShakeKnownWrongFalsely : Prop := shakeKnownRow.holds Tryd.pinned (OpenSpec.ofChange shakeKnownWrong)

/-- 'stagehandlaw35.ShakeFlips': WHATEVER THE INPUT: true; the input reads as it did. -/
def shakeFlipsSpec : ChangeSpec := { name := "shakeFlips", fn := fun _ => fun
  | [d1, d2, d3] => { results := [.lit (.bool true)], args := [d1, d2, d3] }
  | _ => none }
def shakeFlipsRow : OpenClaim := { program := "ytnkkbkceapcahaadoor", sum := "87aecce330f1110cc53b9d79e364e173aaed5d635b6ad280c0582ec8ee07da3e", func := "stagehand/stagehandlaw35.ShakeFlips", spec := "shakeFlips", unfollowed := true, recurses := true, named := ["stagehand/digest.start", "stagehand/digest.rounds"], plainKeys := false, apart := false, laid := [("stagehand/digest.start", laid_stagehand_digest_start), ("stagehand/digest.rounds", laid_stagehand_digest_rounds)] }
def ShakeFlipsSaid : Prop := shakeFlipsRow.holds Tryd.pinned (OpenSpec.ofChange shakeFlipsSpec)

/-- ITS FALSE NEIGHBOUR: 'it returns false'. Refute it at one input. -/
def shakeFlipsWrong : ChangeSpec := { name := "shakeFlips", fn := fun _ => fun
  | [d1, d2, d3] => { results := [.lit (.bool false)], args := [d1, d2, d3] }
  | _ => none }
def ShakeFlipsWrongFalsely : Prop := shakeFlipsRow.holds Tryd.pinned (OpenSpec.ofChange shakeFlipsWrong)

/-- 'stagehandlaw35.ShakeReplays': WHATEVER THE INPUT: true; the input reads as it did. -/
def shakeReplaysSpec : ChangeSpec := { name := "shakeReplays", fn := fun _ => fun
  | [d1, d2, d3] => { results := [.lit (.bool true)], args := [d1, d2, d3] }
  | _ => none }
def shakeReplaysRow : OpenClaim := { program := "ytnkkbkceapcahaadoor", sum := "87aecce330f1110cc53b9d79e364e173aaed5d635b6ad280c0582ec8ee07da3e", func := "stagehand/stagehandlaw35.ShakeReplays", spec := "shakeReplays", unfollowed := true, recurses := true, named := ["stagehand/digest.start", "stagehand/digest.rounds"], plainKeys := false, apart := false, laid := [("stagehand/digest.start", laid_stagehand_digest_start), ("stagehand/digest.rounds", laid_stagehand_digest_rounds)] }
def ShakeReplaysSaid : Prop := shakeReplaysRow.holds Tryd.pinned (OpenSpec.ofChange shakeReplaysSpec)

/-- ITS FALSE NEIGHBOUR: 'it returns false'. Refute it at one input. -/
def shakeReplaysWrong : ChangeSpec := { name := "shakeReplays", fn := fun _ => fun
  | [d1, d2, d3] => { results := [.lit (.bool false)], args := [d1, d2, d3] }
  | _ => none }
def ShakeReplaysWrongFalsely : Prop := shakeReplaysRow.holds Tryd.pinned (OpenSpec.ofChange shakeReplaysWrong)

/-- 'stagehandlaw35.ShakeSides': WHATEVER THE INPUT: true; the input reads as it did. -/
def shakeSidesSpec : ChangeSpec := { name := "shakeSides", fn := fun _ => fun
  | [d1, d2] => { results := [.lit (.bool true)], args := [d1, d2] }
  | _ => none }
def shakeSidesRow : OpenClaim := { program := "ytnkkbkceapcahaadoor", sum := "87aecce330f1110cc53b9d79e364e173aaed5d635b6ad280c0582ec8ee07da3e", func := "stagehand/stagehandlaw35.ShakeSides", spec := "shakeSides", unfollowed := true, recurses := true, named := ["stagehand/digest.start", "stagehand/digest.rounds"], plainKeys := false, apart := false, laid := [("stagehand/digest.start", laid_stagehand_digest_start), ("stagehand/digest.rounds", laid_stagehand_digest_rounds)] }
def ShakeSidesSaid : Prop := shakeSidesRow.holds Tryd.pinned (OpenSpec.ofChange shakeSidesSpec)

/-- ITS FALSE NEIGHBOUR: 'it returns false'. Refute it at one input. -/
def shakeSidesWrong : ChangeSpec := { name := "shakeSides", fn := fun _ => fun
  | [d1, d2] => { results := [.lit (.bool false)], args := [d1, d2] }
  | _ => none }
def ShakeSidesWrongFalsely : Prop := shakeSidesRow.holds Tryd.pinned (OpenSpec.ofChange shakeSidesWrong)

/-- 'stagehandlaw35.ShakeMeets': WHATEVER THE INPUT: true; the input reads as it did. -/
def shakeMeetsSpec : ChangeSpec := { name := "shakeMeets", fn := fun _ => fun
  | [d1, d2, d3] => { results := [.lit (.bool true)], args := [d1, d2, d3] }
  | _ => none }
def shakeMeetsRow : OpenClaim := { program := "ytnkkbkceapcahaadoor", sum := "87aecce330f1110cc53b9d79e364e173aaed5d635b6ad280c0582ec8ee07da3e", func := "stagehand/stagehandlaw35.ShakeMeets", spec := "shakeMeets", unfollowed := true, recurses := true, named := ["stagehand/digest.start", "stagehand/digest.rounds"], plainKeys := false, apart := false, laid := [("stagehand/digest.start", laid_stagehand_digest_start), ("stagehand/digest.rounds", laid_stagehand_digest_rounds)] }
def ShakeMeetsSaid : Prop := shakeMeetsRow.holds Tryd.pinned (OpenSpec.ofChange shakeMeetsSpec)

/-- ITS FALSE NEIGHBOUR: 'it returns false'. Refute it at one input. -/
def shakeMeetsWrong : ChangeSpec := { name := "shakeMeets", fn := fun _ => fun
  | [d1, d2, d3] => { results := [.lit (.bool false)], args := [d1, d2, d3] }
  | _ => none }
def ShakeMeetsWrongFalsely : Prop := shakeMeetsRow.holds Tryd.pinned (OpenSpec.ofChange shakeMeetsWrong)

/-- 'stagehandlaw35.ShakeBoth': WHATEVER THE INPUT: true; the input reads as it did. -/
def shakeBothSpec : ChangeSpec := { name := "shakeBoth", fn := fun _ => fun
  | [d1, d2, d3] => { results := [.lit (.bool true)], args := [d1, d2, d3] }
  | _ => none }
def shakeBothRow : OpenClaim := { program := "ytnkkbkceapcahaadoor", sum := "87aecce330f1110cc53b9d79e364e173aaed5d635b6ad280c0582ec8ee07da3e", func := "stagehand/stagehandlaw35.ShakeBoth", spec := "shakeBoth", unfollowed := true, recurses := true, named := ["stagehand/digest.start", "stagehand/digest.rounds"], plainKeys := false, apart := false, laid := [("stagehand/digest.start", laid_stagehand_digest_start), ("stagehand/digest.rounds", laid_stagehand_digest_rounds)] }
def ShakeBothSaid : Prop := shakeBothRow.holds Tryd.pinned (OpenSpec.ofChange shakeBothSpec)

/-- ITS FALSE NEIGHBOUR: 'it returns false'. Refute it at one input. -/
def shakeBothWrong : ChangeSpec := { name := "shakeBoth", fn := fun _ => fun
  | [d1, d2, d3] => { results := [.lit (.bool false)], args := [d1, d2, d3] }
  | _ => none }
def ShakeBothWrongFalsely : Prop := shakeBothRow.holds Tryd.pinned (OpenSpec.ofChange shakeBothWrong)

/- THE SECOND FORM. 'bulk': how many values and letters a reading holds, each counted each time it is reached (what is shared counts as often as it is met; a slice's spare places count too). A statement '..UptoSaid' is the law's where the arguments, and the package variables that the reading takes, are together of bulk at most 1048576: NARROWER than '..Said'. Prove '..Said' where nothing that the law and all that it calls make is longer than what came in: it says more and counts as full. Else prove '..UptoSaid'. A law counts once. -/
mutual
def uptoBulk {H : Type} : DataW H → Nat
  | .lit (.string bytes) => bytes.length + 1
  | .lit _ => 1
  | .nil => 1
  | .ptr d => uptoBulk d + 1
  | .slice elems spare => uptoBulkAll elems + uptoBulkAll spare + 1
  | .agg parts => uptoBulkAll parts + 1
  | .iface _ d => uptoBulk d + 1
  | .map entries => uptoBulkEntries entries + 1
  | .held _ => 1
def uptoBulkAll {H : Type} : List (DataW H) → Nat
  | [] => 0
  | d :: r => uptoBulk d + uptoBulkAll r
def uptoBulkEntries {H : Type} : List (Lit × DataW H) → Nat
  | [] => 0
  | x :: r => uptoBulkEntry x + uptoBulkEntries r
def uptoBulkEntry {H : Type} : Lit × DataW H → Nat
  | (.string bytes, d) => bytes.length + uptoBulk d + 1
  | (_, d) => uptoBulk d + 1
 end
def uptoSmall : (H : Type) → List (DataW H) → Bool := fun _ ds => decide (uptoBulkAll ds ≤ 1048576)
def OpenSpec.upto (s : _root_.Go.ChangeSpec) : _root_.Go.OpenSpec := { _root_.Go.OpenSpec.ofChange s with cond := some uptoSmall }

/-- 'stagehandlaw35.ShakeSilent', WHERE WHAT IT READS IS OF BULK AT MOST 1048576: true; the input reads as it did. -/
def shakeSilentUptoRow : OpenClaim := { program := "ytnkkbkceapcahaadoor", sum := "87aecce330f1110cc53b9d79e364e173aaed5d635b6ad280c0582ec8ee07da3e", func := "stagehand/stagehandlaw35.ShakeSilent", spec := "shakeSilent", unfollowed := true, recurses := true, named := ["stagehand/digest.start", "stagehand/digest.rounds"], plainKeys := false, apart := false, laid := [("stagehand/digest.start", laid_stagehand_digest_start), ("stagehand/digest.rounds", laid_stagehand_digest_rounds)], narrowed := true }
def ShakeSilentUptoSaid : Prop := shakeSilentUptoRow.holds Tryd.pinned (OpenSpec.upto shakeSilentSpec)

/-- 'stagehandlaw35.ShakeKnown', WHERE WHAT IT READS IS OF BULK AT MOST 1048576: true; the input reads as it did. -/
def shakeKnownUptoRow : OpenClaim := { program := "ytnkkbkceapcahaadoor", sum := "87aecce330f1110cc53b9d79e364e173aaed5d635b6ad280c0582ec8ee07da3e", func := "stagehand/stagehandlaw35.ShakeKnown", spec := "shakeKnown", unfollowed := true, recurses := true, named := ["stagehand/digest.start", "stagehand/digest.rounds"], plainKeys := false, apart := false, laid := [("stagehand/digest.start", laid_stagehand_digest_start), ("stagehand/digest.rounds", laid_stagehand_digest_rounds)], narrowed := true }
def ShakeKnownUptoSaid : Prop := shakeKnownUptoRow.holds Tryd.pinned (OpenSpec.upto shakeKnownSpec)

/-- 'stagehandlaw35.ShakeFlips', WHERE WHAT IT READS IS OF BULK AT MOST 1048576: true; the input reads as it did. -/
def shakeFlipsUptoRow : OpenClaim := { program := "ytnkkbkceapcahaadoor", sum := "87aecce330f1110cc53b9d79e364e173aaed5d635b6ad280c0582ec8ee07da3e", func := "stagehand/stagehandlaw35.ShakeFlips", spec := "shakeFlips", unfollowed := true, recurses := true, named := ["stagehand/digest.start", "stagehand/digest.rounds"], plainKeys := false, apart := false, laid := [("stagehand/digest.start", laid_stagehand_digest_start), ("stagehand/digest.rounds", laid_stagehand_digest_rounds)], narrowed := true }
def ShakeFlipsUptoSaid : Prop := shakeFlipsUptoRow.holds Tryd.pinned (OpenSpec.upto shakeFlipsSpec)

/-- 'stagehandlaw35.ShakeReplays', WHERE WHAT IT READS IS OF BULK AT MOST 1048576: true; the input reads as it did. -/
def shakeReplaysUptoRow : OpenClaim := { program := "ytnkkbkceapcahaadoor", sum := "87aecce330f1110cc53b9d79e364e173aaed5d635b6ad280c0582ec8ee07da3e", func := "stagehand/stagehandlaw35.ShakeReplays", spec := "shakeReplays", unfollowed := true, recurses := true, named := ["stagehand/digest.start", "stagehand/digest.rounds"], plainKeys := false, apart := false, laid := [("stagehand/digest.start", laid_stagehand_digest_start), ("stagehand/digest.rounds", laid_stagehand_digest_rounds)], narrowed := true }
def ShakeReplaysUptoSaid : Prop := shakeReplaysUptoRow.holds Tryd.pinned (OpenSpec.upto shakeReplaysSpec)

/-- 'stagehandlaw35.ShakeSides', WHERE WHAT IT READS IS OF BULK AT MOST 1048576: true; the input reads as it did. -/
def shakeSidesUptoRow : OpenClaim := { program := "ytnkkbkceapcahaadoor", sum := "87aecce330f1110cc53b9d79e364e173aaed5d635b6ad280c0582ec8ee07da3e", func := "stagehand/stagehandlaw35.ShakeSides", spec := "shakeSides", unfollowed := true, recurses := true, named := ["stagehand/digest.start", "stagehand/digest.rounds"], plainKeys := false, apart := false, laid := [("stagehand/digest.start", laid_stagehand_digest_start), ("stagehand/digest.rounds", laid_stagehand_digest_rounds)], narrowed := true }
def ShakeSidesUptoSaid : Prop := shakeSidesUptoRow.holds Tryd.pinned (OpenSpec.upto shakeSidesSpec)

/-- 'stagehandlaw35.ShakeMeets', WHERE WHAT IT READS IS OF BULK AT MOST 1048576: true; the input reads as it did. -/
def shakeMeetsUptoRow : OpenClaim := { program := "ytnkkbkceapcahaadoor", sum := "87aecce330f1110cc53b9d79e364e173aaed5d635b6ad280c0582ec8ee07da3e", func := "stagehand/stagehandlaw35.ShakeMeets", spec := "shakeMeets", unfollowed := true, recurses := true, named := ["stagehand/digest.start", "stagehand/digest.rounds"], plainKeys := false, apart := false, laid := [("stagehand/digest.start", laid_stagehand_digest_start), ("stagehand/digest.rounds", laid_stagehand_digest_rounds)], narrowed := true }
def ShakeMeetsUptoSaid : Prop := shakeMeetsUptoRow.holds Tryd.pinned (OpenSpec.upto shakeMeetsSpec)

/-- 'stagehandlaw35.ShakeBoth', WHERE WHAT IT READS IS OF BULK AT MOST 1048576: true; the input reads as it did. -/
def shakeBothUptoRow : OpenClaim := { program := "ytnkkbkceapcahaadoor", sum := "87aecce330f1110cc53b9d79e364e173aaed5d635b6ad280c0582ec8ee07da3e", func := "stagehand/stagehandlaw35.ShakeBoth", spec := "shakeBoth", unfollowed := true, recurses := true, named := ["stagehand/digest.start", "stagehand/digest.rounds"], plainKeys := false, apart := false, laid := [("stagehand/digest.start", laid_stagehand_digest_start), ("stagehand/digest.rounds", laid_stagehand_digest_rounds)], narrowed := true }
def ShakeBothUptoSaid : Prop := shakeBothUptoRow.holds Tryd.pinned (OpenSpec.upto shakeBothSpec)

end Rows
end Go.Proofs.YtnkkbkceapcahaaDoor
