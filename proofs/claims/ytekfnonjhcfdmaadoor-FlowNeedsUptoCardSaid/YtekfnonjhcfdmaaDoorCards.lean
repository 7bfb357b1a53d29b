/-
  DERIVED. GIVEN WITH THE SEED: THE CARDS: each row of YtekfnonjhcfdmaaDoorRows.lean that lists a variable, with what it lists TIED to the program's text (the seventh form; the later family's looks); each row that meets fmt, with fmt's text TOLD by the authors' own Lean function (tested against real Go, not proved from fmt's source: count such statements apart). THE CARD IS WHAT COUNTS. Prove the row's statement (the work); the ties are given (YtekfnonjhcfdmaaDoorTie.lean); close each card by the builder's one call (the guide's Derived/Test/ToyasCard.lean, 'card_holds'). Laid BY PROGRAM, IN A SANDBOX (cutbox-door.mjs). By AI agents, Wed Nov 11 2026. No macro, syntax, notation, axiom, sorry.
-/
import Derived.Test.YtekfnonjhcfdmaaDoorRows
import GoSem.ClaimSeven
namespace Go.Proofs.YtekfnonjhcfdmaaDoor
namespace Rows

/-- THE TIED CARD OF 'stagehandlaw17.FlowLives'. -/
def flowLivesCard : Claim7 := { stood := { row := flowLivesRow, standIns := [], harness := (true, "8afe60b2d27ea57d123dd888ea6f0238a623cf964653597cd18435042921a3a7"), looks := false }, kinds := [], alts := [], laidByText := true, laidKinds := [.data], laidTests := true, laidLooks := .later }
def FlowLivesCardSaid : Prop := Claim7.holds Tryd.pinned (.plain (OpenSpec.ofChange flowLivesSpec)) flowLivesCard

/-- THE TIED CARD OF 'stagehandlaw17.FlowSteps'. -/
def flowStepsCard : Claim7 := { stood := { row := flowStepsRow, standIns := [], harness := (true, "8afe60b2d27ea57d123dd888ea6f0238a623cf964653597cd18435042921a3a7"), looks := false }, kinds := [], alts := [], laidByText := true, laidKinds := [.data], laidTests := true, laidLooks := .later }
def FlowStepsCardSaid : Prop := Claim7.holds Tryd.pinned (.plain (OpenSpec.ofChange flowStepsSpec)) flowStepsCard

/-- THE TIED CARD OF 'stagehandlaw17.FlowKnown'. -/
def flowKnownCard : Claim7 := { stood := { row := flowKnownRow, standIns := [], harness := (true, "8afe60b2d27ea57d123dd888ea6f0238a623cf964653597cd18435042921a3a7"), looks := false }, kinds := [], alts := [], laidByText := true, laidKinds := [.data], laidTests := true, laidLooks := .later }
def FlowKnownCardSaid : Prop := Claim7.holds Tryd.pinned (.plain (OpenSpec.ofChange flowKnownSpec)) flowKnownCard

/-- THE TIED CARD OF 'stagehandlaw17.FlowClosed'. -/
def flowClosedCard : Claim7 := { stood := { row := flowClosedRow, standIns := [], harness := (true, "8afe60b2d27ea57d123dd888ea6f0238a623cf964653597cd18435042921a3a7"), looks := false }, kinds := [], alts := [], laidByText := true, laidKinds := [.data], laidTests := true, laidLooks := .later }
def FlowClosedCardSaid : Prop := Claim7.holds Tryd.pinned (.plain (OpenSpec.ofChange flowClosedSpec)) flowClosedCard

/-- THE TIED CARD OF 'stagehandlaw17.FlowReaches'. -/
def flowReachesCard : Claim7 := { stood := { row := flowReachesRow, standIns := [], harness := (true, "8afe60b2d27ea57d123dd888ea6f0238a623cf964653597cd18435042921a3a7"), looks := false }, kinds := [], alts := [], laidByText := true, laidKinds := [.data], laidTests := true, laidLooks := .later }
def FlowReachesCardSaid : Prop := Claim7.holds Tryd.pinned (.plain (OpenSpec.ofChange flowReachesSpec)) flowReachesCard

/-- THE TIED CARD OF 'stagehandlaw17.FlowNeeds'. -/
def flowNeedsCard : Claim7 := { stood := { row := flowNeedsRow, standIns := [], harness := (true, "8afe60b2d27ea57d123dd888ea6f0238a623cf964653597cd18435042921a3a7"), looks := false }, kinds := [], alts := [], laidByText := true, laidKinds := [.data], laidTests := true, laidLooks := .later }
def FlowNeedsCardSaid : Prop := Claim7.holds Tryd.pinned (.plain (OpenSpec.ofChange flowNeedsSpec)) flowNeedsCard

/-- THE TIED CARD OF 'stagehandlaw17.FlowNests'. -/
def flowNestsCard : Claim7 := { stood := { row := flowNestsRow, standIns := [], harness := (true, "8afe60b2d27ea57d123dd888ea6f0238a623cf964653597cd18435042921a3a7"), looks := false }, kinds := [], alts := [], laidByText := true, laidKinds := [.data], laidTests := true, laidLooks := .later }
def FlowNestsCardSaid : Prop := Claim7.holds Tryd.pinned (.plain (OpenSpec.ofChange flowNestsSpec)) flowNestsCard

/-- THE SECOND FORM's CARD OF 'stagehandlaw17.FlowLives'. -/
def flowLivesUptoCard : Claim7 := { stood := { row := flowLivesUptoRow, standIns := [], harness := (true, "8afe60b2d27ea57d123dd888ea6f0238a623cf964653597cd18435042921a3a7"), looks := false }, kinds := [], alts := [], laidByText := true, laidKinds := [.data], laidTests := true, laidLooks := .later }
def FlowLivesUptoCardSaid : Prop := Claim7.holds Tryd.pinned (.plain (OpenSpec.upto flowLivesSpec)) flowLivesUptoCard

/-- THE SECOND FORM's CARD OF 'stagehandlaw17.FlowSteps'. -/
def flowStepsUptoCard : Claim7 := { stood := { row := flowStepsUptoRow, standIns := [], harness := (true, "8afe60b2d27ea57d123dd888ea6f0238a623cf964653597cd18435042921a3a7"), looks := false }, kinds := [], alts := [], laidByText := true, laidKinds := [.data], laidTests := true, laidLooks := .later }
def FlowStepsUptoCardSaid : Prop := Claim7.holds Tryd.pinned (.plain (OpenSpec.upto flowStepsSpec)) flowStepsUptoCard

/-- THE SECOND FORM's CARD OF 'stagehandlaw17.FlowKnown'. -/
def flowKnownUptoCard : Claim7 := { stood := { row := flowKnownUptoRow, standIns := [], harness := (true, "8afe60b2d27ea57d123dd888ea6f0238a623cf964653597cd18435042921a3a7"), looks := false }, kinds := [], alts := [], laidByText := true, laidKinds := [.data], laidTests := true, laidLooks := .later }
def FlowKnownUptoCardSaid : Prop := Claim7.holds Tryd.pinned (.plain (OpenSpec.upto flowKnownSpec)) flowKnownUptoCard

/-- THE SECOND FORM's CARD OF 'stagehandlaw17.FlowClosed'. -/
def flowClosedUptoCard : Claim7 := { stood := { row := flowClosedUptoRow, standIns := [], harness := (true, "8afe60b2d27ea57d123dd888ea6f0238a623cf964653597cd18435042921a3a7"), looks := false }, kinds := [], alts := [], laidByText := true, laidKinds := [.data], laidTests := true, laidLooks := .later }
def FlowClosedUptoCardSaid : Prop := Claim7.holds Tryd.pinned (.plain (OpenSpec.upto flowClosedSpec)) flowClosedUptoCard

/-- THE SECOND FORM's CARD OF 'stagehandlaw17.FlowReaches'. -/
def flowReachesUptoCard : Claim7 := { stood := { row := flowReachesUptoRow, standIns := [], harness := (true, "8afe60b2d27ea57d123dd888ea6f0238a623cf964653597cd18435042921a3a7"), looks := false }, kinds := [], alts := [], laidByText := true, laidKinds := [.data], laidTests := true, laidLooks := .later }
def FlowReachesUptoCardSaid : Prop := Claim7.holds Tryd.pinned (.plain (OpenSpec.upto flowReachesSpec)) flowReachesUptoCard

/-- THE SECOND FORM's CARD OF 'stagehandlaw17.FlowNeeds'. -/
def flowNeedsUptoCard : Claim7 := { stood := { row := flowNeedsUptoRow, standIns := [], harness := (true, "8afe60b2d27ea57d123dd888ea6f0238a623cf964653597cd18435042921a3a7"), looks := false }, kinds := [], alts := [], laidByText := true, laidKinds := [.data], laidTests := true, laidLooks := .later }
def FlowNeedsUptoCardSaid : Prop := Claim7.holds Tryd.pinned (.plain (OpenSpec.upto flowNeedsSpec)) flowNeedsUptoCard

/-- THE SECOND FORM's CARD OF 'stagehandlaw17.FlowNests'. -/
def flowNestsUptoCard : Claim7 := { stood := { row := flowNestsUptoRow, standIns := [], harness := (true, "8afe60b2d27ea57d123dd888ea6f0238a623cf964653597cd18435042921a3a7"), looks := false }, kinds := [], alts := [], laidByText := true, laidKinds := [.data], laidTests := true, laidLooks := .later }
def FlowNestsUptoCardSaid : Prop := Claim7.holds Tryd.pinned (.plain (OpenSpec.upto flowNestsSpec)) flowNestsUptoCard
end Rows
end Go.Proofs.YtekfnonjhcfdmaaDoor
