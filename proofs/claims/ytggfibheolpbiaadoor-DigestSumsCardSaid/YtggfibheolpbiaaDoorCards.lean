/-
  DERIVED. GIVEN WITH THE SEED: THE CARDS: each row of YtggfibheolpbiaaDoorRows.lean that lists a variable, with what it lists TIED to the program's text (the seventh form; the later family's looks); each row that meets fmt, with fmt's text TOLD by the authors' own Lean function (tested against real Go, not proved from fmt's source: count such statements apart). THE CARD IS WHAT COUNTS. Prove the row's statement (the work); the ties are given (YtggfibheolpbiaaDoorTie.lean); close each card by the builder's one call (the guide's Derived/Test/ToyasCard.lean, 'card_holds'). Laid BY PROGRAM, IN A SANDBOX (cutbox-door.mjs). By AI agents, Wed Nov 11 2026. No macro, syntax, notation, axiom, sorry.
-/
import Derived.Test.YtggfibheolpbiaaDoorRows
import GoSem.ClaimSeven
namespace Go.Proofs.YtggfibheolpbiaaDoor
namespace Rows

/-- THE TIED CARD OF 'stagehandlaw34.DigestHexes'. -/
def digestHexesCard : Claim7 := { stood := { row := digestHexesRow, standIns := [], harness := (true, "6923b9871ad1894803bc9087b0330ed3f784976bf55c02b089897058cba42dd7"), looks := false }, kinds := [], alts := [], laidByText := true, laidKinds := [.data, .data], laidTests := true, laidLooks := .later }
def DigestHexesCardSaid : Prop := Claim7.holds Tryd.pinned (.plain (OpenSpec.ofChange digestHexesSpec)) digestHexesCard

/-- THE TIED CARD OF 'stagehandlaw34.DigestEquals'. -/
def digestEqualsCard : Claim7 := { stood := { row := digestEqualsRow, standIns := [], harness := (true, "6923b9871ad1894803bc9087b0330ed3f784976bf55c02b089897058cba42dd7"), looks := false }, kinds := [], alts := [], laidByText := true, laidKinds := [.data, .data], laidTests := true, laidLooks := .later }
def DigestEqualsCardSaid : Prop := Claim7.holds Tryd.pinned (.plain (OpenSpec.ofChange digestEqualsSpec)) digestEqualsCard

/-- THE TIED CARD OF 'stagehandlaw34.DigestNested'. -/
def digestNestedCard : Claim7 := { stood := { row := digestNestedRow, standIns := [], harness := (true, "6923b9871ad1894803bc9087b0330ed3f784976bf55c02b089897058cba42dd7"), looks := false }, kinds := [], alts := [], laidByText := true, laidKinds := [.data, .data], laidTests := true, laidLooks := .later }
def DigestNestedCardSaid : Prop := Claim7.holds Tryd.pinned (.plain (OpenSpec.ofChange digestNestedSpec)) digestNestedCard

/-- THE TIED CARD OF 'stagehandlaw34.DigestKeys'. -/
def digestKeysCard : Claim7 := { stood := { row := digestKeysRow, standIns := [], harness := (true, "6923b9871ad1894803bc9087b0330ed3f784976bf55c02b089897058cba42dd7"), looks := false }, kinds := [], alts := [], laidByText := true, laidKinds := [.data, .data], laidTests := true, laidLooks := .later }
def DigestKeysCardSaid : Prop := Claim7.holds Tryd.pinned (.plain (OpenSpec.ofChange digestKeysSpec)) digestKeysCard

/-- THE TIED CARD OF 'stagehandlaw34.DigestSums'. -/
def digestSumsCard : Claim7 := { stood := { row := digestSumsRow, standIns := [], harness := (true, "6923b9871ad1894803bc9087b0330ed3f784976bf55c02b089897058cba42dd7"), looks := false }, kinds := [], alts := [], laidByText := true, laidKinds := [.data, .data], laidTests := true, laidLooks := .later }
def DigestSumsCardSaid : Prop := Claim7.holds Tryd.pinned (.plain (OpenSpec.ofChange digestSumsSpec)) digestSumsCard

/-- THE TIED CARD OF 'stagehandlaw34.DigestKnown'. -/
def digestKnownCard : Claim7 := { stood := { row := digestKnownRow, standIns := [], harness := (true, "6923b9871ad1894803bc9087b0330ed3f784976bf55c02b089897058cba42dd7"), looks := false }, kinds := [], alts := [], laidByText := true, laidKinds := [.data, .data], laidTests := true, laidLooks := .later }
def DigestKnownCardSaid : Prop := Claim7.holds Tryd.pinned (.plain (OpenSpec.ofChange digestKnownSpec)) digestKnownCard

/-- THE TIED CARD OF 'stagehandlaw34.DigestMacs'. -/
def digestMacsCard : Claim7 := { stood := { row := digestMacsRow, standIns := [], harness := (true, "6923b9871ad1894803bc9087b0330ed3f784976bf55c02b089897058cba42dd7"), looks := false }, kinds := [], alts := [], laidByText := true, laidKinds := [.data, .data], laidTests := true, laidLooks := .later }
def DigestMacsCardSaid : Prop := Claim7.holds Tryd.pinned (.plain (OpenSpec.ofChange digestMacsSpec)) digestMacsCard

/-- THE SECOND FORM's CARD OF 'stagehandlaw34.DigestHexes'. -/
def digestHexesUptoCard : Claim7 := { stood := { row := digestHexesUptoRow, standIns := [], harness := (true, "6923b9871ad1894803bc9087b0330ed3f784976bf55c02b089897058cba42dd7"), looks := false }, kinds := [], alts := [], laidByText := true, laidKinds := [.data, .data], laidTests := true, laidLooks := .later }
def DigestHexesUptoCardSaid : Prop := Claim7.holds Tryd.pinned (.plain (OpenSpec.upto digestHexesSpec)) digestHexesUptoCard

/-- THE SECOND FORM's CARD OF 'stagehandlaw34.DigestEquals'. -/
def digestEqualsUptoCard : Claim7 := { stood := { row := digestEqualsUptoRow, standIns := [], harness := (true, "6923b9871ad1894803bc9087b0330ed3f784976bf55c02b089897058cba42dd7"), looks := false }, kinds := [], alts := [], laidByText := true, laidKinds := [.data, .data], laidTests := true, laidLooks := .later }
def DigestEqualsUptoCardSaid : Prop := Claim7.holds Tryd.pinned (.plain (OpenSpec.upto digestEqualsSpec)) digestEqualsUptoCard

/-- THE SECOND FORM's CARD OF 'stagehandlaw34.DigestNested'. -/
def digestNestedUptoCard : Claim7 := { stood := { row := digestNestedUptoRow, standIns := [], harness := (true, "6923b9871ad1894803bc9087b0330ed3f784976bf55c02b089897058cba42dd7"), looks := false }, kinds := [], alts := [], laidByText := true, laidKinds := [.data, .data], laidTests := true, laidLooks := .later }
def DigestNestedUptoCardSaid : Prop := Claim7.holds Tryd.pinned (.plain (OpenSpec.upto digestNestedSpec)) digestNestedUptoCard

/-- THE SECOND FORM's CARD OF 'stagehandlaw34.DigestKeys'. -/
def digestKeysUptoCard : Claim7 := { stood := { row := digestKeysUptoRow, standIns := [], harness := (true, "6923b9871ad1894803bc9087b0330ed3f784976bf55c02b089897058cba42dd7"), looks := false }, kinds := [], alts := [], laidByText := true, laidKinds := [.data, .data], laidTests := true, laidLooks := .later }
def DigestKeysUptoCardSaid : Prop := Claim7.holds Tryd.pinned (.plain (OpenSpec.upto digestKeysSpec)) digestKeysUptoCard

/-- THE SECOND FORM's CARD OF 'stagehandlaw34.DigestSums'. -/
def digestSumsUptoCard : Claim7 := { stood := { row := digestSumsUptoRow, standIns := [], harness := (true, "6923b9871ad1894803bc9087b0330ed3f784976bf55c02b089897058cba42dd7"), looks := false }, kinds := [], alts := [], laidByText := true, laidKinds := [.data, .data], laidTests := true, laidLooks := .later }
def DigestSumsUptoCardSaid : Prop := Claim7.holds Tryd.pinned (.plain (OpenSpec.upto digestSumsSpec)) digestSumsUptoCard

/-- THE SECOND FORM's CARD OF 'stagehandlaw34.DigestKnown'. -/
def digestKnownUptoCard : Claim7 := { stood := { row := digestKnownUptoRow, standIns := [], harness := (true, "6923b9871ad1894803bc9087b0330ed3f784976bf55c02b089897058cba42dd7"), looks := false }, kinds := [], alts := [], laidByText := true, laidKinds := [.data, .data], laidTests := true, laidLooks := .later }
def DigestKnownUptoCardSaid : Prop := Claim7.holds Tryd.pinned (.plain (OpenSpec.upto digestKnownSpec)) digestKnownUptoCard

/-- THE SECOND FORM's CARD OF 'stagehandlaw34.DigestMacs'. -/
def digestMacsUptoCard : Claim7 := { stood := { row := digestMacsUptoRow, standIns := [], harness := (true, "6923b9871ad1894803bc9087b0330ed3f784976bf55c02b089897058cba42dd7"), looks := false }, kinds := [], alts := [], laidByText := true, laidKinds := [.data, .data], laidTests := true, laidLooks := .later }
def DigestMacsUptoCardSaid : Prop := Claim7.holds Tryd.pinned (.plain (OpenSpec.upto digestMacsSpec)) digestMacsUptoCard
end Rows
end Go.Proofs.YtggfibheolpbiaaDoor
