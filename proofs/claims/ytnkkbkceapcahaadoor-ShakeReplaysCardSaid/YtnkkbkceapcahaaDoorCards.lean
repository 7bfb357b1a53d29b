/-
  DERIVED. GIVEN WITH THE SEED: THE CARDS: each row of YtnkkbkceapcahaaDoorRows.lean that lists a variable, with what it lists TIED to the program's text (the seventh form; the later family's looks); each row that meets fmt, with fmt's text TOLD by the authors' own Lean function (tested against real Go, not proved from fmt's source: count such statements apart). THE CARD IS WHAT COUNTS. Prove the row's statement (the work); the ties are given (YtnkkbkceapcahaaDoorTie.lean); close each card by the builder's one call (the guide's Derived/Test/ToyasCard.lean, 'card_holds'). Laid BY PROGRAM, IN A SANDBOX (cutbox-door.mjs). By AI agents, Wed Nov 11 2026. No macro, syntax, notation, axiom, sorry.
-/
import Derived.Test.YtnkkbkceapcahaaDoorRows
import GoSem.ClaimSeven
namespace Go.Proofs.YtnkkbkceapcahaaDoor
namespace Rows

/-- THE TIED CARD OF 'stagehandlaw35.ShakeSilent'. -/
def shakeSilentCard : Claim7 := { stood := { row := shakeSilentRow, standIns := [], harness := (true, "178ec882338dc99235c8b18fbba12fb7a8b63cbd1eaba9941eb9a2146797a23c"), looks := false }, kinds := [], alts := [], laidByText := true, laidKinds := [.data, .data], laidTests := true, laidLooks := .later }
def ShakeSilentCardSaid : Prop := Claim7.holds Tryd.pinned (.plain (OpenSpec.ofChange shakeSilentSpec)) shakeSilentCard

/-- THE TIED CARD OF 'stagehandlaw35.ShakeKnown'. -/
def shakeKnownCard : Claim7 := { stood := { row := shakeKnownRow, standIns := [], harness := (true, "178ec882338dc99235c8b18fbba12fb7a8b63cbd1eaba9941eb9a2146797a23c"), looks := false }, kinds := [], alts := [], laidByText := true, laidKinds := [.data, .data], laidTests := true, laidLooks := .later }
def ShakeKnownCardSaid : Prop := Claim7.holds Tryd.pinned (.plain (OpenSpec.ofChange shakeKnownSpec)) shakeKnownCard

/-- THE TIED CARD OF 'stagehandlaw35.ShakeFlips'. -/
def shakeFlipsCard : Claim7 := { stood := { row := shakeFlipsRow, standIns := [], harness := (true, "178ec882338dc99235c8b18fbba12fb7a8b63cbd1eaba9941eb9a2146797a23c"), looks := false }, kinds := [], alts := [], laidByText := true, laidKinds := [.data, .data], laidTests := true, laidLooks := .later }
def ShakeFlipsCardSaid : Prop := Claim7.holds Tryd.pinned (.plain (OpenSpec.ofChange shakeFlipsSpec)) shakeFlipsCard

/-- THE TIED CARD OF 'stagehandlaw35.ShakeReplays'. -/
def shakeReplaysCard : Claim7 := { stood := { row := shakeReplaysRow, standIns := [], harness := (true, "178ec882338dc99235c8b18fbba12fb7a8b63cbd1eaba9941eb9a2146797a23c"), looks := false }, kinds := [], alts := [], laidByText := true, laidKinds := [.data, .data], laidTests := true, laidLooks := .later }
def ShakeReplaysCardSaid : Prop := Claim7.holds Tryd.pinned (.plain (OpenSpec.ofChange shakeReplaysSpec)) shakeReplaysCard

/-- THE TIED CARD OF 'stagehandlaw35.ShakeSides'. -/
def shakeSidesCard : Claim7 := { stood := { row := shakeSidesRow, standIns := [], harness := (true, "178ec882338dc99235c8b18fbba12fb7a8b63cbd1eaba9941eb9a2146797a23c"), looks := false }, kinds := [], alts := [], laidByText := true, laidKinds := [.data, .data], laidTests := true, laidLooks := .later }
def ShakeSidesCardSaid : Prop := Claim7.holds Tryd.pinned (.plain (OpenSpec.ofChange shakeSidesSpec)) shakeSidesCard

/-- THE TIED CARD OF 'stagehandlaw35.ShakeMeets'. -/
def shakeMeetsCard : Claim7 := { stood := { row := shakeMeetsRow, standIns := [], harness := (true, "178ec882338dc99235c8b18fbba12fb7a8b63cbd1eaba9941eb9a2146797a23c"), looks := false }, kinds := [], alts := [], laidByText := true, laidKinds := [.data, .data], laidTests := true, laidLooks := .later }
def ShakeMeetsCardSaid : Prop := Claim7.holds Tryd.pinned (.plain (OpenSpec.ofChange shakeMeetsSpec)) shakeMeetsCard

/-- THE TIED CARD OF 'stagehandlaw35.ShakeBoth'. -/
def shakeBothCard : Claim7 := { stood := { row := shakeBothRow, standIns := [], harness := (true, "178ec882338dc99235c8b18fbba12fb7a8b63cbd1eaba9941eb9a2146797a23c"), looks := false }, kinds := [], alts := [], laidByText := true, laidKinds := [.data, .data], laidTests := true, laidLooks := .later }
def ShakeBothCardSaid : Prop := Claim7.holds Tryd.pinned (.plain (OpenSpec.ofChange shakeBothSpec)) shakeBothCard

/-- THE SECOND FORM's CARD OF 'stagehandlaw35.ShakeSilent'. -/
def shakeSilentUptoCard : Claim7 := { stood := { row := shakeSilentUptoRow, standIns := [], harness := (true, "178ec882338dc99235c8b18fbba12fb7a8b63cbd1eaba9941eb9a2146797a23c"), looks := false }, kinds := [], alts := [], laidByText := true, laidKinds := [.data, .data], laidTests := true, laidLooks := .later }
def ShakeSilentUptoCardSaid : Prop := Claim7.holds Tryd.pinned (.plain (OpenSpec.upto shakeSilentSpec)) shakeSilentUptoCard

/-- THE SECOND FORM's CARD OF 'stagehandlaw35.ShakeKnown'. -/
def shakeKnownUptoCard : Claim7 := { stood := { row := shakeKnownUptoRow, standIns := [], harness := (true, "178ec882338dc99235c8b18fbba12fb7a8b63cbd1eaba9941eb9a2146797a23c"), looks := false }, kinds := [], alts := [], laidByText := true, laidKinds := [.data, .data], laidTests := true, laidLooks := .later }
def ShakeKnownUptoCardSaid : Prop := Claim7.holds Tryd.pinned (.plain (OpenSpec.upto shakeKnownSpec)) shakeKnownUptoCard

/-- THE SECOND FORM's CARD OF 'stagehandlaw35.ShakeFlips'. -/
def shakeFlipsUptoCard : Claim7 := { stood := { row := shakeFlipsUptoRow, standIns := [], harness := (true, "178ec882338dc99235c8b18fbba12fb7a8b63cbd1eaba9941eb9a2146797a23c"), looks := false }, kinds := [], alts := [], laidByText := true, laidKinds := [.data, .data], laidTests := true, laidLooks := .later }
def ShakeFlipsUptoCardSaid : Prop := Claim7.holds Tryd.pinned (.plain (OpenSpec.upto shakeFlipsSpec)) shakeFlipsUptoCard

/-- THE SECOND FORM's CARD OF 'stagehandlaw35.ShakeReplays'. -/
def shakeReplaysUptoCard : Claim7 := { stood := { row := shakeReplaysUptoRow, standIns := [], harness := (true, "178ec882338dc99235c8b18fbba12fb7a8b63cbd1eaba9941eb9a2146797a23c"), looks := false }, kinds := [], alts := [], laidByText := true, laidKinds := [.data, .data], laidTests := true, laidLooks := .later }
def ShakeReplaysUptoCardSaid : Prop := Claim7.holds Tryd.pinned (.plain (OpenSpec.upto shakeReplaysSpec)) shakeReplaysUptoCard

/-- THE SECOND FORM's CARD OF 'stagehandlaw35.ShakeSides'. -/
def shakeSidesUptoCard : Claim7 := { stood := { row := shakeSidesUptoRow, standIns := [], harness := (true, "178ec882338dc99235c8b18fbba12fb7a8b63cbd1eaba9941eb9a2146797a23c"), looks := false }, kinds := [], alts := [], laidByText := true, laidKinds := [.data, .data], laidTests := true, laidLooks := .later }
def ShakeSidesUptoCardSaid : Prop := Claim7.holds Tryd.pinned (.plain (OpenSpec.upto shakeSidesSpec)) shakeSidesUptoCard

/-- THE SECOND FORM's CARD OF 'stagehandlaw35.ShakeMeets'. -/
def shakeMeetsUptoCard : Claim7 := { stood := { row := shakeMeetsUptoRow, standIns := [], harness := (true, "178ec882338dc99235c8b18fbba12fb7a8b63cbd1eaba9941eb9a2146797a23c"), looks := false }, kinds := [], alts := [], laidByText := true, laidKinds := [.data, .data], laidTests := true, laidLooks := .later }
def ShakeMeetsUptoCardSaid : Prop := Claim7.holds Tryd.pinned (.plain (OpenSpec.upto shakeMeetsSpec)) shakeMeetsUptoCard

/-- THE SECOND FORM's CARD OF 'stagehandlaw35.ShakeBoth'. -/
def shakeBothUptoCard : Claim7 := { stood := { row := shakeBothUptoRow, standIns := [], harness := (true, "178ec882338dc99235c8b18fbba12fb7a8b63cbd1eaba9941eb9a2146797a23c"), looks := false }, kinds := [], alts := [], laidByText := true, laidKinds := [.data, .data], laidTests := true, laidLooks := .later }
def ShakeBothUptoCardSaid : Prop := Claim7.holds Tryd.pinned (.plain (OpenSpec.upto shakeBothSpec)) shakeBothUptoCard
end Rows
end Go.Proofs.YtnkkbkceapcahaaDoor
