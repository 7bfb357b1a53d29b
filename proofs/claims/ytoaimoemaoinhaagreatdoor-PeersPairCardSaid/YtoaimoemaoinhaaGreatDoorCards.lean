/-
  DERIVED. GIVEN WITH THE SEED: THE CARDS: each row of YtoaimoemaoinhaaGreatDoorRows.lean that lists a variable, with what it lists TIED to the program's text (the seventh form; the later family's looks); each row that meets fmt, with fmt's text TOLD by the authors' own Lean function (tested against real Go, not proved from fmt's source: count such statements apart). THE CARD IS WHAT COUNTS. Prove the row's statement (the work); the ties are given (YtoaimoemaoinhaaGreatDoorTie.lean); close each card by the builder's one call (the guide's Derived/Test/ToyasCard.lean, 'card_holds'). Laid BY PROGRAM, IN A SANDBOX (cutbox-door.mjs). By AI agents, Wed Nov 11 2026. No macro, syntax, notation, axiom, sorry.
-/
import Derived.Test.YtoaimoemaoinhaaGreatDoorRows
import GoSem.ClaimSeven
namespace Go.Proofs.YtoaimoemaoinhaaGreatDoor
namespace Rows

/-- THE TIED CARD OF 'stagehandlaw37.PeersPair'. -/
def peersPairCard : Claim7 := { stood := { row := peersPairRow, standIns := [], harness := (true, "cb74d30a07d3f137bb38717802c51723be001bd6f77278f620dc77cc09773d3c"), looks := true }, kinds := [], alts := [], laidByText := true, laidKinds := [.data, .data], laidTests := true, laidLooks := .later }
def PeersPairCardSaid : Prop := Claim7.holds Tryz.pinned (.plain (OpenSpec.ofChange peersPairSpec)) peersPairCard

/-- THE TIED CARD OF 'stagehandlaw37.PeersDial'. -/
def peersDialCard : Claim7 := { stood := { row := peersDialRow, standIns := [], harness := (true, "cb74d30a07d3f137bb38717802c51723be001bd6f77278f620dc77cc09773d3c"), looks := true }, kinds := [], alts := [], laidByText := true, laidKinds := [.data, .data], laidTests := true, laidLooks := .later }
def PeersDialCardSaid : Prop := Claim7.holds Tryz.pinned (.plain (OpenSpec.ofChange peersDialSpec)) peersDialCard

/-- THE TIED CARD OF 'stagehandlaw37.PeersNone'. -/
def peersNoneCard : Claim7 := { stood := { row := peersNoneRow, standIns := [], harness := (true, "cb74d30a07d3f137bb38717802c51723be001bd6f77278f620dc77cc09773d3c"), looks := true }, kinds := [], alts := [], laidByText := true, laidKinds := [.data, .data], laidTests := true, laidLooks := .later }
def PeersNoneCardSaid : Prop := Claim7.holds Tryz.pinned (.plain (OpenSpec.ofChange peersNoneSpec)) peersNoneCard

/-- THE TIED CARD OF 'stagehandlaw37.PeersRuns'. -/
def peersRunsCard : Claim7 := { stood := { row := peersRunsRow, standIns := [], harness := (true, "cb74d30a07d3f137bb38717802c51723be001bd6f77278f620dc77cc09773d3c"), looks := true }, kinds := [], alts := [], laidByText := true, laidKinds := [.data, .data], laidTests := true, laidLooks := .later }
def PeersRunsCardSaid : Prop := Claim7.holds Tryz.pinned (.plain (OpenSpec.ofChange peersRunsSpec)) peersRunsCard

/-- THE SECOND FORM's CARD OF 'stagehandlaw37.PeersPair'. -/
def peersPairUptoCard : Claim7 := { stood := { row := peersPairUptoRow, standIns := [], harness := (true, "cb74d30a07d3f137bb38717802c51723be001bd6f77278f620dc77cc09773d3c"), looks := true }, kinds := [], alts := [], laidByText := true, laidKinds := [.data, .data], laidTests := true, laidLooks := .later }
def PeersPairUptoCardSaid : Prop := Claim7.holds Tryz.pinned (.plain (OpenSpec.upto peersPairSpec)) peersPairUptoCard

/-- THE SECOND FORM's CARD OF 'stagehandlaw37.PeersDial'. -/
def peersDialUptoCard : Claim7 := { stood := { row := peersDialUptoRow, standIns := [], harness := (true, "cb74d30a07d3f137bb38717802c51723be001bd6f77278f620dc77cc09773d3c"), looks := true }, kinds := [], alts := [], laidByText := true, laidKinds := [.data, .data], laidTests := true, laidLooks := .later }
def PeersDialUptoCardSaid : Prop := Claim7.holds Tryz.pinned (.plain (OpenSpec.upto peersDialSpec)) peersDialUptoCard

/-- THE SECOND FORM's CARD OF 'stagehandlaw37.PeersNone'. -/
def peersNoneUptoCard : Claim7 := { stood := { row := peersNoneUptoRow, standIns := [], harness := (true, "cb74d30a07d3f137bb38717802c51723be001bd6f77278f620dc77cc09773d3c"), looks := true }, kinds := [], alts := [], laidByText := true, laidKinds := [.data, .data], laidTests := true, laidLooks := .later }
def PeersNoneUptoCardSaid : Prop := Claim7.holds Tryz.pinned (.plain (OpenSpec.upto peersNoneSpec)) peersNoneUptoCard

/-- THE SECOND FORM's CARD OF 'stagehandlaw37.PeersRuns'. -/
def peersRunsUptoCard : Claim7 := { stood := { row := peersRunsUptoRow, standIns := [], harness := (true, "cb74d30a07d3f137bb38717802c51723be001bd6f77278f620dc77cc09773d3c"), looks := true }, kinds := [], alts := [], laidByText := true, laidKinds := [.data, .data], laidTests := true, laidLooks := .later }
def PeersRunsUptoCardSaid : Prop := Claim7.holds Tryz.pinned (.plain (OpenSpec.upto peersRunsSpec)) peersRunsUptoCard
end Rows
end Go.Proofs.YtoaimoemaoinhaaGreatDoor
