/-
  DERIVED. GIVEN WITH THE SEED: THE CARDS: each row of YtebpijlmeemfaaaGreatDoorRows.lean that lists a variable, with what it lists TIED to the program's text (the seventh form; the later family's looks); each row that meets fmt, with fmt's text TOLD by the authors' own Lean function (tested against real Go, not proved from fmt's source: count such statements apart). THE CARD IS WHAT COUNTS. Prove the row's statement (the work); the ties are given (YtebpijlmeemfaaaGreatDoorTie.lean); close each card by the builder's one call (the guide's Derived/Test/ToyasCard.lean, 'card_holds'). Laid BY PROGRAM, IN A SANDBOX (cutbox-door.mjs). By AI agents, Wed Nov 11 2026. No macro, syntax, notation, axiom, sorry.
-/
import Derived.Test.YtebpijlmeemfaaaGreatDoorRows
import GoSem.ClaimSeven
namespace Go.Proofs.YtebpijlmeemfaaaGreatDoor
namespace Rows

/-- THE TIED CARD OF 'plaittop.CoreLanes'. -/
def coreLanesCard : Claim7 := { stood := { row := coreLanesRow, standIns := [], harness := (true, "ecf37b098d629fac9fd88d85cd20ca98cd5c06d46e955c98ad9f22b2f7aae388"), looks := false }, kinds := [], alts := [], laidByText := true, laidKinds := [.data, .data, .data, .pinned], laidTests := true, laidLooks := .later }
def CoreLanesCardSaid : Prop := Claim7.holds Tryz.pinned (.plain (OpenSpec.ofChange coreLanesSpec)) coreLanesCard

/-- THE SECOND FORM's CARD OF 'plaittop.CoreLanes'. -/
def coreLanesUptoCard : Claim7 := { stood := { row := coreLanesUptoRow, standIns := [], harness := (true, "ecf37b098d629fac9fd88d85cd20ca98cd5c06d46e955c98ad9f22b2f7aae388"), looks := false }, kinds := [], alts := [], laidByText := true, laidKinds := [.data, .data, .data, .pinned], laidTests := true, laidLooks := .later }
def CoreLanesUptoCardSaid : Prop := Claim7.holds Tryz.pinned (.plain (OpenSpec.upto coreLanesSpec)) coreLanesUptoCard
end Rows
end Go.Proofs.YtebpijlmeemfaaaGreatDoor
