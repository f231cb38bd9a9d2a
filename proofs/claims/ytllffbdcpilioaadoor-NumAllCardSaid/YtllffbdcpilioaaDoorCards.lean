/-
  DERIVED. GIVEN WITH THE SEED: THE CARDS: each row of YtllffbdcpilioaaDoorRows.lean that lists a variable, with what it lists TIED to the program's text (the seventh form; the later family's looks); each row that meets fmt, with fmt's text TOLD by the authors' own Lean function (tested against real Go, not proved from fmt's source: count such statements apart). THE CARD IS WHAT COUNTS. Prove the row's statement (the work); the ties are given (YtllffbdcpilioaaDoorTie.lean); close each card by the builder's one call (the guide's Derived/Test/ToyasCard.lean, 'card_holds'). Laid BY PROGRAM, IN A SANDBOX (cutbox-door.mjs). By AI agents, Wed Nov 11 2026. No macro, syntax, notation, axiom, sorry.
-/
import Derived.Test.YtllffbdcpilioaaDoorRows
import GoSem.ClaimSeven
namespace Go.Proofs.YtllffbdcpilioaaDoor
namespace Rows

/-- THE TIED CARD OF 'plaitlaw03.NumAll'. -/
def numAllCard : Claim7 := { stood := { row := numAllRow, standIns := [], harness := (true, "da471c01778532fca18726ee07dff3721acfb85b012c3924c74859051ba9d821"), looks := false }, kinds := [], alts := [], laidByText := true, laidKinds := [.data, .data], laidTests := true, laidLooks := .later }
def NumAllCardSaid : Prop := Claim7.holds Tryd.pinned (.plain (OpenSpec.ofChange numAllSpec)) numAllCard

/-- THE TIED CARD OF 'plaitlaw03.NumDivides'. -/
def numDividesCard : Claim7 := { stood := { row := numDividesRow, standIns := [], harness := (true, "da471c01778532fca18726ee07dff3721acfb85b012c3924c74859051ba9d821"), looks := false }, kinds := [], alts := [], laidByText := true, laidKinds := [.data, .data], laidTests := true, laidLooks := .later }
def NumDividesCardSaid : Prop := Claim7.holds Tryd.pinned (.plain (OpenSpec.ofChange numDividesSpec)) numDividesCard

/-- THE TIED CARD OF 'plaitlaw03.NumOrders'. -/
def numOrdersCard : Claim7 := { stood := { row := numOrdersRow, standIns := [], harness := (true, "da471c01778532fca18726ee07dff3721acfb85b012c3924c74859051ba9d821"), looks := false }, kinds := [], alts := [], laidByText := true, laidKinds := [.data, .data], laidTests := true, laidLooks := .later }
def NumOrdersCardSaid : Prop := Claim7.holds Tryd.pinned (.plain (OpenSpec.ofChange numOrdersSpec)) numOrdersCard

/-- THE TIED CARD OF 'plaitlaw03.NumShifts'. -/
def numShiftsCard : Claim7 := { stood := { row := numShiftsRow, standIns := [], harness := (true, "da471c01778532fca18726ee07dff3721acfb85b012c3924c74859051ba9d821"), looks := false }, kinds := [], alts := [], laidByText := true, laidKinds := [.data, .data], laidTests := true, laidLooks := .later }
def NumShiftsCardSaid : Prop := Claim7.holds Tryd.pinned (.plain (OpenSpec.ofChange numShiftsSpec)) numShiftsCard

/-- THE TIED CARD OF 'plaitlaw03.NumCounts'. -/
def numCountsCard : Claim7 := { stood := { row := numCountsRow, standIns := [], harness := (true, "da471c01778532fca18726ee07dff3721acfb85b012c3924c74859051ba9d821"), looks := false }, kinds := [], alts := [], laidByText := true, laidKinds := [.data, .data], laidTests := true, laidLooks := .later }
def NumCountsCardSaid : Prop := Claim7.holds Tryd.pinned (.plain (OpenSpec.ofChange numCountsSpec)) numCountsCard

/-- THE TIED CARD OF 'plaitlaw03.NumCuts'. -/
def numCutsCard : Claim7 := { stood := { row := numCutsRow, standIns := [], harness := (true, "da471c01778532fca18726ee07dff3721acfb85b012c3924c74859051ba9d821"), looks := false }, kinds := [], alts := [], laidByText := true, laidKinds := [.data, .data], laidTests := true, laidLooks := .later }
def NumCutsCardSaid : Prop := Claim7.holds Tryd.pinned (.plain (OpenSpec.ofChange numCutsSpec)) numCutsCard

/-- THE TIED CARD OF 'plaitlaw03.NumRing'. -/
def numRingCard : Claim7 := { stood := { row := numRingRow, standIns := [], harness := (true, "da471c01778532fca18726ee07dff3721acfb85b012c3924c74859051ba9d821"), looks := false }, kinds := [], alts := [], laidByText := true, laidKinds := [.data, .data], laidTests := true, laidLooks := .later }
def NumRingCardSaid : Prop := Claim7.holds Tryd.pinned (.plain (OpenSpec.ofChange numRingSpec)) numRingCard

/-- THE SECOND FORM's CARD OF 'plaitlaw03.NumAll'. -/
def numAllUptoCard : Claim7 := { stood := { row := numAllUptoRow, standIns := [], harness := (true, "da471c01778532fca18726ee07dff3721acfb85b012c3924c74859051ba9d821"), looks := false }, kinds := [], alts := [], laidByText := true, laidKinds := [.data, .data], laidTests := true, laidLooks := .later }
def NumAllUptoCardSaid : Prop := Claim7.holds Tryd.pinned (.plain (OpenSpec.upto numAllSpec)) numAllUptoCard

/-- THE SECOND FORM's CARD OF 'plaitlaw03.NumDivides'. -/
def numDividesUptoCard : Claim7 := { stood := { row := numDividesUptoRow, standIns := [], harness := (true, "da471c01778532fca18726ee07dff3721acfb85b012c3924c74859051ba9d821"), looks := false }, kinds := [], alts := [], laidByText := true, laidKinds := [.data, .data], laidTests := true, laidLooks := .later }
def NumDividesUptoCardSaid : Prop := Claim7.holds Tryd.pinned (.plain (OpenSpec.upto numDividesSpec)) numDividesUptoCard

/-- THE SECOND FORM's CARD OF 'plaitlaw03.NumOrders'. -/
def numOrdersUptoCard : Claim7 := { stood := { row := numOrdersUptoRow, standIns := [], harness := (true, "da471c01778532fca18726ee07dff3721acfb85b012c3924c74859051ba9d821"), looks := false }, kinds := [], alts := [], laidByText := true, laidKinds := [.data, .data], laidTests := true, laidLooks := .later }
def NumOrdersUptoCardSaid : Prop := Claim7.holds Tryd.pinned (.plain (OpenSpec.upto numOrdersSpec)) numOrdersUptoCard

/-- THE SECOND FORM's CARD OF 'plaitlaw03.NumShifts'. -/
def numShiftsUptoCard : Claim7 := { stood := { row := numShiftsUptoRow, standIns := [], harness := (true, "da471c01778532fca18726ee07dff3721acfb85b012c3924c74859051ba9d821"), looks := false }, kinds := [], alts := [], laidByText := true, laidKinds := [.data, .data], laidTests := true, laidLooks := .later }
def NumShiftsUptoCardSaid : Prop := Claim7.holds Tryd.pinned (.plain (OpenSpec.upto numShiftsSpec)) numShiftsUptoCard

/-- THE SECOND FORM's CARD OF 'plaitlaw03.NumCounts'. -/
def numCountsUptoCard : Claim7 := { stood := { row := numCountsUptoRow, standIns := [], harness := (true, "da471c01778532fca18726ee07dff3721acfb85b012c3924c74859051ba9d821"), looks := false }, kinds := [], alts := [], laidByText := true, laidKinds := [.data, .data], laidTests := true, laidLooks := .later }
def NumCountsUptoCardSaid : Prop := Claim7.holds Tryd.pinned (.plain (OpenSpec.upto numCountsSpec)) numCountsUptoCard

/-- THE SECOND FORM's CARD OF 'plaitlaw03.NumCuts'. -/
def numCutsUptoCard : Claim7 := { stood := { row := numCutsUptoRow, standIns := [], harness := (true, "da471c01778532fca18726ee07dff3721acfb85b012c3924c74859051ba9d821"), looks := false }, kinds := [], alts := [], laidByText := true, laidKinds := [.data, .data], laidTests := true, laidLooks := .later }
def NumCutsUptoCardSaid : Prop := Claim7.holds Tryd.pinned (.plain (OpenSpec.upto numCutsSpec)) numCutsUptoCard

/-- THE SECOND FORM's CARD OF 'plaitlaw03.NumRing'. -/
def numRingUptoCard : Claim7 := { stood := { row := numRingUptoRow, standIns := [], harness := (true, "da471c01778532fca18726ee07dff3721acfb85b012c3924c74859051ba9d821"), looks := false }, kinds := [], alts := [], laidByText := true, laidKinds := [.data, .data], laidTests := true, laidLooks := .later }
def NumRingUptoCardSaid : Prop := Claim7.holds Tryd.pinned (.plain (OpenSpec.upto numRingSpec)) numRingUptoCard
end Rows
end Go.Proofs.YtllffbdcpilioaaDoor
