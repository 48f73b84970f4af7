/-
  DERIVED. GIVEN WITH THE SEED: THE CARDS: each row of YtnjlfoncgkdkcaaDoorRows.lean that lists a variable, with what it lists TIED to the program's text (the seventh form; the later family's looks); each row that meets fmt, with fmt's text TOLD by the authors' own Lean function (tested against real Go, not proved from fmt's source: count such statements apart). THE CARD IS WHAT COUNTS. Prove the row's statement (the work); the ties are given (YtnjlfoncgkdkcaaDoorTie.lean); close each card by the builder's one call (the guide's Derived/Test/ToyasCard.lean, 'card_holds'). Laid BY PROGRAM, IN A SANDBOX (cutbox-door.mjs). By AI agents, Wed Nov 11 2026. No macro, syntax, notation, axiom, sorry.
-/
import Derived.Test.YtnjlfoncgkdkcaaDoorRows
import GoSem.ClaimSeven
namespace Go.Proofs.YtnjlfoncgkdkcaaDoor
namespace Rows

/-- THE TIED CARD OF 'signallinglaw35.ModesNext'. -/
def modesNextCard : Claim7 := { stood := { row := modesNextRow, standIns := [], harness := (true, "29c6a89c31bbe0741ce08734726266d15f98c871f9c46fe04bd076cba3ebe544"), looks := false }, kinds := [], alts := [], laidByText := true, laidKinds := [.data, .data], laidTests := true, laidLooks := .later }
def ModesNextCardSaid : Prop := Claim7.holds Tryd.pinned (.plain (OpenSpec.ofChange modesNextSpec)) modesNextCard

/-- THE TIED CARD OF 'signallinglaw35.ModesEvents'. -/
def modesEventsCard : Claim7 := { stood := { row := modesEventsRow, standIns := [], harness := (true, "29c6a89c31bbe0741ce08734726266d15f98c871f9c46fe04bd076cba3ebe544"), looks := false }, kinds := [], alts := [], laidByText := true, laidKinds := [.data, .data], laidTests := true, laidLooks := .later }
def ModesEventsCardSaid : Prop := Claim7.holds Tryd.pinned (.plain (OpenSpec.ofChange modesEventsSpec)) modesEventsCard

/-- THE TIED CARD OF 'signallinglaw35.ModesLimits'. -/
def modesLimitsCard : Claim7 := { stood := { row := modesLimitsRow, standIns := [], harness := (true, "29c6a89c31bbe0741ce08734726266d15f98c871f9c46fe04bd076cba3ebe544"), looks := false }, kinds := [], alts := [], laidByText := true, laidKinds := [.data, .data], laidTests := true, laidLooks := .later }
def ModesLimitsCardSaid : Prop := Claim7.holds Tryd.pinned (.plain (OpenSpec.ofChange modesLimitsSpec)) modesLimitsCard

/-- THE TIED CARD OF 'signallinglaw35.ModesTrip'. -/
def modesTripCard : Claim7 := { stood := { row := modesTripRow, standIns := [], harness := (true, "29c6a89c31bbe0741ce08734726266d15f98c871f9c46fe04bd076cba3ebe544"), looks := false }, kinds := [], alts := [], laidByText := true, laidKinds := [.data, .data], laidTests := true, laidLooks := .later }
def ModesTripCardSaid : Prop := Claim7.holds Tryd.pinned (.plain (OpenSpec.ofChange modesTripSpec)) modesTripCard

/-- THE TIED CARD OF 'signallinglaw35.ModesReach'. -/
def modesReachCard : Claim7 := { stood := { row := modesReachRow, standIns := [], harness := (true, "29c6a89c31bbe0741ce08734726266d15f98c871f9c46fe04bd076cba3ebe544"), looks := false }, kinds := [], alts := [], laidByText := true, laidKinds := [.data, .data], laidTests := true, laidLooks := .later }
def ModesReachCardSaid : Prop := Claim7.holds Tryd.pinned (.plain (OpenSpec.ofChange modesReachSpec)) modesReachCard

/-- THE SECOND FORM's CARD OF 'signallinglaw35.ModesNext'. -/
def modesNextUptoCard : Claim7 := { stood := { row := modesNextUptoRow, standIns := [], harness := (true, "29c6a89c31bbe0741ce08734726266d15f98c871f9c46fe04bd076cba3ebe544"), looks := false }, kinds := [], alts := [], laidByText := true, laidKinds := [.data, .data], laidTests := true, laidLooks := .later }
def ModesNextUptoCardSaid : Prop := Claim7.holds Tryd.pinned (.plain (OpenSpec.upto modesNextSpec)) modesNextUptoCard

/-- THE SECOND FORM's CARD OF 'signallinglaw35.ModesEvents'. -/
def modesEventsUptoCard : Claim7 := { stood := { row := modesEventsUptoRow, standIns := [], harness := (true, "29c6a89c31bbe0741ce08734726266d15f98c871f9c46fe04bd076cba3ebe544"), looks := false }, kinds := [], alts := [], laidByText := true, laidKinds := [.data, .data], laidTests := true, laidLooks := .later }
def ModesEventsUptoCardSaid : Prop := Claim7.holds Tryd.pinned (.plain (OpenSpec.upto modesEventsSpec)) modesEventsUptoCard

/-- THE SECOND FORM's CARD OF 'signallinglaw35.ModesLimits'. -/
def modesLimitsUptoCard : Claim7 := { stood := { row := modesLimitsUptoRow, standIns := [], harness := (true, "29c6a89c31bbe0741ce08734726266d15f98c871f9c46fe04bd076cba3ebe544"), looks := false }, kinds := [], alts := [], laidByText := true, laidKinds := [.data, .data], laidTests := true, laidLooks := .later }
def ModesLimitsUptoCardSaid : Prop := Claim7.holds Tryd.pinned (.plain (OpenSpec.upto modesLimitsSpec)) modesLimitsUptoCard

/-- THE SECOND FORM's CARD OF 'signallinglaw35.ModesTrip'. -/
def modesTripUptoCard : Claim7 := { stood := { row := modesTripUptoRow, standIns := [], harness := (true, "29c6a89c31bbe0741ce08734726266d15f98c871f9c46fe04bd076cba3ebe544"), looks := false }, kinds := [], alts := [], laidByText := true, laidKinds := [.data, .data], laidTests := true, laidLooks := .later }
def ModesTripUptoCardSaid : Prop := Claim7.holds Tryd.pinned (.plain (OpenSpec.upto modesTripSpec)) modesTripUptoCard

/-- THE SECOND FORM's CARD OF 'signallinglaw35.ModesReach'. -/
def modesReachUptoCard : Claim7 := { stood := { row := modesReachUptoRow, standIns := [], harness := (true, "29c6a89c31bbe0741ce08734726266d15f98c871f9c46fe04bd076cba3ebe544"), looks := false }, kinds := [], alts := [], laidByText := true, laidKinds := [.data, .data], laidTests := true, laidLooks := .later }
def ModesReachUptoCardSaid : Prop := Claim7.holds Tryd.pinned (.plain (OpenSpec.upto modesReachSpec)) modesReachUptoCard
end Rows
end Go.Proofs.YtnjlfoncgkdkcaaDoor
