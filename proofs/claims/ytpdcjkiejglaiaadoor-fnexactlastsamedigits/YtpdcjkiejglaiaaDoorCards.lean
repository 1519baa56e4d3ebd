/-
  DERIVED. GIVEN WITH THE SEED: THE CARDS: each row of YtpdcjkiejglaiaaDoorRows.lean that lists a variable, with what it lists TIED to the program's text (the seventh form; the later family's looks); each row that meets fmt, with fmt's text TOLD by the authors' own Lean function (tested against real Go, not proved from fmt's source: count such statements apart). THE CARD IS WHAT COUNTS. Prove the row's statement (the work); the ties are given (YtpdcjkiejglaiaaDoorTie.lean); close each card by the builder's one call (the guide's Derived/Test/ToyasCard.lean, 'card_holds'). Laid BY PROGRAM, IN A SANDBOX (cutbox-door.mjs). By AI agents, Wed Nov 11 2026. No macro, syntax, notation, axiom, sorry.
-/
import Derived.Test.YtpdcjkiejglaiaaDoorRows
import GoSem.ClaimSeven
namespace Go.Proofs.YtpdcjkiejglaiaaDoor
namespace Rows

/-- THE TIED CARD OF 'laws.FnExactLastSameDigits'. -/
def fnExactLastSameDigitsCard : Claim7 := { stood := { row := fnExactLastSameDigitsRow, standIns := [], harness := (true, "d1f6533102d77b693311358994a7dfbf30fd787a8e79395fca83ae4e28a1e041"), looks := false }, kinds := [], alts := [], laidByText := true, laidKinds := [.data, .data, .data], laidTests := true, laidLooks := .later }
def FnExactLastSameDigitsCardSaid : Prop := Claim7.holds Tryd.pinned (.plain (OpenSpec.ofChange fnExactLastSameDigitsSpec)) fnExactLastSameDigitsCard

/-- THE TIED CARD OF 'laws.FnExactNextSameDigits'. -/
def fnExactNextSameDigitsCard : Claim7 := { stood := { row := fnExactNextSameDigitsRow, standIns := [], harness := (true, "d1f6533102d77b693311358994a7dfbf30fd787a8e79395fca83ae4e28a1e041"), looks := false }, kinds := [], alts := [], laidByText := true, laidKinds := [.data, .data, .data], laidTests := true, laidLooks := .later }
def FnExactNextSameDigitsCardSaid : Prop := Claim7.holds Tryd.pinned (.plain (OpenSpec.ofChange fnExactNextSameDigitsSpec)) fnExactNextSameDigitsCard

/-- THE TIED CARD OF 'laws.FnExactNextOfKind'. -/
def fnExactNextOfKindCard : Claim7 := { stood := { row := fnExactNextOfKindRow, standIns := [], harness := (true, "d1f6533102d77b693311358994a7dfbf30fd787a8e79395fca83ae4e28a1e041"), looks := false }, kinds := [], alts := [], laidByText := true, laidKinds := [.data, .data, .data], laidTests := true, laidLooks := .later }
def FnExactNextOfKindCardSaid : Prop := Claim7.holds Tryd.pinned (.plain (OpenSpec.ofChange fnExactNextOfKindSpec)) fnExactNextOfKindCard

/-- THE TIED CARD OF 'laws.FnExactMilesToKind'. -/
def fnExactMilesToKindCard : Claim7 := { stood := { row := fnExactMilesToKindRow, standIns := [], harness := (true, "d1f6533102d77b693311358994a7dfbf30fd787a8e79395fca83ae4e28a1e041"), looks := false }, kinds := [], alts := [], laidByText := true, laidKinds := [.data, .data, .data], laidTests := true, laidLooks := .later }
def FnExactMilesToKindCardSaid : Prop := Claim7.holds Tryd.pinned (.plain (OpenSpec.ofChange fnExactMilesToKindSpec)) fnExactMilesToKindCard

/-- THE SECOND FORM's CARD OF 'laws.FnExactLastSameDigits'. -/
def fnExactLastSameDigitsUptoCard : Claim7 := { stood := { row := fnExactLastSameDigitsUptoRow, standIns := [], harness := (true, "d1f6533102d77b693311358994a7dfbf30fd787a8e79395fca83ae4e28a1e041"), looks := false }, kinds := [], alts := [], laidByText := true, laidKinds := [.data, .data, .data], laidTests := true, laidLooks := .later }
def FnExactLastSameDigitsUptoCardSaid : Prop := Claim7.holds Tryd.pinned (.plain (OpenSpec.upto fnExactLastSameDigitsSpec)) fnExactLastSameDigitsUptoCard

/-- THE SECOND FORM's CARD OF 'laws.FnExactNextSameDigits'. -/
def fnExactNextSameDigitsUptoCard : Claim7 := { stood := { row := fnExactNextSameDigitsUptoRow, standIns := [], harness := (true, "d1f6533102d77b693311358994a7dfbf30fd787a8e79395fca83ae4e28a1e041"), looks := false }, kinds := [], alts := [], laidByText := true, laidKinds := [.data, .data, .data], laidTests := true, laidLooks := .later }
def FnExactNextSameDigitsUptoCardSaid : Prop := Claim7.holds Tryd.pinned (.plain (OpenSpec.upto fnExactNextSameDigitsSpec)) fnExactNextSameDigitsUptoCard

/-- THE SECOND FORM's CARD OF 'laws.FnExactNextOfKind'. -/
def fnExactNextOfKindUptoCard : Claim7 := { stood := { row := fnExactNextOfKindUptoRow, standIns := [], harness := (true, "d1f6533102d77b693311358994a7dfbf30fd787a8e79395fca83ae4e28a1e041"), looks := false }, kinds := [], alts := [], laidByText := true, laidKinds := [.data, .data, .data], laidTests := true, laidLooks := .later }
def FnExactNextOfKindUptoCardSaid : Prop := Claim7.holds Tryd.pinned (.plain (OpenSpec.upto fnExactNextOfKindSpec)) fnExactNextOfKindUptoCard

/-- THE SECOND FORM's CARD OF 'laws.FnExactMilesToKind'. -/
def fnExactMilesToKindUptoCard : Claim7 := { stood := { row := fnExactMilesToKindUptoRow, standIns := [], harness := (true, "d1f6533102d77b693311358994a7dfbf30fd787a8e79395fca83ae4e28a1e041"), looks := false }, kinds := [], alts := [], laidByText := true, laidKinds := [.data, .data, .data], laidTests := true, laidLooks := .later }
def FnExactMilesToKindUptoCardSaid : Prop := Claim7.holds Tryd.pinned (.plain (OpenSpec.upto fnExactMilesToKindSpec)) fnExactMilesToKindUptoCard
end Rows
end Go.Proofs.YtpdcjkiejglaiaaDoor
