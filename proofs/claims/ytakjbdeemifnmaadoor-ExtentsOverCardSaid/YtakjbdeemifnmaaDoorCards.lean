/-
  DERIVED. GIVEN WITH THE SEED: THE CARDS: each row of YtakjbdeemifnmaaDoorRows.lean that lists a variable, with what it lists TIED to the program's text (the seventh form; the later family's looks); each row that meets fmt, with fmt's text TOLD by the authors' own Lean function (tested against real Go, not proved from fmt's source: count such statements apart). THE CARD IS WHAT COUNTS. Prove the row's statement (the work); the ties are given (YtakjbdeemifnmaaDoorTie.lean); close each card by the builder's one call (the guide's Derived/Test/ToyasCard.lean, 'card_holds'). Laid BY PROGRAM, IN A SANDBOX (cutbox-door.mjs). By AI agents, Wed Nov 11 2026. No macro, syntax, notation, axiom, sorry.
-/
import Derived.Test.YtakjbdeemifnmaaDoorRows
import GoSem.ClaimSeven
namespace Go.Proofs.YtakjbdeemifnmaaDoor
namespace Rows

/-- THE TIED CARD OF 'drydocklaw16.ExtentsBack'. -/
def extentsBackCard : Claim7 := { stood := { row := extentsBackRow, standIns := [], harness := (true, "9eedd3f992fb8e839259bd8b207a389abff7ff396f470b980d8f0131411f645c"), looks := false }, kinds := [], alts := [], laidByText := true, laidKinds := [.data, .pinned], laidTests := true, laidLooks := .later }
def ExtentsBackCardSaid : Prop := Claim7.holds Tryd.pinned (.plain (OpenSpec.ofChange extentsBackSpec)) extentsBackCard

/-- THE TIED CARD OF 'drydocklaw16.ExtentsPages'. -/
def extentsPagesCard : Claim7 := { stood := { row := extentsPagesRow, standIns := [], harness := (true, "9eedd3f992fb8e839259bd8b207a389abff7ff396f470b980d8f0131411f645c"), looks := false }, kinds := [], alts := [], laidByText := true, laidKinds := [.data, .pinned], laidTests := true, laidLooks := .later }
def ExtentsPagesCardSaid : Prop := Claim7.holds Tryd.pinned (.plain (OpenSpec.ofChange extentsPagesSpec)) extentsPagesCard

/-- THE TIED CARD OF 'drydocklaw16.ExtentsOver'. -/
def extentsOverCard : Claim7 := { stood := { row := extentsOverRow, standIns := [], harness := (true, "9eedd3f992fb8e839259bd8b207a389abff7ff396f470b980d8f0131411f645c"), looks := false }, kinds := [], alts := [], laidByText := true, laidKinds := [.data, .pinned], laidTests := true, laidLooks := .later }
def ExtentsOverCardSaid : Prop := Claim7.holds Tryd.pinned (.plain (OpenSpec.ofChange extentsOverSpec)) extentsOverCard

/-- THE TIED CARD OF 'drydocklaw16.ExtentsTurned'. -/
def extentsTurnedCard : Claim7 := { stood := { row := extentsTurnedRow, standIns := [], harness := (true, "9eedd3f992fb8e839259bd8b207a389abff7ff396f470b980d8f0131411f645c"), looks := false }, kinds := [], alts := [], laidByText := true, laidKinds := [.data, .pinned], laidTests := true, laidLooks := .later }
def ExtentsTurnedCardSaid : Prop := Claim7.holds Tryd.pinned (.plain (OpenSpec.ofChange extentsTurnedSpec)) extentsTurnedCard

/-- THE SECOND FORM's CARD OF 'drydocklaw16.ExtentsBack'. -/
def extentsBackUptoCard : Claim7 := { stood := { row := extentsBackUptoRow, standIns := [], harness := (true, "9eedd3f992fb8e839259bd8b207a389abff7ff396f470b980d8f0131411f645c"), looks := false }, kinds := [], alts := [], laidByText := true, laidKinds := [.data, .pinned], laidTests := true, laidLooks := .later }
def ExtentsBackUptoCardSaid : Prop := Claim7.holds Tryd.pinned (.plain (OpenSpec.upto extentsBackSpec)) extentsBackUptoCard

/-- THE SECOND FORM's CARD OF 'drydocklaw16.ExtentsPages'. -/
def extentsPagesUptoCard : Claim7 := { stood := { row := extentsPagesUptoRow, standIns := [], harness := (true, "9eedd3f992fb8e839259bd8b207a389abff7ff396f470b980d8f0131411f645c"), looks := false }, kinds := [], alts := [], laidByText := true, laidKinds := [.data, .pinned], laidTests := true, laidLooks := .later }
def ExtentsPagesUptoCardSaid : Prop := Claim7.holds Tryd.pinned (.plain (OpenSpec.upto extentsPagesSpec)) extentsPagesUptoCard

/-- THE SECOND FORM's CARD OF 'drydocklaw16.ExtentsOver'. -/
def extentsOverUptoCard : Claim7 := { stood := { row := extentsOverUptoRow, standIns := [], harness := (true, "9eedd3f992fb8e839259bd8b207a389abff7ff396f470b980d8f0131411f645c"), looks := false }, kinds := [], alts := [], laidByText := true, laidKinds := [.data, .pinned], laidTests := true, laidLooks := .later }
def ExtentsOverUptoCardSaid : Prop := Claim7.holds Tryd.pinned (.plain (OpenSpec.upto extentsOverSpec)) extentsOverUptoCard

/-- THE SECOND FORM's CARD OF 'drydocklaw16.ExtentsTurned'. -/
def extentsTurnedUptoCard : Claim7 := { stood := { row := extentsTurnedUptoRow, standIns := [], harness := (true, "9eedd3f992fb8e839259bd8b207a389abff7ff396f470b980d8f0131411f645c"), looks := false }, kinds := [], alts := [], laidByText := true, laidKinds := [.data, .pinned], laidTests := true, laidLooks := .later }
def ExtentsTurnedUptoCardSaid : Prop := Claim7.holds Tryd.pinned (.plain (OpenSpec.upto extentsTurnedSpec)) extentsTurnedUptoCard
end Rows
end Go.Proofs.YtakjbdeemifnmaaDoor
