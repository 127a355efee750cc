/-
  DERIVED. GIVEN WITH THE SEED: THE CARDS: each row of YtkiehoboeiengaaGreatDoorRows.lean that lists a variable, with what it lists TIED to the program's text (the seventh form; the later family's looks); each row that meets fmt, with fmt's text TOLD by the authors' own Lean function (tested against real Go, not proved from fmt's source: count such statements apart). THE CARD IS WHAT COUNTS. Prove the row's statement (the work); the ties are given (YtkiehoboeiengaaGreatDoorTie.lean); close each card by the builder's one call (the guide's Derived/Test/ToyasCard.lean, 'card_holds'). Laid BY PROGRAM, IN A SANDBOX (cutbox-door.mjs). By AI agents, Wed Nov 11 2026. No macro, syntax, notation, axiom, sorry.
-/
import Derived.Test.YtkiehoboeiengaaGreatDoorRows
import GoSem.ClaimSeven
namespace Go.Proofs.YtkiehoboeiengaaGreatDoor
namespace Rows

/-- THE TIED CARD OF 'drydocklaw14.PagesPlay'. -/
def pagesPlayCard : Claim7 := { stood := { row := pagesPlayRow, standIns := [], harness := (true, "28fec08eb3decfb84c93a926180c6b42889573bc85aa64ee2be6b37fac5a275f"), looks := false }, kinds := [], alts := [], laidByText := true, laidKinds := [.data, .data, .data, .data, .pinned], laidTests := true, laidLooks := .later }
def PagesPlayCardSaid : Prop := Claim7.holds Tryz.pinned (.plain (OpenSpec.ofChange pagesPlaySpec)) pagesPlayCard

/-- THE TIED CARD OF 'drydocklaw16.ExtentsPlay'. -/
def extentsPlayCard : Claim7 := { stood := { row := extentsPlayRow, standIns := [], harness := (true, "28fec08eb3decfb84c93a926180c6b42889573bc85aa64ee2be6b37fac5a275f"), looks := false }, kinds := [], alts := [], laidByText := true, laidKinds := [.data, .data, .data, .data, .pinned], laidTests := true, laidLooks := .later }
def ExtentsPlayCardSaid : Prop := Claim7.holds Tryz.pinned (.plain (OpenSpec.ofChange extentsPlaySpec)) extentsPlayCard

/-- THE TIED CARD OF 'drydocklaw24.ArenasPlay'. -/
def arenasPlayCard : Claim7 := { stood := { row := arenasPlayRow, standIns := [], harness := (true, "28fec08eb3decfb84c93a926180c6b42889573bc85aa64ee2be6b37fac5a275f"), looks := false }, kinds := [], alts := [], laidByText := true, laidKinds := [.data, .data, .data], laidTests := true, laidLooks := .later }
def ArenasPlayCardSaid : Prop := Claim7.holds Tryz.pinned (.plain (OpenSpec.ofChange arenasPlaySpec)) arenasPlayCard

/-- THE SECOND FORM's CARD OF 'drydocklaw14.PagesPlay'. -/
def pagesPlayUptoCard : Claim7 := { stood := { row := pagesPlayUptoRow, standIns := [], harness := (true, "28fec08eb3decfb84c93a926180c6b42889573bc85aa64ee2be6b37fac5a275f"), looks := false }, kinds := [], alts := [], laidByText := true, laidKinds := [.data, .data, .data, .data, .pinned], laidTests := true, laidLooks := .later }
def PagesPlayUptoCardSaid : Prop := Claim7.holds Tryz.pinned (.plain (OpenSpec.upto pagesPlaySpec)) pagesPlayUptoCard

/-- THE SECOND FORM's CARD OF 'drydocklaw16.ExtentsPlay'. -/
def extentsPlayUptoCard : Claim7 := { stood := { row := extentsPlayUptoRow, standIns := [], harness := (true, "28fec08eb3decfb84c93a926180c6b42889573bc85aa64ee2be6b37fac5a275f"), looks := false }, kinds := [], alts := [], laidByText := true, laidKinds := [.data, .data, .data, .data, .pinned], laidTests := true, laidLooks := .later }
def ExtentsPlayUptoCardSaid : Prop := Claim7.holds Tryz.pinned (.plain (OpenSpec.upto extentsPlaySpec)) extentsPlayUptoCard

/-- THE SECOND FORM's CARD OF 'drydocklaw24.ArenasPlay'. -/
def arenasPlayUptoCard : Claim7 := { stood := { row := arenasPlayUptoRow, standIns := [], harness := (true, "28fec08eb3decfb84c93a926180c6b42889573bc85aa64ee2be6b37fac5a275f"), looks := false }, kinds := [], alts := [], laidByText := true, laidKinds := [.data, .data, .data], laidTests := true, laidLooks := .later }
def ArenasPlayUptoCardSaid : Prop := Claim7.holds Tryz.pinned (.plain (OpenSpec.upto arenasPlaySpec)) arenasPlayUptoCard
end Rows
end Go.Proofs.YtkiehoboeiengaaGreatDoor
