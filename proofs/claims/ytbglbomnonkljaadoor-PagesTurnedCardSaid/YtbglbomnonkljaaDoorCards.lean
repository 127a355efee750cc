/-
  DERIVED. GIVEN WITH THE SEED: THE CARDS: each row of YtbglbomnonkljaaDoorRows.lean that lists a variable, with what it lists TIED to the program's text (the seventh form; the later family's looks); each row that meets fmt, with fmt's text TOLD by the authors' own Lean function (tested against real Go, not proved from fmt's source: count such statements apart). THE CARD IS WHAT COUNTS. Prove the row's statement (the work); the ties are given (YtbglbomnonkljaaDoorTie.lean); close each card by the builder's one call (the guide's Derived/Test/ToyasCard.lean, 'card_holds'). Laid BY PROGRAM, IN A SANDBOX (cutbox-door.mjs). By AI agents, Wed Nov 11 2026. No macro, syntax, notation, axiom, sorry.
-/
import Derived.Test.YtbglbomnonkljaaDoorRows
import GoSem.ClaimSeven
namespace Go.Proofs.YtbglbomnonkljaaDoor
namespace Rows

/-- THE TIED CARD OF 'drydocklaw14.PagesBack'. -/
def pagesBackCard : Claim7 := { stood := { row := pagesBackRow, standIns := [], harness := (true, "2fb1829ac034274319cbf271f54e831e7123b52387b98175340e66918d5762bd"), looks := false }, kinds := [], alts := [], laidByText := true, laidKinds := [.data, .pinned], laidTests := true, laidLooks := .later }
def PagesBackCardSaid : Prop := Claim7.holds Tryd.pinned (.plain (OpenSpec.ofChange pagesBackSpec)) pagesBackCard

/-- THE TIED CARD OF 'drydocklaw14.PagesTurned'. -/
def pagesTurnedCard : Claim7 := { stood := { row := pagesTurnedRow, standIns := [], harness := (true, "2fb1829ac034274319cbf271f54e831e7123b52387b98175340e66918d5762bd"), looks := false }, kinds := [], alts := [], laidByText := true, laidKinds := [.data, .pinned], laidTests := true, laidLooks := .later }
def PagesTurnedCardSaid : Prop := Claim7.holds Tryd.pinned (.plain (OpenSpec.ofChange pagesTurnedSpec)) pagesTurnedCard

/-- THE TIED CARD OF 'drydocklaw14.PagesLast'. -/
def pagesLastCard : Claim7 := { stood := { row := pagesLastRow, standIns := [], harness := (true, "2fb1829ac034274319cbf271f54e831e7123b52387b98175340e66918d5762bd"), looks := false }, kinds := [], alts := [], laidByText := true, laidKinds := [.data, .pinned], laidTests := true, laidLooks := .later }
def PagesLastCardSaid : Prop := Claim7.holds Tryd.pinned (.plain (OpenSpec.ofChange pagesLastSpec)) pagesLastCard

/-- THE TIED CARD OF 'drydocklaw14.PagesDisk'. -/
def pagesDiskCard : Claim7 := { stood := { row := pagesDiskRow, standIns := [], harness := (true, "2fb1829ac034274319cbf271f54e831e7123b52387b98175340e66918d5762bd"), looks := false }, kinds := [], alts := [], laidByText := true, laidKinds := [.data, .pinned], laidTests := true, laidLooks := .later }
def PagesDiskCardSaid : Prop := Claim7.holds Tryd.pinned (.plain (OpenSpec.ofChange pagesDiskSpec)) pagesDiskCard

/-- THE SECOND FORM's CARD OF 'drydocklaw14.PagesBack'. -/
def pagesBackUptoCard : Claim7 := { stood := { row := pagesBackUptoRow, standIns := [], harness := (true, "2fb1829ac034274319cbf271f54e831e7123b52387b98175340e66918d5762bd"), looks := false }, kinds := [], alts := [], laidByText := true, laidKinds := [.data, .pinned], laidTests := true, laidLooks := .later }
def PagesBackUptoCardSaid : Prop := Claim7.holds Tryd.pinned (.plain (OpenSpec.upto pagesBackSpec)) pagesBackUptoCard

/-- THE SECOND FORM's CARD OF 'drydocklaw14.PagesTurned'. -/
def pagesTurnedUptoCard : Claim7 := { stood := { row := pagesTurnedUptoRow, standIns := [], harness := (true, "2fb1829ac034274319cbf271f54e831e7123b52387b98175340e66918d5762bd"), looks := false }, kinds := [], alts := [], laidByText := true, laidKinds := [.data, .pinned], laidTests := true, laidLooks := .later }
def PagesTurnedUptoCardSaid : Prop := Claim7.holds Tryd.pinned (.plain (OpenSpec.upto pagesTurnedSpec)) pagesTurnedUptoCard

/-- THE SECOND FORM's CARD OF 'drydocklaw14.PagesLast'. -/
def pagesLastUptoCard : Claim7 := { stood := { row := pagesLastUptoRow, standIns := [], harness := (true, "2fb1829ac034274319cbf271f54e831e7123b52387b98175340e66918d5762bd"), looks := false }, kinds := [], alts := [], laidByText := true, laidKinds := [.data, .pinned], laidTests := true, laidLooks := .later }
def PagesLastUptoCardSaid : Prop := Claim7.holds Tryd.pinned (.plain (OpenSpec.upto pagesLastSpec)) pagesLastUptoCard

/-- THE SECOND FORM's CARD OF 'drydocklaw14.PagesDisk'. -/
def pagesDiskUptoCard : Claim7 := { stood := { row := pagesDiskUptoRow, standIns := [], harness := (true, "2fb1829ac034274319cbf271f54e831e7123b52387b98175340e66918d5762bd"), looks := false }, kinds := [], alts := [], laidByText := true, laidKinds := [.data, .pinned], laidTests := true, laidLooks := .later }
def PagesDiskUptoCardSaid : Prop := Claim7.holds Tryd.pinned (.plain (OpenSpec.upto pagesDiskSpec)) pagesDiskUptoCard
end Rows
end Go.Proofs.YtbglbomnonkljaaDoor
