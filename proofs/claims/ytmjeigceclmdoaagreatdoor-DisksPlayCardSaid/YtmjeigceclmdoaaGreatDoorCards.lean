/-
  DERIVED. GIVEN WITH THE SEED: THE CARDS: each row of YtmjeigceclmdoaaGreatDoorRows.lean that lists a variable, with what it lists TIED to the program's text (the seventh form; the later family's looks); each row that meets fmt, with fmt's text TOLD by the authors' own Lean function (tested against real Go, not proved from fmt's source: count such statements apart). THE CARD IS WHAT COUNTS. Prove the row's statement (the work); the ties are given (YtmjeigceclmdoaaGreatDoorTie.lean); close each card by the builder's one call (the guide's Derived/Test/ToyasCard.lean, 'card_holds'). Laid BY PROGRAM, IN A SANDBOX (cutbox-door.mjs). By AI agents, Wed Nov 11 2026. No macro, syntax, notation, axiom, sorry.
-/
import Derived.Test.YtmjeigceclmdoaaGreatDoorRows
import GoSem.ClaimSeven
namespace Go.Proofs.YtmjeigceclmdoaaGreatDoor
namespace Rows

/-- THE TIED CARD OF 'drydocklaw01.NumsPut'. -/
def numsPutCard : Claim7 := { stood := { row := numsPutRow, standIns := [], harness := (true, "7da285db9fe7e95eebbae135cf2a907eab33f37f09e3a40152596c8a620a56f7"), looks := false }, kinds := [], alts := [], laidByText := true, laidKinds := [.data, .data, .data], laidTests := true, laidLooks := .later }
def NumsPutCardSaid : Prop := Claim7.holds Tryz.pinned (.plain (OpenSpec.ofChange numsPutSpec)) numsPutCard

/-- THE TIED CARD OF 'drydocklaw01.NumsGet'. -/
def numsGetCard : Claim7 := { stood := { row := numsGetRow, standIns := [], harness := (true, "7da285db9fe7e95eebbae135cf2a907eab33f37f09e3a40152596c8a620a56f7"), looks := false }, kinds := [], alts := [], laidByText := true, laidKinds := [.data, .data, .data], laidTests := true, laidLooks := .later }
def NumsGetCardSaid : Prop := Claim7.holds Tryz.pinned (.plain (OpenSpec.ofChange numsGetSpec)) numsGetCard

/-- THE TIED CARD OF 'drydocklaw15.FreesPlay'. -/
def freesPlayCard : Claim7 := { stood := { row := freesPlayRow, standIns := [], harness := (true, "7da285db9fe7e95eebbae135cf2a907eab33f37f09e3a40152596c8a620a56f7"), looks := false }, kinds := [], alts := [], laidByText := true, laidKinds := [.data, .data, .data], laidTests := true, laidLooks := .later }
def FreesPlayCardSaid : Prop := Claim7.holds Tryz.pinned (.plain (OpenSpec.ofChange freesPlaySpec)) freesPlayCard

/-- THE TIED CARD OF 'drydocklaw03.DisksPlay'. -/
def disksPlayCard : Claim7 := { stood := { row := disksPlayRow, standIns := [], harness := (true, "7da285db9fe7e95eebbae135cf2a907eab33f37f09e3a40152596c8a620a56f7"), looks := false }, kinds := [], alts := [], laidByText := true, laidKinds := [.data, .data, .data], laidTests := true, laidLooks := .later }
def DisksPlayCardSaid : Prop := Claim7.holds Tryz.pinned (.plain (OpenSpec.ofChange disksPlaySpec)) disksPlayCard

/-- THE TIED CARD OF 'drydocklaw17.RootsGet'. -/
def rootsGetCard : Claim7 := { stood := { row := rootsGetRow, standIns := [], harness := (true, "7da285db9fe7e95eebbae135cf2a907eab33f37f09e3a40152596c8a620a56f7"), looks := false }, kinds := [], alts := [], laidByText := true, laidKinds := [.data, .data, .data], laidTests := true, laidLooks := .later }
def RootsGetCardSaid : Prop := Claim7.holds Tryz.pinned (.plain (OpenSpec.ofChange rootsGetSpec)) rootsGetCard

/-- THE TIED CARD OF 'drydocklaw14.PagesPut'. -/
def pagesPutCard : Claim7 := { stood := { row := pagesPutRow, standIns := [], harness := (true, "7da285db9fe7e95eebbae135cf2a907eab33f37f09e3a40152596c8a620a56f7"), looks := false }, kinds := [], alts := [], laidByText := true, laidKinds := [.data, .data, .data, .data, .pinned], laidTests := true, laidLooks := .later }
def PagesPutCardSaid : Prop := Claim7.holds Tryz.pinned (.plain (OpenSpec.ofChange pagesPutSpec)) pagesPutCard

/-- THE TIED CARD OF 'drydocklaw14.PagesPlay'. -/
def pagesPlayCard : Claim7 := { stood := { row := pagesPlayRow, standIns := [], harness := (true, "7da285db9fe7e95eebbae135cf2a907eab33f37f09e3a40152596c8a620a56f7"), looks := false }, kinds := [], alts := [], laidByText := true, laidKinds := [.data, .data, .data, .data, .pinned], laidTests := true, laidLooks := .later }
def PagesPlayCardSaid : Prop := Claim7.holds Tryz.pinned (.plain (OpenSpec.ofChange pagesPlaySpec)) pagesPlayCard

/-- THE TIED CARD OF 'drydocklaw16.ExtentsPlay'. -/
def extentsPlayCard : Claim7 := { stood := { row := extentsPlayRow, standIns := [], harness := (true, "7da285db9fe7e95eebbae135cf2a907eab33f37f09e3a40152596c8a620a56f7"), looks := false }, kinds := [], alts := [], laidByText := true, laidKinds := [.data, .data, .data, .data, .pinned], laidTests := true, laidLooks := .later }
def ExtentsPlayCardSaid : Prop := Claim7.holds Tryz.pinned (.plain (OpenSpec.ofChange extentsPlaySpec)) extentsPlayCard

/-- THE SECOND FORM's CARD OF 'drydocklaw01.NumsPut'. -/
def numsPutUptoCard : Claim7 := { stood := { row := numsPutUptoRow, standIns := [], harness := (true, "7da285db9fe7e95eebbae135cf2a907eab33f37f09e3a40152596c8a620a56f7"), looks := false }, kinds := [], alts := [], laidByText := true, laidKinds := [.data, .data, .data], laidTests := true, laidLooks := .later }
def NumsPutUptoCardSaid : Prop := Claim7.holds Tryz.pinned (.plain (OpenSpec.upto numsPutSpec)) numsPutUptoCard

/-- THE SECOND FORM's CARD OF 'drydocklaw01.NumsGet'. -/
def numsGetUptoCard : Claim7 := { stood := { row := numsGetUptoRow, standIns := [], harness := (true, "7da285db9fe7e95eebbae135cf2a907eab33f37f09e3a40152596c8a620a56f7"), looks := false }, kinds := [], alts := [], laidByText := true, laidKinds := [.data, .data, .data], laidTests := true, laidLooks := .later }
def NumsGetUptoCardSaid : Prop := Claim7.holds Tryz.pinned (.plain (OpenSpec.upto numsGetSpec)) numsGetUptoCard

/-- THE SECOND FORM's CARD OF 'drydocklaw15.FreesPlay'. -/
def freesPlayUptoCard : Claim7 := { stood := { row := freesPlayUptoRow, standIns := [], harness := (true, "7da285db9fe7e95eebbae135cf2a907eab33f37f09e3a40152596c8a620a56f7"), looks := false }, kinds := [], alts := [], laidByText := true, laidKinds := [.data, .data, .data], laidTests := true, laidLooks := .later }
def FreesPlayUptoCardSaid : Prop := Claim7.holds Tryz.pinned (.plain (OpenSpec.upto freesPlaySpec)) freesPlayUptoCard

/-- THE SECOND FORM's CARD OF 'drydocklaw03.DisksPlay'. -/
def disksPlayUptoCard : Claim7 := { stood := { row := disksPlayUptoRow, standIns := [], harness := (true, "7da285db9fe7e95eebbae135cf2a907eab33f37f09e3a40152596c8a620a56f7"), looks := false }, kinds := [], alts := [], laidByText := true, laidKinds := [.data, .data, .data], laidTests := true, laidLooks := .later }
def DisksPlayUptoCardSaid : Prop := Claim7.holds Tryz.pinned (.plain (OpenSpec.upto disksPlaySpec)) disksPlayUptoCard

/-- THE SECOND FORM's CARD OF 'drydocklaw17.RootsGet'. -/
def rootsGetUptoCard : Claim7 := { stood := { row := rootsGetUptoRow, standIns := [], harness := (true, "7da285db9fe7e95eebbae135cf2a907eab33f37f09e3a40152596c8a620a56f7"), looks := false }, kinds := [], alts := [], laidByText := true, laidKinds := [.data, .data, .data], laidTests := true, laidLooks := .later }
def RootsGetUptoCardSaid : Prop := Claim7.holds Tryz.pinned (.plain (OpenSpec.upto rootsGetSpec)) rootsGetUptoCard

/-- THE SECOND FORM's CARD OF 'drydocklaw14.PagesPut'. -/
def pagesPutUptoCard : Claim7 := { stood := { row := pagesPutUptoRow, standIns := [], harness := (true, "7da285db9fe7e95eebbae135cf2a907eab33f37f09e3a40152596c8a620a56f7"), looks := false }, kinds := [], alts := [], laidByText := true, laidKinds := [.data, .data, .data, .data, .pinned], laidTests := true, laidLooks := .later }
def PagesPutUptoCardSaid : Prop := Claim7.holds Tryz.pinned (.plain (OpenSpec.upto pagesPutSpec)) pagesPutUptoCard

/-- THE SECOND FORM's CARD OF 'drydocklaw14.PagesPlay'. -/
def pagesPlayUptoCard : Claim7 := { stood := { row := pagesPlayUptoRow, standIns := [], harness := (true, "7da285db9fe7e95eebbae135cf2a907eab33f37f09e3a40152596c8a620a56f7"), looks := false }, kinds := [], alts := [], laidByText := true, laidKinds := [.data, .data, .data, .data, .pinned], laidTests := true, laidLooks := .later }
def PagesPlayUptoCardSaid : Prop := Claim7.holds Tryz.pinned (.plain (OpenSpec.upto pagesPlaySpec)) pagesPlayUptoCard

/-- THE SECOND FORM's CARD OF 'drydocklaw16.ExtentsPlay'. -/
def extentsPlayUptoCard : Claim7 := { stood := { row := extentsPlayUptoRow, standIns := [], harness := (true, "7da285db9fe7e95eebbae135cf2a907eab33f37f09e3a40152596c8a620a56f7"), looks := false }, kinds := [], alts := [], laidByText := true, laidKinds := [.data, .data, .data, .data, .pinned], laidTests := true, laidLooks := .later }
def ExtentsPlayUptoCardSaid : Prop := Claim7.holds Tryz.pinned (.plain (OpenSpec.upto extentsPlaySpec)) extentsPlayUptoCard
end Rows
end Go.Proofs.YtmjeigceclmdoaaGreatDoor
