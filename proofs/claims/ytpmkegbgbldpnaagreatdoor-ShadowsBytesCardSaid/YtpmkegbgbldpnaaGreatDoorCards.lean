/-
  DERIVED. GIVEN WITH THE SEED: THE CARDS: each row of YtpmkegbgbldpnaaGreatDoorRows.lean that lists a variable, with what it lists TIED to the program's text (the seventh form; the later family's looks); each row that meets fmt, with fmt's text TOLD by the authors' own Lean function (tested against real Go, not proved from fmt's source: count such statements apart). THE CARD IS WHAT COUNTS. Prove the row's statement (the work); the ties are given (YtpmkegbgbldpnaaGreatDoorTie.lean); close each card by the builder's one call (the guide's Derived/Test/ToyasCard.lean, 'card_holds'). Laid BY PROGRAM, IN A SANDBOX (cutbox-door.mjs). By AI agents, Wed Nov 11 2026. No macro, syntax, notation, axiom, sorry.
-/
import Derived.Test.YtpmkegbgbldpnaaGreatDoorRows
import GoSem.ClaimSeven
namespace Go.Proofs.YtpmkegbgbldpnaaGreatDoor
namespace Rows

/-- THE TIED CARD OF 'drydocklaw18.ShadowsBytes'. -/
def shadowsBytesCard : Claim7 := { stood := { row := shadowsBytesRow, standIns := [], harness := (true, "d78c8eb0ac9d38ee882afaf79b9805061922620e250661a7f7d9e79eba23f0a0"), looks := true }, kinds := [], alts := [], laidByText := true, laidKinds := [.data, .data, .handle, .pinned], laidTests := true, laidLooks := .later }
def ShadowsBytesCardSaid : Prop := Claim7.holds Tryz.pinned (.plain (OpenSpec.ofChange shadowsBytesSpec)) shadowsBytesCard

/-- THE TIED CARD OF 'drydocklaw18.ShadowsUndo'. -/
def shadowsUndoCard : Claim7 := { stood := { row := shadowsUndoRow, standIns := [], harness := (true, "d78c8eb0ac9d38ee882afaf79b9805061922620e250661a7f7d9e79eba23f0a0"), looks := true }, kinds := [], alts := [], laidByText := true, laidKinds := [.data, .data, .handle, .pinned], laidTests := true, laidLooks := .later }
def ShadowsUndoCardSaid : Prop := Claim7.holds Tryz.pinned (.plain (OpenSpec.ofChange shadowsUndoSpec)) shadowsUndoCard

/-- THE TIED CARD OF 'drydocklaw18.ShadowsApart'. -/
def shadowsApartCard : Claim7 := { stood := { row := shadowsApartRow, standIns := [], harness := (true, "d78c8eb0ac9d38ee882afaf79b9805061922620e250661a7f7d9e79eba23f0a0"), looks := true }, kinds := [], alts := [], laidByText := true, laidKinds := [.data, .data, .handle, .pinned], laidTests := true, laidLooks := .later }
def ShadowsApartCardSaid : Prop := Claim7.holds Tryz.pinned (.plain (OpenSpec.ofChange shadowsApartSpec)) shadowsApartCard

/-- THE TIED CARD OF 'drydocklaw18.ShadowsSure'. -/
def shadowsSureCard : Claim7 := { stood := { row := shadowsSureRow, standIns := [], harness := (true, "d78c8eb0ac9d38ee882afaf79b9805061922620e250661a7f7d9e79eba23f0a0"), looks := true }, kinds := [], alts := [], laidByText := true, laidKinds := [.data, .data, .handle, .pinned], laidTests := true, laidLooks := .later }
def ShadowsSureCardSaid : Prop := Claim7.holds Tryz.pinned (.plain (OpenSpec.ofChange shadowsSureSpec)) shadowsSureCard

/-- THE TIED CARD OF 'drydocklaw18.ShadowsTurned'. -/
def shadowsTurnedCard : Claim7 := { stood := { row := shadowsTurnedRow, standIns := [], harness := (true, "d78c8eb0ac9d38ee882afaf79b9805061922620e250661a7f7d9e79eba23f0a0"), looks := true }, kinds := [], alts := [], laidByText := true, laidKinds := [.data, .data, .handle, .pinned], laidTests := true, laidLooks := .later }
def ShadowsTurnedCardSaid : Prop := Claim7.holds Tryz.pinned (.plain (OpenSpec.ofChange shadowsTurnedSpec)) shadowsTurnedCard

/-- THE TIED CARD OF 'drydocklaw18.ShadowsFull'. -/
def shadowsFullCard : Claim7 := { stood := { row := shadowsFullRow, standIns := [], harness := (true, "d78c8eb0ac9d38ee882afaf79b9805061922620e250661a7f7d9e79eba23f0a0"), looks := true }, kinds := [], alts := [], laidByText := true, laidKinds := [.data, .data, .handle, .pinned], laidTests := true, laidLooks := .later }
def ShadowsFullCardSaid : Prop := Claim7.holds Tryz.pinned (.plain (OpenSpec.ofChange shadowsFullSpec)) shadowsFullCard

/-- THE TIED CARD OF 'drydocklaw24.ArenasPlay'. -/
def arenasPlayCard : Claim7 := { stood := { row := arenasPlayRow, standIns := [], harness := (true, "d78c8eb0ac9d38ee882afaf79b9805061922620e250661a7f7d9e79eba23f0a0"), looks := true }, kinds := [], alts := [], laidByText := true, laidKinds := [.data, .data, .data], laidTests := true, laidLooks := .later }
def ArenasPlayCardSaid : Prop := Claim7.holds Tryz.pinned (.plain (OpenSpec.ofChange arenasPlaySpec)) arenasPlayCard

/-- THE SECOND FORM's CARD OF 'drydocklaw18.ShadowsBytes'. -/
def shadowsBytesUptoCard : Claim7 := { stood := { row := shadowsBytesUptoRow, standIns := [], harness := (true, "d78c8eb0ac9d38ee882afaf79b9805061922620e250661a7f7d9e79eba23f0a0"), looks := true }, kinds := [], alts := [], laidByText := true, laidKinds := [.data, .data, .handle, .pinned], laidTests := true, laidLooks := .later }
def ShadowsBytesUptoCardSaid : Prop := Claim7.holds Tryz.pinned (.plain (OpenSpec.upto shadowsBytesSpec)) shadowsBytesUptoCard

/-- THE SECOND FORM's CARD OF 'drydocklaw18.ShadowsUndo'. -/
def shadowsUndoUptoCard : Claim7 := { stood := { row := shadowsUndoUptoRow, standIns := [], harness := (true, "d78c8eb0ac9d38ee882afaf79b9805061922620e250661a7f7d9e79eba23f0a0"), looks := true }, kinds := [], alts := [], laidByText := true, laidKinds := [.data, .data, .handle, .pinned], laidTests := true, laidLooks := .later }
def ShadowsUndoUptoCardSaid : Prop := Claim7.holds Tryz.pinned (.plain (OpenSpec.upto shadowsUndoSpec)) shadowsUndoUptoCard

/-- THE SECOND FORM's CARD OF 'drydocklaw18.ShadowsApart'. -/
def shadowsApartUptoCard : Claim7 := { stood := { row := shadowsApartUptoRow, standIns := [], harness := (true, "d78c8eb0ac9d38ee882afaf79b9805061922620e250661a7f7d9e79eba23f0a0"), looks := true }, kinds := [], alts := [], laidByText := true, laidKinds := [.data, .data, .handle, .pinned], laidTests := true, laidLooks := .later }
def ShadowsApartUptoCardSaid : Prop := Claim7.holds Tryz.pinned (.plain (OpenSpec.upto shadowsApartSpec)) shadowsApartUptoCard

/-- THE SECOND FORM's CARD OF 'drydocklaw18.ShadowsSure'. -/
def shadowsSureUptoCard : Claim7 := { stood := { row := shadowsSureUptoRow, standIns := [], harness := (true, "d78c8eb0ac9d38ee882afaf79b9805061922620e250661a7f7d9e79eba23f0a0"), looks := true }, kinds := [], alts := [], laidByText := true, laidKinds := [.data, .data, .handle, .pinned], laidTests := true, laidLooks := .later }
def ShadowsSureUptoCardSaid : Prop := Claim7.holds Tryz.pinned (.plain (OpenSpec.upto shadowsSureSpec)) shadowsSureUptoCard

/-- THE SECOND FORM's CARD OF 'drydocklaw18.ShadowsTurned'. -/
def shadowsTurnedUptoCard : Claim7 := { stood := { row := shadowsTurnedUptoRow, standIns := [], harness := (true, "d78c8eb0ac9d38ee882afaf79b9805061922620e250661a7f7d9e79eba23f0a0"), looks := true }, kinds := [], alts := [], laidByText := true, laidKinds := [.data, .data, .handle, .pinned], laidTests := true, laidLooks := .later }
def ShadowsTurnedUptoCardSaid : Prop := Claim7.holds Tryz.pinned (.plain (OpenSpec.upto shadowsTurnedSpec)) shadowsTurnedUptoCard

/-- THE SECOND FORM's CARD OF 'drydocklaw18.ShadowsFull'. -/
def shadowsFullUptoCard : Claim7 := { stood := { row := shadowsFullUptoRow, standIns := [], harness := (true, "d78c8eb0ac9d38ee882afaf79b9805061922620e250661a7f7d9e79eba23f0a0"), looks := true }, kinds := [], alts := [], laidByText := true, laidKinds := [.data, .data, .handle, .pinned], laidTests := true, laidLooks := .later }
def ShadowsFullUptoCardSaid : Prop := Claim7.holds Tryz.pinned (.plain (OpenSpec.upto shadowsFullSpec)) shadowsFullUptoCard

/-- THE SECOND FORM's CARD OF 'drydocklaw24.ArenasPlay'. -/
def arenasPlayUptoCard : Claim7 := { stood := { row := arenasPlayUptoRow, standIns := [], harness := (true, "d78c8eb0ac9d38ee882afaf79b9805061922620e250661a7f7d9e79eba23f0a0"), looks := true }, kinds := [], alts := [], laidByText := true, laidKinds := [.data, .data, .data], laidTests := true, laidLooks := .later }
def ArenasPlayUptoCardSaid : Prop := Claim7.holds Tryz.pinned (.plain (OpenSpec.upto arenasPlaySpec)) arenasPlayUptoCard
end Rows
end Go.Proofs.YtpmkegbgbldpnaaGreatDoor
