/-
  DERIVED. GIVEN WITH THE SEED: THE CARDS: each row of YtnffigfafalocaaGreatDoorRows.lean that lists a variable, with what it lists TIED to the program's text (the seventh form; the later family's looks); each row that meets fmt, with fmt's text TOLD by the authors' own Lean function (tested against real Go, not proved from fmt's source: count such statements apart). THE CARD IS WHAT COUNTS. Prove the row's statement (the work); the ties are given (YtnffigfafalocaaGreatDoorTie.lean); close each card by the builder's one call (the guide's Derived/Test/ToyasCard.lean, 'card_holds'). Laid BY PROGRAM, IN A SANDBOX (cutbox-door.mjs). By AI agents, Wed Nov 11 2026. No macro, syntax, notation, axiom, sorry.
-/
import Derived.Test.YtnffigfafalocaaGreatDoorRows
import GoSem.ClaimSeven
namespace Go.Proofs.YtnffigfafalocaaGreatDoor
namespace Rows

/-- THE TIED CARD OF 'drydocklaw18.ShadowsTurned'. -/
def shadowsTurnedCard : Claim7 := { stood := { row := shadowsTurnedRow, standIns := [], harness := (true, "9fc14a3b74711c4aa6e283746d3442c631538620e02321d1ff00995bff2a7480"), looks := true }, kinds := [], alts := [], laidByText := true, laidKinds := [.data, .data, .handle, .pinned], laidTests := true, laidLooks := .later }
def ShadowsTurnedCardSaid : Prop := Claim7.holds Tryz.pinned (.plain (OpenSpec.ofChange shadowsTurnedSpec)) shadowsTurnedCard

/-- THE TIED CARD OF 'drydocklaw24.ArenasPlay'. -/
def arenasPlayCard : Claim7 := { stood := { row := arenasPlayRow, standIns := [], harness := (true, "9fc14a3b74711c4aa6e283746d3442c631538620e02321d1ff00995bff2a7480"), looks := true }, kinds := [], alts := [], laidByText := true, laidKinds := [.data, .data, .data], laidTests := true, laidLooks := .later }
def ArenasPlayCardSaid : Prop := Claim7.holds Tryz.pinned (.plain (OpenSpec.ofChange arenasPlaySpec)) arenasPlayCard

/-- THE SECOND FORM's CARD OF 'drydocklaw18.ShadowsTurned'. -/
def shadowsTurnedUptoCard : Claim7 := { stood := { row := shadowsTurnedUptoRow, standIns := [], harness := (true, "9fc14a3b74711c4aa6e283746d3442c631538620e02321d1ff00995bff2a7480"), looks := true }, kinds := [], alts := [], laidByText := true, laidKinds := [.data, .data, .handle, .pinned], laidTests := true, laidLooks := .later }
def ShadowsTurnedUptoCardSaid : Prop := Claim7.holds Tryz.pinned (.plain (OpenSpec.upto shadowsTurnedSpec)) shadowsTurnedUptoCard

/-- THE SECOND FORM's CARD OF 'drydocklaw24.ArenasPlay'. -/
def arenasPlayUptoCard : Claim7 := { stood := { row := arenasPlayUptoRow, standIns := [], harness := (true, "9fc14a3b74711c4aa6e283746d3442c631538620e02321d1ff00995bff2a7480"), looks := true }, kinds := [], alts := [], laidByText := true, laidKinds := [.data, .data, .data], laidTests := true, laidLooks := .later }
def ArenasPlayUptoCardSaid : Prop := Claim7.holds Tryz.pinned (.plain (OpenSpec.upto arenasPlaySpec)) arenasPlayUptoCard
end Rows
end Go.Proofs.YtnffigfafalocaaGreatDoor
