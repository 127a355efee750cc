/-
  DERIVED. GIVEN WITH THE SEED: THE CARDS: each row of YtjmkfpiahnibkaaDoorRows.lean that lists a variable, with what it lists TIED to the program's text (the seventh form; the later family's looks); each row that meets fmt, with fmt's text TOLD by the authors' own Lean function (tested against real Go, not proved from fmt's source: count such statements apart). THE CARD IS WHAT COUNTS. Prove the row's statement (the work); the ties are given (YtjmkfpiahnibkaaDoorTie.lean); close each card by the builder's one call (the guide's Derived/Test/ToyasCard.lean, 'card_holds'). Laid BY PROGRAM, IN A SANDBOX (cutbox-door.mjs). By AI agents, Wed Nov 11 2026. No macro, syntax, notation, axiom, sorry.
-/
import Derived.Test.YtjmkfpiahnibkaaDoorRows
import GoSem.ClaimSeven
namespace Go.Proofs.YtjmkfpiahnibkaaDoor
namespace Rows

/-- THE TIED CARD OF 'drydocklaw15.FreesNone'. -/
def freesNoneCard : Claim7 := { stood := { row := freesNoneRow, standIns := [], harness := (true, "b13918a335d101493f5ae841bef513bd719caa7341bfb067b7898980dcfb5e17"), looks := false }, kinds := [], alts := [], laidByText := true, laidKinds := [.data], laidTests := true, laidLooks := .later }
def FreesNoneCardSaid : Prop := Claim7.holds Tryd.pinned (.plain (OpenSpec.ofChange freesNoneSpec)) freesNoneCard

/-- THE TIED CARD OF 'drydocklaw15.FreesTake'. -/
def freesTakeCard : Claim7 := { stood := { row := freesTakeRow, standIns := [], harness := (true, "b13918a335d101493f5ae841bef513bd719caa7341bfb067b7898980dcfb5e17"), looks := false }, kinds := [], alts := [], laidByText := true, laidKinds := [.data], laidTests := true, laidLooks := .later }
def FreesTakeCardSaid : Prop := Claim7.holds Tryd.pinned (.plain (OpenSpec.ofChange freesTakeSpec)) freesTakeCard

/-- THE TIED CARD OF 'drydocklaw15.FreesAll'. -/
def freesAllCard : Claim7 := { stood := { row := freesAllRow, standIns := [], harness := (true, "b13918a335d101493f5ae841bef513bd719caa7341bfb067b7898980dcfb5e17"), looks := false }, kinds := [], alts := [], laidByText := true, laidKinds := [.data], laidTests := true, laidLooks := .later }
def FreesAllCardSaid : Prop := Claim7.holds Tryd.pinned (.plain (OpenSpec.ofChange freesAllSpec)) freesAllCard

/-- THE TIED CARD OF 'drydocklaw15.FreesWhole'. -/
def freesWholeCard : Claim7 := { stood := { row := freesWholeRow, standIns := [], harness := (true, "b13918a335d101493f5ae841bef513bd719caa7341bfb067b7898980dcfb5e17"), looks := false }, kinds := [], alts := [], laidByText := true, laidKinds := [.data], laidTests := true, laidLooks := .later }
def FreesWholeCardSaid : Prop := Claim7.holds Tryd.pinned (.plain (OpenSpec.ofChange freesWholeSpec)) freesWholeCard

/-- THE TIED CARD OF 'drydocklaw15.FreesOnes'. -/
def freesOnesCard : Claim7 := { stood := { row := freesOnesRow, standIns := [], harness := (true, "b13918a335d101493f5ae841bef513bd719caa7341bfb067b7898980dcfb5e17"), looks := false }, kinds := [], alts := [], laidByText := true, laidKinds := [.data], laidTests := true, laidLooks := .later }
def FreesOnesCardSaid : Prop := Claim7.holds Tryd.pinned (.plain (OpenSpec.ofChange freesOnesSpec)) freesOnesCard

/-- THE SECOND FORM's CARD OF 'drydocklaw15.FreesNone'. -/
def freesNoneUptoCard : Claim7 := { stood := { row := freesNoneUptoRow, standIns := [], harness := (true, "b13918a335d101493f5ae841bef513bd719caa7341bfb067b7898980dcfb5e17"), looks := false }, kinds := [], alts := [], laidByText := true, laidKinds := [.data], laidTests := true, laidLooks := .later }
def FreesNoneUptoCardSaid : Prop := Claim7.holds Tryd.pinned (.plain (OpenSpec.upto freesNoneSpec)) freesNoneUptoCard

/-- THE SECOND FORM's CARD OF 'drydocklaw15.FreesTake'. -/
def freesTakeUptoCard : Claim7 := { stood := { row := freesTakeUptoRow, standIns := [], harness := (true, "b13918a335d101493f5ae841bef513bd719caa7341bfb067b7898980dcfb5e17"), looks := false }, kinds := [], alts := [], laidByText := true, laidKinds := [.data], laidTests := true, laidLooks := .later }
def FreesTakeUptoCardSaid : Prop := Claim7.holds Tryd.pinned (.plain (OpenSpec.upto freesTakeSpec)) freesTakeUptoCard

/-- THE SECOND FORM's CARD OF 'drydocklaw15.FreesAll'. -/
def freesAllUptoCard : Claim7 := { stood := { row := freesAllUptoRow, standIns := [], harness := (true, "b13918a335d101493f5ae841bef513bd719caa7341bfb067b7898980dcfb5e17"), looks := false }, kinds := [], alts := [], laidByText := true, laidKinds := [.data], laidTests := true, laidLooks := .later }
def FreesAllUptoCardSaid : Prop := Claim7.holds Tryd.pinned (.plain (OpenSpec.upto freesAllSpec)) freesAllUptoCard

/-- THE SECOND FORM's CARD OF 'drydocklaw15.FreesWhole'. -/
def freesWholeUptoCard : Claim7 := { stood := { row := freesWholeUptoRow, standIns := [], harness := (true, "b13918a335d101493f5ae841bef513bd719caa7341bfb067b7898980dcfb5e17"), looks := false }, kinds := [], alts := [], laidByText := true, laidKinds := [.data], laidTests := true, laidLooks := .later }
def FreesWholeUptoCardSaid : Prop := Claim7.holds Tryd.pinned (.plain (OpenSpec.upto freesWholeSpec)) freesWholeUptoCard

/-- THE SECOND FORM's CARD OF 'drydocklaw15.FreesOnes'. -/
def freesOnesUptoCard : Claim7 := { stood := { row := freesOnesUptoRow, standIns := [], harness := (true, "b13918a335d101493f5ae841bef513bd719caa7341bfb067b7898980dcfb5e17"), looks := false }, kinds := [], alts := [], laidByText := true, laidKinds := [.data], laidTests := true, laidLooks := .later }
def FreesOnesUptoCardSaid : Prop := Claim7.holds Tryd.pinned (.plain (OpenSpec.upto freesOnesSpec)) freesOnesUptoCard
end Rows
end Go.Proofs.YtjmkfpiahnibkaaDoor
