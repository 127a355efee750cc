/-
  NARROWER THAN 'FOR EVERY INPUT', by the rows' own cells (each row's printed sentence says how): FreesNone: laid · FreesTake: laid · FreesAll: laid · FreesWhole: laid · FreesOnes: laid.
  DERIVED. THE GIVEN ROWS OF THIS SEAT. 5 by the template 'for every input the law returns true; each argument reads behind the call as it read before'; 0 by the template 'total and deterministic' (their statements: YtjmkfpiahnibkaaDoorTotals.lean).
  GIVEN WITH THE SEED: the statements are not yours to turn. If you find one false, say at which input.
  Laid BY PROGRAM, IN A SANDBOX (cutbox-rows.mjs): the forced cells as the released guide's own fill.sh prints them over the translation b409fb56bb43b62a… (all of the seat's roots in one cut). By AI agents, Wed Nov 11 2026. No macro, syntax, notation, axiom, sorry.
-/
import Derived.Test.YtjmkfpiahnibkaaDoorChecked
import GoSem.Claim
import GoSem.ClaimJoined
import GoSem.ClaimMapViews
import Derived.JoinedTies
import Derived.KernelRfl
namespace Go.Proofs.YtjmkfpiahnibkaaDoor
/- THE CELL 'sum', in the pinned program and in every row, IS THE sha256 OF THE DUMP (.gsa) THAT YtjmkfpiahnibkaaDoorProg.lean LOADS. Nothing in Lean hashes anything: it is a label: what it is worth is what the hold of that sum in a sandbox is worth. -/
noncomputable def Tryd.pinned : Pinned := { name := "ytjmkfpiahnibkaadoor", sum := "b409fb56bb43b62a11b8da8dd96b4440dd6429273de512ddc767662fc95c0e10", checked := Tryd.checked }
namespace Rows
def none {H : Type} : Left H := { results := [], args := [] }

/- WHAT THE LISTED PACKAGE-LEVEL VARIABLES READ AS WHEN THE CALL BEGINS. Each datum BY PROGRAM (the guide's laid-datum.mjs) off the statement by which the dump's own 'gosem.cut.vars' lays the variable. In a bare row this is a premise. The card (YtjmkfpiahnibkaaDoorCards.lean) ties it to the program's text. -/
def laid_math_bits_deBruijn64tab {H : Type} : DataW H := .agg [.lit (.int .u8 0), .lit (.int .u8 1), .lit (.int .u8 56), .lit (.int .u8 2), .lit (.int .u8 57), .lit (.int .u8 49), .lit (.int .u8 28), .lit (.int .u8 3), .lit (.int .u8 61), .lit (.int .u8 58), .lit (.int .u8 42), .lit (.int .u8 50), .lit (.int .u8 38), .lit (.int .u8 29), .lit (.int .u8 17), .lit (.int .u8 4), .lit (.int .u8 62), .lit (.int .u8 47), .lit (.int .u8 59), .lit (.int .u8 36), .lit (.int .u8 45), .lit (.int .u8 43), .lit (.int .u8 51), .lit (.int .u8 22), .lit (.int .u8 53), .lit (.int .u8 39), .lit (.int .u8 33), .lit (.int .u8 30), .lit (.int .u8 24), .lit (.int .u8 18), .lit (.int .u8 12), .lit (.int .u8 5), .lit (.int .u8 63), .lit (.int .u8 55), .lit (.int .u8 48), .lit (.int .u8 27), .lit (.int .u8 60), .lit (.int .u8 41), .lit (.int .u8 37), .lit (.int .u8 16), .lit (.int .u8 46), .lit (.int .u8 35), .lit (.int .u8 44), .lit (.int .u8 21), .lit (.int .u8 52), .lit (.int .u8 32), .lit (.int .u8 23), .lit (.int .u8 11), .lit (.int .u8 54), .lit (.int .u8 26), .lit (.int .u8 40), .lit (.int .u8 15), .lit (.int .u8 34), .lit (.int .u8 20), .lit (.int .u8 31), .lit (.int .u8 10), .lit (.int .u8 25), .lit (.int .u8 14), .lit (.int .u8 19), .lit (.int .u8 9), .lit (.int .u8 13), .lit (.int .u8 8), .lit (.int .u8 7), .lit (.int .u8 6)]

/-- 'drydocklaw15.FreesNone': WHATEVER THE INPUT: true; the input reads as it did. -/
def freesNoneSpec : ChangeSpec := { name := "freesNone", fn := fun _ => fun
  | [d1, d2, d3] => { results := [.lit (.bool true)], args := [d1, d2, d3] }
  | _ => none }
def freesNoneRow : OpenClaim := { program := "ytjmkfpiahnibkaadoor", sum := "b409fb56bb43b62a11b8da8dd96b4440dd6429273de512ddc767662fc95c0e10", func := "drydock/drydocklaw15.FreesNone", spec := "freesNone", named := ["math/bits.deBruijn64tab"], apart := false, laid := [("math/bits.deBruijn64tab", laid_math_bits_deBruijn64tab)] }
def FreesNoneSaid : Prop := freesNoneRow.holds Tryd.pinned (OpenSpec.ofChange freesNoneSpec)

/-- ITS FALSE NEIGHBOUR: 'it returns false'. Refute it at one input. -/
def freesNoneWrong : ChangeSpec := { name := "freesNone", fn := fun _ => fun
  | [d1, d2, d3] => { results := [.lit (.bool false)], args := [d1, d2, d3] }
  | _ => none }
def FreesNoneWrongFalsely : Prop := freesNoneRow.holds Tryd.pinned (OpenSpec.ofChange freesNoneWrong)

/-- 'drydocklaw15.FreesTake': WHATEVER THE INPUT: true; the input reads as it did. -/
def freesTakeSpec : ChangeSpec := { name := "freesTake", fn := fun _ => fun
  | [d1, d2, d3] => { results := [.lit (.bool true)], args := [d1, d2, d3] }
  | _ => none }
def freesTakeRow : OpenClaim := { program := "ytjmkfpiahnibkaadoor", sum := "b409fb56bb43b62a11b8da8dd96b4440dd6429273de512ddc767662fc95c0e10", func := "drydock/drydocklaw15.FreesTake", spec := "freesTake", named := ["math/bits.deBruijn64tab"], apart := false, laid := [("math/bits.deBruijn64tab", laid_math_bits_deBruijn64tab)] }
def FreesTakeSaid : Prop := freesTakeRow.holds Tryd.pinned (OpenSpec.ofChange freesTakeSpec)

/-- ITS FALSE NEIGHBOUR: 'it returns false'. Refute it at one input. -/
def freesTakeWrong : ChangeSpec := { name := "freesTake", fn := fun _ => fun
  | [d1, d2, d3] => { results := [.lit (.bool false)], args := [d1, d2, d3] }
  | _ => none }
def FreesTakeWrongFalsely : Prop := freesTakeRow.holds Tryd.pinned (OpenSpec.ofChange freesTakeWrong)

/-- 'drydocklaw15.FreesAll': WHATEVER THE INPUT: true; the input reads as it did. -/
def freesAllSpec : ChangeSpec := { name := "freesAll", fn := fun _ => fun
  | [d1, d2] => { results := [.lit (.bool true)], args := [d1, d2] }
  | _ => none }
def freesAllRow : OpenClaim := { program := "ytjmkfpiahnibkaadoor", sum := "b409fb56bb43b62a11b8da8dd96b4440dd6429273de512ddc767662fc95c0e10", func := "drydock/drydocklaw15.FreesAll", spec := "freesAll", named := ["math/bits.deBruijn64tab"], apart := false, laid := [("math/bits.deBruijn64tab", laid_math_bits_deBruijn64tab)] }
def FreesAllSaid : Prop := freesAllRow.holds Tryd.pinned (OpenSpec.ofChange freesAllSpec)

/-- ITS FALSE NEIGHBOUR: 'it returns false'. Refute it at one input. -/
def freesAllWrong : ChangeSpec := { name := "freesAll", fn := fun _ => fun
  | [d1, d2] => { results := [.lit (.bool false)], args := [d1, d2] }
  | _ => none }
def FreesAllWrongFalsely : Prop := freesAllRow.holds Tryd.pinned (OpenSpec.ofChange freesAllWrong)

/-- 'drydocklaw15.FreesWhole': WHATEVER THE INPUT: true; the input reads as it did. -/
def freesWholeSpec : ChangeSpec := { name := "freesWhole", fn := fun _ => fun
  | [d1, d2] => { results := [.lit (.bool true)], args := [d1, d2] }
  | _ => none }
def freesWholeRow : OpenClaim := { program := "ytjmkfpiahnibkaadoor", sum := "b409fb56bb43b62a11b8da8dd96b4440dd6429273de512ddc767662fc95c0e10", func := "drydock/drydocklaw15.FreesWhole", spec := "freesWhole", named := ["math/bits.deBruijn64tab"], apart := false, laid := [("math/bits.deBruijn64tab", laid_math_bits_deBruijn64tab)] }
def FreesWholeSaid : Prop := freesWholeRow.holds Tryd.pinned (OpenSpec.ofChange freesWholeSpec)

/-- ITS FALSE NEIGHBOUR: 'it returns false'. Refute it at one input. -/
def freesWholeWrong : ChangeSpec := { name := "freesWhole", fn := fun _ => fun
  | [d1, d2] => { results := [.lit (.bool false)], args := [d1, d2] }
  | _ => none }
def FreesWholeWrongFalsely : Prop := freesWholeRow.holds Tryd.pinned (OpenSpec.ofChange freesWholeWrong)

/-- 'drydocklaw15.FreesOnes': WHATEVER THE INPUT: true; the input reads as it did. -/
def freesOnesSpec : ChangeSpec := { name := "freesOnes", fn := fun _ => fun
  | [d1, d2] => { results := [.lit (.bool true)], args := [d1, d2] }
  | _ => none }
def freesOnesRow : OpenClaim := { program := "ytjmkfpiahnibkaadoor", sum := "b409fb56bb43b62a11b8da8dd96b4440dd6429273de512ddc767662fc95c0e10", func := "drydock/drydocklaw15.FreesOnes", spec := "freesOnes", named := ["math/bits.deBruijn64tab"], apart := false, laid := [("math/bits.deBruijn64tab", laid_math_bits_deBruijn64tab)] }
def FreesOnesSaid : Prop := freesOnesRow.holds Tryd.pinned (OpenSpec.ofChange freesOnesSpec)

/-- ITS FALSE NEIGHBOUR: 'it returns false'. Refute it at one input. -/
def freesOnesWrong : ChangeSpec := { name := "freesOnes", fn := fun _ => fun
  | [d1, d2] => { results := [.lit (.bool false)], args := [d1, d2] }
  | _ => none }
def FreesOnesWrongFalsely : Prop := freesOnesRow.holds Tryd.pinned (OpenSpec.ofChange freesOnesWrong)

/- THE SECOND FORM. 'bulk': how many values and letters a reading holds, each counted each time it is reached (what is shared counts as often as it is met; a slice's spare places count too). A statement '..UptoSaid' is the law's where the arguments, and the package variables that the reading takes, are together of bulk at most 1048576: NARROWER than '..Said'. Prove '..Said' where nothing that the law and all that it calls make is longer than what came in: it says more and counts as full. Else prove '..UptoSaid'. A law counts once. -/
mutual
def uptoBulk {H : Type} : DataW H → Nat
  | .lit (.string bytes) => bytes.length + 1
  | .lit _ => 1
  | .nil => 1
  | .ptr d => uptoBulk d + 1
  | .slice elems spare => uptoBulkAll elems + uptoBulkAll spare + 1
  | .agg parts => uptoBulkAll parts + 1
  | .iface _ d => uptoBulk d + 1
  | .map entries => uptoBulkEntries entries + 1
  | .held _ => 1
def uptoBulkAll {H : Type} : List (DataW H) → Nat
  | [] => 0
  | d :: r => uptoBulk d + uptoBulkAll r
def uptoBulkEntries {H : Type} : List (Lit × DataW H) → Nat
  | [] => 0
  | x :: r => uptoBulkEntry x + uptoBulkEntries r
def uptoBulkEntry {H : Type} : Lit × DataW H → Nat
  | (.string bytes, d) => bytes.length + uptoBulk d + 1
  | (_, d) => uptoBulk d + 1
 end
def uptoSmall : (H : Type) → List (DataW H) → Bool := fun _ ds => decide (uptoBulkAll ds ≤ 1048576)
def OpenSpec.upto (s : _root_.Go.ChangeSpec) : _root_.Go.OpenSpec := { _root_.Go.OpenSpec.ofChange s with cond := some uptoSmall }

/-- 'drydocklaw15.FreesNone', WHERE WHAT IT READS IS OF BULK AT MOST 1048576: true; the input reads as it did. -/
def freesNoneUptoRow : OpenClaim := { program := "ytjmkfpiahnibkaadoor", sum := "b409fb56bb43b62a11b8da8dd96b4440dd6429273de512ddc767662fc95c0e10", func := "drydock/drydocklaw15.FreesNone", spec := "freesNone", named := ["math/bits.deBruijn64tab"], apart := false, laid := [("math/bits.deBruijn64tab", laid_math_bits_deBruijn64tab)], narrowed := true }
def FreesNoneUptoSaid : Prop := freesNoneUptoRow.holds Tryd.pinned (OpenSpec.upto freesNoneSpec)

/-- 'drydocklaw15.FreesTake', WHERE WHAT IT READS IS OF BULK AT MOST 1048576: true; the input reads as it did. -/
def freesTakeUptoRow : OpenClaim := { program := "ytjmkfpiahnibkaadoor", sum := "b409fb56bb43b62a11b8da8dd96b4440dd6429273de512ddc767662fc95c0e10", func := "drydock/drydocklaw15.FreesTake", spec := "freesTake", named := ["math/bits.deBruijn64tab"], apart := false, laid := [("math/bits.deBruijn64tab", laid_math_bits_deBruijn64tab)], narrowed := true }
def FreesTakeUptoSaid : Prop := freesTakeUptoRow.holds Tryd.pinned (OpenSpec.upto freesTakeSpec)

/-- 'drydocklaw15.FreesAll', WHERE WHAT IT READS IS OF BULK AT MOST 1048576: true; the input reads as it did. -/
def freesAllUptoRow : OpenClaim := { program := "ytjmkfpiahnibkaadoor", sum := "b409fb56bb43b62a11b8da8dd96b4440dd6429273de512ddc767662fc95c0e10", func := "drydock/drydocklaw15.FreesAll", spec := "freesAll", named := ["math/bits.deBruijn64tab"], apart := false, laid := [("math/bits.deBruijn64tab", laid_math_bits_deBruijn64tab)], narrowed := true }
def FreesAllUptoSaid : Prop := freesAllUptoRow.holds Tryd.pinned (OpenSpec.upto freesAllSpec)

/-- 'drydocklaw15.FreesWhole', WHERE WHAT IT READS IS OF BULK AT MOST 1048576: true; the input reads as it did. -/
def freesWholeUptoRow : OpenClaim := { program := "ytjmkfpiahnibkaadoor", sum := "b409fb56bb43b62a11b8da8dd96b4440dd6429273de512ddc767662fc95c0e10", func := "drydock/drydocklaw15.FreesWhole", spec := "freesWhole", named := ["math/bits.deBruijn64tab"], apart := false, laid := [("math/bits.deBruijn64tab", laid_math_bits_deBruijn64tab)], narrowed := true }
def FreesWholeUptoSaid : Prop := freesWholeUptoRow.holds Tryd.pinned (OpenSpec.upto freesWholeSpec)

/-- 'drydocklaw15.FreesOnes', WHERE WHAT IT READS IS OF BULK AT MOST 1048576: true; the input reads as it did. -/
def freesOnesUptoRow : OpenClaim := { program := "ytjmkfpiahnibkaadoor", sum := "b409fb56bb43b62a11b8da8dd96b4440dd6429273de512ddc767662fc95c0e10", func := "drydock/drydocklaw15.FreesOnes", spec := "freesOnes", named := ["math/bits.deBruijn64tab"], apart := false, laid := [("math/bits.deBruijn64tab", laid_math_bits_deBruijn64tab)], narrowed := true }
def FreesOnesUptoSaid : Prop := freesOnesUptoRow.holds Tryd.pinned (OpenSpec.upto freesOnesSpec)

end Rows
end Go.Proofs.YtjmkfpiahnibkaaDoor
