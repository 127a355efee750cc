/-
  NARROWER THAN 'FOR EVERY INPUT', by the rows' own cells (each row's printed sentence says how): ExtentsBack: laid · ExtentsPages: laid · ExtentsOver: laid · ExtentsTurned: laid.
  DERIVED. THE GIVEN ROWS OF THIS SEAT. 4 by the template 'for every input the law returns true; each argument reads behind the call as it read before'; 0 by the template 'total and deterministic' (their statements: YtakjbdeemifnmaaDoorTotals.lean).
  GIVEN WITH THE SEED: the statements are not yours to turn. If you find one false, say at which input.
  Laid BY PROGRAM, IN A SANDBOX (cutbox-rows.mjs): the forced cells as the released guide's own fill.sh prints them over the translation 729d750c3133a3cc… (all of the seat's roots in one cut). By AI agents, Wed Nov 11 2026. No macro, syntax, notation, axiom, sorry.
-/
import Derived.Test.YtakjbdeemifnmaaDoorChecked
import GoSem.PinnedTables
import GoSem.Claim
import GoSem.ClaimJoined
import GoSem.ClaimMapViews
import Derived.JoinedTies
import Derived.KernelRfl
namespace Go.Proofs.YtakjbdeemifnmaaDoor
/- THE CELL 'sum', in the pinned program and in every row, IS THE sha256 OF THE DUMP (.gsa) THAT YtakjbdeemifnmaaDoorProg.lean LOADS. Nothing in Lean hashes anything: it is a label: what it is worth is what the hold of that sum in a sandbox is worth. -/
noncomputable def Tryd.pinned : Pinned := { name := "ytakjbdeemifnmaadoor", sum := "729d750c3133a3cc7dc6e16135f27d4e522044d968d9859c04fda4145b978b6b", checked := Tryd.checked }
namespace Rows
def none {H : Type} : Left H := { results := [], args := [] }

/- WHAT THE LISTED PACKAGE-LEVEL VARIABLES READ AS WHEN THE CALL BEGINS. Each datum BY PROGRAM (the guide's laid-datum.mjs) off the statement by which the dump's own 'gosem.cut.vars' lays the variable. In a bare row this is a premise. The card (YtakjbdeemifnmaaDoorCards.lean) ties it to the program's text. -/
def laid_unicode_utf8_acceptRanges {H : Type} : DataW H := .agg [.agg [.lit (.int .u8 128), .lit (.int .u8 191)], .agg [.lit (.int .u8 160), .lit (.int .u8 191)], .agg [.lit (.int .u8 128), .lit (.int .u8 159)], .agg [.lit (.int .u8 144), .lit (.int .u8 191)], .agg [.lit (.int .u8 128), .lit (.int .u8 143)], .agg [.lit (.int .u8 0), .lit (.int .u8 0)], .agg [.lit (.int .u8 0), .lit (.int .u8 0)], .agg [.lit (.int .u8 0), .lit (.int .u8 0)], .agg [.lit (.int .u8 0), .lit (.int .u8 0)], .agg [.lit (.int .u8 0), .lit (.int .u8 0)], .agg [.lit (.int .u8 0), .lit (.int .u8 0)], .agg [.lit (.int .u8 0), .lit (.int .u8 0)], .agg [.lit (.int .u8 0), .lit (.int .u8 0)], .agg [.lit (.int .u8 0), .lit (.int .u8 0)], .agg [.lit (.int .u8 0), .lit (.int .u8 0)], .agg [.lit (.int .u8 0), .lit (.int .u8 0)]]
/-- One of Go's own tables, pinned by name: the form's constant. -/
def laid_unicode_utf8_first : DataW Unit := Go.Pinned.utf8First

/-- 'drydocklaw16.ExtentsBack': WHATEVER THE INPUT: true; the input reads as it did. -/
def extentsBackSpec : ChangeSpec := { name := "extentsBack", fn := fun _ => fun
  | [d] => { results := [.lit (.bool true)], args := [d] }
  | _ => none }
def extentsBackRow : OpenClaim := { program := "ytakjbdeemifnmaadoor", sum := "729d750c3133a3cc7dc6e16135f27d4e522044d968d9859c04fda4145b978b6b", func := "drydock/drydocklaw16.ExtentsBack", spec := "extentsBack", unfollowed := true, recurses := true, named := ["unicode/utf8.first", "unicode/utf8.acceptRanges"], apart := false, laid := [("unicode/utf8.acceptRanges", laid_unicode_utf8_acceptRanges), ("unicode/utf8.first", laid_unicode_utf8_first)] }
def ExtentsBackSaid : Prop := extentsBackRow.holds Tryd.pinned (OpenSpec.ofChange extentsBackSpec)

/-- ITS FALSE NEIGHBOUR: 'it returns false'. Refute it at one input. -/
def extentsBackWrong : ChangeSpec := { name := "extentsBack", fn := fun _ => fun
  | [d] => { results := [.lit (.bool false)], args := [d] }
  | _ => none }
def ExtentsBackWrongFalsely : Prop := extentsBackRow.holds Tryd.pinned (OpenSpec.ofChange extentsBackWrong)

/-- 'drydocklaw16.ExtentsPages': WHATEVER THE INPUT: true; the input reads as it did. -/
def extentsPagesSpec : ChangeSpec := { name := "extentsPages", fn := fun _ => fun
  | [d1, d2] => { results := [.lit (.bool true)], args := [d1, d2] }
  | _ => none }
def extentsPagesRow : OpenClaim := { program := "ytakjbdeemifnmaadoor", sum := "729d750c3133a3cc7dc6e16135f27d4e522044d968d9859c04fda4145b978b6b", func := "drydock/drydocklaw16.ExtentsPages", spec := "extentsPages", unfollowed := true, recurses := true, named := ["unicode/utf8.first", "unicode/utf8.acceptRanges"], apart := false, laid := [("unicode/utf8.acceptRanges", laid_unicode_utf8_acceptRanges), ("unicode/utf8.first", laid_unicode_utf8_first)] }
def ExtentsPagesSaid : Prop := extentsPagesRow.holds Tryd.pinned (OpenSpec.ofChange extentsPagesSpec)

/-- ITS FALSE NEIGHBOUR: 'it returns false'. Refute it at one input. -/
def extentsPagesWrong : ChangeSpec := { name := "extentsPages", fn := fun _ => fun
  | [d1, d2] => { results := [.lit (.bool false)], args := [d1, d2] }
  | _ => none }
def ExtentsPagesWrongFalsely : Prop := extentsPagesRow.holds Tryd.pinned (OpenSpec.ofChange extentsPagesWrong)

/-- 'drydocklaw16.ExtentsOver': WHATEVER THE INPUT: true; the input reads as it did. -/
def extentsOverSpec : ChangeSpec := { name := "extentsOver", fn := fun _ => fun
  | [d1, d2, d3] => { results := [.lit (.bool true)], args := [d1, d2, d3] }
  | _ => none }
def extentsOverRow : OpenClaim := { program := "ytakjbdeemifnmaadoor", sum := "729d750c3133a3cc7dc6e16135f27d4e522044d968d9859c04fda4145b978b6b", func := "drydock/drydocklaw16.ExtentsOver", spec := "extentsOver", unfollowed := true, recurses := true, named := ["unicode/utf8.first", "unicode/utf8.acceptRanges"], apart := false, laid := [("unicode/utf8.acceptRanges", laid_unicode_utf8_acceptRanges), ("unicode/utf8.first", laid_unicode_utf8_first)] }
def ExtentsOverSaid : Prop := extentsOverRow.holds Tryd.pinned (OpenSpec.ofChange extentsOverSpec)

/-- ITS FALSE NEIGHBOUR: 'it returns false'. Refute it at one input. -/
def extentsOverWrong : ChangeSpec := { name := "extentsOver", fn := fun _ => fun
  | [d1, d2, d3] => { results := [.lit (.bool false)], args := [d1, d2, d3] }
  | _ => none }
def ExtentsOverWrongFalsely : Prop := extentsOverRow.holds Tryd.pinned (OpenSpec.ofChange extentsOverWrong)

/-- 'drydocklaw16.ExtentsTurned': WHATEVER THE INPUT: true; the input reads as it did. -/
def extentsTurnedSpec : ChangeSpec := { name := "extentsTurned", fn := fun _ => fun
  | [d] => { results := [.lit (.bool true)], args := [d] }
  | _ => none }
def extentsTurnedRow : OpenClaim := { program := "ytakjbdeemifnmaadoor", sum := "729d750c3133a3cc7dc6e16135f27d4e522044d968d9859c04fda4145b978b6b", func := "drydock/drydocklaw16.ExtentsTurned", spec := "extentsTurned", unfollowed := true, recurses := true, named := ["unicode/utf8.first", "unicode/utf8.acceptRanges"], apart := false, laid := [("unicode/utf8.acceptRanges", laid_unicode_utf8_acceptRanges), ("unicode/utf8.first", laid_unicode_utf8_first)] }
def ExtentsTurnedSaid : Prop := extentsTurnedRow.holds Tryd.pinned (OpenSpec.ofChange extentsTurnedSpec)

/-- ITS FALSE NEIGHBOUR: 'it returns false'. Refute it at one input. -/
def extentsTurnedWrong : ChangeSpec := { name := "extentsTurned", fn := fun _ => fun
  | [d] => { results := [.lit (.bool false)], args := [d] }
  | _ => none }
def ExtentsTurnedWrongFalsely : Prop := extentsTurnedRow.holds Tryd.pinned (OpenSpec.ofChange extentsTurnedWrong)

/- THE SECOND FORM. 'bulk': how many values and letters a reading holds, each counted each time it is reached (what is shared counts as often as it is met; a slice's spare places count too). A statement '..UptoSaid' is the law's where the arguments, and the package variables that the reading takes, are together of bulk at most 1048576: NARROWER than '..Said'. Prove '..Said' where nothing that the law and all that it calls make is longer than what came in: it says more and counts as full. Else prove '..UptoSaid'. A law counts once. -/
mutual
def uptoBulk {H : Type} : DataW H → Nat
  | .lit (.string bytes) => bytes.length + 1
  | .lit _ => 1
  | .nil => 1
  | .ptr d => uptoBulk d + 1
  | .slice elems spare => uptoBulkAll elems + uptoBulkAll spare + 1
  | .agg parts => uptoBulkAll parts + 1
  | .iface _ d => uptoBulk d + 1
  | .map entries => uptoBulkEntries entries + 1
  | .held _ => 1
def uptoBulkAll {H : Type} : List (DataW H) → Nat
  | [] => 0
  | d :: r => uptoBulk d + uptoBulkAll r
def uptoBulkEntries {H : Type} : List (Lit × DataW H) → Nat
  | [] => 0
  | x :: r => uptoBulkEntry x + uptoBulkEntries r
def uptoBulkEntry {H : Type} : Lit × DataW H → Nat
  | (.string bytes, d) => bytes.length + uptoBulk d + 1
  | (_, d) => uptoBulk d + 1
 end
def uptoSmall : (H : Type) → List (DataW H) → Bool := fun _ ds => decide (uptoBulkAll ds ≤ 1048576)
def OpenSpec.upto (s : _root_.Go.ChangeSpec) : _root_.Go.OpenSpec := { _root_.Go.OpenSpec.ofChange s with cond := some uptoSmall }

/-- 'drydocklaw16.ExtentsBack', WHERE WHAT IT READS IS OF BULK AT MOST 1048576: true; the input reads as it did. -/
def extentsBackUptoRow : OpenClaim := { program := "ytakjbdeemifnmaadoor", sum := "729d750c3133a3cc7dc6e16135f27d4e522044d968d9859c04fda4145b978b6b", func := "drydock/drydocklaw16.ExtentsBack", spec := "extentsBack", unfollowed := true, recurses := true, named := ["unicode/utf8.first", "unicode/utf8.acceptRanges"], apart := false, laid := [("unicode/utf8.acceptRanges", laid_unicode_utf8_acceptRanges), ("unicode/utf8.first", laid_unicode_utf8_first)], narrowed := true }
def ExtentsBackUptoSaid : Prop := extentsBackUptoRow.holds Tryd.pinned (OpenSpec.upto extentsBackSpec)

/-- 'drydocklaw16.ExtentsPages', WHERE WHAT IT READS IS OF BULK AT MOST 1048576: true; the input reads as it did. -/
def extentsPagesUptoRow : OpenClaim := { program := "ytakjbdeemifnmaadoor", sum := "729d750c3133a3cc7dc6e16135f27d4e522044d968d9859c04fda4145b978b6b", func := "drydock/drydocklaw16.ExtentsPages", spec := "extentsPages", unfollowed := true, recurses := true, named := ["unicode/utf8.first", "unicode/utf8.acceptRanges"], apart := false, laid := [("unicode/utf8.acceptRanges", laid_unicode_utf8_acceptRanges), ("unicode/utf8.first", laid_unicode_utf8_first)], narrowed := true }
def ExtentsPagesUptoSaid : Prop := extentsPagesUptoRow.holds Tryd.pinned (OpenSpec.upto extentsPagesSpec)

/-- 'drydocklaw16.ExtentsOver', WHERE WHAT IT READS IS OF BULK AT MOST 1048576: true; the input reads as it did. -/
def extentsOverUptoRow : OpenClaim := { program := "ytakjbdeemifnmaadoor", sum := "729d750c3133a3cc7dc6e16135f27d4e522044d968d9859c04fda4145b978b6b", func := "drydock/drydocklaw16.ExtentsOver", spec := "extentsOver", unfollowed := true, recurses := true, named := ["unicode/utf8.first", "unicode/utf8.acceptRanges"], apart := false, laid := [("unicode/utf8.acceptRanges", laid_unicode_utf8_acceptRanges), ("unicode/utf8.first", laid_unicode_utf8_first)], narrowed := true }
def ExtentsOverUptoSaid : Prop := extentsOverUptoRow.holds Tryd.pinned (OpenSpec.upto extentsOverSpec)

/-- 'drydocklaw16.ExtentsTurned', WHERE WHAT IT READS IS OF BULK AT MOST 1048576: true; the input reads as it did. -/
def extentsTurnedUptoRow : OpenClaim := { program := "ytakjbdeemifnmaadoor", sum := "729d750c3133a3cc7dc6e16135f27d4e522044d968d9859c04fda4145b978b6b", func := "drydock/drydocklaw16.ExtentsTurned", spec := "extentsTurned", unfollowed := true, recurses := true, named := ["unicode/utf8.first", "unicode/utf8.acceptRanges"], apart := false, laid := [("unicode/utf8.acceptRanges", laid_unicode_utf8_acceptRanges), ("unicode/utf8.first", laid_unicode_utf8_first)], narrowed := true }
def ExtentsTurnedUptoSaid : Prop := extentsTurnedUptoRow.holds Tryd.pinned (OpenSpec.upto extentsTurnedSpec)

end Rows
end Go.Proofs.YtakjbdeemifnmaaDoor
