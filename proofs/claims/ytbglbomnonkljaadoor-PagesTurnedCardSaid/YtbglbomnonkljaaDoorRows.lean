/-
  NARROWER THAN 'FOR EVERY INPUT', by the rows' own cells (each row's printed sentence says how): PagesBack: laid · PagesTurned: laid · PagesLast: laid · PagesDisk: laid.
  DERIVED. THE GIVEN ROWS OF THIS SEAT. 4 by the template 'for every input the law returns true; each argument reads behind the call as it read before'; 0 by the template 'total and deterministic' (their statements: YtbglbomnonkljaaDoorTotals.lean).
  GIVEN WITH THE SEED: the statements are not yours to turn. If you find one false, say at which input.
  Laid BY PROGRAM, IN A SANDBOX (cutbox-rows.mjs): the forced cells as the released guide's own fill.sh prints them over the translation ada48ba3a22f270f… (all of the seat's roots in one cut). By AI agents, Wed Nov 11 2026. No macro, syntax, notation, axiom, sorry.
-/
import Derived.Test.YtbglbomnonkljaaDoorChecked
import GoSem.PinnedTables
import GoSem.Claim
import GoSem.ClaimJoined
import GoSem.ClaimMapViews
import Derived.JoinedTies
import Derived.KernelRfl
namespace Go.Proofs.YtbglbomnonkljaaDoor
/- THE CELL 'sum', in the pinned program and in every row, IS THE sha256 OF THE DUMP (.gsa) THAT YtbglbomnonkljaaDoorProg.lean LOADS. Nothing in Lean hashes anything: it is a label: what it is worth is what the hold of that sum in a sandbox is worth. -/
noncomputable def Tryd.pinned : Pinned := { name := "ytbglbomnonkljaadoor", sum := "ada48ba3a22f270ff1b6bf798827cac4664fa9c6e0a5a81488707beed22635cf", checked := Tryd.checked }
namespace Rows
def none {H : Type} : Left H := { results := [], args := [] }

/- WHAT THE LISTED PACKAGE-LEVEL VARIABLES READ AS WHEN THE CALL BEGINS. Each datum BY PROGRAM (the guide's laid-datum.mjs) off the statement by which the dump's own 'gosem.cut.vars' lays the variable. In a bare row this is a premise. The card (YtbglbomnonkljaaDoorCards.lean) ties it to the program's text. -/
def laid_unicode_utf8_acceptRanges {H : Type} : DataW H := .agg [.agg [.lit (.int .u8 128), .lit (.int .u8 191)], .agg [.lit (.int .u8 160), .lit (.int .u8 191)], .agg [.lit (.int .u8 128), .lit (.int .u8 159)], .agg [.lit (.int .u8 144), .lit (.int .u8 191)], .agg [.lit (.int .u8 128), .lit (.int .u8 143)], .agg [.lit (.int .u8 0), .lit (.int .u8 0)], .agg [.lit (.int .u8 0), .lit (.int .u8 0)], .agg [.lit (.int .u8 0), .lit (.int .u8 0)], .agg [.lit (.int .u8 0), .lit (.int .u8 0)], .agg [.lit (.int .u8 0), .lit (.int .u8 0)], .agg [.lit (.int .u8 0), .lit (.int .u8 0)], .agg [.lit (.int .u8 0), .lit (.int .u8 0)], .agg [.lit (.int .u8 0), .lit (.int .u8 0)], .agg [.lit (.int .u8 0), .lit (.int .u8 0)], .agg [.lit (.int .u8 0), .lit (.int .u8 0)], .agg [.lit (.int .u8 0), .lit (.int .u8 0)]]
/-- One of Go's own tables, pinned by name: the form's constant. -/
def laid_unicode_utf8_first : DataW Unit := Go.Pinned.utf8First

/-- 'drydocklaw14.PagesBack': WHATEVER THE INPUT: true; the input reads as it did. -/
def pagesBackSpec : ChangeSpec := { name := "pagesBack", fn := fun _ => fun
  | [d1, d2] => { results := [.lit (.bool true)], args := [d1, d2] }
  | _ => none }
def pagesBackRow : OpenClaim := { program := "ytbglbomnonkljaadoor", sum := "ada48ba3a22f270ff1b6bf798827cac4664fa9c6e0a5a81488707beed22635cf", func := "drydock/drydocklaw14.PagesBack", spec := "pagesBack", unfollowed := true, recurses := true, named := ["unicode/utf8.first", "unicode/utf8.acceptRanges"], apart := false, laid := [("unicode/utf8.acceptRanges", laid_unicode_utf8_acceptRanges), ("unicode/utf8.first", laid_unicode_utf8_first)] }
def PagesBackSaid : Prop := pagesBackRow.holds Tryd.pinned (OpenSpec.ofChange pagesBackSpec)

/-- ITS FALSE NEIGHBOUR: 'it returns false'. Refute it at one input. -/
def pagesBackWrong : ChangeSpec := { name := "pagesBack", fn := fun _ => fun
  | [d1, d2] => { results := [.lit (.bool false)], args := [d1, d2] }
  | _ => none }
def PagesBackWrongFalsely : Prop := pagesBackRow.holds Tryd.pinned (OpenSpec.ofChange pagesBackWrong)

/-- 'drydocklaw14.PagesTurned': WHATEVER THE INPUT: true; the input reads as it did. -/
def pagesTurnedSpec : ChangeSpec := { name := "pagesTurned", fn := fun _ => fun
  | [d1, d2, d3] => { results := [.lit (.bool true)], args := [d1, d2, d3] }
  | _ => none }
def pagesTurnedRow : OpenClaim := { program := "ytbglbomnonkljaadoor", sum := "ada48ba3a22f270ff1b6bf798827cac4664fa9c6e0a5a81488707beed22635cf", func := "drydock/drydocklaw14.PagesTurned", spec := "pagesTurned", unfollowed := true, recurses := true, named := ["unicode/utf8.first", "unicode/utf8.acceptRanges"], apart := false, laid := [("unicode/utf8.acceptRanges", laid_unicode_utf8_acceptRanges), ("unicode/utf8.first", laid_unicode_utf8_first)] }
def PagesTurnedSaid : Prop := pagesTurnedRow.holds Tryd.pinned (OpenSpec.ofChange pagesTurnedSpec)

/-- ITS FALSE NEIGHBOUR: 'it returns false'. Refute it at one input. -/
def pagesTurnedWrong : ChangeSpec := { name := "pagesTurned", fn := fun _ => fun
  | [d1, d2, d3] => { results := [.lit (.bool false)], args := [d1, d2, d3] }
  | _ => none }
def PagesTurnedWrongFalsely : Prop := pagesTurnedRow.holds Tryd.pinned (OpenSpec.ofChange pagesTurnedWrong)

/-- 'drydocklaw14.PagesLast': WHATEVER THE INPUT: true; the input reads as it did. -/
def pagesLastSpec : ChangeSpec := { name := "pagesLast", fn := fun _ => fun
  | [d1, d2, d3] => { results := [.lit (.bool true)], args := [d1, d2, d3] }
  | _ => none }
def pagesLastRow : OpenClaim := { program := "ytbglbomnonkljaadoor", sum := "ada48ba3a22f270ff1b6bf798827cac4664fa9c6e0a5a81488707beed22635cf", func := "drydock/drydocklaw14.PagesLast", spec := "pagesLast", unfollowed := true, recurses := true, named := ["unicode/utf8.first", "unicode/utf8.acceptRanges"], apart := false, laid := [("unicode/utf8.acceptRanges", laid_unicode_utf8_acceptRanges), ("unicode/utf8.first", laid_unicode_utf8_first)] }
def PagesLastSaid : Prop := pagesLastRow.holds Tryd.pinned (OpenSpec.ofChange pagesLastSpec)

/-- ITS FALSE NEIGHBOUR: 'it returns false'. Refute it at one input. -/
def pagesLastWrong : ChangeSpec := { name := "pagesLast", fn := fun _ => fun
  | [d1, d2, d3] => { results := [.lit (.bool false)], args := [d1, d2, d3] }
  | _ => none }
def PagesLastWrongFalsely : Prop := pagesLastRow.holds Tryd.pinned (OpenSpec.ofChange pagesLastWrong)

/-- 'drydocklaw14.PagesDisk': WHATEVER THE INPUT: true; the input reads as it did. -/
def pagesDiskSpec : ChangeSpec := { name := "pagesDisk", fn := fun _ => fun
  | [d1, d2, d3] => { results := [.lit (.bool true)], args := [d1, d2, d3] }
  | _ => none }
def pagesDiskRow : OpenClaim := { program := "ytbglbomnonkljaadoor", sum := "ada48ba3a22f270ff1b6bf798827cac4664fa9c6e0a5a81488707beed22635cf", func := "drydock/drydocklaw14.PagesDisk", spec := "pagesDisk", unfollowed := true, recurses := true, named := ["unicode/utf8.first", "unicode/utf8.acceptRanges"], apart := false, laid := [("unicode/utf8.acceptRanges", laid_unicode_utf8_acceptRanges), ("unicode/utf8.first", laid_unicode_utf8_first)] }
def PagesDiskSaid : Prop := pagesDiskRow.holds Tryd.pinned (OpenSpec.ofChange pagesDiskSpec)

/-- ITS FALSE NEIGHBOUR: 'it returns false'. Refute it at one input. -/
def pagesDiskWrong : ChangeSpec := { name := "pagesDisk", fn := fun _ => fun
  | [d1, d2, d3] => { results := [.lit (.bool false)], args := [d1, d2, d3] }
  | _ => none }
def PagesDiskWrongFalsely : Prop := pagesDiskRow.holds Tryd.pinned (OpenSpec.ofChange pagesDiskWrong)

/- THE SECOND FORM. 'bulk': how many values and letters a reading holds, each counted each time it is reached (what is shared counts as often as it is met; a slice's spare places count too). A statement '..UptoSaid' is the law's where the arguments, and the package variables that the reading takes, are together of bulk at most 1048576: NARROWER than '..Said'. Prove '..Said' where nothing that the law and all that it calls make is longer than what came in: it says more and counts as full. Else prove '..UptoSaid'. A law counts once. -/
mutual
def uptoBulk {H : Type} : DataW H → Nat
  | .lit (.string bytes) => bytes.length + 1
  | .lit _ => 1
  | .nil => 1
  | .ptr d => uptoBulk d + 1
  | .slice elems spare => uptoBulkAll elems + uptoBulkAll spare + 1
  | .agg parts => uptoBulkAll parts + 1
  | .iface _ d => uptoBulk d + 1
  | .map entries => uptoBulkEntries entries + 1
  | .held _ => 1
def uptoBulkAll {H : Type} : List (DataW H) → Nat
  | [] => 0
  | d :: r => uptoBulk d + uptoBulkAll r
def uptoBulkEntries {H : Type} : List (Lit × DataW H) → Nat
  | [] => 0
  | x :: r => uptoBulkEntry x + uptoBulkEntries r
def uptoBulkEntry {H : Type} : Lit × DataW H → Nat
  | (.string bytes, d) => bytes.length + uptoBulk d + 1
  | (_, d) => uptoBulk d + 1
 end
def uptoSmall : (H : Type) → List (DataW H) → Bool := fun _ ds => decide (uptoBulkAll ds ≤ 1048576)
def OpenSpec.upto (s : _root_.Go.ChangeSpec) : _root_.Go.OpenSpec := { _root_.Go.OpenSpec.ofChange s with cond := some uptoSmall }

/-- 'drydocklaw14.PagesBack', WHERE WHAT IT READS IS OF BULK AT MOST 1048576: true; the input reads as it did. -/
def pagesBackUptoRow : OpenClaim := { program := "ytbglbomnonkljaadoor", sum := "ada48ba3a22f270ff1b6bf798827cac4664fa9c6e0a5a81488707beed22635cf", func := "drydock/drydocklaw14.PagesBack", spec := "pagesBack", unfollowed := true, recurses := true, named := ["unicode/utf8.first", "unicode/utf8.acceptRanges"], apart := false, laid := [("unicode/utf8.acceptRanges", laid_unicode_utf8_acceptRanges), ("unicode/utf8.first", laid_unicode_utf8_first)], narrowed := true }
def PagesBackUptoSaid : Prop := pagesBackUptoRow.holds Tryd.pinned (OpenSpec.upto pagesBackSpec)

/-- 'drydocklaw14.PagesTurned', WHERE WHAT IT READS IS OF BULK AT MOST 1048576: true; the input reads as it did. -/
def pagesTurnedUptoRow : OpenClaim := { program := "ytbglbomnonkljaadoor", sum := "ada48ba3a22f270ff1b6bf798827cac4664fa9c6e0a5a81488707beed22635cf", func := "drydock/drydocklaw14.PagesTurned", spec := "pagesTurned", unfollowed := true, recurses := true, named := ["unicode/utf8.first", "unicode/utf8.acceptRanges"], apart := false, laid := [("unicode/utf8.acceptRanges", laid_unicode_utf8_acceptRanges), ("unicode/utf8.first", laid_unicode_utf8_first)], narrowed := true }
def PagesTurnedUptoSaid : Prop := pagesTurnedUptoRow.holds Tryd.pinned (OpenSpec.upto pagesTurnedSpec)

/-- 'drydocklaw14.PagesLast', WHERE WHAT IT READS IS OF BULK AT MOST 1048576: true; the input reads as it did. -/
def pagesLastUptoRow : OpenClaim := { program := "ytbglbomnonkljaadoor", sum := "ada48ba3a22f270ff1b6bf798827cac4664fa9c6e0a5a81488707beed22635cf", func := "drydock/drydocklaw14.PagesLast", spec := "pagesLast", unfollowed := true, recurses := true, named := ["unicode/utf8.first", "unicode/utf8.acceptRanges"], apart := false, laid := [("unicode/utf8.acceptRanges", laid_unicode_utf8_acceptRanges), ("unicode/utf8.first", laid_unicode_utf8_first)], narrowed := true }
def PagesLastUptoSaid : Prop := pagesLastUptoRow.holds Tryd.pinned (OpenSpec.upto pagesLastSpec)

/-- 'drydocklaw14.PagesDisk', WHERE WHAT IT READS IS OF BULK AT MOST 1048576: true; the input reads as it did. -/
def pagesDiskUptoRow : OpenClaim := { program := "ytbglbomnonkljaadoor", sum := "ada48ba3a22f270ff1b6bf798827cac4664fa9c6e0a5a81488707beed22635cf", func := "drydock/drydocklaw14.PagesDisk", spec := "pagesDisk", unfollowed := true, recurses := true, named := ["unicode/utf8.first", "unicode/utf8.acceptRanges"], apart := false, laid := [("unicode/utf8.acceptRanges", laid_unicode_utf8_acceptRanges), ("unicode/utf8.first", laid_unicode_utf8_first)], narrowed := true }
def PagesDiskUptoSaid : Prop := pagesDiskUptoRow.holds Tryd.pinned (OpenSpec.upto pagesDiskSpec)

end Rows
end Go.Proofs.YtbglbomnonkljaaDoor
