/-
  No cell of these rows narrows 'for every input' (looked for: loops, veiled, ifaces, maps, wideKeys, modest, calm, conditions, laid).
  DERIVED. THE GIVEN ROWS OF THIS SEAT. 5 by the template 'for every input the law returns true; each argument reads behind the call as it read before'; 0 by the template 'total and deterministic' (their statements: YtponmdacphapnaaTotals.lean).
  GIVEN WITH THE SEED: the statements are not yours to turn. If you find one false, say at which input.
  Laid BY PROGRAM, IN A SANDBOX (cutbox-rows.mjs): the forced cells as the released guide's own fill.sh prints them over the translation c4d724e860da087a… (all of the seat's roots in one cut). By AI agents, Wed Nov 11 2026. No macro, syntax, notation, axiom, sorry.
-/
import Derived.Test.YtponmdacphapnaaChecked
import GoSem.Claim
import GoSem.ClaimJoined
import GoSem.ClaimMapViews
import Derived.JoinedTies
import Derived.KernelRfl
namespace Go.Proofs.Ytponmdacphapnaa
/- THE CELL 'sum', in the pinned program and in every row, IS THE sha256 OF THE DUMP (.gsa) THAT YtponmdacphapnaaProg.lean LOADS. Nothing in Lean hashes anything: it is a label: what it is worth is what the hold of that sum in a sandbox is worth. -/
noncomputable def Try.pinned : Pinned := { name := "ytponmdacphapnaa", sum := "c4d724e860da087ad72bfd36854ee89af60de067c661f707fe50c45dd9d9c26f", checked := Try.checked }
namespace Rows
def none {H : Type} : Left H := { results := [], args := [] }

/-- 'drydocklaw17.RootsBack': WHATEVER THE INPUT: true; the input reads as it did. -/
def rootsBackSpec : ChangeSpec := { name := "rootsBack", fn := fun _ => fun
  | [d1, d2, d3] => { results := [.lit (.bool true)], args := [d1, d2, d3] }
  | _ => none }
def rootsBackRow : OpenClaim := { program := "ytponmdacphapnaa", sum := "c4d724e860da087ad72bfd36854ee89af60de067c661f707fe50c45dd9d9c26f", func := "drydock/drydocklaw17.RootsBack", spec := "rootsBack", apart := false }
def RootsBackSaid : Prop := rootsBackRow.holds Try.pinned (OpenSpec.ofChange rootsBackSpec)

/-- ITS FALSE NEIGHBOUR: 'it returns false'. Refute it at one input. -/
def rootsBackWrong : ChangeSpec := { name := "rootsBack", fn := fun _ => fun
  | [d1, d2, d3] => { results := [.lit (.bool false)], args := [d1, d2, d3] }
  | _ => none }
def RootsBackWrongFalsely : Prop := rootsBackRow.holds Try.pinned (OpenSpec.ofChange rootsBackWrong)

/-- 'drydocklaw17.RootsSwap': WHATEVER THE INPUT: true; the input reads as it did. -/
def rootsSwapSpec : ChangeSpec := { name := "rootsSwap", fn := fun _ => fun
  | [d1, d2] => { results := [.lit (.bool true)], args := [d1, d2] }
  | _ => none }
def rootsSwapRow : OpenClaim := { program := "ytponmdacphapnaa", sum := "c4d724e860da087ad72bfd36854ee89af60de067c661f707fe50c45dd9d9c26f", func := "drydock/drydocklaw17.RootsSwap", spec := "rootsSwap", apart := false }
def RootsSwapSaid : Prop := rootsSwapRow.holds Try.pinned (OpenSpec.ofChange rootsSwapSpec)

/-- ITS FALSE NEIGHBOUR: 'it returns false'. Refute it at one input. -/
def rootsSwapWrong : ChangeSpec := { name := "rootsSwap", fn := fun _ => fun
  | [d1, d2] => { results := [.lit (.bool false)], args := [d1, d2] }
  | _ => none }
def RootsSwapWrongFalsely : Prop := rootsSwapRow.holds Try.pinned (OpenSpec.ofChange rootsSwapWrong)

/-- 'drydocklaw17.RootsSure': WHATEVER THE INPUT: true; the input reads as it did. -/
def rootsSureSpec : ChangeSpec := { name := "rootsSure", fn := fun _ => fun
  | [d1, d2, d3] => { results := [.lit (.bool true)], args := [d1, d2, d3] }
  | _ => none }
def rootsSureRow : OpenClaim := { program := "ytponmdacphapnaa", sum := "c4d724e860da087ad72bfd36854ee89af60de067c661f707fe50c45dd9d9c26f", func := "drydock/drydocklaw17.RootsSure", spec := "rootsSure", apart := false }
def RootsSureSaid : Prop := rootsSureRow.holds Try.pinned (OpenSpec.ofChange rootsSureSpec)

/-- ITS FALSE NEIGHBOUR: 'it returns false'. Refute it at one input. -/
def rootsSureWrong : ChangeSpec := { name := "rootsSure", fn := fun _ => fun
  | [d1, d2, d3] => { results := [.lit (.bool false)], args := [d1, d2, d3] }
  | _ => none }
def RootsSureWrongFalsely : Prop := rootsSureRow.holds Try.pinned (OpenSpec.ofChange rootsSureWrong)

/-- 'drydocklaw17.RootsTurned': WHATEVER THE INPUT: true; the input reads as it did. -/
def rootsTurnedSpec : ChangeSpec := { name := "rootsTurned", fn := fun _ => fun
  | [d] => { results := [.lit (.bool true)], args := [d] }
  | _ => none }
def rootsTurnedRow : OpenClaim := { program := "ytponmdacphapnaa", sum := "c4d724e860da087ad72bfd36854ee89af60de067c661f707fe50c45dd9d9c26f", func := "drydock/drydocklaw17.RootsTurned", spec := "rootsTurned", apart := false }
def RootsTurnedSaid : Prop := rootsTurnedRow.holds Try.pinned (OpenSpec.ofChange rootsTurnedSpec)

/-- ITS FALSE NEIGHBOUR: 'it returns false'. Refute it at one input. -/
def rootsTurnedWrong : ChangeSpec := { name := "rootsTurned", fn := fun _ => fun
  | [d] => { results := [.lit (.bool false)], args := [d] }
  | _ => none }
def RootsTurnedWrongFalsely : Prop := rootsTurnedRow.holds Try.pinned (OpenSpec.ofChange rootsTurnedWrong)

/-- 'drydocklaw17.RootsPlay': WHATEVER THE INPUT: true; the input reads as it did. -/
def rootsPlaySpec : ChangeSpec := { name := "rootsPlay", fn := fun _ => fun
  | [d1, d2] => { results := [.lit (.bool true)], args := [d1, d2] }
  | _ => none }
def rootsPlayRow : OpenClaim := { program := "ytponmdacphapnaa", sum := "c4d724e860da087ad72bfd36854ee89af60de067c661f707fe50c45dd9d9c26f", func := "drydock/drydocklaw17.RootsPlay", spec := "rootsPlay", apart := false }
def RootsPlaySaid : Prop := rootsPlayRow.holds Try.pinned (OpenSpec.ofChange rootsPlaySpec)

/-- ITS FALSE NEIGHBOUR: 'it returns false'. Refute it at one input. -/
def rootsPlayWrong : ChangeSpec := { name := "rootsPlay", fn := fun _ => fun
  | [d1, d2] => { results := [.lit (.bool false)], args := [d1, d2] }
  | _ => none }
def RootsPlayWrongFalsely : Prop := rootsPlayRow.holds Try.pinned (OpenSpec.ofChange rootsPlayWrong)

/- THE SECOND FORM. 'bulk': how many values and letters a reading holds, each counted each time it is reached (what is shared counts as often as it is met; a slice's spare places count too). A statement '..UptoSaid' is the law's where the arguments, and the package variables that the reading takes, are together of bulk at most 1048576: NARROWER than '..Said'. Prove '..Said' where nothing that the law and all that it calls make is longer than what came in: it says more and counts as full. Else prove '..UptoSaid'. A law counts once. -/
mutual
def uptoBulk {H : Type} : DataW H → Nat
  | .lit (.string bytes) => bytes.length + 1
  | .lit _ => 1
  | .nil => 1
  | .ptr d => uptoBulk d + 1
  | .slice elems spare => uptoBulkAll elems + uptoBulkAll spare + 1
  | .agg parts => uptoBulkAll parts + 1
  | .iface _ d => uptoBulk d + 1
  | .map entries => uptoBulkEntries entries + 1
  | .held _ => 1
def uptoBulkAll {H : Type} : List (DataW H) → Nat
  | [] => 0
  | d :: r => uptoBulk d + uptoBulkAll r
def uptoBulkEntries {H : Type} : List (Lit × DataW H) → Nat
  | [] => 0
  | x :: r => uptoBulkEntry x + uptoBulkEntries r
def uptoBulkEntry {H : Type} : Lit × DataW H → Nat
  | (.string bytes, d) => bytes.length + uptoBulk d + 1
  | (_, d) => uptoBulk d + 1
 end
def uptoSmall : (H : Type) → List (DataW H) → Bool := fun _ ds => decide (uptoBulkAll ds ≤ 1048576)
def OpenSpec.upto (s : _root_.Go.ChangeSpec) : _root_.Go.OpenSpec := { _root_.Go.OpenSpec.ofChange s with cond := some uptoSmall }

/-- 'drydocklaw17.RootsBack', WHERE WHAT IT READS IS OF BULK AT MOST 1048576: true; the input reads as it did. -/
def rootsBackUptoRow : OpenClaim := { program := "ytponmdacphapnaa", sum := "c4d724e860da087ad72bfd36854ee89af60de067c661f707fe50c45dd9d9c26f", func := "drydock/drydocklaw17.RootsBack", spec := "rootsBack", apart := false, narrowed := true }
def RootsBackUptoSaid : Prop := rootsBackUptoRow.holds Try.pinned (OpenSpec.upto rootsBackSpec)

/-- 'drydocklaw17.RootsSwap', WHERE WHAT IT READS IS OF BULK AT MOST 1048576: true; the input reads as it did. -/
def rootsSwapUptoRow : OpenClaim := { program := "ytponmdacphapnaa", sum := "c4d724e860da087ad72bfd36854ee89af60de067c661f707fe50c45dd9d9c26f", func := "drydock/drydocklaw17.RootsSwap", spec := "rootsSwap", apart := false, narrowed := true }
def RootsSwapUptoSaid : Prop := rootsSwapUptoRow.holds Try.pinned (OpenSpec.upto rootsSwapSpec)

/-- 'drydocklaw17.RootsSure', WHERE WHAT IT READS IS OF BULK AT MOST 1048576: true; the input reads as it did. -/
def rootsSureUptoRow : OpenClaim := { program := "ytponmdacphapnaa", sum := "c4d724e860da087ad72bfd36854ee89af60de067c661f707fe50c45dd9d9c26f", func := "drydock/drydocklaw17.RootsSure", spec := "rootsSure", apart := false, narrowed := true }
def RootsSureUptoSaid : Prop := rootsSureUptoRow.holds Try.pinned (OpenSpec.upto rootsSureSpec)

/-- 'drydocklaw17.RootsTurned', WHERE WHAT IT READS IS OF BULK AT MOST 1048576: true; the input reads as it did. -/
def rootsTurnedUptoRow : OpenClaim := { program := "ytponmdacphapnaa", sum := "c4d724e860da087ad72bfd36854ee89af60de067c661f707fe50c45dd9d9c26f", func := "drydock/drydocklaw17.RootsTurned", spec := "rootsTurned", apart := false, narrowed := true }
def RootsTurnedUptoSaid : Prop := rootsTurnedUptoRow.holds Try.pinned (OpenSpec.upto rootsTurnedSpec)

/-- 'drydocklaw17.RootsPlay', WHERE WHAT IT READS IS OF BULK AT MOST 1048576: true; the input reads as it did. -/
def rootsPlayUptoRow : OpenClaim := { program := "ytponmdacphapnaa", sum := "c4d724e860da087ad72bfd36854ee89af60de067c661f707fe50c45dd9d9c26f", func := "drydock/drydocklaw17.RootsPlay", spec := "rootsPlay", apart := false, narrowed := true }
def RootsPlayUptoSaid : Prop := rootsPlayUptoRow.holds Try.pinned (OpenSpec.upto rootsPlaySpec)

end Rows
end Go.Proofs.Ytponmdacphapnaa
