/-
  No cell of these rows narrows 'for every input' (looked for: loops, veiled, ifaces, maps, wideKeys, modest, calm, conditions, laid).
  DERIVED. THE GIVEN ROWS OF THIS SEAT. 4 by the template 'for every input the law returns true; each argument reads behind the call as it read before'; 0 by the template 'total and deterministic' (their statements: YtdafoaehldnjmaaTotals.lean).
  GIVEN WITH THE SEED: the statements are not yours to turn. If you find one false, say at which input.
  Laid BY PROGRAM, IN A SANDBOX (cutbox-rows.mjs): the forced cells as the released guide's own fill.sh prints them over the translation 8df0c490c66bc36c… (all of the seat's roots in one cut). By AI agents, Wed Nov 11 2026. No macro, syntax, notation, axiom, sorry.
-/
import Derived.Test.YtdafoaehldnjmaaChecked
import GoSem.Claim
import GoSem.ClaimJoined
import GoSem.ClaimMapViews
import Derived.JoinedTies
import Derived.KernelRfl
namespace Go.Proofs.Ytdafoaehldnjmaa
/- THE CELL 'sum', in the pinned program and in every row, IS THE sha256 OF THE DUMP (.gsa) THAT YtdafoaehldnjmaaProg.lean LOADS. Nothing in Lean hashes anything: it is a label: what it is worth is what the hold of that sum in a sandbox is worth. -/
noncomputable def Try.pinned : Pinned := { name := "ytdafoaehldnjmaa", sum := "8df0c490c66bc36cbad42ef2b3de5974f9a705d014f899a05dfbe6d09b6e779b", checked := Try.checked }
namespace Rows
def none {H : Type} : Left H := { results := [], args := [] }

/-- 'drydocklaw01.NumsBack': WHATEVER THE INPUT: true; the input reads as it did. -/
def numsBackSpec : ChangeSpec := { name := "numsBack", fn := fun _ => fun
  | [d1, d2, d3] => { results := [.lit (.bool true)], args := [d1, d2, d3] }
  | _ => none }
def numsBackRow : OpenClaim := { program := "ytdafoaehldnjmaa", sum := "8df0c490c66bc36cbad42ef2b3de5974f9a705d014f899a05dfbe6d09b6e779b", func := "drydock/drydocklaw01.NumsBack", spec := "numsBack", unfollowed := true, recurses := true, apart := false }
def NumsBackSaid : Prop := numsBackRow.holds Try.pinned (OpenSpec.ofChange numsBackSpec)

/-- ITS FALSE NEIGHBOUR: 'it returns false'. Refute it at one input. -/
def numsBackWrong : ChangeSpec := { name := "numsBack", fn := fun _ => fun
  | [d1, d2, d3] => { results := [.lit (.bool false)], args := [d1, d2, d3] }
  | _ => none }
def NumsBackWrongFalsely : Prop := numsBackRow.holds Try.pinned (OpenSpec.ofChange numsBackWrong)

/-- 'drydocklaw01.NumsMany': WHATEVER THE INPUT: true; the input reads as it did. -/
def numsManySpec : ChangeSpec := { name := "numsMany", fn := fun _ => fun
  | [d1, d2] => { results := [.lit (.bool true)], args := [d1, d2] }
  | _ => none }
def numsManyRow : OpenClaim := { program := "ytdafoaehldnjmaa", sum := "8df0c490c66bc36cbad42ef2b3de5974f9a705d014f899a05dfbe6d09b6e779b", func := "drydock/drydocklaw01.NumsMany", spec := "numsMany", unfollowed := true, recurses := true, apart := false }
def NumsManySaid : Prop := numsManyRow.holds Try.pinned (OpenSpec.ofChange numsManySpec)

/-- ITS FALSE NEIGHBOUR: 'it returns false'. Refute it at one input. -/
def numsManyWrong : ChangeSpec := { name := "numsMany", fn := fun _ => fun
  | [d1, d2] => { results := [.lit (.bool false)], args := [d1, d2] }
  | _ => none }
def NumsManyWrongFalsely : Prop := numsManyRow.holds Try.pinned (OpenSpec.ofChange numsManyWrong)

/-- 'drydocklaw01.NumsUnlike': WHATEVER THE INPUT: true; the input reads as it did. -/
def numsUnlikeSpec : ChangeSpec := { name := "numsUnlike", fn := fun _ => fun
  | [d1, d2] => { results := [.lit (.bool true)], args := [d1, d2] }
  | _ => none }
def numsUnlikeRow : OpenClaim := { program := "ytdafoaehldnjmaa", sum := "8df0c490c66bc36cbad42ef2b3de5974f9a705d014f899a05dfbe6d09b6e779b", func := "drydock/drydocklaw01.NumsUnlike", spec := "numsUnlike", unfollowed := true, recurses := true, apart := false }
def NumsUnlikeSaid : Prop := numsUnlikeRow.holds Try.pinned (OpenSpec.ofChange numsUnlikeSpec)

/-- ITS FALSE NEIGHBOUR: 'it returns false'. Refute it at one input. -/
def numsUnlikeWrong : ChangeSpec := { name := "numsUnlike", fn := fun _ => fun
  | [d1, d2] => { results := [.lit (.bool false)], args := [d1, d2] }
  | _ => none }
def NumsUnlikeWrongFalsely : Prop := numsUnlikeRow.holds Try.pinned (OpenSpec.ofChange numsUnlikeWrong)

/-- 'drydocklaw01.NumsJoin': WHATEVER THE INPUT: true; the input reads as it did. -/
def numsJoinSpec : ChangeSpec := { name := "numsJoin", fn := fun _ => fun
  | [d1, d2] => { results := [.lit (.bool true)], args := [d1, d2] }
  | _ => none }
def numsJoinRow : OpenClaim := { program := "ytdafoaehldnjmaa", sum := "8df0c490c66bc36cbad42ef2b3de5974f9a705d014f899a05dfbe6d09b6e779b", func := "drydock/drydocklaw01.NumsJoin", spec := "numsJoin", unfollowed := true, recurses := true, apart := false }
def NumsJoinSaid : Prop := numsJoinRow.holds Try.pinned (OpenSpec.ofChange numsJoinSpec)

/-- ITS FALSE NEIGHBOUR: 'it returns false'. Refute it at one input. -/
def numsJoinWrong : ChangeSpec := { name := "numsJoin", fn := fun _ => fun
  | [d1, d2] => { results := [.lit (.bool false)], args := [d1, d2] }
  | _ => none }
def NumsJoinWrongFalsely : Prop := numsJoinRow.holds Try.pinned (OpenSpec.ofChange numsJoinWrong)

/- THE SECOND FORM. 'bulk': how many values and letters a reading holds, each counted each time it is reached (what is shared counts as often as it is met; a slice's spare places count too). A statement '..UptoSaid' is the law's where the arguments, and the package variables that the reading takes, are together of bulk at most 1048576: NARROWER than '..Said'. Prove '..Said' where nothing that the law and all that it calls make is longer than what came in: it says more and counts as full. Else prove '..UptoSaid'. A law counts once. -/
mutual
def uptoBulk {H : Type} : DataW H → Nat
  | .lit (.string bytes) => bytes.length + 1
  | .lit _ => 1
  | .nil => 1
  | .ptr d => uptoBulk d + 1
  | .slice elems spare => uptoBulkAll elems + uptoBulkAll spare + 1
  | .agg parts => uptoBulkAll parts + 1
  | .iface _ d => uptoBulk d + 1
  | .map entries => uptoBulkEntries entries + 1
  | .held _ => 1
def uptoBulkAll {H : Type} : List (DataW H) → Nat
  | [] => 0
  | d :: r => uptoBulk d + uptoBulkAll r
def uptoBulkEntries {H : Type} : List (Lit × DataW H) → Nat
  | [] => 0
  | x :: r => uptoBulkEntry x + uptoBulkEntries r
def uptoBulkEntry {H : Type} : Lit × DataW H → Nat
  | (.string bytes, d) => bytes.length + uptoBulk d + 1
  | (_, d) => uptoBulk d + 1
 end
def uptoSmall : (H : Type) → List (DataW H) → Bool := fun _ ds => decide (uptoBulkAll ds ≤ 1048576)
def OpenSpec.upto (s : _root_.Go.ChangeSpec) : _root_.Go.OpenSpec := { _root_.Go.OpenSpec.ofChange s with cond := some uptoSmall }

/-- 'drydocklaw01.NumsBack', WHERE WHAT IT READS IS OF BULK AT MOST 1048576: true; the input reads as it did. -/
def numsBackUptoRow : OpenClaim := { program := "ytdafoaehldnjmaa", sum := "8df0c490c66bc36cbad42ef2b3de5974f9a705d014f899a05dfbe6d09b6e779b", func := "drydock/drydocklaw01.NumsBack", spec := "numsBack", unfollowed := true, recurses := true, apart := false, narrowed := true }
def NumsBackUptoSaid : Prop := numsBackUptoRow.holds Try.pinned (OpenSpec.upto numsBackSpec)

/-- 'drydocklaw01.NumsMany', WHERE WHAT IT READS IS OF BULK AT MOST 1048576: true; the input reads as it did. -/
def numsManyUptoRow : OpenClaim := { program := "ytdafoaehldnjmaa", sum := "8df0c490c66bc36cbad42ef2b3de5974f9a705d014f899a05dfbe6d09b6e779b", func := "drydock/drydocklaw01.NumsMany", spec := "numsMany", unfollowed := true, recurses := true, apart := false, narrowed := true }
def NumsManyUptoSaid : Prop := numsManyUptoRow.holds Try.pinned (OpenSpec.upto numsManySpec)

/-- 'drydocklaw01.NumsUnlike', WHERE WHAT IT READS IS OF BULK AT MOST 1048576: true; the input reads as it did. -/
def numsUnlikeUptoRow : OpenClaim := { program := "ytdafoaehldnjmaa", sum := "8df0c490c66bc36cbad42ef2b3de5974f9a705d014f899a05dfbe6d09b6e779b", func := "drydock/drydocklaw01.NumsUnlike", spec := "numsUnlike", unfollowed := true, recurses := true, apart := false, narrowed := true }
def NumsUnlikeUptoSaid : Prop := numsUnlikeUptoRow.holds Try.pinned (OpenSpec.upto numsUnlikeSpec)

/-- 'drydocklaw01.NumsJoin', WHERE WHAT IT READS IS OF BULK AT MOST 1048576: true; the input reads as it did. -/
def numsJoinUptoRow : OpenClaim := { program := "ytdafoaehldnjmaa", sum := "8df0c490c66bc36cbad42ef2b3de5974f9a705d014f899a05dfbe6d09b6e779b", func := "drydock/drydocklaw01.NumsJoin", spec := "numsJoin", unfollowed := true, recurses := true, apart := false, narrowed := true }
def NumsJoinUptoSaid : Prop := numsJoinUptoRow.holds Try.pinned (OpenSpec.upto numsJoinSpec)

end Rows
end Go.Proofs.Ytdafoaehldnjmaa
