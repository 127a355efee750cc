/-
  No cell of these rows narrows 'for every input' (looked for: loops, veiled, ifaces, maps, wideKeys, modest, calm, conditions, laid).
  DERIVED. THE GIVEN ROWS OF THIS SEAT. 9 by the template 'for every input the law returns true; each argument reads behind the call as it read before'; 0 by the template 'total and deterministic' (their statements: YtechmboimpbjpaaTotals.lean).
  GIVEN WITH THE SEED: the statements are not yours to turn. If you find one false, say at which input.
  Laid BY PROGRAM, IN A SANDBOX (cutbox-rows.mjs): the forced cells as the released guide's own fill.sh prints them over the translation 6c0ae7ec78c220ab… (all of the seat's roots in one cut). By AI agents, Wed Nov 11 2026. No macro, syntax, notation, axiom, sorry.
-/
import Derived.Test.YtechmboimpbjpaaChecked
import GoSem.Claim
import GoSem.ClaimJoined
import GoSem.ClaimMapViews
import Derived.JoinedTies
import Derived.KernelRfl
namespace Go.Proofs.Ytechmboimpbjpaa
/- THE CELL 'sum', in the pinned program and in every row, IS THE sha256 OF THE DUMP (.gsa) THAT YtechmboimpbjpaaProg.lean LOADS. Nothing in Lean hashes anything: it is a label: what it is worth is what the hold of that sum in a sandbox is worth. -/
noncomputable def Try.pinned : Pinned := { name := "ytechmboimpbjpaa", sum := "6c0ae7ec78c220ab5e7c99956e7f26963f354948b2f11f6e9c0d6bb7ac7ecab0", checked := Try.checked }
namespace Rows
def none {H : Type} : Left H := { results := [], args := [] }

/-- 'drydocklaw03.DisksLast': WHATEVER THE INPUT: true; the input reads as it did. -/
def disksLastSpec : ChangeSpec := { name := "disksLast", fn := fun _ => fun
  | [d1, d2] => { results := [.lit (.bool true)], args := [d1, d2] }
  | _ => none }
def disksLastRow : OpenClaim := { program := "ytechmboimpbjpaa", sum := "6c0ae7ec78c220ab5e7c99956e7f26963f354948b2f11f6e9c0d6bb7ac7ecab0", func := "drydock/drydocklaw03.DisksLast", spec := "disksLast", apart := false }
def DisksLastSaid : Prop := disksLastRow.holds Try.pinned (OpenSpec.ofChange disksLastSpec)

/-- ITS FALSE NEIGHBOUR: 'it returns false'. Refute it at one input. -/
def disksLastWrong : ChangeSpec := { name := "disksLast", fn := fun _ => fun
  | [d1, d2] => { results := [.lit (.bool false)], args := [d1, d2] }
  | _ => none }
def DisksLastWrongFalsely : Prop := disksLastRow.holds Try.pinned (OpenSpec.ofChange disksLastWrong)

/-- 'drydocklaw03.DisksTorn': WHATEVER THE INPUT: true; the input reads as it did. -/
def disksTornSpec : ChangeSpec := { name := "disksTorn", fn := fun _ => fun
  | [d1, d2] => { results := [.lit (.bool true)], args := [d1, d2] }
  | _ => none }
def disksTornRow : OpenClaim := { program := "ytechmboimpbjpaa", sum := "6c0ae7ec78c220ab5e7c99956e7f26963f354948b2f11f6e9c0d6bb7ac7ecab0", func := "drydock/drydocklaw03.DisksTorn", spec := "disksTorn", apart := false }
def DisksTornSaid : Prop := disksTornRow.holds Try.pinned (OpenSpec.ofChange disksTornSpec)

/-- ITS FALSE NEIGHBOUR: 'it returns false'. Refute it at one input. -/
def disksTornWrong : ChangeSpec := { name := "disksTorn", fn := fun _ => fun
  | [d1, d2] => { results := [.lit (.bool false)], args := [d1, d2] }
  | _ => none }
def DisksTornWrongFalsely : Prop := disksTornRow.holds Try.pinned (OpenSpec.ofChange disksTornWrong)

/-- 'drydocklaw03.DisksNone': WHATEVER THE INPUT: true; the input reads as it did. -/
def disksNoneSpec : ChangeSpec := { name := "disksNone", fn := fun _ => fun
  | [d1, d2, d3] => { results := [.lit (.bool true)], args := [d1, d2, d3] }
  | _ => none }
def disksNoneRow : OpenClaim := { program := "ytechmboimpbjpaa", sum := "6c0ae7ec78c220ab5e7c99956e7f26963f354948b2f11f6e9c0d6bb7ac7ecab0", func := "drydock/drydocklaw03.DisksNone", spec := "disksNone", apart := false }
def DisksNoneSaid : Prop := disksNoneRow.holds Try.pinned (OpenSpec.ofChange disksNoneSpec)

/-- ITS FALSE NEIGHBOUR: 'it returns false'. Refute it at one input. -/
def disksNoneWrong : ChangeSpec := { name := "disksNone", fn := fun _ => fun
  | [d1, d2, d3] => { results := [.lit (.bool false)], args := [d1, d2, d3] }
  | _ => none }
def DisksNoneWrongFalsely : Prop := disksNoneRow.holds Try.pinned (OpenSpec.ofChange disksNoneWrong)

/-- 'drydocklaw03.DisksBad': WHATEVER THE INPUT: true; the input reads as it did. -/
def disksBadSpec : ChangeSpec := { name := "disksBad", fn := fun _ => fun
  | [d1, d2, d3] => { results := [.lit (.bool true)], args := [d1, d2, d3] }
  | _ => none }
def disksBadRow : OpenClaim := { program := "ytechmboimpbjpaa", sum := "6c0ae7ec78c220ab5e7c99956e7f26963f354948b2f11f6e9c0d6bb7ac7ecab0", func := "drydock/drydocklaw03.DisksBad", spec := "disksBad", apart := false }
def DisksBadSaid : Prop := disksBadRow.holds Try.pinned (OpenSpec.ofChange disksBadSpec)

/-- ITS FALSE NEIGHBOUR: 'it returns false'. Refute it at one input. -/
def disksBadWrong : ChangeSpec := { name := "disksBad", fn := fun _ => fun
  | [d1, d2, d3] => { results := [.lit (.bool false)], args := [d1, d2, d3] }
  | _ => none }
def DisksBadWrongFalsely : Prop := disksBadRow.holds Try.pinned (OpenSpec.ofChange disksBadWrong)

/-- 'drydocklaw03.DisksWrite': WHATEVER THE INPUT: true; the input reads as it did. -/
def disksWriteSpec : ChangeSpec := { name := "disksWrite", fn := fun _ => fun
  | [d1, d2, d3] => { results := [.lit (.bool true)], args := [d1, d2, d3] }
  | _ => none }
def disksWriteRow : OpenClaim := { program := "ytechmboimpbjpaa", sum := "6c0ae7ec78c220ab5e7c99956e7f26963f354948b2f11f6e9c0d6bb7ac7ecab0", func := "drydock/drydocklaw03.DisksWrite", spec := "disksWrite", apart := false }
def DisksWriteSaid : Prop := disksWriteRow.holds Try.pinned (OpenSpec.ofChange disksWriteSpec)

/-- ITS FALSE NEIGHBOUR: 'it returns false'. Refute it at one input. -/
def disksWriteWrong : ChangeSpec := { name := "disksWrite", fn := fun _ => fun
  | [d1, d2, d3] => { results := [.lit (.bool false)], args := [d1, d2, d3] }
  | _ => none }
def DisksWriteWrongFalsely : Prop := disksWriteRow.holds Try.pinned (OpenSpec.ofChange disksWriteWrong)

/-- 'drydocklaw03.DisksSure': WHATEVER THE INPUT: true; the input reads as it did. -/
def disksSureSpec : ChangeSpec := { name := "disksSure", fn := fun _ => fun
  | [d1, d2, d3] => { results := [.lit (.bool true)], args := [d1, d2, d3] }
  | _ => none }
def disksSureRow : OpenClaim := { program := "ytechmboimpbjpaa", sum := "6c0ae7ec78c220ab5e7c99956e7f26963f354948b2f11f6e9c0d6bb7ac7ecab0", func := "drydock/drydocklaw03.DisksSure", spec := "disksSure", apart := false }
def DisksSureSaid : Prop := disksSureRow.holds Try.pinned (OpenSpec.ofChange disksSureSpec)

/-- ITS FALSE NEIGHBOUR: 'it returns false'. Refute it at one input. -/
def disksSureWrong : ChangeSpec := { name := "disksSure", fn := fun _ => fun
  | [d1, d2, d3] => { results := [.lit (.bool false)], args := [d1, d2, d3] }
  | _ => none }
def DisksSureWrongFalsely : Prop := disksSureRow.holds Try.pinned (OpenSpec.ofChange disksSureWrong)

/-- 'drydocklaw03.DisksAll': WHATEVER THE INPUT: true; the input reads as it did. -/
def disksAllSpec : ChangeSpec := { name := "disksAll", fn := fun _ => fun
  | [d1, d2] => { results := [.lit (.bool true)], args := [d1, d2] }
  | _ => none }
def disksAllRow : OpenClaim := { program := "ytechmboimpbjpaa", sum := "6c0ae7ec78c220ab5e7c99956e7f26963f354948b2f11f6e9c0d6bb7ac7ecab0", func := "drydock/drydocklaw03.DisksAll", spec := "disksAll", apart := false }
def DisksAllSaid : Prop := disksAllRow.holds Try.pinned (OpenSpec.ofChange disksAllSpec)

/-- ITS FALSE NEIGHBOUR: 'it returns false'. Refute it at one input. -/
def disksAllWrong : ChangeSpec := { name := "disksAll", fn := fun _ => fun
  | [d1, d2] => { results := [.lit (.bool false)], args := [d1, d2] }
  | _ => none }
def DisksAllWrongFalsely : Prop := disksAllRow.holds Try.pinned (OpenSpec.ofChange disksAllWrong)

/-- 'drydocklaw03.DisksRot': WHATEVER THE INPUT: true; the input reads as it did. -/
def disksRotSpec : ChangeSpec := { name := "disksRot", fn := fun _ => fun
  | [d1, d2] => { results := [.lit (.bool true)], args := [d1, d2] }
  | _ => none }
def disksRotRow : OpenClaim := { program := "ytechmboimpbjpaa", sum := "6c0ae7ec78c220ab5e7c99956e7f26963f354948b2f11f6e9c0d6bb7ac7ecab0", func := "drydock/drydocklaw03.DisksRot", spec := "disksRot", apart := false }
def DisksRotSaid : Prop := disksRotRow.holds Try.pinned (OpenSpec.ofChange disksRotSpec)

/-- ITS FALSE NEIGHBOUR: 'it returns false'. Refute it at one input. -/
def disksRotWrong : ChangeSpec := { name := "disksRot", fn := fun _ => fun
  | [d1, d2] => { results := [.lit (.bool false)], args := [d1, d2] }
  | _ => none }
def DisksRotWrongFalsely : Prop := disksRotRow.holds Try.pinned (OpenSpec.ofChange disksRotWrong)

/-- 'drydocklaw03.DisksApart': WHATEVER THE INPUT: true; the input reads as it did. -/
def disksApartSpec : ChangeSpec := { name := "disksApart", fn := fun _ => fun
  | [d1, d2, d3] => { results := [.lit (.bool true)], args := [d1, d2, d3] }
  | _ => none }
def disksApartRow : OpenClaim := { program := "ytechmboimpbjpaa", sum := "6c0ae7ec78c220ab5e7c99956e7f26963f354948b2f11f6e9c0d6bb7ac7ecab0", func := "drydock/drydocklaw03.DisksApart", spec := "disksApart", apart := false }
def DisksApartSaid : Prop := disksApartRow.holds Try.pinned (OpenSpec.ofChange disksApartSpec)

/-- ITS FALSE NEIGHBOUR: 'it returns false'. Refute it at one input. -/
def disksApartWrong : ChangeSpec := { name := "disksApart", fn := fun _ => fun
  | [d1, d2, d3] => { results := [.lit (.bool false)], args := [d1, d2, d3] }
  | _ => none }
def DisksApartWrongFalsely : Prop := disksApartRow.holds Try.pinned (OpenSpec.ofChange disksApartWrong)

/- THE SECOND FORM. 'bulk': how many values and letters a reading holds, each counted each time it is reached (what is shared counts as often as it is met; a slice's spare places count too). A statement '..UptoSaid' is the law's where the arguments, and the package variables that the reading takes, are together of bulk at most 1048576: NARROWER than '..Said'. Prove '..Said' where nothing that the law and all that it calls make is longer than what came in: it says more and counts as full. Else prove '..UptoSaid'. A law counts once. -/
mutual
def uptoBulk {H : Type} : DataW H → Nat
  | .lit (.string bytes) => bytes.length + 1
  | .lit _ => 1
  | .nil => 1
  | .ptr d => uptoBulk d + 1
  | .slice elems spare => uptoBulkAll elems + uptoBulkAll spare + 1
  | .agg parts => uptoBulkAll parts + 1
  | .iface _ d => uptoBulk d + 1
  | .map entries => uptoBulkEntries entries + 1
  | .held _ => 1
def uptoBulkAll {H : Type} : List (DataW H) → Nat
  | [] => 0
  | d :: r => uptoBulk d + uptoBulkAll r
def uptoBulkEntries {H : Type} : List (Lit × DataW H) → Nat
  | [] => 0
  | x :: r => uptoBulkEntry x + uptoBulkEntries r
def uptoBulkEntry {H : Type} : Lit × DataW H → Nat
  | (.string bytes, d) => bytes.length + uptoBulk d + 1
  | (_, d) => uptoBulk d + 1
 end
def uptoSmall : (H : Type) → List (DataW H) → Bool := fun _ ds => decide (uptoBulkAll ds ≤ 1048576)
def OpenSpec.upto (s : _root_.Go.ChangeSpec) : _root_.Go.OpenSpec := { _root_.Go.OpenSpec.ofChange s with cond := some uptoSmall }

/-- 'drydocklaw03.DisksLast', WHERE WHAT IT READS IS OF BULK AT MOST 1048576: true; the input reads as it did. -/
def disksLastUptoRow : OpenClaim := { program := "ytechmboimpbjpaa", sum := "6c0ae7ec78c220ab5e7c99956e7f26963f354948b2f11f6e9c0d6bb7ac7ecab0", func := "drydock/drydocklaw03.DisksLast", spec := "disksLast", apart := false, narrowed := true }
def DisksLastUptoSaid : Prop := disksLastUptoRow.holds Try.pinned (OpenSpec.upto disksLastSpec)

/-- 'drydocklaw03.DisksTorn', WHERE WHAT IT READS IS OF BULK AT MOST 1048576: true; the input reads as it did. -/
def disksTornUptoRow : OpenClaim := { program := "ytechmboimpbjpaa", sum := "6c0ae7ec78c220ab5e7c99956e7f26963f354948b2f11f6e9c0d6bb7ac7ecab0", func := "drydock/drydocklaw03.DisksTorn", spec := "disksTorn", apart := false, narrowed := true }
def DisksTornUptoSaid : Prop := disksTornUptoRow.holds Try.pinned (OpenSpec.upto disksTornSpec)

/-- 'drydocklaw03.DisksNone', WHERE WHAT IT READS IS OF BULK AT MOST 1048576: true; the input reads as it did. -/
def disksNoneUptoRow : OpenClaim := { program := "ytechmboimpbjpaa", sum := "6c0ae7ec78c220ab5e7c99956e7f26963f354948b2f11f6e9c0d6bb7ac7ecab0", func := "drydock/drydocklaw03.DisksNone", spec := "disksNone", apart := false, narrowed := true }
def DisksNoneUptoSaid : Prop := disksNoneUptoRow.holds Try.pinned (OpenSpec.upto disksNoneSpec)

/-- 'drydocklaw03.DisksBad', WHERE WHAT IT READS IS OF BULK AT MOST 1048576: true; the input reads as it did. -/
def disksBadUptoRow : OpenClaim := { program := "ytechmboimpbjpaa", sum := "6c0ae7ec78c220ab5e7c99956e7f26963f354948b2f11f6e9c0d6bb7ac7ecab0", func := "drydock/drydocklaw03.DisksBad", spec := "disksBad", apart := false, narrowed := true }
def DisksBadUptoSaid : Prop := disksBadUptoRow.holds Try.pinned (OpenSpec.upto disksBadSpec)

/-- 'drydocklaw03.DisksWrite', WHERE WHAT IT READS IS OF BULK AT MOST 1048576: true; the input reads as it did. -/
def disksWriteUptoRow : OpenClaim := { program := "ytechmboimpbjpaa", sum := "6c0ae7ec78c220ab5e7c99956e7f26963f354948b2f11f6e9c0d6bb7ac7ecab0", func := "drydock/drydocklaw03.DisksWrite", spec := "disksWrite", apart := false, narrowed := true }
def DisksWriteUptoSaid : Prop := disksWriteUptoRow.holds Try.pinned (OpenSpec.upto disksWriteSpec)

/-- 'drydocklaw03.DisksSure', WHERE WHAT IT READS IS OF BULK AT MOST 1048576: true; the input reads as it did. -/
def disksSureUptoRow : OpenClaim := { program := "ytechmboimpbjpaa", sum := "6c0ae7ec78c220ab5e7c99956e7f26963f354948b2f11f6e9c0d6bb7ac7ecab0", func := "drydock/drydocklaw03.DisksSure", spec := "disksSure", apart := false, narrowed := true }
def DisksSureUptoSaid : Prop := disksSureUptoRow.holds Try.pinned (OpenSpec.upto disksSureSpec)

/-- 'drydocklaw03.DisksAll', WHERE WHAT IT READS IS OF BULK AT MOST 1048576: true; the input reads as it did. -/
def disksAllUptoRow : OpenClaim := { program := "ytechmboimpbjpaa", sum := "6c0ae7ec78c220ab5e7c99956e7f26963f354948b2f11f6e9c0d6bb7ac7ecab0", func := "drydock/drydocklaw03.DisksAll", spec := "disksAll", apart := false, narrowed := true }
def DisksAllUptoSaid : Prop := disksAllUptoRow.holds Try.pinned (OpenSpec.upto disksAllSpec)

/-- 'drydocklaw03.DisksRot', WHERE WHAT IT READS IS OF BULK AT MOST 1048576: true; the input reads as it did. -/
def disksRotUptoRow : OpenClaim := { program := "ytechmboimpbjpaa", sum := "6c0ae7ec78c220ab5e7c99956e7f26963f354948b2f11f6e9c0d6bb7ac7ecab0", func := "drydock/drydocklaw03.DisksRot", spec := "disksRot", apart := false, narrowed := true }
def DisksRotUptoSaid : Prop := disksRotUptoRow.holds Try.pinned (OpenSpec.upto disksRotSpec)

/-- 'drydocklaw03.DisksApart', WHERE WHAT IT READS IS OF BULK AT MOST 1048576: true; the input reads as it did. -/
def disksApartUptoRow : OpenClaim := { program := "ytechmboimpbjpaa", sum := "6c0ae7ec78c220ab5e7c99956e7f26963f354948b2f11f6e9c0d6bb7ac7ecab0", func := "drydock/drydocklaw03.DisksApart", spec := "disksApart", apart := false, narrowed := true }
def DisksApartUptoSaid : Prop := disksApartUptoRow.holds Try.pinned (OpenSpec.upto disksApartSpec)

end Rows
end Go.Proofs.Ytechmboimpbjpaa
