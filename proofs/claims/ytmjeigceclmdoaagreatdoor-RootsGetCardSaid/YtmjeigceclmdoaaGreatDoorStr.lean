/-
  Bytes as a text.
-/
import Derived.Test.YtmjeigceclmdoaaGreatDoorNums
import Derived.Lib.SlBytesConst
namespace Go.Proofs.YtmjeigceclmdoaaGreatDoor
open Go Go.RowKit

/-- bytes as a text -/
def str (xs : List Nat) : ByteArray := strOfNums (xs.map fun (x : Nat) => (x : Int))
theorem conv_str (w : World) (a : Option Addr) (n c : Nat) (xs : List Nat) (hn : xs.length = n) (hr : Rd w a (nums .u8 xs)) :
    (convert 22 9 (.slice a n c)).run Tryz.prog w = .ok (.string (str xs)) w := by
  by_cases h0 : 0 < n
  · obtain ⟨g, o, rfl, _⟩ := hr.num (i := 0) (by omega)
    refine run_convert_bytes_arg w 22 5 Tryz.underlying22 Tryz.underlying5 g o n c _ (by rw [List.length_map]; exact hn) (fun i hi => ?_) 9 Tryz.underlying9
    obtain ⟨g', o', e', hcell⟩ := hr.num (i := i) (by omega)
    cases e'
    rw [hcell]
    congr 2
    rw [List.getD_eq_getElem?_getD, List.getD_eq_getElem?_getD, List.getElem?_map, List.getElem?_eq_getElem (show i < xs.length by omega)]; rfl
  · obtain rfl : n = 0 := by omega
    have hx : xs = [] := List.length_eq_zero_iff.1 hn
    subst hx
    cases a with
    | none => exact run_convert_bytes_nil w 22 5 Tryz.underlying22 Tryz.underlying5 0 c 9 Tryz.underlying9
    | some ad =>
      have hl : (loadCells ad 0).run Tryz.prog w = .ok #[] w := by rfl
      rw [run_convert_bytes_string w 22 9 5 _ 0 c Tryz.underlying22 Tryz.underlying5 Tryz.underlying9, run_bytesToString w _ 0 c [] (by simpa using hl)]
      rfl
end Go.Proofs.YtmjeigceclmdoaaGreatDoor
