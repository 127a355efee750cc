/-
  Package drydocklaw01 by its own text: a book's lists of which there are none.
  Package drydocklaw01 by its own text: Book.Apart.
  What the laws with a book share: parts read, parts told to the book, the end.
  Package disks by its own text: Read, what is read as a part; a disk as a part beside others; what a book's laws make of both disks.
-/
import Derived.Test.YtpmkegbgbldpnaaGreatDoorK06
import Derived.Test.YtpmkegbgbldpnaaGreatDoorK08
import Derived.Test.YtpmkegbgbldpnaaGreatDoorK09
import Derived.Test.YtpmkegbgbldpnaaGreatDoorK10
import Derived.Test.YtpmkegbgbldpnaaGreatDoorK05
namespace Go.Proofs.YtpmkegbgbldpnaaGreatDoor
open Go Go.RowKit
set_option linter.unusedSimpArgs false
set_option maxRecDepth 100000 in
theorem fillInt_nil (w : World) (g : Nat) (h : w.cell? ⟨g, 2, none⟩ = some (.slice none 0 0)) : Calls Tryz.prog 99 #[.pointer (some ⟨g, 0, none⟩)] w fun e w' => e = .returned (.tuple #[]) ∧ w = w' := by
  have H := Lib.hid h
  clear h
  go_enter Tryz.func99, Tryz.ntmps99
  go_wp2
  go_loopg [2] 0 (fun gk s wr => gk = 0 ∧ s = .int .i64 0 ∧ Hid (wr = w))
  case atStart => exact ⟨rfl, rfl, rfl⟩
  case round =>
    obtain ⟨rfl, rfl, hw⟩ := hrel
    have c := H.out
    rw [← hw.out] at c
    go_wp2
    go_end0
    exact ⟨rfl, hw.out.symm⟩
set_option maxRecDepth 100000 in
theorem growInt_nil (w : World) (g : Nat) (h : w.cell? ⟨g, 2, none⟩ = some (.slice none 0 0)) : Calls Tryz.prog 114 #[.pointer (some ⟨g, 0, none⟩)] w fun e w' => e = .returned (.tuple #[]) ∧ w = w' := by
  have H := Lib.hid h
  clear h
  go_enter Tryz.func114, Tryz.ntmps114
  go_wp2
  go_loopg [2] 0 (fun gk s wr => gk = 0 ∧ s = .int .i64 0 ∧ Hid (wr = w))
  case atStart => exact ⟨rfl, rfl, rfl⟩
  case round =>
    obtain ⟨rfl, rfl, hw⟩ := hrel
    have c := H.out
    rw [← hw.out] at c
    go_wp2
    go_end0
    exact ⟨rfl, hw.out.symm⟩
set_option maxRecDepth 100000 in
theorem lookInt_nil (w : World) (g : Nat) (h : w.cell? ⟨g, 2, none⟩ = some (.slice none 0 0)) : Calls Tryz.prog 129 #[.pointer (some ⟨g, 0, none⟩)] w fun e w' => e = .returned (.bool true) ∧ w = w' := by
  have H := Lib.hid h
  clear h
  go_enter Tryz.func129, Tryz.ntmps129
  go_wp2
  go_loopg [3] 0 (fun gk s wr => gk = 0 ∧ s = .int .i64 0 ∧ Hid (wr = w))
  case atStart => exact ⟨rfl, rfl, rfl⟩
  case round =>
    obtain ⟨rfl, rfl, hw⟩ := hrel
    have c := H.out
    rw [← hw.out] at c
    go_wp2
    go_ret
    exact ⟨rfl, hw.out.symm⟩
set_option maxRecDepth 100000 in
theorem fillText_nil (w : World) (g : Nat) (h : w.cell? ⟨g, 5, none⟩ = some (.slice none 0 0)) : Calls Tryz.prog 102 #[.pointer (some ⟨g, 0, none⟩)] w fun e w' => e = .returned (.tuple #[]) ∧ w = w' := by
  have H := Lib.hid h
  clear h
  go_enter Tryz.func102, Tryz.ntmps102
  go_wp2
  go_loopg [2] 0 (fun gk s wr => gk = 0 ∧ s = .int .i64 0 ∧ Hid (wr = w))
  case atStart => exact ⟨rfl, rfl, rfl⟩
  case round =>
    obtain ⟨rfl, rfl, hw⟩ := hrel
    have c := H.out
    rw [← hw.out] at c
    go_wp2
    go_end0
    exact ⟨rfl, hw.out.symm⟩
set_option maxRecDepth 100000 in
theorem growText_nil (w : World) (g : Nat) (h : w.cell? ⟨g, 5, none⟩ = some (.slice none 0 0)) : Calls Tryz.prog 117 #[.pointer (some ⟨g, 0, none⟩)] w fun e w' => e = .returned (.tuple #[]) ∧ w = w' := by
  have H := Lib.hid h
  clear h
  go_enter Tryz.func117, Tryz.ntmps117
  go_wp2
  go_loopg [2] 0 (fun gk s wr => gk = 0 ∧ s = .int .i64 0 ∧ Hid (wr = w))
  case atStart => exact ⟨rfl, rfl, rfl⟩
  case round =>
    obtain ⟨rfl, rfl, hw⟩ := hrel
    have c := H.out
    rw [← hw.out] at c
    go_wp2
    go_end0
    exact ⟨rfl, hw.out.symm⟩
set_option maxRecDepth 100000 in
theorem lookText_nil (w : World) (g : Nat) (h : w.cell? ⟨g, 5, none⟩ = some (.slice none 0 0)) : Calls Tryz.prog 132 #[.pointer (some ⟨g, 0, none⟩)] w fun e w' => e = .returned (.bool true) ∧ w = w' := by
  have H := Lib.hid h
  clear h
  go_enter Tryz.func132, Tryz.ntmps132
  go_wp2
  go_loopg [3] 0 (fun gk s wr => gk = 0 ∧ s = .int .i64 0 ∧ Hid (wr = w))
  case atStart => exact ⟨rfl, rfl, rfl⟩
  case round =>
    obtain ⟨rfl, rfl, hw⟩ := hrel
    have c := H.out
    rw [← hw.out] at c
    go_wp2
    go_ret
    exact ⟨rfl, hw.out.symm⟩
set_option maxRecDepth 100000 in
theorem fillTensor_nil (w : World) (g : Nat) (h : w.cell? ⟨g, 6, none⟩ = some (.slice none 0 0)) : Calls Tryz.prog 103 #[.pointer (some ⟨g, 0, none⟩)] w fun e w' => e = .returned (.tuple #[]) ∧ w = w' := by
  have H := Lib.hid h
  clear h
  go_enter Tryz.func103, Tryz.ntmps103
  go_wp2
  go_loopg [2] 0 (fun gk s wr => gk = 0 ∧ s = .int .i64 0 ∧ Hid (wr = w))
  case atStart => exact ⟨rfl, rfl, rfl⟩
  case round =>
    obtain ⟨rfl, rfl, hw⟩ := hrel
    have c := H.out
    rw [← hw.out] at c
    go_wp2
    go_end0
    exact ⟨rfl, hw.out.symm⟩
set_option maxRecDepth 100000 in
theorem growTensor_nil (w : World) (g : Nat) (h : w.cell? ⟨g, 6, none⟩ = some (.slice none 0 0)) : Calls Tryz.prog 118 #[.pointer (some ⟨g, 0, none⟩)] w fun e w' => e = .returned (.tuple #[]) ∧ w = w' := by
  have H := Lib.hid h
  clear h
  go_enter Tryz.func118, Tryz.ntmps118
  go_wp2
  go_loopg [2] 0 (fun gk s wr => gk = 0 ∧ s = .int .i64 0 ∧ Hid (wr = w))
  case atStart => exact ⟨rfl, rfl, rfl⟩
  case round =>
    obtain ⟨rfl, rfl, hw⟩ := hrel
    have c := H.out
    rw [← hw.out] at c
    go_wp2
    go_end0
    exact ⟨rfl, hw.out.symm⟩
set_option maxRecDepth 100000 in
theorem lookTensor_nil (w : World) (g : Nat) (h : w.cell? ⟨g, 6, none⟩ = some (.slice none 0 0)) : Calls Tryz.prog 133 #[.pointer (some ⟨g, 0, none⟩)] w fun e w' => e = .returned (.bool true) ∧ w = w' := by
  have H := Lib.hid h
  clear h
  go_enter Tryz.func133, Tryz.ntmps133
  go_wp2
  go_loopg [3] 0 (fun gk s wr => gk = 0 ∧ s = .int .i64 0 ∧ Hid (wr = w))
  case atStart => exact ⟨rfl, rfl, rfl⟩
  case round =>
    obtain ⟨rfl, rfl, hw⟩ := hrel
    have c := H.out
    rw [← hw.out] at c
    go_wp2
    go_ret
    exact ⟨rfl, hw.out.symm⟩
set_option maxRecDepth 100000 in
theorem fillNode_nil (w : World) (g : Nat) (h : w.cell? ⟨g, 7, none⟩ = some (.slice none 0 0)) : Calls Tryz.prog 104 #[.pointer (some ⟨g, 0, none⟩)] w fun e w' => e = .returned (.tuple #[]) ∧ w = w' := by
  have H := Lib.hid h
  clear h
  go_enter Tryz.func104, Tryz.ntmps104
  go_wp2
  go_loopg [2] 0 (fun gk s wr => gk = 0 ∧ s = .int .i64 0 ∧ Hid (wr = w))
  case atStart => exact ⟨rfl, rfl, rfl⟩
  case round =>
    obtain ⟨rfl, rfl, hw⟩ := hrel
    have c := H.out
    rw [← hw.out] at c
    go_wp2
    go_end0
    exact ⟨rfl, hw.out.symm⟩
set_option maxRecDepth 100000 in
theorem growNode_nil (w : World) (g : Nat) (h : w.cell? ⟨g, 7, none⟩ = some (.slice none 0 0)) : Calls Tryz.prog 119 #[.pointer (some ⟨g, 0, none⟩)] w fun e w' => e = .returned (.tuple #[]) ∧ w = w' := by
  have H := Lib.hid h
  clear h
  go_enter Tryz.func119, Tryz.ntmps119
  go_wp2
  go_loopg [2] 0 (fun gk s wr => gk = 0 ∧ s = .int .i64 0 ∧ Hid (wr = w))
  case atStart => exact ⟨rfl, rfl, rfl⟩
  case round =>
    obtain ⟨rfl, rfl, hw⟩ := hrel
    have c := H.out
    rw [← hw.out] at c
    go_wp2
    go_end0
    exact ⟨rfl, hw.out.symm⟩
set_option maxRecDepth 100000 in
theorem lookNode_nil (w : World) (g : Nat) (h : w.cell? ⟨g, 7, none⟩ = some (.slice none 0 0)) : Calls Tryz.prog 134 #[.pointer (some ⟨g, 0, none⟩)] w fun e w' => e = .returned (.bool true) ∧ w = w' := by
  have H := Lib.hid h
  clear h
  go_enter Tryz.func134, Tryz.ntmps134
  go_wp2
  go_loopg [3] 0 (fun gk s wr => gk = 0 ∧ s = .int .i64 0 ∧ Hid (wr = w))
  case atStart => exact ⟨rfl, rfl, rfl⟩
  case round =>
    obtain ⟨rfl, rfl, hw⟩ := hrel
    have c := H.out
    rw [← hw.out] at c
    go_wp2
    go_ret
    exact ⟨rfl, hw.out.symm⟩
set_option maxRecDepth 100000 in
theorem fillStep_nil (w : World) (g : Nat) (h : w.cell? ⟨g, 8, none⟩ = some (.slice none 0 0)) : Calls Tryz.prog 105 #[.pointer (some ⟨g, 0, none⟩)] w fun e w' => e = .returned (.tuple #[]) ∧ w = w' := by
  have H := Lib.hid h
  clear h
  go_enter Tryz.func105, Tryz.ntmps105
  go_wp2
  go_loopg [2] 0 (fun gk s wr => gk = 0 ∧ s = .int .i64 0 ∧ Hid (wr = w))
  case atStart => exact ⟨rfl, rfl, rfl⟩
  case round =>
    obtain ⟨rfl, rfl, hw⟩ := hrel
    have c := H.out
    rw [← hw.out] at c
    go_wp2
    go_end0
    exact ⟨rfl, hw.out.symm⟩
set_option maxRecDepth 100000 in
theorem growStep_nil (w : World) (g : Nat) (h : w.cell? ⟨g, 8, none⟩ = some (.slice none 0 0)) : Calls Tryz.prog 120 #[.pointer (some ⟨g, 0, none⟩)] w fun e w' => e = .returned (.tuple #[]) ∧ w = w' := by
  have H := Lib.hid h
  clear h
  go_enter Tryz.func120, Tryz.ntmps120
  go_wp2
  go_loopg [2] 0 (fun gk s wr => gk = 0 ∧ s = .int .i64 0 ∧ Hid (wr = w))
  case atStart => exact ⟨rfl, rfl, rfl⟩
  case round =>
    obtain ⟨rfl, rfl, hw⟩ := hrel
    have c := H.out
    rw [← hw.out] at c
    go_wp2
    go_end0
    exact ⟨rfl, hw.out.symm⟩
set_option maxRecDepth 100000 in
theorem lookStep_nil (w : World) (g : Nat) (h : w.cell? ⟨g, 8, none⟩ = some (.slice none 0 0)) : Calls Tryz.prog 135 #[.pointer (some ⟨g, 0, none⟩)] w fun e w' => e = .returned (.bool true) ∧ w = w' := by
  have H := Lib.hid h
  clear h
  go_enter Tryz.func135, Tryz.ntmps135
  go_wp2
  go_loopg [3] 0 (fun gk s wr => gk = 0 ∧ s = .int .i64 0 ∧ Hid (wr = w))
  case atStart => exact ⟨rfl, rfl, rfl⟩
  case round =>
    obtain ⟨rfl, rfl, hw⟩ := hrel
    have c := H.out
    rw [← hw.out] at c
    go_wp2
    go_ret
    exact ⟨rfl, hw.out.symm⟩
set_option maxRecDepth 100000 in
theorem fillCost_nil (w : World) (g : Nat) (h : w.cell? ⟨g, 9, none⟩ = some (.slice none 0 0)) : Calls Tryz.prog 106 #[.pointer (some ⟨g, 0, none⟩)] w fun e w' => e = .returned (.tuple #[]) ∧ w = w' := by
  have H := Lib.hid h
  clear h
  go_enter Tryz.func106, Tryz.ntmps106
  go_wp2
  go_loopg [2] 0 (fun gk s wr => gk = 0 ∧ s = .int .i64 0 ∧ Hid (wr = w))
  case atStart => exact ⟨rfl, rfl, rfl⟩
  case round =>
    obtain ⟨rfl, rfl, hw⟩ := hrel
    have c := H.out
    rw [← hw.out] at c
    go_wp2
    go_end0
    exact ⟨rfl, hw.out.symm⟩
set_option maxRecDepth 100000 in
theorem growCost_nil (w : World) (g : Nat) (h : w.cell? ⟨g, 9, none⟩ = some (.slice none 0 0)) : Calls Tryz.prog 121 #[.pointer (some ⟨g, 0, none⟩)] w fun e w' => e = .returned (.tuple #[]) ∧ w = w' := by
  have H := Lib.hid h
  clear h
  go_enter Tryz.func121, Tryz.ntmps121
  go_wp2
  go_loopg [2] 0 (fun gk s wr => gk = 0 ∧ s = .int .i64 0 ∧ Hid (wr = w))
  case atStart => exact ⟨rfl, rfl, rfl⟩
  case round =>
    obtain ⟨rfl, rfl, hw⟩ := hrel
    have c := H.out
    rw [← hw.out] at c
    go_wp2
    go_end0
    exact ⟨rfl, hw.out.symm⟩
set_option maxRecDepth 100000 in
theorem lookCost_nil (w : World) (g : Nat) (h : w.cell? ⟨g, 9, none⟩ = some (.slice none 0 0)) : Calls Tryz.prog 136 #[.pointer (some ⟨g, 0, none⟩)] w fun e w' => e = .returned (.bool true) ∧ w = w' := by
  have H := Lib.hid h
  clear h
  go_enter Tryz.func136, Tryz.ntmps136
  go_wp2
  go_loopg [3] 0 (fun gk s wr => gk = 0 ∧ s = .int .i64 0 ∧ Hid (wr = w))
  case atStart => exact ⟨rfl, rfl, rfl⟩
  case round =>
    obtain ⟨rfl, rfl, hw⟩ := hrel
    have c := H.out
    rw [← hw.out] at c
    go_wp2
    go_ret
    exact ⟨rfl, hw.out.symm⟩
set_option maxRecDepth 100000 in
theorem fillRecord_nil (w : World) (g : Nat) (h : w.cell? ⟨g, 10, none⟩ = some (.slice none 0 0)) : Calls Tryz.prog 107 #[.pointer (some ⟨g, 0, none⟩)] w fun e w' => e = .returned (.tuple #[]) ∧ w = w' := by
  have H := Lib.hid h
  clear h
  go_enter Tryz.func107, Tryz.ntmps107
  go_wp2
  go_loopg [2] 0 (fun gk s wr => gk = 0 ∧ s = .int .i64 0 ∧ Hid (wr = w))
  case atStart => exact ⟨rfl, rfl, rfl⟩
  case round =>
    obtain ⟨rfl, rfl, hw⟩ := hrel
    have c := H.out
    rw [← hw.out] at c
    go_wp2
    go_end0
    exact ⟨rfl, hw.out.symm⟩
set_option maxRecDepth 100000 in
theorem growRecord_nil (w : World) (g : Nat) (h : w.cell? ⟨g, 10, none⟩ = some (.slice none 0 0)) : Calls Tryz.prog 122 #[.pointer (some ⟨g, 0, none⟩)] w fun e w' => e = .returned (.tuple #[]) ∧ w = w' := by
  have H := Lib.hid h
  clear h
  go_enter Tryz.func122, Tryz.ntmps122
  go_wp2
  go_loopg [2] 0 (fun gk s wr => gk = 0 ∧ s = .int .i64 0 ∧ Hid (wr = w))
  case atStart => exact ⟨rfl, rfl, rfl⟩
  case round =>
    obtain ⟨rfl, rfl, hw⟩ := hrel
    have c := H.out
    rw [← hw.out] at c
    go_wp2
    go_end0
    exact ⟨rfl, hw.out.symm⟩
set_option maxRecDepth 100000 in
theorem lookRecord_nil (w : World) (g : Nat) (h : w.cell? ⟨g, 10, none⟩ = some (.slice none 0 0)) : Calls Tryz.prog 137 #[.pointer (some ⟨g, 0, none⟩)] w fun e w' => e = .returned (.bool true) ∧ w = w' := by
  have H := Lib.hid h
  clear h
  go_enter Tryz.func137, Tryz.ntmps137
  go_wp2
  go_loopg [3] 0 (fun gk s wr => gk = 0 ∧ s = .int .i64 0 ∧ Hid (wr = w))
  case atStart => exact ⟨rfl, rfl, rfl⟩
  case round =>
    obtain ⟨rfl, rfl, hw⟩ := hrel
    have c := H.out
    rw [← hw.out] at c
    go_wp2
    go_ret
    exact ⟨rfl, hw.out.symm⟩
set_option maxRecDepth 100000 in
theorem fillPlace_nil (w : World) (g : Nat) (h : w.cell? ⟨g, 11, none⟩ = some (.slice none 0 0)) : Calls Tryz.prog 108 #[.pointer (some ⟨g, 0, none⟩)] w fun e w' => e = .returned (.tuple #[]) ∧ w = w' := by
  have H := Lib.hid h
  clear h
  go_enter Tryz.func108, Tryz.ntmps108
  go_wp2
  go_loopg [2] 0 (fun gk s wr => gk = 0 ∧ s = .int .i64 0 ∧ Hid (wr = w))
  case atStart => exact ⟨rfl, rfl, rfl⟩
  case round =>
    obtain ⟨rfl, rfl, hw⟩ := hrel
    have c := H.out
    rw [← hw.out] at c
    go_wp2
    go_end0
    exact ⟨rfl, hw.out.symm⟩
set_option maxRecDepth 100000 in
theorem growPlace_nil (w : World) (g : Nat) (h : w.cell? ⟨g, 11, none⟩ = some (.slice none 0 0)) : Calls Tryz.prog 123 #[.pointer (some ⟨g, 0, none⟩)] w fun e w' => e = .returned (.tuple #[]) ∧ w = w' := by
  have H := Lib.hid h
  clear h
  go_enter Tryz.func123, Tryz.ntmps123
  go_wp2
  go_loopg [2] 0 (fun gk s wr => gk = 0 ∧ s = .int .i64 0 ∧ Hid (wr = w))
  case atStart => exact ⟨rfl, rfl, rfl⟩
  case round =>
    obtain ⟨rfl, rfl, hw⟩ := hrel
    have c := H.out
    rw [← hw.out] at c
    go_wp2
    go_end0
    exact ⟨rfl, hw.out.symm⟩
set_option maxRecDepth 100000 in
theorem lookPlace_nil (w : World) (g : Nat) (h : w.cell? ⟨g, 11, none⟩ = some (.slice none 0 0)) : Calls Tryz.prog 138 #[.pointer (some ⟨g, 0, none⟩)] w fun e w' => e = .returned (.bool true) ∧ w = w' := by
  have H := Lib.hid h
  clear h
  go_enter Tryz.func138, Tryz.ntmps138
  go_wp2
  go_loopg [3] 0 (fun gk s wr => gk = 0 ∧ s = .int .i64 0 ∧ Hid (wr = w))
  case atStart => exact ⟨rfl, rfl, rfl⟩
  case round =>
    obtain ⟨rfl, rfl, hw⟩ := hrel
    have c := H.out
    rw [← hw.out] at c
    go_wp2
    go_ret
    exact ⟨rfl, hw.out.symm⟩
set_option maxRecDepth 100000 in
theorem fillAsk_nil (w : World) (g : Nat) (h : w.cell? ⟨g, 12, none⟩ = some (.slice none 0 0)) : Calls Tryz.prog 109 #[.pointer (some ⟨g, 0, none⟩)] w fun e w' => e = .returned (.tuple #[]) ∧ w = w' := by
  have H := Lib.hid h
  clear h
  go_enter Tryz.func109, Tryz.ntmps109
  go_wp2
  go_loopg [2] 0 (fun gk s wr => gk = 0 ∧ s = .int .i64 0 ∧ Hid (wr = w))
  case atStart => exact ⟨rfl, rfl, rfl⟩
  case round =>
    obtain ⟨rfl, rfl, hw⟩ := hrel
    have c := H.out
    rw [← hw.out] at c
    go_wp2
    go_end0
    exact ⟨rfl, hw.out.symm⟩
set_option maxRecDepth 100000 in
theorem growAsk_nil (w : World) (g : Nat) (h : w.cell? ⟨g, 12, none⟩ = some (.slice none 0 0)) : Calls Tryz.prog 124 #[.pointer (some ⟨g, 0, none⟩)] w fun e w' => e = .returned (.tuple #[]) ∧ w = w' := by
  have H := Lib.hid h
  clear h
  go_enter Tryz.func124, Tryz.ntmps124
  go_wp2
  go_loopg [2] 0 (fun gk s wr => gk = 0 ∧ s = .int .i64 0 ∧ Hid (wr = w))
  case atStart => exact ⟨rfl, rfl, rfl⟩
  case round =>
    obtain ⟨rfl, rfl, hw⟩ := hrel
    have c := H.out
    rw [← hw.out] at c
    go_wp2
    go_end0
    exact ⟨rfl, hw.out.symm⟩
set_option maxRecDepth 100000 in
theorem lookAsk_nil (w : World) (g : Nat) (h : w.cell? ⟨g, 12, none⟩ = some (.slice none 0 0)) : Calls Tryz.prog 139 #[.pointer (some ⟨g, 0, none⟩)] w fun e w' => e = .returned (.bool true) ∧ w = w' := by
  have H := Lib.hid h
  clear h
  go_enter Tryz.func139, Tryz.ntmps139
  go_wp2
  go_loopg [3] 0 (fun gk s wr => gk = 0 ∧ s = .int .i64 0 ∧ Hid (wr = w))
  case atStart => exact ⟨rfl, rfl, rfl⟩
  case round =>
    obtain ⟨rfl, rfl, hw⟩ := hrel
    have c := H.out
    rw [← hw.out] at c
    go_wp2
    go_ret
    exact ⟨rfl, hw.out.symm⟩
set_option maxRecDepth 100000 in
theorem fillDone_nil (w : World) (g : Nat) (h : w.cell? ⟨g, 13, none⟩ = some (.slice none 0 0)) : Calls Tryz.prog 110 #[.pointer (some ⟨g, 0, none⟩)] w fun e w' => e = .returned (.tuple #[]) ∧ w = w' := by
  have H := Lib.hid h
  clear h
  go_enter Tryz.func110, Tryz.ntmps110
  go_wp2
  go_loopg [2] 0 (fun gk s wr => gk = 0 ∧ s = .int .i64 0 ∧ Hid (wr = w))
  case atStart => exact ⟨rfl, rfl, rfl⟩
  case round =>
    obtain ⟨rfl, rfl, hw⟩ := hrel
    have c := H.out
    rw [← hw.out] at c
    go_wp2
    go_end0
    exact ⟨rfl, hw.out.symm⟩
set_option maxRecDepth 100000 in
theorem growDone_nil (w : World) (g : Nat) (h : w.cell? ⟨g, 13, none⟩ = some (.slice none 0 0)) : Calls Tryz.prog 125 #[.pointer (some ⟨g, 0, none⟩)] w fun e w' => e = .returned (.tuple #[]) ∧ w = w' := by
  have H := Lib.hid h
  clear h
  go_enter Tryz.func125, Tryz.ntmps125
  go_wp2
  go_loopg [2] 0 (fun gk s wr => gk = 0 ∧ s = .int .i64 0 ∧ Hid (wr = w))
  case atStart => exact ⟨rfl, rfl, rfl⟩
  case round =>
    obtain ⟨rfl, rfl, hw⟩ := hrel
    have c := H.out
    rw [← hw.out] at c
    go_wp2
    go_end0
    exact ⟨rfl, hw.out.symm⟩
set_option maxRecDepth 100000 in
theorem lookDone_nil (w : World) (g : Nat) (h : w.cell? ⟨g, 13, none⟩ = some (.slice none 0 0)) : Calls Tryz.prog 140 #[.pointer (some ⟨g, 0, none⟩)] w fun e w' => e = .returned (.bool true) ∧ w = w' := by
  have H := Lib.hid h
  clear h
  go_enter Tryz.func140, Tryz.ntmps140
  go_wp2
  go_loopg [3] 0 (fun gk s wr => gk = 0 ∧ s = .int .i64 0 ∧ Hid (wr = w))
  case atStart => exact ⟨rfl, rfl, rfl⟩
  case round =>
    obtain ⟨rfl, rfl, hw⟩ := hrel
    have c := H.out
    rw [← hw.out] at c
    go_wp2
    go_ret
    exact ⟨rfl, hw.out.symm⟩
set_option maxRecDepth 100000 in
theorem fillGrid_nil (w : World) (g : Nat) (h : w.cell? ⟨g, 14, none⟩ = some (.slice none 0 0)) : Calls Tryz.prog 111 #[.pointer (some ⟨g, 0, none⟩)] w fun e w' => e = .returned (.tuple #[]) ∧ w = w' := by
  have H := Lib.hid h
  clear h
  go_enter Tryz.func111, Tryz.ntmps111
  go_wp2
  go_loopg [2] 0 (fun gk s wr => gk = 0 ∧ s = .int .i64 0 ∧ Hid (wr = w))
  case atStart => exact ⟨rfl, rfl, rfl⟩
  case round =>
    obtain ⟨rfl, rfl, hw⟩ := hrel
    have c := H.out
    rw [← hw.out] at c
    go_wp2
    go_end0
    exact ⟨rfl, hw.out.symm⟩
set_option maxRecDepth 100000 in
theorem growGrid_nil (w : World) (g : Nat) (h : w.cell? ⟨g, 14, none⟩ = some (.slice none 0 0)) : Calls Tryz.prog 126 #[.pointer (some ⟨g, 0, none⟩)] w fun e w' => e = .returned (.tuple #[]) ∧ w = w' := by
  have H := Lib.hid h
  clear h
  go_enter Tryz.func126, Tryz.ntmps126
  go_wp2
  go_loopg [2] 0 (fun gk s wr => gk = 0 ∧ s = .int .i64 0 ∧ Hid (wr = w))
  case atStart => exact ⟨rfl, rfl, rfl⟩
  case round =>
    obtain ⟨rfl, rfl, hw⟩ := hrel
    have c := H.out
    rw [← hw.out] at c
    go_wp2
    go_end0
    exact ⟨rfl, hw.out.symm⟩
set_option maxRecDepth 100000 in
theorem lookGrid_nil (w : World) (g : Nat) (h : w.cell? ⟨g, 14, none⟩ = some (.slice none 0 0)) : Calls Tryz.prog 141 #[.pointer (some ⟨g, 0, none⟩)] w fun e w' => e = .returned (.bool true) ∧ w = w' := by
  have H := Lib.hid h
  clear h
  go_enter Tryz.func141, Tryz.ntmps141
  go_wp2
  go_loopg [3] 0 (fun gk s wr => gk = 0 ∧ s = .int .i64 0 ∧ Hid (wr = w))
  case atStart => exact ⟨rfl, rfl, rfl⟩
  case round =>
    obtain ⟨rfl, rfl, hw⟩ := hrel
    have c := H.out
    rw [← hw.out] at c
    go_wp2
    go_ret
    exact ⟨rfl, hw.out.symm⟩
set_option maxRecDepth 100000 in
theorem fillList_nil (w : World) (g : Nat) (h : w.cell? ⟨g, 15, none⟩ = some (.slice none 0 0)) : Calls Tryz.prog 112 #[.pointer (some ⟨g, 0, none⟩)] w fun e w' => e = .returned (.tuple #[]) ∧ w = w' := by
  have H := Lib.hid h
  clear h
  go_enter Tryz.func112, Tryz.ntmps112
  go_wp2
  go_loopg [2] 0 (fun gk s wr => gk = 0 ∧ s = .int .i64 0 ∧ Hid (wr = w))
  case atStart => exact ⟨rfl, rfl, rfl⟩
  case round =>
    obtain ⟨rfl, rfl, hw⟩ := hrel
    have c := H.out
    rw [← hw.out] at c
    go_wp2
    go_end0
    exact ⟨rfl, hw.out.symm⟩
set_option maxRecDepth 100000 in
theorem growList_nil (w : World) (g : Nat) (h : w.cell? ⟨g, 15, none⟩ = some (.slice none 0 0)) : Calls Tryz.prog 127 #[.pointer (some ⟨g, 0, none⟩)] w fun e w' => e = .returned (.tuple #[]) ∧ w = w' := by
  have H := Lib.hid h
  clear h
  go_enter Tryz.func127, Tryz.ntmps127
  go_wp2
  go_loopg [2] 0 (fun gk s wr => gk = 0 ∧ s = .int .i64 0 ∧ Hid (wr = w))
  case atStart => exact ⟨rfl, rfl, rfl⟩
  case round =>
    obtain ⟨rfl, rfl, hw⟩ := hrel
    have c := H.out
    rw [← hw.out] at c
    go_wp2
    go_end0
    exact ⟨rfl, hw.out.symm⟩
set_option maxRecDepth 100000 in
theorem lookList_nil (w : World) (g : Nat) (h : w.cell? ⟨g, 15, none⟩ = some (.slice none 0 0)) : Calls Tryz.prog 142 #[.pointer (some ⟨g, 0, none⟩)] w fun e w' => e = .returned (.bool true) ∧ w = w' := by
  have H := Lib.hid h
  clear h
  go_enter Tryz.func142, Tryz.ntmps142
  go_wp2
  go_loopg [3] 0 (fun gk s wr => gk = 0 ∧ s = .int .i64 0 ∧ Hid (wr = w))
  case atStart => exact ⟨rfl, rfl, rfl⟩
  case round =>
    obtain ⟨rfl, rfl, hw⟩ := hrel
    have c := H.out
    rw [← hw.out] at c
    go_wp2
    go_ret
    exact ⟨rfl, hw.out.symm⟩
end Go.Proofs.YtpmkegbgbldpnaaGreatDoor
namespace Go.Proofs.YtpmkegbgbldpnaaGreatDoor
open Go Go.RowKit
set_option linter.unusedSimpArgs false
set_option linter.unusedVariables false

section
variable {α : Type} (r b n d : α) (X Y Z : List α)
theorem mid2 (T : List α) (x y : α) : (X ++ x :: y :: T).Perm (x :: y :: (X ++ T)) := List.perm_middle.trans (List.perm_middle.cons x)
theorem permB1 : ((r :: b :: X) ++ (n :: d :: (Y ++ Z))).Perm (r :: b :: n :: d :: (X ++ (Y ++ Z))) := ((mid2 X (Y ++ Z) n d).cons b).cons r
theorem permN1 : ((r :: n :: Y) ++ (b :: d :: (X ++ Z))).Perm (r :: b :: n :: d :: (X ++ (Y ++ Z))) :=
  ((((mid2 Y (X ++ Z) b d).trans (((List.perm_append_comm_assoc Y X Z).cons d).cons b)).cons n).trans (List.Perm.swap b n _)).cons r
theorem permD1 : ((r :: d :: Z) ++ (b :: n :: (X ++ Y))).Perm (r :: b :: n :: d :: (X ++ (Y ++ Z))) := by
  have h : (Z ++ (X ++ Y)).Perm (X ++ (Y ++ Z)) := by rw [← List.append_assoc X Y Z]; exact List.perm_append_comm
  exact ((((mid2 Z (X ++ Y) b n).trans ((h.cons n).cons b)).cons d).trans ((List.Perm.swap b d _).trans ((List.Perm.swap n d _).cons b))).cons r
end
theorem Calls.step {P : Program} {f : FuncId} {args : Array Value} {w w1 : World} {A : Nat → Prop} {l l' m : List Part} {v : Ending} (h : TurnsL w A (l ++ m) w1) (C : ∀ F, Al w1 l F → (∀ k, F k → k < w1.heap.size) → Calls P f args w1 fun e w' => e = v ∧ TurnsL w1 F l' w') :
    Calls P f args w1 fun e w' => e = v ∧ TurnsL w A (l' ++ m) w' := by
  obtain ⟨t, O, hO, hin⟩ := h
  obtain ⟨F, hF, hFO, hf⟩ := hO.frame
  exact (C _ hF.cut (fun k hk => hk.2)).mono fun e w' ⟨he, tt, O', h1, h2⟩ => ⟨he, TurnsL.comp t hin (hf w' l' ⟨tt.mono (fun k _ hk => hk.1), O', h1, fun k hk => (h2 k hk).imp (fun h => h.1) id⟩)⟩
theorem Calls.stepE {P : Program} {f : FuncId} {args : Array Value} {w w1 : World} {A : Nat → Prop} {l m : List Part} {l' : List Value → List Part} {q : Nat} {v : Ending} (h : TurnsL w A (l ++ m) w1) (C : ∀ F, Al w1 l F → Calls P f args w1 fun e w' => e = v ∧ ∃ ls : List Value, ls.length = q ∧ TurnsL w1 F (l' ls) w') :
    Calls P f args w1 fun e w' => e = v ∧ ∃ ls : List Value, ls.length = q ∧ TurnsL w A (l' ls ++ m) w' := by
  obtain ⟨t, O, hO, hin⟩ := h
  obtain ⟨F, hF, hFO, hf⟩ := hO.frame
  exact (C F hF).mono fun e w' ⟨he, ls, hl, ht⟩ => ⟨he, ls, hl, TurnsL.comp t hin (hf w' _ ht)⟩
theorem TurnsL.row {w w1 : World} {A : Nat → Prop} {g : Nat} {T : TypeId} {cs : List Value} {m : List Part} (h : TurnsL w A (Part.row g T cs :: m) w1) : Row w1 g T cs := by
  obtain ⟨_, O, ⟨R, _, hR, _⟩, _⟩ := h
  exact hR.1
theorem TurnsL.al {w w1 : World} {A : Nat → Prop} {l m : List Part} (h : TurnsL w A (l ++ m) w1) : ∃ O, Al w1 l O := by
  obtain ⟨_, O, hO, _⟩ := h
  obtain ⟨F, hF, _⟩ := hO.frame
  exact ⟨F, hF⟩
def BkOk (B : List HE) : Prop := B.length ≤ 100000 ∧ (∀ e ∈ B, e.k ≤ 1000000) ∧ ∀ e ∈ B, e.n ≤ 10000000
def BkOkB (B : List HE) : Prop := B.length ≤ 100000 ∧ (∀ e ∈ B, e.k ≤ 1000000) ∧ ∀ e ∈ B, e.n ≤ 140737488351232
set_option maxRecDepth 100000 in
set_option maxHeartbeats 16000000 in
theorem apart_any (w : World) (g n : Nat) (B N D : List HE) (A : Nat → Prop) (h : (Part.book g n B [] N D).P w A) (hB : BkOkB B) (hN : BkOk N) (hD : BkOk D) :
    Calls Tryz.prog 52 #[.pointer (some ⟨g, 0, none⟩)] w fun e w' => e = .returned (.bool true) ∧ Touch A w w' := by
  obtain ⟨⟨vB, vI, vN, vD, hI, ha⟩, hlt⟩ := h
  obtain rfl := hI rfl
  have HB := Lib.hid hB
  have HN := Lib.hid hN
  have HD := Lib.hid hD
  have hT0 : TurnsL w A (Part.row g 88 (bookCells n vB nilSl vN vD) :: Part.arr 253 vB B.length (heNew B) :: Part.arr 258 vN N.length (heNew N) :: Part.arr 251 vD D.length (heNew D) :: (B.map (Part.room 5) ++ (N.map (Part.room 21) ++ D.map (Part.room 24)))) w := by
    have h1 := ha.perm ((((List.Perm.swap _ _ _).cons _)).trans (List.Perm.swap _ _ _))
    exact TurnsL.same h1.tail
  have HT := Lib.hid (hT0.perm (permB1 _ _ _ _ _ _ _).symm)
  clear ha hI hlt hB hN hD hT0
  go_enter Tryz.func52, Tryz.ntmps52
  go_wp2_with fail
  refine (Calls.step HT.out (fun F hF hF2 => fillByte_any _ g n vB nilSl vN vD B F hF hF2 HB.out.1 HB.out.2.1)).mono ?_
  rintro e w1 ⟨rfl, hT⟩
  have HT := Lib.hid (hT.perm ((permB1 _ _ _ _ _ _ _).trans (permN1 _ _ _ _ _ _ _).symm))
  clear hT
  go_wp2_with fail
  refine (fillInt_nil _ g (HT.out.row.cell 2)).mono ?_
  rintro e w' ⟨rfl, rfl⟩
  go_wp2_with fail
  refine (Calls.step HT.out (fun F hF hF2 => fillNumber_any _ g n vB nilSl vN vD N F hF hF2 HN.out.1 HN.out.2.1)).mono ?_
  rintro e w2 ⟨rfl, hT⟩
  have HT := Lib.hid (hT.perm ((permN1 _ _ _ _ _ _ _).trans (permD1 _ _ _ _ _ _ _).symm))
  clear hT
  go_wp2_with fail
  refine (Calls.step HT.out (fun F hF hF2 => fillId_any _ g n vB nilSl vN vD D F hF hF2 HD.out.1 HD.out.2.1)).mono ?_
  rintro e w3 ⟨rfl, hT⟩
  have HT := Lib.hid (hT.perm ((permD1 _ _ _ _ _ _ _).trans (permB1 _ _ _ _ _ _ _).symm))
  clear hT
  go_wp2_with fail
  refine (fillText_nil _ g (HT.out.row.cell 5)).mono ?_
  rintro e w' ⟨rfl, rfl⟩
  go_wp2_with fail
  refine (fillTensor_nil _ g (HT.out.row.cell 6)).mono ?_
  rintro e w' ⟨rfl, rfl⟩
  go_wp2_with fail
  refine (fillNode_nil _ g (HT.out.row.cell 7)).mono ?_
  rintro e w' ⟨rfl, rfl⟩
  go_wp2_with fail
  refine (fillStep_nil _ g (HT.out.row.cell 8)).mono ?_
  rintro e w' ⟨rfl, rfl⟩
  go_wp2_with fail
  refine (fillCost_nil _ g (HT.out.row.cell 9)).mono ?_
  rintro e w' ⟨rfl, rfl⟩
  go_wp2_with fail
  refine (fillRecord_nil _ g (HT.out.row.cell 10)).mono ?_
  rintro e w' ⟨rfl, rfl⟩
  go_wp2_with fail
  refine (fillPlace_nil _ g (HT.out.row.cell 11)).mono ?_
  rintro e w' ⟨rfl, rfl⟩
  go_wp2_with fail
  refine (fillAsk_nil _ g (HT.out.row.cell 12)).mono ?_
  rintro e w' ⟨rfl, rfl⟩
  go_wp2_with fail
  refine (fillDone_nil _ g (HT.out.row.cell 13)).mono ?_
  rintro e w' ⟨rfl, rfl⟩
  go_wp2_with fail
  refine (fillGrid_nil _ g (HT.out.row.cell 14)).mono ?_
  rintro e w' ⟨rfl, rfl⟩
  go_wp2_with fail
  refine (fillList_nil _ g (HT.out.row.cell 15)).mono ?_
  rintro e w' ⟨rfl, rfl⟩
  go_wp2_with fail
  refine (Calls.stepE HT.out (fun F hF => growByte_any _ g n vB nilSl vN vD B F hF HB.out.1 HB.out.2.1 HB.out.2.2)).mono ?_
  rintro e w4 ⟨rfl, lB, hlB, hT⟩
  have HT := Lib.hid (hT.perm ((permB1 _ _ _ _ _ _ _).trans (permN1 _ _ _ _ _ _ _).symm))
  have HlB := Lib.hid hlB
  clear hT hlB
  go_wp2_with fail
  refine (growInt_nil _ g (HT.out.row.cell 2)).mono ?_
  rintro e w' ⟨rfl, rfl⟩
  go_wp2_with fail
  refine (Calls.stepE HT.out (fun F hF => growNumber_any _ g n vB nilSl vN vD N F hF HN.out.1 HN.out.2.1 HN.out.2.2)).mono ?_
  rintro e w5 ⟨rfl, lN, hlN, hT⟩
  have HT := Lib.hid (hT.perm ((permN1 _ _ _ _ _ _ _).trans (permD1 _ _ _ _ _ _ _).symm))
  have HlN := Lib.hid hlN
  clear hT hlN
  go_wp2_with fail
  refine (Calls.stepE HT.out (fun F hF => growId_any _ g n vB nilSl vN vD D F hF HD.out.1 HD.out.2.1 HD.out.2.2)).mono ?_
  rintro e w6 ⟨rfl, lD, hlD, hT⟩
  have HT := Lib.hid (hT.perm ((permD1 _ _ _ _ _ _ _).trans (permB1 _ _ _ _ _ _ _).symm))
  have HlD := Lib.hid hlD
  clear hT hlD
  go_wp2_with fail
  refine (growText_nil _ g (HT.out.row.cell 5)).mono ?_
  rintro e w' ⟨rfl, rfl⟩
  go_wp2_with fail
  refine (growTensor_nil _ g (HT.out.row.cell 6)).mono ?_
  rintro e w' ⟨rfl, rfl⟩
  go_wp2_with fail
  refine (growNode_nil _ g (HT.out.row.cell 7)).mono ?_
  rintro e w' ⟨rfl, rfl⟩
  go_wp2_with fail
  refine (growStep_nil _ g (HT.out.row.cell 8)).mono ?_
  rintro e w' ⟨rfl, rfl⟩
  go_wp2_with fail
  refine (growCost_nil _ g (HT.out.row.cell 9)).mono ?_
  rintro e w' ⟨rfl, rfl⟩
  go_wp2_with fail
  refine (growRecord_nil _ g (HT.out.row.cell 10)).mono ?_
  rintro e w' ⟨rfl, rfl⟩
  go_wp2_with fail
  refine (growPlace_nil _ g (HT.out.row.cell 11)).mono ?_
  rintro e w' ⟨rfl, rfl⟩
  go_wp2_with fail
  refine (growAsk_nil _ g (HT.out.row.cell 12)).mono ?_
  rintro e w' ⟨rfl, rfl⟩
  go_wp2_with fail
  refine (growDone_nil _ g (HT.out.row.cell 13)).mono ?_
  rintro e w' ⟨rfl, rfl⟩
  go_wp2_with fail
  refine (growGrid_nil _ g (HT.out.row.cell 14)).mono ?_
  rintro e w' ⟨rfl, rfl⟩
  go_wp2_with fail
  refine (growList_nil _ g (HT.out.row.cell 15)).mono ?_
  rintro e w' ⟨rfl, rfl⟩
  go_wp2_with fail
  obtain ⟨FB, hFB⟩ := HT.out.al
  refine (lookByte_any _ g n vB nilSl vN vD B lB FB HlB.out hFB HB.out.1 HB.out.2.1 HB.out.2.2).mono ?_
  rintro e w7 ⟨rfl, t7⟩
  have HT := Lib.hid ((HT.out.no t7).perm ((permB1 _ _ _ _ _ _ _).trans (permN1 _ _ _ _ _ _ _).symm))
  clear t7 hFB
  go_wp2_with fail
  refine (lookInt_nil _ g (HT.out.row.cell 2)).mono ?_
  rintro e w' ⟨rfl, rfl⟩
  go_wp2_with fail
  obtain ⟨FN, hFN⟩ := HT.out.al
  refine (lookNumber_any _ g n vB nilSl vN vD N lN FN HlN.out hFN HN.out.1 HN.out.2.1 HN.out.2.2).mono ?_
  rintro e w8 ⟨rfl, t8⟩
  have HT := Lib.hid ((HT.out.no t8).perm ((permN1 _ _ _ _ _ _ _).trans (permD1 _ _ _ _ _ _ _).symm))
  clear t8 hFN
  go_wp2_with fail
  obtain ⟨FD, hFD⟩ := HT.out.al
  refine (lookId_any _ g n vB nilSl vN vD D lD FD HlD.out hFD HD.out.1 HD.out.2.1 HD.out.2.2).mono ?_
  rintro e w9 ⟨rfl, t9⟩
  have HT := Lib.hid ((HT.out.no t9).perm ((permD1 _ _ _ _ _ _ _).trans (permB1 _ _ _ _ _ _ _).symm))
  clear t9 hFD
  go_wp2_with fail
  refine (lookText_nil _ g (HT.out.row.cell 5)).mono ?_
  rintro e w' ⟨rfl, rfl⟩
  go_wp2_with fail
  refine (lookTensor_nil _ g (HT.out.row.cell 6)).mono ?_
  rintro e w' ⟨rfl, rfl⟩
  go_wp2_with fail
  refine (lookNode_nil _ g (HT.out.row.cell 7)).mono ?_
  rintro e w' ⟨rfl, rfl⟩
  go_wp2_with fail
  refine (lookStep_nil _ g (HT.out.row.cell 8)).mono ?_
  rintro e w' ⟨rfl, rfl⟩
  go_wp2_with fail
  refine (lookCost_nil _ g (HT.out.row.cell 9)).mono ?_
  rintro e w' ⟨rfl, rfl⟩
  go_wp2_with fail
  refine (lookRecord_nil _ g (HT.out.row.cell 10)).mono ?_
  rintro e w' ⟨rfl, rfl⟩
  go_wp2_with fail
  refine (lookPlace_nil _ g (HT.out.row.cell 11)).mono ?_
  rintro e w' ⟨rfl, rfl⟩
  go_wp2_with fail
  refine (lookAsk_nil _ g (HT.out.row.cell 12)).mono ?_
  rintro e w' ⟨rfl, rfl⟩
  go_wp2_with fail
  refine (lookDone_nil _ g (HT.out.row.cell 13)).mono ?_
  rintro e w' ⟨rfl, rfl⟩
  go_wp2_with fail
  refine (lookGrid_nil _ g (HT.out.row.cell 14)).mono ?_
  rintro e w' ⟨rfl, rfl⟩
  go_wp2_with fail
  refine (lookList_nil _ g (HT.out.row.cell 15)).mono ?_
  rintro e w' ⟨rfl, rfl⟩
  go_wp2
  go_ret
  exact ⟨rfl, HT.out.1⟩
end Go.Proofs.YtpmkegbgbldpnaaGreatDoor
namespace Go.Proofs.YtpmkegbgbldpnaaGreatDoor
open Go Go.RowKit
set_option linter.unusedVariables false

theorem Sl.rd {w0 w : World} {l : List Part} (h : Sl w0 w l) {T : TypeId} {a : Option Addr} {n c : Nat} {vs : List Value} (hp : Part.sl T a n c vs ∈ l) : Rd w a vs := by
  obtain ⟨A, ha, _⟩ := h.mem hp
  exact sl_rd ha
theorem Sl.step {P : Program} {f : FuncId} {args : Array Value} {w0 w1 : World} {l l' m : List Part} {v : Ending} (h : Sl w0 w1 (l ++ m)) (C : ∀ F, Al w1 l F → Calls P f args w1 fun e w' => e = v ∧ TurnsL w1 F l' w') :
    Calls P f args w1 fun e w' => e = v ∧ Sl w0 w' (l' ++ m) := by
  obtain ⟨F, hF, _, hf⟩ := h.frame
  exact (C F hF).mono fun e w' ⟨he, ht⟩ => ⟨he, hf w' l' ht⟩
theorem Sl.numbers {w0 w : World} {g n : Nat} {B I N D : List HE} {a : Option Addr} {len cap : Nat} {vs : List Value} {m : List Part} (h : Sl w0 w (Part.book g n B I N D :: Part.sl 21 a len cap vs :: m)) (hm : N.length ≤ 100000) (hn : n ≤ 1000000) :
    Calls Tryz.prog 90 #[.pointer (some ⟨g, 0, none⟩), .slice a len cap] w fun e w' => e = .returned (.tuple #[]) ∧ Sl w0 w' (Part.book g (n + 1) B I (N ++ [⟨a, len, cap, n + 1⟩]) D :: m) :=
  Sl.step (l := [_, _]) h (fun F hF => book_numbers w g n B I N D a len cap vs F hF hm hn)
theorem Sl.ids {w0 w : World} {g n : Nat} {B I N D : List HE} {a : Option Addr} {len cap : Nat} {vs : List Value} {m : List Part} (h : Sl w0 w (Part.book g n B I N D :: Part.sl 24 a len cap vs :: m)) (hm : D.length ≤ 100000) (hn : n ≤ 1000000) :
    Calls Tryz.prog 51 #[.pointer (some ⟨g, 0, none⟩), .slice a len cap] w fun e w' => e = .returned (.tuple #[]) ∧ Sl w0 w' (Part.book g (n + 1) B I N (D ++ [⟨a, len, cap, n + 1⟩]) :: m) :=
  Sl.step (l := [_, _]) h (fun F hF => book_ids w g n B I N D a len cap vs F hF hm hn)
theorem Sl.apart {w0 w : World} {g n : Nat} {B N D : List HE} {m : List Part} (h : Sl w0 w (Part.book g n B [] N D :: m)) (hB : BkOkB B) (hN : BkOk N) (hD : BkOk D) :
    Calls Tryz.prog 52 #[.pointer (some ⟨g, 0, none⟩)] w fun e w' => e = .returned (.bool true) ∧ Touch No w0 w' := by
  have t := h.end
  obtain ⟨A, ha, hA⟩ := h.mem List.mem_cons_self
  exact (apart_any w g n B N D A ha hB hN hD).mono fun e w' ⟨he, ht⟩ => ⟨he, t.then ht (fun i hi hAi => absurd hi (Nat.not_lt.2 (hA i hAi).1))⟩
theorem born_own {w w' : World} {T : TypeId} {a : Option Addr} {n c : Nat} {vs : List Value} (t : Touch No w w') (h : Own w' w.heap.size T (.slice a n c) vs) : Born w (Part.sl T a n c vs) w' := by
  obtain ⟨a', c', e, hc, _⟩ := h.form
  cases e
  exact born_sl t (Nat.le_refl _) h hc (Nat.le_refl _)
end Go.Proofs.YtpmkegbgbldpnaaGreatDoor
namespace Go.Proofs.YtpmkegbgbldpnaaGreatDoor
open Go Go.RowKit
set_option linter.unusedSimpArgs false
set_option linter.unusedVariables false

/-- the program's disk, as a part -/
def Part.disk (d : Nat) (D : Dk.Disk) : Part where
  P w O := DiskAt w d D O ∧ ∀ k, O k → k < w.heap.size
  stable := fun {F w w' O} ⟨h1, h2⟩ t hF => ⟨h1.touch t (fun k _ hk => hF k hk), fun k hk => Nat.lt_of_lt_of_le (h2 k hk) t.size⟩
  lt := fun {w O} h => h.2
theorem born_disk {w w' : World} {d : Nat} {D : Dk.Disk} (h : Made w d D w') : Born w (Part.disk d D) w' := by
  obtain ⟨t, O, hO⟩ := h
  exact ⟨t, O, ⟨hO.on, hO.lt⟩, hO.ge⟩
theorem al_disk {w : World} {d : Nat} {D : Dk.Disk} {A : Nat → Prop} (h : Al w [Part.disk d D] A) : ∃ O, Dsk w d D 0 O ∧ ∀ k, O k → A k := by
  obtain ⟨O, _, ⟨h, hl⟩, _, _, h1, _⟩ := h
  exact ⟨O, ⟨h, hl, fun _ _ => Nat.zero_le _⟩, h1⟩
theorem disk_turn {w w' : World} {d : Nat} {D' : Dk.Disk} {O A : Nat → Prop} (hA : ∀ k, O k → A k) (h : After w d D' 0 O w') : TurnsL w A [Part.disk d D'] w' := by
  obtain ⟨t, O', hO, hin⟩ := h
  exact ⟨t.mono (fun k _ hk => hA k hk), O', ⟨O', fun _ => False, ⟨hO.on, hO.lt⟩, trivial, fun _ _ f => f, fun _ h => h, fun _ f => f.elim⟩, fun k hk => (hin k hk).imp (hA k) id⟩
section
variable {w : World} {d : Nat} {D : Dk.Disk} {A : Nat → Prop}
theorem diskWrite_al (h : Al w [Part.disk d D] A) (n : Int) (a : Option Addr) (l c : Nat) (b : List Nat) (hl : b.length = l) (hlt : ∀ x ∈ b, x < 256) (hr : Rd w a (nums .u8 b)) (hw : D.waits.length ≤ 1000000) :
    Calls Tryz.prog 12 #[.pointer (some ⟨d, 0, none⟩), .int .i64 n, .slice a l c] w fun e w' => e = .returned (.int .i64 (Dk.writeR D n b : Nat)) ∧ TurnsL w A [Part.disk d (Dk.writeA D n b)] w' := by
  obtain ⟨O, hO, hA⟩ := al_disk h
  by_cases hc : (0 ≤ n ∧ n < D.seen.length) ∧ b.length ≤ 64
  · rw [Dk.writeR, Dk.writeA, if_pos hc, if_pos hc]
    obtain ⟨m, rfl⟩ : ∃ m : Nat, n = (m : Nat) := ⟨n.toNat, by omega⟩
    exact (write_k w d D 0 O m a l c b (Nat.zero_le _) hO (by omega) hl (by omega) hlt hr hw).mono fun _ _ ⟨he, t⟩ => ⟨he, disk_turn hA t⟩
  · rw [Dk.writeR, Dk.writeA, if_neg hc, if_neg hc]
    exact (write_bad w d D O n a l c hO.on (by
      by_cases h1 : 0 ≤ n ∧ n < D.seen.length
      · exact Or.inr (by
          rcases Nat.lt_or_ge 64 l with h2 | h2
          · exact h2
          · exact absurd ⟨h1, by omega⟩ hc)
      · exact Or.inl h1)).mono fun _ _ ⟨he, e⟩ => ⟨he, e ▸ TurnsL.same h⟩
theorem diskSync_al (h : Al w [Part.disk d D] A) :
    Calls Tryz.prog 172 #[.pointer (some ⟨d, 0, none⟩)] w fun e w' => e = .returned (.int .i64 0) ∧ TurnsL w A [Part.disk d (Dk.sync D)] w' := by
  obtain ⟨O, hO, hA⟩ := al_disk h
  exact (sync_k w d D 0 O (Nat.zero_le _) hO).mono fun _ _ ⟨he, t⟩ => ⟨he, disk_turn hA t⟩
end
end Go.Proofs.YtpmkegbgbldpnaaGreatDoor
