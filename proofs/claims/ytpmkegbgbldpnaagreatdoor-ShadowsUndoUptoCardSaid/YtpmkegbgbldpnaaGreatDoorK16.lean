/-
  Package drydocklaw01 by its own text: a book's lists of which there are none.
-/
import Derived.Test.YtpmkegbgbldpnaaGreatDoorK10
namespace Go.Proofs.YtpmkegbgbldpnaaGreatDoor
open Go Go.RowKit
set_option linter.unusedSimpArgs false
set_option maxRecDepth 100000 in
theorem fillInt_nil (w : World) (g : Nat) (h : w.cell? ⟨g, 2, none⟩ = some (.slice none 0 0)) : Calls Tryz.prog 99 #[.pointer (some ⟨g, 0, none⟩)] w fun e w' => e = .returned (.tuple #[]) ∧ w = w' := by
  have H := Lib.hid h
  clear h
  go_enter Tryz.func99, Tryz.ntmps99
  go_wp2
  go_loopg [2] 0 (fun gk s wr => gk = 0 ∧ s = .int .i64 0 ∧ Hid (wr = w))
  case atStart => exact ⟨rfl, rfl, rfl⟩
  case round =>
    obtain ⟨rfl, rfl, hw⟩ := hrel
    have c := H.out
    rw [← hw.out] at c
    go_wp2
    go_end0
    exact ⟨rfl, hw.out.symm⟩
set_option maxRecDepth 100000 in
theorem growInt_nil (w : World) (g : Nat) (h : w.cell? ⟨g, 2, none⟩ = some (.slice none 0 0)) : Calls Tryz.prog 114 #[.pointer (some ⟨g, 0, none⟩)] w fun e w' => e = .returned (.tuple #[]) ∧ w = w' := by
  have H := Lib.hid h
  clear h
  go_enter Tryz.func114, Tryz.ntmps114
  go_wp2
  go_loopg [2] 0 (fun gk s wr => gk = 0 ∧ s = .int .i64 0 ∧ Hid (wr = w))
  case atStart => exact ⟨rfl, rfl, rfl⟩
  case round =>
    obtain ⟨rfl, rfl, hw⟩ := hrel
    have c := H.out
    rw [← hw.out] at c
    go_wp2
    go_end0
    exact ⟨rfl, hw.out.symm⟩
set_option maxRecDepth 100000 in
theorem lookInt_nil (w : World) (g : Nat) (h : w.cell? ⟨g, 2, none⟩ = some (.slice none 0 0)) : Calls Tryz.prog 129 #[.pointer (some ⟨g, 0, none⟩)] w fun e w' => e = .returned (.bool true) ∧ w = w' := by
  have H := Lib.hid h
  clear h
  go_enter Tryz.func129, Tryz.ntmps129
  go_wp2
  go_loopg [3] 0 (fun gk s wr => gk = 0 ∧ s = .int .i64 0 ∧ Hid (wr = w))
  case atStart => exact ⟨rfl, rfl, rfl⟩
  case round =>
    obtain ⟨rfl, rfl, hw⟩ := hrel
    have c := H.out
    rw [← hw.out] at c
    go_wp2
    go_ret
    exact ⟨rfl, hw.out.symm⟩
set_option maxRecDepth 100000 in
theorem fillText_nil (w : World) (g : Nat) (h : w.cell? ⟨g, 5, none⟩ = some (.slice none 0 0)) : Calls Tryz.prog 102 #[.pointer (some ⟨g, 0, none⟩)] w fun e w' => e = .returned (.tuple #[]) ∧ w = w' := by
  have H := Lib.hid h
  clear h
  go_enter Tryz.func102, Tryz.ntmps102
  go_wp2
  go_loopg [2] 0 (fun gk s wr => gk = 0 ∧ s = .int .i64 0 ∧ Hid (wr = w))
  case atStart => exact ⟨rfl, rfl, rfl⟩
  case round =>
    obtain ⟨rfl, rfl, hw⟩ := hrel
    have c := H.out
    rw [← hw.out] at c
    go_wp2
    go_end0
    exact ⟨rfl, hw.out.symm⟩
set_option maxRecDepth 100000 in
theorem growText_nil (w : World) (g : Nat) (h : w.cell? ⟨g, 5, none⟩ = some (.slice none 0 0)) : Calls Tryz.prog 117 #[.pointer (some ⟨g, 0, none⟩)] w fun e w' => e = .returned (.tuple #[]) ∧ w = w' := by
  have H := Lib.hid h
  clear h
  go_enter Tryz.func117, Tryz.ntmps117
  go_wp2
  go_loopg [2] 0 (fun gk s wr => gk = 0 ∧ s = .int .i64 0 ∧ Hid (wr = w))
  case atStart => exact ⟨rfl, rfl, rfl⟩
  case round =>
    obtain ⟨rfl, rfl, hw⟩ := hrel
    have c := H.out
    rw [← hw.out] at c
    go_wp2
    go_end0
    exact ⟨rfl, hw.out.symm⟩
set_option maxRecDepth 100000 in
theorem lookText_nil (w : World) (g : Nat) (h : w.cell? ⟨g, 5, none⟩ = some (.slice none 0 0)) : Calls Tryz.prog 132 #[.pointer (some ⟨g, 0, none⟩)] w fun e w' => e = .returned (.bool true) ∧ w = w' := by
  have H := Lib.hid h
  clear h
  go_enter Tryz.func132, Tryz.ntmps132
  go_wp2
  go_loopg [3] 0 (fun gk s wr => gk = 0 ∧ s = .int .i64 0 ∧ Hid (wr = w))
  case atStart => exact ⟨rfl, rfl, rfl⟩
  case round =>
    obtain ⟨rfl, rfl, hw⟩ := hrel
    have c := H.out
    rw [← hw.out] at c
    go_wp2
    go_ret
    exact ⟨rfl, hw.out.symm⟩
set_option maxRecDepth 100000 in
theorem fillTensor_nil (w : World) (g : Nat) (h : w.cell? ⟨g, 6, none⟩ = some (.slice none 0 0)) : Calls Tryz.prog 103 #[.pointer (some ⟨g, 0, none⟩)] w fun e w' => e = .returned (.tuple #[]) ∧ w = w' := by
  have H := Lib.hid h
  clear h
  go_enter Tryz.func103, Tryz.ntmps103
  go_wp2
  go_loopg [2] 0 (fun gk s wr => gk = 0 ∧ s = .int .i64 0 ∧ Hid (wr = w))
  case atStart => exact ⟨rfl, rfl, rfl⟩
  case round =>
    obtain ⟨rfl, rfl, hw⟩ := hrel
    have c := H.out
    rw [← hw.out] at c
    go_wp2
    go_end0
    exact ⟨rfl, hw.out.symm⟩
set_option maxRecDepth 100000 in
theorem growTensor_nil (w : World) (g : Nat) (h : w.cell? ⟨g, 6, none⟩ = some (.slice none 0 0)) : Calls Tryz.prog 118 #[.pointer (some ⟨g, 0, none⟩)] w fun e w' => e = .returned (.tuple #[]) ∧ w = w' := by
  have H := Lib.hid h
  clear h
  go_enter Tryz.func118, Tryz.ntmps118
  go_wp2
  go_loopg [2] 0 (fun gk s wr => gk = 0 ∧ s = .int .i64 0 ∧ Hid (wr = w))
  case atStart => exact ⟨rfl, rfl, rfl⟩
  case round =>
    obtain ⟨rfl, rfl, hw⟩ := hrel
    have c := H.out
    rw [← hw.out] at c
    go_wp2
    go_end0
    exact ⟨rfl, hw.out.symm⟩
set_option maxRecDepth 100000 in
theorem lookTensor_nil (w : World) (g : Nat) (h : w.cell? ⟨g, 6, none⟩ = some (.slice none 0 0)) : Calls Tryz.prog 133 #[.pointer (some ⟨g, 0, none⟩)] w fun e w' => e = .returned (.bool true) ∧ w = w' := by
  have H := Lib.hid h
  clear h
  go_enter Tryz.func133, Tryz.ntmps133
  go_wp2
  go_loopg [3] 0 (fun gk s wr => gk = 0 ∧ s = .int .i64 0 ∧ Hid (wr = w))
  case atStart => exact ⟨rfl, rfl, rfl⟩
  case round =>
    obtain ⟨rfl, rfl, hw⟩ := hrel
    have c := H.out
    rw [← hw.out] at c
    go_wp2
    go_ret
    exact ⟨rfl, hw.out.symm⟩
set_option maxRecDepth 100000 in
theorem fillNode_nil (w : World) (g : Nat) (h : w.cell? ⟨g, 7, none⟩ = some (.slice none 0 0)) : Calls Tryz.prog 104 #[.pointer (some ⟨g, 0, none⟩)] w fun e w' => e = .returned (.tuple #[]) ∧ w = w' := by
  have H := Lib.hid h
  clear h
  go_enter Tryz.func104, Tryz.ntmps104
  go_wp2
  go_loopg [2] 0 (fun gk s wr => gk = 0 ∧ s = .int .i64 0 ∧ Hid (wr = w))
  case atStart => exact ⟨rfl, rfl, rfl⟩
  case round =>
    obtain ⟨rfl, rfl, hw⟩ := hrel
    have c := H.out
    rw [← hw.out] at c
    go_wp2
    go_end0
    exact ⟨rfl, hw.out.symm⟩
set_option maxRecDepth 100000 in
theorem growNode_nil (w : World) (g : Nat) (h : w.cell? ⟨g, 7, none⟩ = some (.slice none 0 0)) : Calls Tryz.prog 119 #[.pointer (some ⟨g, 0, none⟩)] w fun e w' => e = .returned (.tuple #[]) ∧ w = w' := by
  have H := Lib.hid h
  clear h
  go_enter Tryz.func119, Tryz.ntmps119
  go_wp2
  go_loopg [2] 0 (fun gk s wr => gk = 0 ∧ s = .int .i64 0 ∧ Hid (wr = w))
  case atStart => exact ⟨rfl, rfl, rfl⟩
  case round =>
    obtain ⟨rfl, rfl, hw⟩ := hrel
    have c := H.out
    rw [← hw.out] at c
    go_wp2
    go_end0
    exact ⟨rfl, hw.out.symm⟩
set_option maxRecDepth 100000 in
theorem lookNode_nil (w : World) (g : Nat) (h : w.cell? ⟨g, 7, none⟩ = some (.slice none 0 0)) : Calls Tryz.prog 134 #[.pointer (some ⟨g, 0, none⟩)] w fun e w' => e = .returned (.bool true) ∧ w = w' := by
  have H := Lib.hid h
  clear h
  go_enter Tryz.func134, Tryz.ntmps134
  go_wp2
  go_loopg [3] 0 (fun gk s wr => gk = 0 ∧ s = .int .i64 0 ∧ Hid (wr = w))
  case atStart => exact ⟨rfl, rfl, rfl⟩
  case round =>
    obtain ⟨rfl, rfl, hw⟩ := hrel
    have c := H.out
    rw [← hw.out] at c
    go_wp2
    go_ret
    exact ⟨rfl, hw.out.symm⟩
set_option maxRecDepth 100000 in
theorem fillStep_nil (w : World) (g : Nat) (h : w.cell? ⟨g, 8, none⟩ = some (.slice none 0 0)) : Calls Tryz.prog 105 #[.pointer (some ⟨g, 0, none⟩)] w fun e w' => e = .returned (.tuple #[]) ∧ w = w' := by
  have H := Lib.hid h
  clear h
  go_enter Tryz.func105, Tryz.ntmps105
  go_wp2
  go_loopg [2] 0 (fun gk s wr => gk = 0 ∧ s = .int .i64 0 ∧ Hid (wr = w))
  case atStart => exact ⟨rfl, rfl, rfl⟩
  case round =>
    obtain ⟨rfl, rfl, hw⟩ := hrel
    have c := H.out
    rw [← hw.out] at c
    go_wp2
    go_end0
    exact ⟨rfl, hw.out.symm⟩
set_option maxRecDepth 100000 in
theorem growStep_nil (w : World) (g : Nat) (h : w.cell? ⟨g, 8, none⟩ = some (.slice none 0 0)) : Calls Tryz.prog 120 #[.pointer (some ⟨g, 0, none⟩)] w fun e w' => e = .returned (.tuple #[]) ∧ w = w' := by
  have H := Lib.hid h
  clear h
  go_enter Tryz.func120, Tryz.ntmps120
  go_wp2
  go_loopg [2] 0 (fun gk s wr => gk = 0 ∧ s = .int .i64 0 ∧ Hid (wr = w))
  case atStart => exact ⟨rfl, rfl, rfl⟩
  case round =>
    obtain ⟨rfl, rfl, hw⟩ := hrel
    have c := H.out
    rw [← hw.out] at c
    go_wp2
    go_end0
    exact ⟨rfl, hw.out.symm⟩
set_option maxRecDepth 100000 in
theorem lookStep_nil (w : World) (g : Nat) (h : w.cell? ⟨g, 8, none⟩ = some (.slice none 0 0)) : Calls Tryz.prog 135 #[.pointer (some ⟨g, 0, none⟩)] w fun e w' => e = .returned (.bool true) ∧ w = w' := by
  have H := Lib.hid h
  clear h
  go_enter Tryz.func135, Tryz.ntmps135
  go_wp2
  go_loopg [3] 0 (fun gk s wr => gk = 0 ∧ s = .int .i64 0 ∧ Hid (wr = w))
  case atStart => exact ⟨rfl, rfl, rfl⟩
  case round =>
    obtain ⟨rfl, rfl, hw⟩ := hrel
    have c := H.out
    rw [← hw.out] at c
    go_wp2
    go_ret
    exact ⟨rfl, hw.out.symm⟩
set_option maxRecDepth 100000 in
theorem fillCost_nil (w : World) (g : Nat) (h : w.cell? ⟨g, 9, none⟩ = some (.slice none 0 0)) : Calls Tryz.prog 106 #[.pointer (some ⟨g, 0, none⟩)] w fun e w' => e = .returned (.tuple #[]) ∧ w = w' := by
  have H := Lib.hid h
  clear h
  go_enter Tryz.func106, Tryz.ntmps106
  go_wp2
  go_loopg [2] 0 (fun gk s wr => gk = 0 ∧ s = .int .i64 0 ∧ Hid (wr = w))
  case atStart => exact ⟨rfl, rfl, rfl⟩
  case round =>
    obtain ⟨rfl, rfl, hw⟩ := hrel
    have c := H.out
    rw [← hw.out] at c
    go_wp2
    go_end0
    exact ⟨rfl, hw.out.symm⟩
set_option maxRecDepth 100000 in
theorem growCost_nil (w : World) (g : Nat) (h : w.cell? ⟨g, 9, none⟩ = some (.slice none 0 0)) : Calls Tryz.prog 121 #[.pointer (some ⟨g, 0, none⟩)] w fun e w' => e = .returned (.tuple #[]) ∧ w = w' := by
  have H := Lib.hid h
  clear h
  go_enter Tryz.func121, Tryz.ntmps121
  go_wp2
  go_loopg [2] 0 (fun gk s wr => gk = 0 ∧ s = .int .i64 0 ∧ Hid (wr = w))
  case atStart => exact ⟨rfl, rfl, rfl⟩
  case round =>
    obtain ⟨rfl, rfl, hw⟩ := hrel
    have c := H.out
    rw [← hw.out] at c
    go_wp2
    go_end0
    exact ⟨rfl, hw.out.symm⟩
set_option maxRecDepth 100000 in
theorem lookCost_nil (w : World) (g : Nat) (h : w.cell? ⟨g, 9, none⟩ = some (.slice none 0 0)) : Calls Tryz.prog 136 #[.pointer (some ⟨g, 0, none⟩)] w fun e w' => e = .returned (.bool true) ∧ w = w' := by
  have H := Lib.hid h
  clear h
  go_enter Tryz.func136, Tryz.ntmps136
  go_wp2
  go_loopg [3] 0 (fun gk s wr => gk = 0 ∧ s = .int .i64 0 ∧ Hid (wr = w))
  case atStart => exact ⟨rfl, rfl, rfl⟩
  case round =>
    obtain ⟨rfl, rfl, hw⟩ := hrel
    have c := H.out
    rw [← hw.out] at c
    go_wp2
    go_ret
    exact ⟨rfl, hw.out.symm⟩
set_option maxRecDepth 100000 in
theorem fillRecord_nil (w : World) (g : Nat) (h : w.cell? ⟨g, 10, none⟩ = some (.slice none 0 0)) : Calls Tryz.prog 107 #[.pointer (some ⟨g, 0, none⟩)] w fun e w' => e = .returned (.tuple #[]) ∧ w = w' := by
  have H := Lib.hid h
  clear h
  go_enter Tryz.func107, Tryz.ntmps107
  go_wp2
  go_loopg [2] 0 (fun gk s wr => gk = 0 ∧ s = .int .i64 0 ∧ Hid (wr = w))
  case atStart => exact ⟨rfl, rfl, rfl⟩
  case round =>
    obtain ⟨rfl, rfl, hw⟩ := hrel
    have c := H.out
    rw [← hw.out] at c
    go_wp2
    go_end0
    exact ⟨rfl, hw.out.symm⟩
set_option maxRecDepth 100000 in
theorem growRecord_nil (w : World) (g : Nat) (h : w.cell? ⟨g, 10, none⟩ = some (.slice none 0 0)) : Calls Tryz.prog 122 #[.pointer (some ⟨g, 0, none⟩)] w fun e w' => e = .returned (.tuple #[]) ∧ w = w' := by
  have H := Lib.hid h
  clear h
  go_enter Tryz.func122, Tryz.ntmps122
  go_wp2
  go_loopg [2] 0 (fun gk s wr => gk = 0 ∧ s = .int .i64 0 ∧ Hid (wr = w))
  case atStart => exact ⟨rfl, rfl, rfl⟩
  case round =>
    obtain ⟨rfl, rfl, hw⟩ := hrel
    have c := H.out
    rw [← hw.out] at c
    go_wp2
    go_end0
    exact ⟨rfl, hw.out.symm⟩
set_option maxRecDepth 100000 in
theorem lookRecord_nil (w : World) (g : Nat) (h : w.cell? ⟨g, 10, none⟩ = some (.slice none 0 0)) : Calls Tryz.prog 137 #[.pointer (some ⟨g, 0, none⟩)] w fun e w' => e = .returned (.bool true) ∧ w = w' := by
  have H := Lib.hid h
  clear h
  go_enter Tryz.func137, Tryz.ntmps137
  go_wp2
  go_loopg [3] 0 (fun gk s wr => gk = 0 ∧ s = .int .i64 0 ∧ Hid (wr = w))
  case atStart => exact ⟨rfl, rfl, rfl⟩
  case round =>
    obtain ⟨rfl, rfl, hw⟩ := hrel
    have c := H.out
    rw [← hw.out] at c
    go_wp2
    go_ret
    exact ⟨rfl, hw.out.symm⟩
set_option maxRecDepth 100000 in
theorem fillPlace_nil (w : World) (g : Nat) (h : w.cell? ⟨g, 11, none⟩ = some (.slice none 0 0)) : Calls Tryz.prog 108 #[.pointer (some ⟨g, 0, none⟩)] w fun e w' => e = .returned (.tuple #[]) ∧ w = w' := by
  have H := Lib.hid h
  clear h
  go_enter Tryz.func108, Tryz.ntmps108
  go_wp2
  go_loopg [2] 0 (fun gk s wr => gk = 0 ∧ s = .int .i64 0 ∧ Hid (wr = w))
  case atStart => exact ⟨rfl, rfl, rfl⟩
  case round =>
    obtain ⟨rfl, rfl, hw⟩ := hrel
    have c := H.out
    rw [← hw.out] at c
    go_wp2
    go_end0
    exact ⟨rfl, hw.out.symm⟩
set_option maxRecDepth 100000 in
theorem growPlace_nil (w : World) (g : Nat) (h : w.cell? ⟨g, 11, none⟩ = some (.slice none 0 0)) : Calls Tryz.prog 123 #[.pointer (some ⟨g, 0, none⟩)] w fun e w' => e = .returned (.tuple #[]) ∧ w = w' := by
  have H := Lib.hid h
  clear h
  go_enter Tryz.func123, Tryz.ntmps123
  go_wp2
  go_loopg [2] 0 (fun gk s wr => gk = 0 ∧ s = .int .i64 0 ∧ Hid (wr = w))
  case atStart => exact ⟨rfl, rfl, rfl⟩
  case round =>
    obtain ⟨rfl, rfl, hw⟩ := hrel
    have c := H.out
    rw [← hw.out] at c
    go_wp2
    go_end0
    exact ⟨rfl, hw.out.symm⟩
set_option maxRecDepth 100000 in
theorem lookPlace_nil (w : World) (g : Nat) (h : w.cell? ⟨g, 11, none⟩ = some (.slice none 0 0)) : Calls Tryz.prog 138 #[.pointer (some ⟨g, 0, none⟩)] w fun e w' => e = .returned (.bool true) ∧ w = w' := by
  have H := Lib.hid h
  clear h
  go_enter Tryz.func138, Tryz.ntmps138
  go_wp2
  go_loopg [3] 0 (fun gk s wr => gk = 0 ∧ s = .int .i64 0 ∧ Hid (wr = w))
  case atStart => exact ⟨rfl, rfl, rfl⟩
  case round =>
    obtain ⟨rfl, rfl, hw⟩ := hrel
    have c := H.out
    rw [← hw.out] at c
    go_wp2
    go_ret
    exact ⟨rfl, hw.out.symm⟩
set_option maxRecDepth 100000 in
theorem fillAsk_nil (w : World) (g : Nat) (h : w.cell? ⟨g, 12, none⟩ = some (.slice none 0 0)) : Calls Tryz.prog 109 #[.pointer (some ⟨g, 0, none⟩)] w fun e w' => e = .returned (.tuple #[]) ∧ w = w' := by
  have H := Lib.hid h
  clear h
  go_enter Tryz.func109, Tryz.ntmps109
  go_wp2
  go_loopg [2] 0 (fun gk s wr => gk = 0 ∧ s = .int .i64 0 ∧ Hid (wr = w))
  case atStart => exact ⟨rfl, rfl, rfl⟩
  case round =>
    obtain ⟨rfl, rfl, hw⟩ := hrel
    have c := H.out
    rw [← hw.out] at c
    go_wp2
    go_end0
    exact ⟨rfl, hw.out.symm⟩
set_option maxRecDepth 100000 in
theorem growAsk_nil (w : World) (g : Nat) (h : w.cell? ⟨g, 12, none⟩ = some (.slice none 0 0)) : Calls Tryz.prog 124 #[.pointer (some ⟨g, 0, none⟩)] w fun e w' => e = .returned (.tuple #[]) ∧ w = w' := by
  have H := Lib.hid h
  clear h
  go_enter Tryz.func124, Tryz.ntmps124
  go_wp2
  go_loopg [2] 0 (fun gk s wr => gk = 0 ∧ s = .int .i64 0 ∧ Hid (wr = w))
  case atStart => exact ⟨rfl, rfl, rfl⟩
  case round =>
    obtain ⟨rfl, rfl, hw⟩ := hrel
    have c := H.out
    rw [← hw.out] at c
    go_wp2
    go_end0
    exact ⟨rfl, hw.out.symm⟩
set_option maxRecDepth 100000 in
theorem lookAsk_nil (w : World) (g : Nat) (h : w.cell? ⟨g, 12, none⟩ = some (.slice none 0 0)) : Calls Tryz.prog 139 #[.pointer (some ⟨g, 0, none⟩)] w fun e w' => e = .returned (.bool true) ∧ w = w' := by
  have H := Lib.hid h
  clear h
  go_enter Tryz.func139, Tryz.ntmps139
  go_wp2
  go_loopg [3] 0 (fun gk s wr => gk = 0 ∧ s = .int .i64 0 ∧ Hid (wr = w))
  case atStart => exact ⟨rfl, rfl, rfl⟩
  case round =>
    obtain ⟨rfl, rfl, hw⟩ := hrel
    have c := H.out
    rw [← hw.out] at c
    go_wp2
    go_ret
    exact ⟨rfl, hw.out.symm⟩
set_option maxRecDepth 100000 in
theorem fillDone_nil (w : World) (g : Nat) (h : w.cell? ⟨g, 13, none⟩ = some (.slice none 0 0)) : Calls Tryz.prog 110 #[.pointer (some ⟨g, 0, none⟩)] w fun e w' => e = .returned (.tuple #[]) ∧ w = w' := by
  have H := Lib.hid h
  clear h
  go_enter Tryz.func110, Tryz.ntmps110
  go_wp2
  go_loopg [2] 0 (fun gk s wr => gk = 0 ∧ s = .int .i64 0 ∧ Hid (wr = w))
  case atStart => exact ⟨rfl, rfl, rfl⟩
  case round =>
    obtain ⟨rfl, rfl, hw⟩ := hrel
    have c := H.out
    rw [← hw.out] at c
    go_wp2
    go_end0
    exact ⟨rfl, hw.out.symm⟩
set_option maxRecDepth 100000 in
theorem growDone_nil (w : World) (g : Nat) (h : w.cell? ⟨g, 13, none⟩ = some (.slice none 0 0)) : Calls Tryz.prog 125 #[.pointer (some ⟨g, 0, none⟩)] w fun e w' => e = .returned (.tuple #[]) ∧ w = w' := by
  have H := Lib.hid h
  clear h
  go_enter Tryz.func125, Tryz.ntmps125
  go_wp2
  go_loopg [2] 0 (fun gk s wr => gk = 0 ∧ s = .int .i64 0 ∧ Hid (wr = w))
  case atStart => exact ⟨rfl, rfl, rfl⟩
  case round =>
    obtain ⟨rfl, rfl, hw⟩ := hrel
    have c := H.out
    rw [← hw.out] at c
    go_wp2
    go_end0
    exact ⟨rfl, hw.out.symm⟩
set_option maxRecDepth 100000 in
theorem lookDone_nil (w : World) (g : Nat) (h : w.cell? ⟨g, 13, none⟩ = some (.slice none 0 0)) : Calls Tryz.prog 140 #[.pointer (some ⟨g, 0, none⟩)] w fun e w' => e = .returned (.bool true) ∧ w = w' := by
  have H := Lib.hid h
  clear h
  go_enter Tryz.func140, Tryz.ntmps140
  go_wp2
  go_loopg [3] 0 (fun gk s wr => gk = 0 ∧ s = .int .i64 0 ∧ Hid (wr = w))
  case atStart => exact ⟨rfl, rfl, rfl⟩
  case round =>
    obtain ⟨rfl, rfl, hw⟩ := hrel
    have c := H.out
    rw [← hw.out] at c
    go_wp2
    go_ret
    exact ⟨rfl, hw.out.symm⟩
set_option maxRecDepth 100000 in
theorem fillGrid_nil (w : World) (g : Nat) (h : w.cell? ⟨g, 14, none⟩ = some (.slice none 0 0)) : Calls Tryz.prog 111 #[.pointer (some ⟨g, 0, none⟩)] w fun e w' => e = .returned (.tuple #[]) ∧ w = w' := by
  have H := Lib.hid h
  clear h
  go_enter Tryz.func111, Tryz.ntmps111
  go_wp2
  go_loopg [2] 0 (fun gk s wr => gk = 0 ∧ s = .int .i64 0 ∧ Hid (wr = w))
  case atStart => exact ⟨rfl, rfl, rfl⟩
  case round =>
    obtain ⟨rfl, rfl, hw⟩ := hrel
    have c := H.out
    rw [← hw.out] at c
    go_wp2
    go_end0
    exact ⟨rfl, hw.out.symm⟩
set_option maxRecDepth 100000 in
theorem growGrid_nil (w : World) (g : Nat) (h : w.cell? ⟨g, 14, none⟩ = some (.slice none 0 0)) : Calls Tryz.prog 126 #[.pointer (some ⟨g, 0, none⟩)] w fun e w' => e = .returned (.tuple #[]) ∧ w = w' := by
  have H := Lib.hid h
  clear h
  go_enter Tryz.func126, Tryz.ntmps126
  go_wp2
  go_loopg [2] 0 (fun gk s wr => gk = 0 ∧ s = .int .i64 0 ∧ Hid (wr = w))
  case atStart => exact ⟨rfl, rfl, rfl⟩
  case round =>
    obtain ⟨rfl, rfl, hw⟩ := hrel
    have c := H.out
    rw [← hw.out] at c
    go_wp2
    go_end0
    exact ⟨rfl, hw.out.symm⟩
set_option maxRecDepth 100000 in
theorem lookGrid_nil (w : World) (g : Nat) (h : w.cell? ⟨g, 14, none⟩ = some (.slice none 0 0)) : Calls Tryz.prog 141 #[.pointer (some ⟨g, 0, none⟩)] w fun e w' => e = .returned (.bool true) ∧ w = w' := by
  have H := Lib.hid h
  clear h
  go_enter Tryz.func141, Tryz.ntmps141
  go_wp2
  go_loopg [3] 0 (fun gk s wr => gk = 0 ∧ s = .int .i64 0 ∧ Hid (wr = w))
  case atStart => exact ⟨rfl, rfl, rfl⟩
  case round =>
    obtain ⟨rfl, rfl, hw⟩ := hrel
    have c := H.out
    rw [← hw.out] at c
    go_wp2
    go_ret
    exact ⟨rfl, hw.out.symm⟩
set_option maxRecDepth 100000 in
theorem fillList_nil (w : World) (g : Nat) (h : w.cell? ⟨g, 15, none⟩ = some (.slice none 0 0)) : Calls Tryz.prog 112 #[.pointer (some ⟨g, 0, none⟩)] w fun e w' => e = .returned (.tuple #[]) ∧ w = w' := by
  have H := Lib.hid h
  clear h
  go_enter Tryz.func112, Tryz.ntmps112
  go_wp2
  go_loopg [2] 0 (fun gk s wr => gk = 0 ∧ s = .int .i64 0 ∧ Hid (wr = w))
  case atStart => exact ⟨rfl, rfl, rfl⟩
  case round =>
    obtain ⟨rfl, rfl, hw⟩ := hrel
    have c := H.out
    rw [← hw.out] at c
    go_wp2
    go_end0
    exact ⟨rfl, hw.out.symm⟩
set_option maxRecDepth 100000 in
theorem growList_nil (w : World) (g : Nat) (h : w.cell? ⟨g, 15, none⟩ = some (.slice none 0 0)) : Calls Tryz.prog 127 #[.pointer (some ⟨g, 0, none⟩)] w fun e w' => e = .returned (.tuple #[]) ∧ w = w' := by
  have H := Lib.hid h
  clear h
  go_enter Tryz.func127, Tryz.ntmps127
  go_wp2
  go_loopg [2] 0 (fun gk s wr => gk = 0 ∧ s = .int .i64 0 ∧ Hid (wr = w))
  case atStart => exact ⟨rfl, rfl, rfl⟩
  case round =>
    obtain ⟨rfl, rfl, hw⟩ := hrel
    have c := H.out
    rw [← hw.out] at c
    go_wp2
    go_end0
    exact ⟨rfl, hw.out.symm⟩
set_option maxRecDepth 100000 in
theorem lookList_nil (w : World) (g : Nat) (h : w.cell? ⟨g, 15, none⟩ = some (.slice none 0 0)) : Calls Tryz.prog 142 #[.pointer (some ⟨g, 0, none⟩)] w fun e w' => e = .returned (.bool true) ∧ w = w' := by
  have H := Lib.hid h
  clear h
  go_enter Tryz.func142, Tryz.ntmps142
  go_wp2
  go_loopg [3] 0 (fun gk s wr => gk = 0 ∧ s = .int .i64 0 ∧ Hid (wr = w))
  case atStart => exact ⟨rfl, rfl, rfl⟩
  case round =>
    obtain ⟨rfl, rfl, hw⟩ := hrel
    have c := H.out
    rw [← hw.out] at c
    go_wp2
    go_ret
    exact ⟨rfl, hw.out.symm⟩
end Go.Proofs.YtpmkegbgbldpnaaGreatDoor
