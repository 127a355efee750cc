/-
  Package drydocklaw01 by its own text: a book's lists of which there are none.
-/
import Derived.Test.YtnffigfafalocaaGreatDoorK29
namespace Go.Proofs.YtnffigfafalocaaGreatDoor
open Go Go.RowKit
set_option linter.unusedSimpArgs false
set_option maxRecDepth 100000 in
theorem fillText_nil (w : World) (g : Nat) (h : w.cell? ⟨g, 5, none⟩ = some (.slice none 0 0)) : Calls Tryz.prog 87 #[.pointer (some ⟨g, 0, none⟩)] w fun e w' => e = .returned (.tuple #[]) ∧ w = w' := by
  have H := Lib.hid h
  clear h
  go_enter Tryz.func87, Tryz.ntmps87
  go_wp2
  go_loopg [2] 0 (fun gk s wr => gk = 0 ∧ s = .int .i64 0 ∧ Hid (wr = w))
  case atStart => exact ⟨rfl, rfl, rfl⟩
  case round =>
    obtain ⟨rfl, rfl, hw⟩ := hrel
    have c := H.out
    rw [← hw.out] at c
    go_wp2
    go_end0
    exact ⟨rfl, hw.out.symm⟩
set_option maxRecDepth 100000 in
theorem growText_nil (w : World) (g : Nat) (h : w.cell? ⟨g, 5, none⟩ = some (.slice none 0 0)) : Calls Tryz.prog 102 #[.pointer (some ⟨g, 0, none⟩)] w fun e w' => e = .returned (.tuple #[]) ∧ w = w' := by
  have H := Lib.hid h
  clear h
  go_enter Tryz.func102, Tryz.ntmps102
  go_wp2
  go_loopg [2] 0 (fun gk s wr => gk = 0 ∧ s = .int .i64 0 ∧ Hid (wr = w))
  case atStart => exact ⟨rfl, rfl, rfl⟩
  case round =>
    obtain ⟨rfl, rfl, hw⟩ := hrel
    have c := H.out
    rw [← hw.out] at c
    go_wp2
    go_end0
    exact ⟨rfl, hw.out.symm⟩
set_option maxRecDepth 100000 in
theorem lookText_nil (w : World) (g : Nat) (h : w.cell? ⟨g, 5, none⟩ = some (.slice none 0 0)) : Calls Tryz.prog 117 #[.pointer (some ⟨g, 0, none⟩)] w fun e w' => e = .returned (.bool true) ∧ w = w' := by
  have H := Lib.hid h
  clear h
  go_enter Tryz.func117, Tryz.ntmps117
  go_wp2
  go_loopg [3] 0 (fun gk s wr => gk = 0 ∧ s = .int .i64 0 ∧ Hid (wr = w))
  case atStart => exact ⟨rfl, rfl, rfl⟩
  case round =>
    obtain ⟨rfl, rfl, hw⟩ := hrel
    have c := H.out
    rw [← hw.out] at c
    go_wp2
    go_ret
    exact ⟨rfl, hw.out.symm⟩
set_option maxRecDepth 100000 in
theorem fillTensor_nil (w : World) (g : Nat) (h : w.cell? ⟨g, 6, none⟩ = some (.slice none 0 0)) : Calls Tryz.prog 88 #[.pointer (some ⟨g, 0, none⟩)] w fun e w' => e = .returned (.tuple #[]) ∧ w = w' := by
  have H := Lib.hid h
  clear h
  go_enter Tryz.func88, Tryz.ntmps88
  go_wp2
  go_loopg [2] 0 (fun gk s wr => gk = 0 ∧ s = .int .i64 0 ∧ Hid (wr = w))
  case atStart => exact ⟨rfl, rfl, rfl⟩
  case round =>
    obtain ⟨rfl, rfl, hw⟩ := hrel
    have c := H.out
    rw [← hw.out] at c
    go_wp2
    go_end0
    exact ⟨rfl, hw.out.symm⟩
set_option maxRecDepth 100000 in
theorem growTensor_nil (w : World) (g : Nat) (h : w.cell? ⟨g, 6, none⟩ = some (.slice none 0 0)) : Calls Tryz.prog 103 #[.pointer (some ⟨g, 0, none⟩)] w fun e w' => e = .returned (.tuple #[]) ∧ w = w' := by
  have H := Lib.hid h
  clear h
  go_enter Tryz.func103, Tryz.ntmps103
  go_wp2
  go_loopg [2] 0 (fun gk s wr => gk = 0 ∧ s = .int .i64 0 ∧ Hid (wr = w))
  case atStart => exact ⟨rfl, rfl, rfl⟩
  case round =>
    obtain ⟨rfl, rfl, hw⟩ := hrel
    have c := H.out
    rw [← hw.out] at c
    go_wp2
    go_end0
    exact ⟨rfl, hw.out.symm⟩
set_option maxRecDepth 100000 in
theorem lookTensor_nil (w : World) (g : Nat) (h : w.cell? ⟨g, 6, none⟩ = some (.slice none 0 0)) : Calls Tryz.prog 118 #[.pointer (some ⟨g, 0, none⟩)] w fun e w' => e = .returned (.bool true) ∧ w = w' := by
  have H := Lib.hid h
  clear h
  go_enter Tryz.func118, Tryz.ntmps118
  go_wp2
  go_loopg [3] 0 (fun gk s wr => gk = 0 ∧ s = .int .i64 0 ∧ Hid (wr = w))
  case atStart => exact ⟨rfl, rfl, rfl⟩
  case round =>
    obtain ⟨rfl, rfl, hw⟩ := hrel
    have c := H.out
    rw [← hw.out] at c
    go_wp2
    go_ret
    exact ⟨rfl, hw.out.symm⟩
set_option maxRecDepth 100000 in
theorem fillNode_nil (w : World) (g : Nat) (h : w.cell? ⟨g, 7, none⟩ = some (.slice none 0 0)) : Calls Tryz.prog 89 #[.pointer (some ⟨g, 0, none⟩)] w fun e w' => e = .returned (.tuple #[]) ∧ w = w' := by
  have H := Lib.hid h
  clear h
  go_enter Tryz.func89, Tryz.ntmps89
  go_wp2
  go_loopg [2] 0 (fun gk s wr => gk = 0 ∧ s = .int .i64 0 ∧ Hid (wr = w))
  case atStart => exact ⟨rfl, rfl, rfl⟩
  case round =>
    obtain ⟨rfl, rfl, hw⟩ := hrel
    have c := H.out
    rw [← hw.out] at c
    go_wp2
    go_end0
    exact ⟨rfl, hw.out.symm⟩
set_option maxRecDepth 100000 in
theorem growNode_nil (w : World) (g : Nat) (h : w.cell? ⟨g, 7, none⟩ = some (.slice none 0 0)) : Calls Tryz.prog 104 #[.pointer (some ⟨g, 0, none⟩)] w fun e w' => e = .returned (.tuple #[]) ∧ w = w' := by
  have H := Lib.hid h
  clear h
  go_enter Tryz.func104, Tryz.ntmps104
  go_wp2
  go_loopg [2] 0 (fun gk s wr => gk = 0 ∧ s = .int .i64 0 ∧ Hid (wr = w))
  case atStart => exact ⟨rfl, rfl, rfl⟩
  case round =>
    obtain ⟨rfl, rfl, hw⟩ := hrel
    have c := H.out
    rw [← hw.out] at c
    go_wp2
    go_end0
    exact ⟨rfl, hw.out.symm⟩
set_option maxRecDepth 100000 in
theorem lookNode_nil (w : World) (g : Nat) (h : w.cell? ⟨g, 7, none⟩ = some (.slice none 0 0)) : Calls Tryz.prog 119 #[.pointer (some ⟨g, 0, none⟩)] w fun e w' => e = .returned (.bool true) ∧ w = w' := by
  have H := Lib.hid h
  clear h
  go_enter Tryz.func119, Tryz.ntmps119
  go_wp2
  go_loopg [3] 0 (fun gk s wr => gk = 0 ∧ s = .int .i64 0 ∧ Hid (wr = w))
  case atStart => exact ⟨rfl, rfl, rfl⟩
  case round =>
    obtain ⟨rfl, rfl, hw⟩ := hrel
    have c := H.out
    rw [← hw.out] at c
    go_wp2
    go_ret
    exact ⟨rfl, hw.out.symm⟩
set_option maxRecDepth 100000 in
theorem fillStep_nil (w : World) (g : Nat) (h : w.cell? ⟨g, 8, none⟩ = some (.slice none 0 0)) : Calls Tryz.prog 90 #[.pointer (some ⟨g, 0, none⟩)] w fun e w' => e = .returned (.tuple #[]) ∧ w = w' := by
  have H := Lib.hid h
  clear h
  go_enter Tryz.func90, Tryz.ntmps90
  go_wp2
  go_loopg [2] 0 (fun gk s wr => gk = 0 ∧ s = .int .i64 0 ∧ Hid (wr = w))
  case atStart => exact ⟨rfl, rfl, rfl⟩
  case round =>
    obtain ⟨rfl, rfl, hw⟩ := hrel
    have c := H.out
    rw [← hw.out] at c
    go_wp2
    go_end0
    exact ⟨rfl, hw.out.symm⟩
set_option maxRecDepth 100000 in
theorem growStep_nil (w : World) (g : Nat) (h : w.cell? ⟨g, 8, none⟩ = some (.slice none 0 0)) : Calls Tryz.prog 105 #[.pointer (some ⟨g, 0, none⟩)] w fun e w' => e = .returned (.tuple #[]) ∧ w = w' := by
  have H := Lib.hid h
  clear h
  go_enter Tryz.func105, Tryz.ntmps105
  go_wp2
  go_loopg [2] 0 (fun gk s wr => gk = 0 ∧ s = .int .i64 0 ∧ Hid (wr = w))
  case atStart => exact ⟨rfl, rfl, rfl⟩
  case round =>
    obtain ⟨rfl, rfl, hw⟩ := hrel
    have c := H.out
    rw [← hw.out] at c
    go_wp2
    go_end0
    exact ⟨rfl, hw.out.symm⟩
set_option maxRecDepth 100000 in
theorem lookStep_nil (w : World) (g : Nat) (h : w.cell? ⟨g, 8, none⟩ = some (.slice none 0 0)) : Calls Tryz.prog 120 #[.pointer (some ⟨g, 0, none⟩)] w fun e w' => e = .returned (.bool true) ∧ w = w' := by
  have H := Lib.hid h
  clear h
  go_enter Tryz.func120, Tryz.ntmps120
  go_wp2
  go_loopg [3] 0 (fun gk s wr => gk = 0 ∧ s = .int .i64 0 ∧ Hid (wr = w))
  case atStart => exact ⟨rfl, rfl, rfl⟩
  case round =>
    obtain ⟨rfl, rfl, hw⟩ := hrel
    have c := H.out
    rw [← hw.out] at c
    go_wp2
    go_ret
    exact ⟨rfl, hw.out.symm⟩
set_option maxRecDepth 100000 in
theorem fillCost_nil (w : World) (g : Nat) (h : w.cell? ⟨g, 9, none⟩ = some (.slice none 0 0)) : Calls Tryz.prog 91 #[.pointer (some ⟨g, 0, none⟩)] w fun e w' => e = .returned (.tuple #[]) ∧ w = w' := by
  have H := Lib.hid h
  clear h
  go_enter Tryz.func91, Tryz.ntmps91
  go_wp2
  go_loopg [2] 0 (fun gk s wr => gk = 0 ∧ s = .int .i64 0 ∧ Hid (wr = w))
  case atStart => exact ⟨rfl, rfl, rfl⟩
  case round =>
    obtain ⟨rfl, rfl, hw⟩ := hrel
    have c := H.out
    rw [← hw.out] at c
    go_wp2
    go_end0
    exact ⟨rfl, hw.out.symm⟩
set_option maxRecDepth 100000 in
theorem growCost_nil (w : World) (g : Nat) (h : w.cell? ⟨g, 9, none⟩ = some (.slice none 0 0)) : Calls Tryz.prog 106 #[.pointer (some ⟨g, 0, none⟩)] w fun e w' => e = .returned (.tuple #[]) ∧ w = w' := by
  have H := Lib.hid h
  clear h
  go_enter Tryz.func106, Tryz.ntmps106
  go_wp2
  go_loopg [2] 0 (fun gk s wr => gk = 0 ∧ s = .int .i64 0 ∧ Hid (wr = w))
  case atStart => exact ⟨rfl, rfl, rfl⟩
  case round =>
    obtain ⟨rfl, rfl, hw⟩ := hrel
    have c := H.out
    rw [← hw.out] at c
    go_wp2
    go_end0
    exact ⟨rfl, hw.out.symm⟩
set_option maxRecDepth 100000 in
theorem lookCost_nil (w : World) (g : Nat) (h : w.cell? ⟨g, 9, none⟩ = some (.slice none 0 0)) : Calls Tryz.prog 121 #[.pointer (some ⟨g, 0, none⟩)] w fun e w' => e = .returned (.bool true) ∧ w = w' := by
  have H := Lib.hid h
  clear h
  go_enter Tryz.func121, Tryz.ntmps121
  go_wp2
  go_loopg [3] 0 (fun gk s wr => gk = 0 ∧ s = .int .i64 0 ∧ Hid (wr = w))
  case atStart => exact ⟨rfl, rfl, rfl⟩
  case round =>
    obtain ⟨rfl, rfl, hw⟩ := hrel
    have c := H.out
    rw [← hw.out] at c
    go_wp2
    go_ret
    exact ⟨rfl, hw.out.symm⟩
set_option maxRecDepth 100000 in
theorem fillRecord_nil (w : World) (g : Nat) (h : w.cell? ⟨g, 10, none⟩ = some (.slice none 0 0)) : Calls Tryz.prog 92 #[.pointer (some ⟨g, 0, none⟩)] w fun e w' => e = .returned (.tuple #[]) ∧ w = w' := by
  have H := Lib.hid h
  clear h
  go_enter Tryz.func92, Tryz.ntmps92
  go_wp2
  go_loopg [2] 0 (fun gk s wr => gk = 0 ∧ s = .int .i64 0 ∧ Hid (wr = w))
  case atStart => exact ⟨rfl, rfl, rfl⟩
  case round =>
    obtain ⟨rfl, rfl, hw⟩ := hrel
    have c := H.out
    rw [← hw.out] at c
    go_wp2
    go_end0
    exact ⟨rfl, hw.out.symm⟩
set_option maxRecDepth 100000 in
theorem growRecord_nil (w : World) (g : Nat) (h : w.cell? ⟨g, 10, none⟩ = some (.slice none 0 0)) : Calls Tryz.prog 107 #[.pointer (some ⟨g, 0, none⟩)] w fun e w' => e = .returned (.tuple #[]) ∧ w = w' := by
  have H := Lib.hid h
  clear h
  go_enter Tryz.func107, Tryz.ntmps107
  go_wp2
  go_loopg [2] 0 (fun gk s wr => gk = 0 ∧ s = .int .i64 0 ∧ Hid (wr = w))
  case atStart => exact ⟨rfl, rfl, rfl⟩
  case round =>
    obtain ⟨rfl, rfl, hw⟩ := hrel
    have c := H.out
    rw [← hw.out] at c
    go_wp2
    go_end0
    exact ⟨rfl, hw.out.symm⟩
set_option maxRecDepth 100000 in
theorem lookRecord_nil (w : World) (g : Nat) (h : w.cell? ⟨g, 10, none⟩ = some (.slice none 0 0)) : Calls Tryz.prog 122 #[.pointer (some ⟨g, 0, none⟩)] w fun e w' => e = .returned (.bool true) ∧ w = w' := by
  have H := Lib.hid h
  clear h
  go_enter Tryz.func122, Tryz.ntmps122
  go_wp2
  go_loopg [3] 0 (fun gk s wr => gk = 0 ∧ s = .int .i64 0 ∧ Hid (wr = w))
  case atStart => exact ⟨rfl, rfl, rfl⟩
  case round =>
    obtain ⟨rfl, rfl, hw⟩ := hrel
    have c := H.out
    rw [← hw.out] at c
    go_wp2
    go_ret
    exact ⟨rfl, hw.out.symm⟩
set_option maxRecDepth 100000 in
theorem fillPlace_nil (w : World) (g : Nat) (h : w.cell? ⟨g, 11, none⟩ = some (.slice none 0 0)) : Calls Tryz.prog 93 #[.pointer (some ⟨g, 0, none⟩)] w fun e w' => e = .returned (.tuple #[]) ∧ w = w' := by
  have H := Lib.hid h
  clear h
  go_enter Tryz.func93, Tryz.ntmps93
  go_wp2
  go_loopg [2] 0 (fun gk s wr => gk = 0 ∧ s = .int .i64 0 ∧ Hid (wr = w))
  case atStart => exact ⟨rfl, rfl, rfl⟩
  case round =>
    obtain ⟨rfl, rfl, hw⟩ := hrel
    have c := H.out
    rw [← hw.out] at c
    go_wp2
    go_end0
    exact ⟨rfl, hw.out.symm⟩
set_option maxRecDepth 100000 in
theorem growPlace_nil (w : World) (g : Nat) (h : w.cell? ⟨g, 11, none⟩ = some (.slice none 0 0)) : Calls Tryz.prog 108 #[.pointer (some ⟨g, 0, none⟩)] w fun e w' => e = .returned (.tuple #[]) ∧ w = w' := by
  have H := Lib.hid h
  clear h
  go_enter Tryz.func108, Tryz.ntmps108
  go_wp2
  go_loopg [2] 0 (fun gk s wr => gk = 0 ∧ s = .int .i64 0 ∧ Hid (wr = w))
  case atStart => exact ⟨rfl, rfl, rfl⟩
  case round =>
    obtain ⟨rfl, rfl, hw⟩ := hrel
    have c := H.out
    rw [← hw.out] at c
    go_wp2
    go_end0
    exact ⟨rfl, hw.out.symm⟩
set_option maxRecDepth 100000 in
theorem lookPlace_nil (w : World) (g : Nat) (h : w.cell? ⟨g, 11, none⟩ = some (.slice none 0 0)) : Calls Tryz.prog 123 #[.pointer (some ⟨g, 0, none⟩)] w fun e w' => e = .returned (.bool true) ∧ w = w' := by
  have H := Lib.hid h
  clear h
  go_enter Tryz.func123, Tryz.ntmps123
  go_wp2
  go_loopg [3] 0 (fun gk s wr => gk = 0 ∧ s = .int .i64 0 ∧ Hid (wr = w))
  case atStart => exact ⟨rfl, rfl, rfl⟩
  case round =>
    obtain ⟨rfl, rfl, hw⟩ := hrel
    have c := H.out
    rw [← hw.out] at c
    go_wp2
    go_ret
    exact ⟨rfl, hw.out.symm⟩
set_option maxRecDepth 100000 in
theorem fillAsk_nil (w : World) (g : Nat) (h : w.cell? ⟨g, 12, none⟩ = some (.slice none 0 0)) : Calls Tryz.prog 94 #[.pointer (some ⟨g, 0, none⟩)] w fun e w' => e = .returned (.tuple #[]) ∧ w = w' := by
  have H := Lib.hid h
  clear h
  go_enter Tryz.func94, Tryz.ntmps94
  go_wp2
  go_loopg [2] 0 (fun gk s wr => gk = 0 ∧ s = .int .i64 0 ∧ Hid (wr = w))
  case atStart => exact ⟨rfl, rfl, rfl⟩
  case round =>
    obtain ⟨rfl, rfl, hw⟩ := hrel
    have c := H.out
    rw [← hw.out] at c
    go_wp2
    go_end0
    exact ⟨rfl, hw.out.symm⟩
set_option maxRecDepth 100000 in
theorem growAsk_nil (w : World) (g : Nat) (h : w.cell? ⟨g, 12, none⟩ = some (.slice none 0 0)) : Calls Tryz.prog 109 #[.pointer (some ⟨g, 0, none⟩)] w fun e w' => e = .returned (.tuple #[]) ∧ w = w' := by
  have H := Lib.hid h
  clear h
  go_enter Tryz.func109, Tryz.ntmps109
  go_wp2
  go_loopg [2] 0 (fun gk s wr => gk = 0 ∧ s = .int .i64 0 ∧ Hid (wr = w))
  case atStart => exact ⟨rfl, rfl, rfl⟩
  case round =>
    obtain ⟨rfl, rfl, hw⟩ := hrel
    have c := H.out
    rw [← hw.out] at c
    go_wp2
    go_end0
    exact ⟨rfl, hw.out.symm⟩
set_option maxRecDepth 100000 in
theorem lookAsk_nil (w : World) (g : Nat) (h : w.cell? ⟨g, 12, none⟩ = some (.slice none 0 0)) : Calls Tryz.prog 124 #[.pointer (some ⟨g, 0, none⟩)] w fun e w' => e = .returned (.bool true) ∧ w = w' := by
  have H := Lib.hid h
  clear h
  go_enter Tryz.func124, Tryz.ntmps124
  go_wp2
  go_loopg [3] 0 (fun gk s wr => gk = 0 ∧ s = .int .i64 0 ∧ Hid (wr = w))
  case atStart => exact ⟨rfl, rfl, rfl⟩
  case round =>
    obtain ⟨rfl, rfl, hw⟩ := hrel
    have c := H.out
    rw [← hw.out] at c
    go_wp2
    go_ret
    exact ⟨rfl, hw.out.symm⟩
set_option maxRecDepth 100000 in
theorem fillDone_nil (w : World) (g : Nat) (h : w.cell? ⟨g, 13, none⟩ = some (.slice none 0 0)) : Calls Tryz.prog 95 #[.pointer (some ⟨g, 0, none⟩)] w fun e w' => e = .returned (.tuple #[]) ∧ w = w' := by
  have H := Lib.hid h
  clear h
  go_enter Tryz.func95, Tryz.ntmps95
  go_wp2
  go_loopg [2] 0 (fun gk s wr => gk = 0 ∧ s = .int .i64 0 ∧ Hid (wr = w))
  case atStart => exact ⟨rfl, rfl, rfl⟩
  case round =>
    obtain ⟨rfl, rfl, hw⟩ := hrel
    have c := H.out
    rw [← hw.out] at c
    go_wp2
    go_end0
    exact ⟨rfl, hw.out.symm⟩
set_option maxRecDepth 100000 in
theorem growDone_nil (w : World) (g : Nat) (h : w.cell? ⟨g, 13, none⟩ = some (.slice none 0 0)) : Calls Tryz.prog 110 #[.pointer (some ⟨g, 0, none⟩)] w fun e w' => e = .returned (.tuple #[]) ∧ w = w' := by
  have H := Lib.hid h
  clear h
  go_enter Tryz.func110, Tryz.ntmps110
  go_wp2
  go_loopg [2] 0 (fun gk s wr => gk = 0 ∧ s = .int .i64 0 ∧ Hid (wr = w))
  case atStart => exact ⟨rfl, rfl, rfl⟩
  case round =>
    obtain ⟨rfl, rfl, hw⟩ := hrel
    have c := H.out
    rw [← hw.out] at c
    go_wp2
    go_end0
    exact ⟨rfl, hw.out.symm⟩
set_option maxRecDepth 100000 in
theorem lookDone_nil (w : World) (g : Nat) (h : w.cell? ⟨g, 13, none⟩ = some (.slice none 0 0)) : Calls Tryz.prog 125 #[.pointer (some ⟨g, 0, none⟩)] w fun e w' => e = .returned (.bool true) ∧ w = w' := by
  have H := Lib.hid h
  clear h
  go_enter Tryz.func125, Tryz.ntmps125
  go_wp2
  go_loopg [3] 0 (fun gk s wr => gk = 0 ∧ s = .int .i64 0 ∧ Hid (wr = w))
  case atStart => exact ⟨rfl, rfl, rfl⟩
  case round =>
    obtain ⟨rfl, rfl, hw⟩ := hrel
    have c := H.out
    rw [← hw.out] at c
    go_wp2
    go_ret
    exact ⟨rfl, hw.out.symm⟩
set_option maxRecDepth 100000 in
theorem fillGrid_nil (w : World) (g : Nat) (h : w.cell? ⟨g, 14, none⟩ = some (.slice none 0 0)) : Calls Tryz.prog 96 #[.pointer (some ⟨g, 0, none⟩)] w fun e w' => e = .returned (.tuple #[]) ∧ w = w' := by
  have H := Lib.hid h
  clear h
  go_enter Tryz.func96, Tryz.ntmps96
  go_wp2
  go_loopg [2] 0 (fun gk s wr => gk = 0 ∧ s = .int .i64 0 ∧ Hid (wr = w))
  case atStart => exact ⟨rfl, rfl, rfl⟩
  case round =>
    obtain ⟨rfl, rfl, hw⟩ := hrel
    have c := H.out
    rw [← hw.out] at c
    go_wp2
    go_end0
    exact ⟨rfl, hw.out.symm⟩
set_option maxRecDepth 100000 in
theorem growGrid_nil (w : World) (g : Nat) (h : w.cell? ⟨g, 14, none⟩ = some (.slice none 0 0)) : Calls Tryz.prog 111 #[.pointer (some ⟨g, 0, none⟩)] w fun e w' => e = .returned (.tuple #[]) ∧ w = w' := by
  have H := Lib.hid h
  clear h
  go_enter Tryz.func111, Tryz.ntmps111
  go_wp2
  go_loopg [2] 0 (fun gk s wr => gk = 0 ∧ s = .int .i64 0 ∧ Hid (wr = w))
  case atStart => exact ⟨rfl, rfl, rfl⟩
  case round =>
    obtain ⟨rfl, rfl, hw⟩ := hrel
    have c := H.out
    rw [← hw.out] at c
    go_wp2
    go_end0
    exact ⟨rfl, hw.out.symm⟩
set_option maxRecDepth 100000 in
theorem lookGrid_nil (w : World) (g : Nat) (h : w.cell? ⟨g, 14, none⟩ = some (.slice none 0 0)) : Calls Tryz.prog 126 #[.pointer (some ⟨g, 0, none⟩)] w fun e w' => e = .returned (.bool true) ∧ w = w' := by
  have H := Lib.hid h
  clear h
  go_enter Tryz.func126, Tryz.ntmps126
  go_wp2
  go_loopg [3] 0 (fun gk s wr => gk = 0 ∧ s = .int .i64 0 ∧ Hid (wr = w))
  case atStart => exact ⟨rfl, rfl, rfl⟩
  case round =>
    obtain ⟨rfl, rfl, hw⟩ := hrel
    have c := H.out
    rw [← hw.out] at c
    go_wp2
    go_ret
    exact ⟨rfl, hw.out.symm⟩
set_option maxRecDepth 100000 in
theorem fillList_nil (w : World) (g : Nat) (h : w.cell? ⟨g, 15, none⟩ = some (.slice none 0 0)) : Calls Tryz.prog 97 #[.pointer (some ⟨g, 0, none⟩)] w fun e w' => e = .returned (.tuple #[]) ∧ w = w' := by
  have H := Lib.hid h
  clear h
  go_enter Tryz.func97, Tryz.ntmps97
  go_wp2
  go_loopg [2] 0 (fun gk s wr => gk = 0 ∧ s = .int .i64 0 ∧ Hid (wr = w))
  case atStart => exact ⟨rfl, rfl, rfl⟩
  case round =>
    obtain ⟨rfl, rfl, hw⟩ := hrel
    have c := H.out
    rw [← hw.out] at c
    go_wp2
    go_end0
    exact ⟨rfl, hw.out.symm⟩
set_option maxRecDepth 100000 in
theorem growList_nil (w : World) (g : Nat) (h : w.cell? ⟨g, 15, none⟩ = some (.slice none 0 0)) : Calls Tryz.prog 112 #[.pointer (some ⟨g, 0, none⟩)] w fun e w' => e = .returned (.tuple #[]) ∧ w = w' := by
  have H := Lib.hid h
  clear h
  go_enter Tryz.func112, Tryz.ntmps112
  go_wp2
  go_loopg [2] 0 (fun gk s wr => gk = 0 ∧ s = .int .i64 0 ∧ Hid (wr = w))
  case atStart => exact ⟨rfl, rfl, rfl⟩
  case round =>
    obtain ⟨rfl, rfl, hw⟩ := hrel
    have c := H.out
    rw [← hw.out] at c
    go_wp2
    go_end0
    exact ⟨rfl, hw.out.symm⟩
set_option maxRecDepth 100000 in
theorem lookList_nil (w : World) (g : Nat) (h : w.cell? ⟨g, 15, none⟩ = some (.slice none 0 0)) : Calls Tryz.prog 127 #[.pointer (some ⟨g, 0, none⟩)] w fun e w' => e = .returned (.bool true) ∧ w = w' := by
  have H := Lib.hid h
  clear h
  go_enter Tryz.func127, Tryz.ntmps127
  go_wp2
  go_loopg [3] 0 (fun gk s wr => gk = 0 ∧ s = .int .i64 0 ∧ Hid (wr = w))
  case atStart => exact ⟨rfl, rfl, rfl⟩
  case round =>
    obtain ⟨rfl, rfl, hw⟩ := hrel
    have c := H.out
    rw [← hw.out] at c
    go_wp2
    go_ret
    exact ⟨rfl, hw.out.symm⟩
end Go.Proofs.YtnffigfafalocaaGreatDoor
