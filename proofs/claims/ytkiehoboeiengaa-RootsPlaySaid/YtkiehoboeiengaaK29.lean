/-
  Package drydockref03 by its own text: Read, Sync.
-/
import Derived.Test.YtkiehoboeiengaaK28
import Derived.Test.YtkiehoboeiengaaK16
import Derived.Laws.IdiomStrings
namespace Go.Proofs.Ytkiehoboeiengaa
open Go Go.RowKit
set_option linter.unusedSimpArgs false
set_option linter.unusedVariables false

theorem conv_bytes (w : World) (xs : List Nat) (hx : ∀ x ∈ xs, x < 256) (n : Nat) (hn : xs.length = n) : ∃ c w', (convert 9 34 (.string (str xs))).run Try.prog w = .ok (.slice (some ⟨w.heap.size, 0, none⟩) n c) w' ∧ Touch No w w' ∧ Rd w' (some ⟨w.heap.size, 0, none⟩) (nums .u8 xs) ∧ n ≤ c := by
  subst hn
  refine ⟨grownCap w xs.length 0 5, w.drew.alloc (.cells (bytesRow (str xs) (grownCap w xs.length 0 5)) 5 ((bytesRow (str xs) (grownCap w xs.length 0 5)).size, (bytesRow (str xs) (grownCap w xs.length 0 5)).size + 1)), ?_, (Touch.refl No w).drew.alloc _, ?_, grownCap_ge _ _ _ _⟩
  · have := run_bytes_of_string (P := Try.prog) w 9 34 5 (str xs) Try.underlying9 Try.underlying34 Try.underlying5
    rw [str_size] at this
    exact this
  · have h := rd_new w.drew 5 (bytesRow (str xs) (grownCap w xs.length 0 5)) ((bytesRow (str xs) (grownCap w xs.length 0 5)).size, (bytesRow (str xs) (grownCap w xs.length 0 5)).size + 1)
    have e : (bytesRow (str xs) (grownCap w xs.length 0 5)).toList = nums .u8 xs ++ List.replicate (grownCap w xs.length 0 5 - (str xs).size) (.int .u8 0) := by
      rw [bytesRow, Array.toList_append, Array.toList_replicate]
      congr 1
      simp only [str, strOfNums, Array.toList_map, nums, List.map_map]
      refine List.map_congr_left (fun x hxm => ?_)
      have h1 := hx x hxm
      simp only [Function.comp, Int.toNat_natCast]
      congr 1
      rw [UInt8.toNat_ofNat']
      simp only [Nat.mod_eq_of_lt (show x < 2 ^ 8 from h1)]
    rw [e] at h
    exact rd_pre h
set_option maxHeartbeats 1000000 in
theorem refRead3_out {w : World} {g : Nat} {D : Dk.Disk} {vs vn vw : Value} (h : RdAt w g D vs vn vw) (n : Int) (hb : ¬ (0 ≤ n ∧ n < D.seen.length)) :
    Calls Try.prog 66 #[.pointer (some ⟨g, 0, none⟩), .int .i64 n] w fun e w' => e = .returned (.tuple #[.slice none 0 0, .int .i64 1]) ∧ w = w' := by
  obtain ⟨a, c, rfl, _⟩ := rowSlice h.seen
  have k1 : w.cell? ⟨g, 1, none⟩ = some (.slice a D.seen.length c) := h.row.cell 1
  obtain ⟨L, hL⟩ : ∃ L, D.seen.length = L := ⟨_, rfl⟩
  rw [hL] at k1 hb
  clear h hL
  by_cases h1 : n < 0
  · clear hb
    go_enter Try.func66, Try.ntmps66
    go_wp2
    go_ret2
    exact ⟨rfl, rfl⟩
  · have h2 : (L : Int) ≤ n := by omega
    clear hb
    go_enter Try.func66, Try.ntmps66
    go_wp2
    go_ret2
    exact ⟨rfl, rfl⟩
set_option maxRecDepth 100000 in
set_option maxHeartbeats 2000000 in
theorem refRead3_in {w : World} {g : Nat} {D : Dk.Disk} {vs vn vw : Value} (h : RdAt w g D vs vn vw) (n : Nat) (hn : n < D.seen.length) :
    Calls Try.prog 66 #[.pointer (some ⟨g, 0, none⟩), .int .i64 (n : Nat)] w fun e w' => ∃ a l c r, e = .returned (.tuple #[.slice a l c, .int .i64 (r : Nat)]) ∧ Rd w' a (nums .u8 (Dk.bytesOf (Dk.at_ D.seen n))) ∧ (Dk.bytesOf (Dk.at_ D.seen n)).length = l ∧ r = Dk.errOf (Dk.at_ D.seen n) ∧ Touch No w w' ∧ l ≤ c := by
  obtain ⟨gn, c, hv, _, hgl, _, hcell⟩ := rows_at rsCells_length h.seen rfl (Dk.at_get hn) (by decide)
  have k1 : w.cell? ⟨g, 1, none⟩ = some (.slice (some ⟨gn, 0, none⟩) D.seen.length c) := by have := h.row.cell 1; rw [← hv]; exact this
  have hok := h.ok.seen _ (Dk.at_mem hn)
  have c0 : w.cell? ⟨gn, n * 2, none⟩ = some (.string (str (Dk.at_ D.seen n).b)) := hcell 0 (by decide)
  have c1 : w.cell? ⟨gn, n * 2 + 1, none⟩ = some (.bool ((Dk.at_ D.seen n).bad == 1)) := hcell 1 (by decide)
  have hn1 : (n : Int) < D.seen.length := by omega
  have hn0 : ¬ (n : Int) < 0 := by omega
  have htop := h.ok.top
  have htop' : (D.seen.length : Int) ≤ 16384 := by omega
  obtain ⟨S, hS⟩ : ∃ S, Dk.at_ D.seen n = S := ⟨_, rfl⟩
  obtain ⟨L, hL⟩ : ∃ L, D.seen.length = L := ⟨_, rfl⟩
  rw [hS] at c0 c1 hok ⊢
  rw [hL] at k1 hn1 htop'
  have hlt := hok.b.lt
  have hlen := hok.b.len
  clear h hcell hS hL hv htop hn hgl
  by_cases hb : S.bad = 1
  · rw [Dk.bytesOf, Dk.errOf, if_pos hb, if_pos hb]
    rw [hb] at c1
    have c1' : w.cell? ⟨gn, n * 2 + 1, none⟩ = some (.bool true) := c1
    clear c1 hb hok c0
    go_enter Try.func66, Try.ntmps66
    go_wp2
    go_ret2
    exact ⟨none, 0, 0, 12, rfl, Rd.nil _ _, rfl, rfl, Touch.refl _ _, Nat.le_refl _⟩
  · rw [Dk.bytesOf, Dk.errOf, if_neg hb, if_neg hb]
    have hb0 : (S.bad == 1) = false := by simpa using hb
    rw [hb0] at c1
    obtain ⟨B, hB⟩ : ∃ B, str S.b = B := ⟨_, rfl⟩
    obtain ⟨cc, w1, hcv, t1, r1, hcc⟩ := conv_bytes w S.b hlt 64 hlen
    have Hcc := Lib.hid hcc
    clear hcc
    rw [hB] at hcv c0
    have T1 := Lib.hid t1
    have R1 := Lib.hid r1
    have Hlen := Lib.hid hlen
    clear t1 r1 hB hlt hb hb0 hok hlen
    go_enter Try.func66, Try.ntmps66
    go_wp2
    go_ret2
    exact ⟨_, 64, cc, 0, rfl, R1.out, Hlen.out, rfl, T1.out, Hcc.out⟩
set_option maxRecDepth 100000 in
set_option maxHeartbeats 2000000 in
theorem refSync3_any (w : World) (g : Nat) (D : Dk.Disk) (A : Nat → Prop) (h : Al w [Part.rdisk g D] A) :
    Calls Try.prog 45 #[.pointer (some ⟨g, 0, none⟩)] w fun e w' => e = .returned (.int .i64 0) ∧ TurnsL w A [Part.rdisk g (Dk.sync D)] w' := by
  obtain ⟨I, z, hI⟩ := rsec_is
  obtain ⟨vs, vn, vw, hR, hA⟩ := al_rdisk h
  have HI := Lib.hid hI
  have HR := Lib.hid hR
  have HA := Lib.hid hA
  have htop := hR.ok.top
  have hpos := hR.ok.pos
  obtain ⟨an, cn, hvn, hcn, _⟩ := rowSlice hR.seen
  have k1 : w.cell? ⟨g, 1, none⟩ = some (.slice an D.seen.length cn) := by have := hR.row.cell 1; rw [← hvn]; exact this
  have hown := hR.seen
  rw [hvn] at hown
  obtain ⟨L, hL⟩ : ∃ L, D.seen.length = L := ⟨_, rfl⟩
  rw [hL] at k1 hown htop hpos
  have HO := Lib.hid hown
  have HL := Lib.hid hL
  clear hI hR hA h hvn hcn hown hL
  go_enter Try.func45, Try.ntmps45
  go_wp2_with (at_builtin; refine wpList_copy_rows rfl _ _ 77 rfl 83 I z 2 24 Try.underlying77 HI.out.info HI.out.zero HI.out.size HI.out.bytes (by rw [HI.out.cells]; rfl) (by decide) _ L _ rfl HO.out rfl hpos (rsCells_one _) (by unfold maxLen; omega) (by omega) ?_; intro a' c' w' hown' ht'; have q0 := ht'.cell id (HR.out.row.cell 0 : w.cell? ⟨g, 0, none⟩ = some vs); have f0 := (ht'.frozen HR.out.row.lt id 0).trans (HR.out.row.soft 0); have q2 := ht'.cell id (HR.out.row.cell 2 : w.cell? ⟨g, 2, none⟩ = some vw); have f2 := (ht'.frozen HR.out.row.lt id 2).trans (HR.out.row.soft 2))
  have FIN : Hid (TurnsL w A [Part.rdisk g (Dk.sync D)] ((w'.setCell ⟨g, 0, none⟩ (.slice a' L c')).setCell ⟨g, 2, none⟩ (.slice none 0 0))) := by
    have h0 := HR.out
    have t2 : Touch (One g) w' ((w'.setCell ⟨g, 0, none⟩ (.slice a' L c')).setCell ⟨g, 2, none⟩ (.slice none 0 0)) := ((Touch.refl (One g) w').setCell (p := ⟨g, 0, none⟩) (fun _ => rfl) _).setCell (p := ⟨g, 2, none⟩) (fun _ => rfl) _
    have hlow : ∀ k, InBlock (.slice a' L c') k → w.heap.size ≤ k := fun k hk => (rowBlock hown' hk).1
    refine RdAt.turn (vs' := .slice a' L c') (vn' := vn) (vw' := nilSl) HA.out ⟨Dk.sync_ok h0.ok, ((h0.row.touch ht' id).setCell 0 _).setCell 2 _, ?_, rowTouch (rowTouch h0.seen ht' (fun _ _ f => f)) t2 (fun k hk e => h0.n0 (by rw [← show k = g from e]; exact hk)), ⟨rfl, Or.inl ⟨rfl, rfl⟩⟩, fun hk => ?_, h0.n0, (fun hk => by cases hk), fun k hk hk2 => ?_, (fun k _ hk => by cases hk), (fun k _ hk => by cases hk)⟩ ((ht'.mono (fun _ _ f => f.elim)).then t2 (fun k _ e => Or.inl e)) (fun k hk => ?_)
    · show World.ownsRow _ 0 _ 2 _ D.seen.length _
      rw [HL.out]
      exact rowTouch (rows_new hown') t2 (fun k hk e => by have := hlow k hk; have h2 := h0.row.lt; rw [show k = g from e] at this; omega)
    · have := hlow g hk; have := h0.row.lt; omega
    · have := hlow k hk; have := (rowBlock h0.seen hk2).2; omega
    · rcases hk with rfl | hk | hk | hk
      · exact Or.inl (Or.inl rfl)
      · exact Or.inr (hlow k hk)
      · exact Or.inl (Or.inr (Or.inr (Or.inl hk)))
      · cases hk
  clear hown' ht'
  go_wp2
  go_ret
  exact ⟨rfl, FIN.out⟩
end Go.Proofs.Ytkiehoboeiengaa
