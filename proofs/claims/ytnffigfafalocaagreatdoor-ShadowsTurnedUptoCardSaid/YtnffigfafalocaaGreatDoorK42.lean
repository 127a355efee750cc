/-
  A store is opened: a new one.
  Package shadows by its own text: rows of a table.
-/
import Derived.Test.YtnffigfafalocaaGreatDoorK41
import Derived.Test.YtnffigfafalocaaGreatDoorK22
namespace Go.Proofs.YtnffigfafalocaaGreatDoor
open Go Go.RowKit Go.Maps
set_option linter.unusedSimpArgs false
set_option linter.unusedVariables false

section
variable {w0 w w' : World} {s d f : Nat} {D : Dk.Disk} {m : Sm} {E : List Part}
theorem Dd.firstFree {w1 : World} {f' : Nat} {a b : Nat} {S' : Nat → Bool} (h : Dd w0 w d D (Part.sto s (some ⟨d, 0, none⟩) none false m :: E)) (hb : Born w (Part.map f' a b S') w1) : Dd w0 (w1.setCell ⟨s, 5, none⟩ (.pointer (some ⟨f', 0, none⟩))) d D (Part.sto s (some ⟨d, 0, none⟩) (some ⟨f', 0, none⟩) false m :: Part.map f' a b S' :: E) := by
  have h1 : Dd w0 w1 d D (Part.sto s (some ⟨d, 0, none⟩) none false m :: Part.map f' a b S' :: E) := Dd.perm (Dd.push h hb) (List.Perm.swap _ _ _)
  obtain ⟨nb, bk, ta, tc, L, h2, h3, hx, h4, h5, h6⟩ := Dd.stoX h1
  obtain ⟨h7, t⟩ := h2.setFree (some ⟨f', 0, none⟩)
  exact h6 _ _ _ false _ [] nb bk ta tc L h7 h3 (fun x hx => by cases hx) (t.mono (fun k _ e => Or.inl e)) (fun k hk => Or.inl hk)
set_option maxRecDepth 100000 in
set_option maxHeartbeats 4000000 in
theorem shReads_new (h : Dd w0 w d D (Part.sto s (some ⟨d, 0, none⟩) none false m :: E)) (lo : 32 ≤ D.seen.length) (hi : D.seen.length ≤ 16384) (hn : Rt.findE D = 7) :
    Calls Tryz.prog 60 #[.pointer (some ⟨s, 0, none⟩)] w fun e w' => e = .returned (.nilIface) ∧ ∃ f, Dd w0 w' d D (Part.sto s (some ⟨d, 0, none⟩) (some ⟨f, 0, none⟩) false m :: Part.map f 1 (1 + Sh.many D) (upTo 1 (1 + Sh.many D)) :: E) := by
  have H := Lib.hid h
  have Hlo := Lib.hid lo
  have Hn := Lib.hid hn
  have HMany : Hid (Sh.many D ≤ 4095) := Sh.many_le hi
  obtain ⟨nb, bk, ta, tc, L, h2, _⟩ := Dd.stoX h
  have k0 : w.cell? ⟨s, 0, none⟩ = some (.pointer (some ⟨d, 0, none⟩)) := h2.row.cell 0
  have HR : Hid (Row w s 106 [.pointer (some ⟨d, 0, none⟩), .int .u32 (m.epoch : Nat), .map nb, .map (some bk), .slice ta m.table.length tc, .pointer none]) := h2.row
  have C1 : Hid (Calls Tryz.prog 152 #[.pointer (some ⟨s, 0, none⟩)] w fun e w' => e = .returned (.int .i64 (Sh.many D : Nat)) ∧ w = w') := by
    obtain ⟨O, hO⟩ := h.disk
    exact shPages_at w s d D O hO lo k0
  clear h lo hi hn h2
  go_enter Tryz.func60, Tryz.ntmps60
  go_wp2_with fail
  refine C1.out.mono ?_
  rintro e w' ⟨rfl, rfl⟩
  go_wp2_with fail
  refine (new_ok w 1 (Sh.many D) (by have := HMany.out; omega)).mono ?_
  rintro e w2 ⟨f1, rfl, hf1, t2, m2⟩
  have B2 := Lib.hid (born_map hf1 t2 m2)
  have k5 : w2.cell? ⟨s, 5, none⟩ = some (.pointer none) := (HR.out.touch t2 (fun f => f)).cell 5
  have g5 : w2.frozen? ⟨s, 5, none⟩ = false := (HR.out.touch t2 (fun f => f)).soft 5
  clear hf1 t2 m2 C1 k0
  go_upto_region 2 with fail
  obtain ⟨w3, hw3⟩ : ∃ w3, w3 = w2.setCell ⟨s, 5, none⟩ (.pointer (some ⟨f1, 0, none⟩)) := ⟨_, rfl⟩
  have S3 : Hid (Dd w0 w3 d D (Part.sto s (some ⟨d, 0, none⟩) (some ⟨f1, 0, none⟩) false m :: Part.map f1 1 (1 + Sh.many D) (upTo 1 (1 + Sh.many D)) :: E)) := by
    show Dd _ _ _ _ _
    rw [hw3]
    exact H.out.firstFree B2.out
  have k0 : w3.cell? ⟨s, 0, none⟩ = some (.pointer (some ⟨d, 0, none⟩)) := by
    obtain ⟨nb, bk, ta, tc, L, h2, _⟩ := Dd.stoX S3.out
    exact h2.row.cell 0
  rw [← hw3]
  have CR : Hid (Calls Tryz.prog 158 #[.pointer (some ⟨d, 0, none⟩)] w3 (RootPost w3 (Rt.findR D) 7)) := by
    have := S3.out.rootRead
    rwa [Hn.out] at this
  clear hw3 B2 H k5 g5 HR
  go_wp2_with fail
  refine CR.out.mono ?_
  rintro e w4 ⟨rfl, t4⟩
  have S4 : Hid (Dd w0 w4 d D (Part.sto s (some ⟨d, 0, none⟩) (some ⟨f1, 0, none⟩) false m :: Part.map f1 1 (1 + Sh.many D) (upTo 1 (1 + Sh.many D)) :: E)) := S3.out.no t4
  clear S3 t4 CR k0
  go_wp2
  go_ret
  exact ⟨rfl, f1, S4.out.no ((Touch.refl No _).alloc _)⟩
/-- what a store leads to before it was read -/
theorem born_sto (w : World) (d : Nat) : Born w (Part.sto (w.heap.size + 1) (some ⟨d, 0, none⟩) none false ⟨0, [], 0, [], []⟩) ((w.alloc (.map #[] 0)).alloc (.cells #[.pointer (some ⟨d, 0, none⟩), .int .u32 0, .map none, .map (some w.heap.size), .slice none 0 0, .pointer none] 106)) := by
  have hs1 : (w.alloc (.map #[] 0)).heap.size = w.heap.size + 1 := by simp
  have t1 : Touch No w (w.alloc (.map #[] 0)) := (Touch.refl No w).alloc _
  have t2 : Touch No (w.alloc (.map #[] 0)) ((w.alloc (.map #[] 0)).alloc (.cells #[.pointer (some ⟨d, 0, none⟩), .int .u32 0, .map none, .map (some w.heap.size), .slice none 0 0, .pointer none] 106)) := (Touch.refl No _).alloc _
  refine ⟨t1.trans t2, stoO (w.heap.size + 1) none w.heap.size (fun _ => False), ⟨none, w.heap.size, none, 0, fun _ => False, ⟨?_, fun b e => (by cases e), ?_, ⟨Nat.le_refl _, Nat.zero_le _, Rd.nil _ _, fun g o e => by cases e⟩, fun f => f, fun f => f, by omega, fun k f => f.elim⟩, rfl, (fun x hx => by cases hx), fun k => Iff.rfl⟩, ?_⟩
  · have := Row.new (w.alloc (.map #[] 0)) 106 #[.pointer (some ⟨d, 0, none⟩), .int .u32 0, .map none, .map (some w.heap.size), .slice none 0 0, .pointer none]
    rw [hs1] at this
    exact this
  · have h0 : MapAtT (w.alloc (.map #[] 0)) (fun _ => False) w.heap.size 5000 [] := ⟨0, .map [], by decide, World.ownsMap_made (H := Value) w Tryz.prog 38 asHeld, MapT.nil _ _⟩
    exact h0.touch t2 (fun f => f) (fun _ f => f.elim) (fun _ h => h)
  · rintro k (rfl | e | rfl | f)
    · omega
    · cases e
    · exact Nat.le_refl _
    · exact f.elim
theorem shOpen_nil (w : World) : Calls Tryz.prog 11 #[.pointer none] w fun e w' => e = .returned (.tuple #[.pointer none, .int .i64 2]) ∧ w = w' := by
  go_enter Tryz.func11, Tryz.ntmps11
  go_wp2_with fail
  refine (len_nil w).mono ?_
  rintro e w' ⟨rfl, rfl⟩
  go_wp2
  go_ret2
  exact ⟨rfl, rfl⟩
set_option maxRecDepth 100000 in
theorem shCommit_nil (w : World) : Calls Tryz.prog 9 #[.pointer none] w fun e w' => e = .returned (.int .i64 2) ∧ w = w' := by
  go_enter Tryz.func9, Tryz.ntmps9
  go_wp2_with fail
  refine (shThere_nil w).mono ?_
  rintro e w' ⟨rfl, rfl⟩
  go_wp2
  go_ret
  exact ⟨rfl, rfl⟩
theorem errAs_nil (w : World) (v : Value) : Calls Tryz.prog 59 #[.nilIface, v] w fun e w' => e = .returned (.bool false) ∧ w = w' := by
  go_enter Tryz.func59, Tryz.ntmps59
  go_wp2
  go_ret
  exact ⟨rfl, rfl⟩
set_option maxRecDepth 100000 in
set_option maxHeartbeats 4000000 in
/-- a store is opened, of which reads tells no fault -/
theorem shOpen_ok (h : Dd w0 w d D E) (lo : 32 ≤ D.seen.length) (hi : D.seen.length ≤ 16384) (T : Sh.Sto) (hu : Mp.Up T.kept) (hlt : ∀ p ∈ T.kept, p.1 < 4294967296) (hl : T.kept.length ≤ 64)
    (HR : ∀ w2 s2 E2, Dd w0 w2 d D (Part.sto s2 (some ⟨d, 0, none⟩) none false ⟨0, [], 0, [], []⟩ :: E2) → Calls Tryz.prog 60 #[.pointer (some ⟨s2, 0, none⟩)] w2 fun e w' => e = .returned (.nilIface) ∧ ∃ f, Sg false w0 w' s2 d f T E2) :
    Calls Tryz.prog 11 #[.pointer (some ⟨d, 0, none⟩)] w fun e w' => ∃ s f, e = .returned (.tuple #[.pointer (some ⟨s, 0, none⟩), .int .i64 0]) ∧ Sg true w0 w' s d f { T with now := T.kept, puts := 64 } E := by
  have hmm := @run_makeMap Tryz.prog
  have H := Lib.hid h
  have HRR := Lib.hid HR
  have HK := Lib.hid (And.intro hu (And.intro hlt hl))
  have CL : Hid (Calls Tryz.prog 58 #[.pointer (some ⟨d, 0, none⟩)] w fun e w' => e = .returned (.int .i64 (D.seen.length : Nat)) ∧ w = w') := h.len
  obtain ⟨n, hn⟩ : ∃ n, D.seen.length = n := ⟨_, rfl⟩
  rw [hn] at CL lo hi
  have hn0 : ¬ (n : Int) = 0 := by omega
  have hn32 : ¬ (n : Int) < 32 := by omega
  clear h HR hu hlt hl hn
  go_enter Tryz.func11, Tryz.ntmps11
  go_wp2_with fail
  refine CL.out.mono ?_
  rintro e w' ⟨rfl, rfl⟩
  go_wp2_with fail
  obtain ⟨w1, hw1⟩ : ∃ w1, w1 = (w.alloc (.map #[] 0)).alloc (.cells #[.pointer (some ⟨d, 0, none⟩), .int .u32 0, .map none, .map (some w.heap.size), .slice none 0 0, .pointer none] 106) := ⟨_, rfl⟩
  obtain ⟨s, hs⟩ : ∃ s, s = w.heap.size + 1 := ⟨_, rfl⟩
  have S1 : Hid (Dd w0 w1 d D (Part.sto s (some ⟨d, 0, none⟩) none false ⟨0, [], 0, [], []⟩ :: E)) := by
    show Dd _ _ _ _ _
    rw [hw1, hs]
    exact Dd.push H.out (born_sto w d)
  obtain ⟨w2, hw2⟩ : ∃ w2, w2 = w1.alloc (.cells #[.pointer none] 134) := ⟨_, rfl⟩
  have S2 : Hid (Dd w0 w2 d D (Part.sto s (some ⟨d, 0, none⟩) none false ⟨0, [], 0, [], []⟩ :: E)) := by
    show Dd _ _ _ _ _
    rw [hw2]
    exact Dd.no S1.out ((Touch.refl No w1).alloc _)
  have CR := Lib.hid (HRR.out w2 s E S2.out)
  rw [← hw1, ← hw2, ← hs]
  clear hw1 hw2 hs S1 S2 H HRR CL hmm
  refine CR.out.mono ?_
  rintro e w3 ⟨rfl, f, s3⟩
  have S3 := Lib.hid s3
  clear s3 CR
  go_wp2_with fail
  refine (errAs_nil _ _).mono ?_
  rintro e w' ⟨rfl, rfl⟩
  obtain ⟨bk, k3, C4⟩ := S3.out.cloneKept HK.out.1 HK.out.2.1 HK.out.2.2
  have C4H := Lib.hid C4
  clear C4 S3
  go_wp2_with fail
  refine C4H.out.mono ?_
  rintro e w4 ⟨rfl, ⟨v, k2⟩, g2, s4⟩
  have S4 := Lib.hid s4
  clear s4 C4H
  go_wp2
  go_ret2
  exact ⟨s, f, rfl, S4.out⟩
/-- a disk without a root -/
theorem shOpen_new (h : Dd w0 w d D E) (lo : 32 ≤ D.seen.length) (hi : D.seen.length ≤ 16384) (hn : Rt.findE D = 7) :
    Calls Tryz.prog 11 #[.pointer (some ⟨d, 0, none⟩)] w fun e w' => ∃ s f, e = .returned (.tuple #[.pointer (some ⟨s, 0, none⟩), .int .i64 0]) ∧ Sg true w0 w' s d f ⟨D, upTo 1 (1 + Sh.many D), 0, [], [], [], 64⟩ E :=
  shOpen_ok h lo hi ⟨D, upTo 1 (1 + Sh.many D), 0, [], [], [], 0⟩ List.Pairwise.nil (fun p hp => by cases hp) (Nat.zero_le _) (fun w2 s2 E2 h2 => shReads_new h2 lo hi hn)
end
namespace Sh
def newS (D : Dk.Disk) : Sto := ⟨D, upTo 1 (1 + many D), 0, [], [], [], 64⟩
theorem newS_settle (D : Dk.Disk) : newS D = settle D 0 [] [] := by
  unfold newS settle
  rw [← rest_start, Fr.sub_nil]
  rfl
theorem newS_ok {D : Dk.Disk} (lo : 32 ≤ D.seen.length) (hi : D.seen.length ≤ 16384) : Ok (newS D) := by
  rw [newS_settle]
  exact Fit.ok ⟨lo, hi, by decide, List.Pairwise.nil, by decide, (fun p hp => by cases hp), (fun p hp => by cases hp), List.nodup_nil, by decide, (fun p hp => by cases hp), (fun p hp => by cases hp), fun p hp => by cases hp⟩
end Sh
end Go.Proofs.YtnffigfafalocaaGreatDoor
namespace Go.Proofs.YtnffigfafalocaaGreatDoor
open Go Go.RowKit Go.Maps
set_option linter.unusedSimpArgs false
set_option linter.unusedVariables false
namespace Sh
/-- what rows tell: the free pages, and the things -/
def rowsP (ep : Nat) (b : List Nat) (last : Int) (S : Nat → Bool) (k : List (Nat × Th)) : Option ((Nat → Bool) × List (Nat × Th)) :=
  if b.length = 0 then some (S, k) else if h12 : b.length < 12 then none
  else if 65536 < Rt.unfour (b.drop 4) ∨ ep < Rt.unfour (b.drop 8) ∨ (Rt.unfour b : Int) ≤ last then none
  else if (b.drop 12).length / 4 < Ex.pages (Rt.unfour (b.drop 4)) then none
  else if marks S (nums (b.drop 12) (Ex.pages (Rt.unfour (b.drop 4)))) = true then
    rowsP ep (b.drop (12 + 4 * Ex.pages (Rt.unfour (b.drop 4)))) (Rt.unfour b) (Fr.sub S (nums (b.drop 12) (Ex.pages (Rt.unfour (b.drop 4))))) (Mp.put k (Rt.unfour b) ⟨Rt.unfour (b.drop 4), Rt.unfour (b.drop 8), nums (b.drop 12) (Ex.pages (Rt.unfour (b.drop 4))), false⟩)
  else none
termination_by b.length
decreasing_by rw [List.length_drop]; omega
theorem nums3 {b : List Nat} : nums b 3 = [Rt.unfour b, Rt.unfour (b.drop 4), Rt.unfour (b.drop 8)] := by simp [nums, List.range_succ]
end Sh
section
variable {u : Bool} {w0 w w' : World} {s d f : Nat} {T : Sh.Sto} {E : List Part}
/-- 's.kept[id] = ..', of a list that stands beside -/
theorem Sg.keepRow {x : Sh.Th} {a : Option Addr} {n c : Nat} (h : Sg u w0 w s d f T (Part.sl 38 a n c (nums .u32 x.pages) :: E)) (hu : Mp.Up T.kept) (hlt : ∀ p ∈ T.kept, p.1 < 4294967296) (hn : T.kept.length ≤ 2000) {id : Nat} (hid : id < 4294967296) :
    ∃ bk, w.cell? ⟨s, 3, none⟩ = some (.map (some bk)) ∧ ∃ w', (Instr.mapUpdate 99 (.map (some bk)) (.int .u32 (id : Nat)) (thV x a c)).run Tryz.prog w = .ok () w' ∧ Sg u w0 w' s d f { T with kept := Mp.put T.kept id x } E := by
  have h1 := Dd.stoList (Dd.perm h ((List.Perm.swap _ _ _).cons _))
  obtain ⟨nb, bk, ta, tc, L, h2, h3, hx, h4, h5, h6⟩ := Dd.stoX h1
  obtain ⟨w', hrun, hin, t, _⟩ := h2.putKept (h2.kept.tight hu hlt hn) (by decide) hid (x := x) ⟨a, c, rfl, hx _ List.mem_cons_self⟩
  exact ⟨bk, h2.row.cell 3, w', hrun, h6 w' _ _ u _ [] nb bk ta tc L hin h3 (fun x hx => by cases hx) (t.mono (fun k _ e => Or.inr (Or.inr (Or.inl e)))) (fun k hk => Or.inl hk)⟩
theorem Sg.keptC (h : Sg u w0 w s d f T E) (hu : Mp.Up T.kept) (hlt : ∀ p ∈ T.kept, p.1 < 4294967296) : ∃ bk D cnt, w.cell? ⟨s, 3, none⟩ = some (.map (some bk)) ∧ w.ownsMap Tryz.prog 38 asHeld bk cnt D ∧ Maps.size D = T.kept.length := by
  obtain ⟨nb, bk, ta, tc, L, h2⟩ := h.stoIn
  obtain ⟨cnt, D, hc, ho, hM⟩ := h2.kept
  exact ⟨bk, D, cnt, h2.row.cell 3, ho, sh_size ho hM hu hlt⟩
/-- where bytes stand for good -/
def Stands (u : Bool) (w0 : World) (s d f : Nat) (E : List Part) (a : Option Addr) (vs : List Value) : Prop := ∀ w' T', Sg u w0 w' s d f T' E → Rd w' a vs
def RowsPost (u : Bool) (w0 : World) (s d f : Nat) (T : Sh.Sto) (E : List Part) (r : Option ((Nat → Bool) × List (Nat × Sh.Th))) (e : Ending) (w' : World) : Prop :=
  (∃ S k, r = some (S, k) ∧ k.length ≤ 64 ∧ e = .returned .nilIface ∧ Sg u w0 w' s d f { T with S := S, kept := k } E) ∨
  ((∀ S k, r = some (S, k) → 64 < k.length) ∧ ∃ b S' k' st, e = .returned (faultV b) ∧ Sg u w0 w' s d f { T with S := S', kept := k' } (Part.row b 141 [.string st, .int .i64 4] :: E))
set_option maxRecDepth 100000 in
set_option maxHeartbeats 16000000 in
theorem shRows_any (h : Sg u w0 w s d f T E) (a : Option Addr) (n c : Nat) (bs : List Nat) (hb : bs.length = n) (hn : n ≤ 14400) (hnc : n ≤ c) (hc : (c : Int) ≤ 1000000000000) (hr : Stands u w0 s d f E a (nums .u8 bs)) (hlt : ∀ x ∈ bs, x < 256) (hep : T.epoch < 4294967296) (hk0 : T.kept = []) :
    Calls Tryz.prog 161 #[.pointer (some ⟨s, 0, none⟩), .slice a n c] w (RowsPost u w0 s d f T E (Sh.rowsP T.epoch bs (-1) T.S [])) := by
  have H := Lib.hid h
  have HB := Lib.hid hb
  have HN := Lib.hid hn
  have HNC := Lib.hid hnc
  have HC := Lib.hid hc
  have HR := Lib.hid hr
  have HLT := Lib.hid hlt
  have HEP := Lib.hid hep
  obtain ⟨R, hRr⟩ : ∃ R, Sh.rowsP T.epoch bs (-1) T.S [] = R := ⟨_, rfl⟩
  rw [hRr]
  have HRr := Lib.hid hRr
  have HK0 := Lib.hid hk0
  clear h hb hn hnc hc hr hlt hep hRr hk0
  go_enter Tryz.func161, Tryz.ntmps161
  go_wp2
  go_loopg [1, 5] n (fun g s1 s5 wr => ∃ (b : List Nat) (a' : Option Addr) (p q : Nat) (last : Int) (S : Nat → Bool) (k : List (Nat × Sh.Th)), s1 = .slice a' p q ∧ s5 = .int .i64 last ∧ p ≤ g ∧ Hid (b.length = p) ∧ Hid (p ≤ q ∧ q ≤ c) ∧ -1 ≤ last ∧ last < 4294967296 ∧ Hid (∀ W, Rd W a (nums .u8 bs) → Rd W a' (nums .u8 b)) ∧ Hid (∀ x ∈ b, x < 256) ∧ Hid (Sh.rowsP T.epoch b last S k = R) ∧ Hid (Mp.Up k ∧ (∀ p ∈ k, p.1 < 4294967296) ∧ 12 * k.length + p ≤ 14400) ∧ Hid (Sg u w0 wr s d f { T with S := S, kept := k } E))
  case atStart => exact ⟨bs, a, n, c, -1, T.S, [], rfl, rfl, Nat.le_refl _, HB.out, ⟨HNC.out, Nat.le_refl _⟩, by decide, by decide, fun W h => h, HLT.out, HRr.out, ⟨List.Pairwise.nil, (fun p hp => by cases hp), by have := HN.out; simpa using this⟩, by
    have := H.out
    obtain ⟨D, S, ep, now, kept, table, puts⟩ := T
    have e : kept = [] := HK0.out
    subst e
    exact this⟩
  case round =>
    clear H
    obtain ⟨b, a', p, q, last, S, k, rfl, rfl, hpg, Hbp, Hpq, hl1, hl2, HRd, HBl, HP, HK, HS⟩ := hrel
    by_cases hp0 : p = 0
    · subst hp0
      have hR0 : R = some (S, k) := by
        have := HP.out
        rw [Sh.rowsP, if_pos Hbp.out] at this
        exact this.symm
      have HR0 := Lib.hid hR0
      obtain ⟨bk, D, cnt, k3, hown, hsz⟩ := HS.out.keptC HK.out.1 HK.out.2.1
      have hlen : (Builtin.len_ #[99] 3 #[.map (some bk)]).run Tryz.prog wr = .ok (.int .i64 (k.length : Nat)) wr := by
        obtain ⟨nb, bk', ta, tc, L, h2⟩ := HS.out.stoIn
        have e : bk' = bk := by
          have := h2.row.cell 3
          rw [k3] at this
          simpa using this.symm
        subst e
        exact sh_len h2.kept HK.out.1 HK.out.2.1 _
      obtain ⟨kl, hkl⟩ : ∃ kl, k.length = kl := ⟨_, rfl⟩
      rw [hkl] at hlen
      have Hkl := Lib.hid hkl
      clear hR0 hown hsz hkl HP HRd HBl
      by_cases h64 : (64 : Int) < (kl : Nat)
      · go_wp2
        go_ret
        exact Or.inr ⟨(fun S' k' e => by rw [HR0.out] at e; injection e with e; injection e with _ e; rw [← e, Hkl.out]; omega), _, _, _, _, rfl, HS.out.push (Born.row _ _ _)⟩
      · go_wp2
        go_ret
        exact Or.inl ⟨S, k, HR0.out, by rw [Hkl.out]; omega, rfl, HS.out⟩
    · cases gk with
      | zero => exact absurd (Nat.le_zero.1 hpg) hp0
      | succ g =>
        have hp1 : (0 : Int) < (p : Nat) := by omega
        have Hp0 := Lib.hid hp0
        have hq12 : (q : Int) ≤ 1000000000000 := by have := Hpq.out; have := HC.out; omega
        have S1 : Hid (Sg u w0 (wr.alloc (.cells #[.int .i64 3] 3)) s d f { T with S := S, kept := k } E) := HS.out.no ((Touch.refl No wr).alloc _)
        have C1 := Lib.hid (shNumbers_most (wr.alloc (.cells #[.int .i64 3] 3)) a' p q b Hbp.out Hpq.out.1 hq12 (HRd.out _ (HR.out _ _ S1.out)) HBl.out 3 (by decide) wr.heap.size 0 (by rw [cell_new]; rfl))
        clear hp0
        go_wp2_with fail
        refine C1.out.mono ?_
        rintro e w1 ⟨al, cl, a1, p1, q1, rfl, hp1', hq1, own1, rd1, _, t1⟩
        have e14 : 12 * k.length + p ≤ 14400 := HK.out.2.2
        by_cases h12 : p < 12
        · have hm : min 3 (b.length / 4) < 3 := by rw [Hbp.out]; omega
          obtain ⟨mm, hmm⟩ : ∃ mm, min 3 (b.length / 4) = mm := ⟨_, rfl⟩
          rw [hmm] at hm
          have hm3 : (mm : Int) < 3 := by omega
          have hR0 : R = none := by
            have := HP.out
            rw [Sh.rowsP, if_neg (by rw [Hbp.out]; exact Hp0.out), dif_pos (by rw [Hbp.out]; exact h12)] at this
            exact this.symm
          have HR0 := Lib.hid hR0
          have S2 : Hid (Sg u w0 w1 s d f { T with S := S, kept := k } E) := S1.out.no t1
          rw [hmm]
          clear own1 rd1 t1 C1 S1 HS hmm hm hR0
          go_wp2_with fail
          go_quiet (fail)
          go_wp2
          go_ret
          exact Or.inr ⟨(fun S' k' e => by rw [HR0.out] at e; cases e), _, _, _, _, rfl, (S2.out.no ((Touch.refl No w1).drewN _)).push (Born.row _ _ _)⟩
        · have hm : min 3 (b.length / 4) = 3 := by rw [Hbp.out]; omega
          rw [hm] at own1 rd1 hp1' hq1 ⊢
          rw [Sh.nums3] at own1
          obtain ⟨h0, hh0⟩ : ∃ x, Rt.unfour b = x := ⟨_, rfl⟩
          obtain ⟨h1, hh1⟩ : ∃ x, Rt.unfour (b.drop 4) = x := ⟨_, rfl⟩
          obtain ⟨h2, hh2⟩ : ∃ x, Rt.unfour (b.drop 8) = x := ⟨_, rfl⟩
          obtain ⟨N, hN⟩ : ∃ N, Ex.pages h1 = N := ⟨_, rfl⟩
          have hRP := HP.out
          rw [Sh.rowsP, if_neg (by rw [Hbp.out]; exact Hp0.out), dif_neg (by rw [Hbp.out]; exact h12), hh0, hh1, hh2, hN] at hRP
          rw [hh0, hh1, hh2] at own1
          have b0 : h0 < 4294967296 := by rw [← hh0]; exact Rt.unfour_lt HBl.out
          have b1 : h1 < 4294967296 := by rw [← hh1]; exact Rt.unfour_lt (fun y hy => HBl.out y (List.mem_of_mem_drop hy))
          have b2 : h2 < 4294967296 := by rw [← hh2]; exact Rt.unfour_lt (fun y hy => HBl.out y (List.mem_of_mem_drop hy))
          obtain ⟨O1, hO1, hge1⟩ := own_sl own1
          have s2 : Sg u w0 w1 s d f { T with S := S, kept := k } (Part.sl 38 al 3 cl (nums .u32 [h0, h1, h2]) :: E) := Sg.push S1.out ⟨t1, O1, hO1, hge1⟩
          obtain ⟨gb, go, eal⟩ : ∃ gb go, al = some ⟨gb, go, none⟩ := by
            obtain ⟨gb, go, e, _⟩ := (s2.rd List.mem_cons_self).num (i := 0) (by show 0 < 3; decide)
            exact ⟨gb, go, e⟩
          subst eal
          have HH : Hid (∀ W T' E', Sg u w0 W s d f T' E' → Part.sl 38 (some ⟨gb, go, none⟩) 3 cl (nums .u32 [h0, h1, h2]) ∈ E' → W.cell? ⟨gb, go, none⟩ = some (.int .u32 (h0 : Nat)) ∧ W.cell? ⟨gb, go + 1, none⟩ = some (.int .u32 (h1 : Nat)) ∧ W.cell? ⟨gb, go + 2, none⟩ = some (.int .u32 (h2 : Nat))) := fun W T' E' h hm => by
            have hr := h.rd hm
            refine ⟨?_, ?_, ?_⟩
            · obtain ⟨x, y, e, hc⟩ := hr.num (i := 0) (by show 0 < 3; decide); cases e; exact hc
            · obtain ⟨x, y, e, hc⟩ := hr.num (i := 1) (by show 1 < 3; decide); cases e; exact hc
            · obtain ⟨x, y, e, hc⟩ := hr.num (i := 2) (by show 2 < 3; decide); cases e; exact hc
          obtain ⟨c0, c1, c2⟩ := HH.out _ _ _ s2 List.mem_cons_self
          have c3 : w1.cell? ⟨s, 1, none⟩ = some (.int .u32 (T.epoch : Nat)) := s2.c1
          have wr0 : IntKind.i64.wrap (h0 : Int) = (h0 : Int) := IntWalk.i64_in _ (by omega)
          have S2 := Lib.hid s2
          have HhN := Lib.hid hN
          have HRP := Lib.hid hRP
          have HR1 := Lib.hid rd1
          have HB0 := Lib.hid b0
          have HB1 := Lib.hid b1
          have HB2 := Lib.hid b2
          have Hh0 := Lib.hid hh0
          have Hh1 := Lib.hid hh1
          have Hh2 := Lib.hid hh2
          obtain ⟨ep, hepe⟩ : ∃ ep, T.epoch = ep := ⟨_, rfl⟩
          rw [hepe] at c3 HRP
          have Hepe := Lib.hid hepe
          clear own1 rd1 hO1 hge1 s2 hRP C1 S1 HS t1 hN b0 b1 b2 hh0 hh1 hh2 hm HP hepe
          by_cases hA : 65536 < h1
          · have hAi : (65536 : Int) < (h1 : Nat) := by omega
            have HR0 : Hid (R = none) := by
              have := HRP.out
              rw [if_pos (Or.inl hA)] at this
              exact this.symm
            clear HRP hA
            go_wp2_with fail
            go_quiet (fail)
            go_wp2
            go_ret
            exact Or.inr ⟨fun S' k' e => (by rw [HR0.out] at e; cases e), _, _, _, _, rfl, (S2.out.drop.no ((Touch.refl No w1).drewN _)).push (Born.row _ _ _)⟩
          · have hAi : ¬ (65536 : Int) < (h1 : Nat) := by omega
            by_cases hB : ep < h2
            · have hBi : (ep : Int) < (h2 : Nat) := by omega
              have HR0 : Hid (R = none) := by
                have := HRP.out
                rw [if_pos (Or.inr (Or.inl hB))] at this
                exact this.symm
              clear HRP hB hA
              go_wp2_with fail
              have dA : decide ((65536 : Int) < (h1 : Nat)) = false := decide_eq_false (by omega)
              go_quiet (fail)
              go_wp2
              go_ret
              exact Or.inr ⟨fun S' k' e => (by rw [HR0.out] at e; cases e), _, _, _, _, rfl, (S2.out.drop.no ((Touch.refl No w1).drewN _)).push (Born.row _ _ _)⟩
            · have hBi : ¬ (ep : Int) < (h2 : Nat) := by omega
              by_cases hC : (h0 : Int) ≤ last
              · have HR0 : Hid (R = none) := by
                  have := HRP.out
                  rw [if_pos (Or.inr (Or.inr hC))] at this
                  exact this.symm
                clear HRP hB hA
                go_wp2_with fail
                have dA : decide ((65536 : Int) < (h1 : Nat)) = false := decide_eq_false (by omega)
                have dB : decide ((ep : Int) < (h2 : Nat)) = false := decide_eq_false (by omega)
                have dB2 : decide (ep < h2) = false := decide_eq_false (by omega)
                have dC : decide ((h0 : Int) ≤ last) = true := decide_eq_true (by omega)
                have wr0 : IntKind.i64.wrap (h0 : Int) = (h0 : Int) := IntWalk.i64_in _ (by have := HB0.out; omega)
                go_quiet (fail)
                go_wp2
                go_ret
                exact Or.inr ⟨fun S' k' e => (by rw [HR0.out] at e; cases e), _, _, _, _, rfl, (S2.out.drop.no ((Touch.refl No w1).drewN _)).push (Born.row _ _ _)⟩
              · have hRP := HRP.out
                rw [if_neg (by rintro (h | h | h); exact hA h; exact hB h; exact hC h)] at hRP
                have HRP := Lib.hid hRP
                have h1le : h1 ≤ 65536 := by omega
                have hNle : N ≤ 274 := by rw [← HhN.out]; exact Sh.pages_max h1le
                clear hRP hA hB
                go_wp2_with fail
                have dA : decide ((65536 : Int) < (h1 : Nat)) = false := decide_eq_false (by omega)
                have dB : decide ((ep : Int) < (h2 : Nat)) = false := decide_eq_false (by omega)
                have dB2 : decide (ep < h2) = false := decide_eq_false (by omega)
                have dC : decide ((h0 : Int) ≤ last) = false := decide_eq_false (by omega)
                have wr0 : IntKind.i64.wrap (h0 : Int) = (h0 : Int) := IntWalk.i64_in _ (by have := HB0.out; omega)
                go_quiet (fail)
                have S3 : Hid (Sg u w0 (w1.drewN nq) s d f { T with S := S, kept := k } (Part.sl 38 (some ⟨gb, go, none⟩) 3 cl (nums .u32 [h0, h1, h2]) :: E)) := S2.out.no ((Touch.refl No w1).drewN nq)
                obtain ⟨c0, c1, c2⟩ := HH.out _ _ _ S3.out List.mem_cons_self
                have wr1 : IntKind.i64.wrap (h1 : Int) = (h1 : Int) := IntWalk.i64_in _ (by have := HB1.out; omega)
                have CP := Lib.hid (exPages_at (w1.drewN nq) (h1 : Nat) N (by have := HB1.out; omega) (by rw [Int.toNat_natCast]; exact HhN.out))
                clear S2
                go_wp2_with fail
                refine CP.out.mono ?_
                rintro e w' ⟨rfl, rfl⟩
                obtain ⟨w2, hw2⟩ : ∃ w2, w2 = w1.drewN nq := ⟨_, rfl⟩
                rw [← hw2] at S3 ⊢
                clear hw2 CP
                have S4 : Hid (Sg u w0 (w2.alloc (.cells #[.int .i64 (N : Nat)] 3)) s d f { T with S := S, kept := k } (Part.sl 38 (some ⟨gb, go, none⟩) 3 cl (nums .u32 [h0, h1, h2]) :: E)) := S3.out.no ((Touch.refl No w2).alloc _)
                have hpl : (b.drop 12).length = p1 := by rw [List.length_drop, Hbp.out]; omega
                have C4 := Lib.hid (shNumbers_most (w2.alloc (.cells #[.int .i64 (N : Nat)] 3)) a1 p1 q1 (b.drop 12) hpl (by have := Hpq.out; omega) (by omega) (HR1.out _ (HRd.out _ (HR.out _ _ S4.out.drop))) (fun y hy => HBl.out y (List.mem_of_mem_drop hy)) N (by omega) w2.heap.size 0 (by rw [cell_new]; rfl))
                have Hpl := Lib.hid hpl
                clear c0 c1 c2 wr0 wr1 dA dB dB2 dC hpl
                go_wp2_with fail
                refine C4.out.mono ?_
                rintro e w3 ⟨al2, cl2, a2, p2, q2, rfl, hp2, hq2, own2, rd2, _, t3⟩
                have hRP := HRP.out
                obtain ⟨l, hl⟩ : ∃ l, Sh.nums (b.drop 12) N = l := ⟨_, rfl⟩
                rw [Hpl.out, hl] at hRP
                by_cases hsh : p1 / 4 < N
                · have hm : min N ((b.drop 12).length / 4) = p1 / 4 := by rw [Hpl.out]; omega
                  have HR0 : Hid (R = none) := by
                    rw [if_pos hsh] at hRP
                    exact hRP.symm
                  have S5 : Hid (Sg u w0 w3 s d f { T with S := S, kept := k } E) := (S4.out.no t3).drop
                  have hshi : ((p1 / 4 : Nat) : Int) < (N : Nat) := by omega
                  rw [hm]
                  obtain ⟨m4, hm4⟩ : ∃ m4, p1 / 4 = m4 := ⟨_, rfl⟩
                  rw [hm4] at hshi ⊢
                  clear own2 rd2 t3 C4 S4 S3 hRP HRP hl hm hm4 hsh
                  go_wp2
                  go_ret
                  exact Or.inr ⟨fun S' k' e => (by rw [HR0.out] at e; cases e), _, _, _, _, rfl, S5.out.push (Born.row _ _ _)⟩
                · have hm : min N ((b.drop 12).length / 4) = N := by rw [Hpl.out]; omega
                  rw [hm] at own2 rd2 hp2 hq2 ⊢
                  rw [hl] at own2
                  rw [if_neg hsh] at hRP
                  have hll : l.length = N := by rw [← hl, Sh.nums_length]
                  have hlx : ∀ y ∈ l, y < 4294967296 := by rw [← hl]; exact Sh.nums_lt (fun y hy => HBl.out y (List.mem_of_mem_drop hy)) N
                  obtain ⟨O2, hO2, hge2⟩ := own_sl own2
                  have s5 : Sg u w0 w3 s d f { T with S := S, kept := k } (Part.sl 38 al2 N cl2 (nums .u32 l) :: Part.sl 38 (some ⟨gb, go, none⟩) 3 cl (nums .u32 [h0, h1, h2]) :: E) := Sg.push S4.out ⟨t3, O2, hO2, hge2⟩
                  have hoff : ∀ g o, al2 = some ⟨g, o, none⟩ → 0 < N → g ≠ f := fun g o e h0 => by
                    obtain ⟨C, hC, hf⟩ := s5.map.2.1 _ (List.mem_cons_of_mem _ (List.mem_cons_of_mem _ List.mem_cons_self))
                    obtain ⟨g', o', e', hg'⟩ := sl_off hC (fun e => by have := congrArg List.length e; rw [nums_length, hll] at this; simp at this; omega)
                    rw [e] at e'; cases e'
                    exact fun e2 => hf (by rw [← e2]; exact hg')
                  have CM := Lib.hid (shMarks_any s5 al2 N cl2 l hll (by omega) (s5.rd List.mem_cons_self) hoff hlx)
                  have hNl : (N : Int) ≤ (N : Nat) := Int.le_refl _
                  have HRP2 := Lib.hid hRP
                  have Hll := Lib.hid hll
                  have R2 := Lib.hid rd2
                  clear own2 hO2 hge2 t3 s5 hoff hlx hRP HRP C4 S4 S3 hm hsh rd2 hl hll
                  go_wp2_with fail
                  refine CM.out.mono ?_
                  rintro e w6 (⟨hmk, rfl, s6, _⟩ | ⟨hmk, bq, S', st, rfl, s6⟩)
                  · have hRP := HRP2.out
                    rw [if_pos hmk] at hRP
                    obtain ⟨c0, c1, c2⟩ := HH.out _ _ _ s6 (List.mem_cons_of_mem _ List.mem_cons_self)
                    obtain ⟨bk, k3, w7, hrun, s7⟩ := Sg.keepRow (x := ⟨h1, h2, l, false⟩) (s6.no (Touch.refl No w6).drew) HK.out.1 HK.out.2.1 (by have := e14; show k.length ≤ 2000; omega) HB0.out
                    have k3' : w6.cell? ⟨s, 3, none⟩ = some (.map (some bk)) := k3
                    unfold thV at hrun
                    dsimp only at hrun
                    rw [Hll.out] at hrun
                    obtain ⟨d0, d1, d2⟩ := HH.out _ _ _ s7 List.mem_cons_self
                    have wr0 : IntKind.i64.wrap (h0 : Int) = (h0 : Int) := IntWalk.i64_in _ (by have := HB0.out; omega)
                    have S7 : Hid (Sg u w0 w7 s d f { T with S := Fr.sub S l, kept := Mp.put k h0 ⟨h1, h2, l, false⟩ } E) := s7.drop
                    have HRP3 : Hid (Sh.rowsP T.epoch (b.drop (12 + 4 * N)) (h0 : Nat) (Fr.sub S l) (Mp.put k h0 ⟨h1, h2, l, false⟩) = R) := by show _ = _; rw [Hepe.out]; exact hRP
                    have Hlen : Hid ((b.drop (12 + 4 * N)).length = p2) := by show _ = _; rw [List.length_drop, Hbp.out]; omega
                    have HRd2 : Hid (∀ W, Rd W a (nums .u8 bs) → Rd W a2 (nums .u8 (b.drop (12 + 4 * N)))) := fun W hW => by
                      have := R2.out W (HR1.out W (HRd.out W hW))
                      rw [List.drop_drop] at this
                      exact this
                    have HK2 : Hid (Mp.Up (Mp.put k h0 (⟨h1, h2, l, false⟩ : Sh.Th)) ∧ (∀ p ∈ Mp.put k h0 (⟨h1, h2, l, false⟩ : Sh.Th), p.1 < 4294967296) ∧ 12 * (Mp.put k h0 (⟨h1, h2, l, false⟩ : Sh.Th)).length + p2 ≤ 14400) := by
                      refine ⟨Mp.up_put HK.out.1 _ _, fun y hy => ?_, ?_⟩
                      · rcases Mp.put_mem _ _ _ y hy with e | hy
                        · rw [e]; exact HB0.out
                        · exact HK.out.2.1 y hy
                      · have := Mp.put_length_le k h0 (⟨h1, h2, l, false⟩ : Sh.Th)
                        omega
                    have hb0 := HB0.out
                    clear s6 s7 hRP hmk CM HRP2 R2 HRd HR1 HK k3
                    go_wp2_with fail
                    go_still_tail 16, (by kernel_rfl)
                    go_wp2
                    go_roundg g
                    case measure => omega
                    case rel => exact ⟨b.drop (12 + 4 * N), a2, p2, q2, (h0 : Nat), Fr.sub S l, _, rfl, by go_num, by omega, Hlen.out, ⟨by have := Hpq.out; omega, by have := Hpq.out; omega⟩, by omega, by omega, HRd2.out, fun y hy => HBl.out y (List.mem_of_mem_drop hy), HRP3.out, HK2.out, S7.out⟩
                  · have HR0 : Hid (R = none) := by
                      have hRP := HRP2.out
                      rw [if_neg (by rw [show Sh.marks S l = false from hmk]; decide)] at hRP
                      exact hRP.symm
                    have S6 : Hid (Sg u w0 w6 s d f { T with S := S', kept := k } (Part.row bq 141 [.string st, .int .i64 4] :: E)) := by
                      have h1 := Sg.perm s6 (E' := Part.sl 38 al2 N cl2 (nums .u32 l) :: Part.sl 38 (some ⟨gb, go, none⟩) 3 cl (nums .u32 [h0, h1, h2]) :: Part.row bq 141 [.string st, .int .i64 4] :: E) ((List.Perm.swap _ _ _).trans ((List.Perm.swap _ _ _).cons _))
                      exact h1.drop.drop
                    clear s6 hmk CM HRP2 R2
                    unfold faultV
                    go_wp2
                    go_ret
                    exact Or.inr ⟨fun S' k' e => (by rw [HR0.out] at e; cases e), _, _, _, _, rfl, S6.out⟩
end
end Go.Proofs.YtnffigfafalocaaGreatDoor
