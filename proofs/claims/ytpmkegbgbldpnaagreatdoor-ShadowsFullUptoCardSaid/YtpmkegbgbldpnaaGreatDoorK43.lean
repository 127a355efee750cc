/-
  A store is opened: a new one.
  What a store's things hold: plain content. No program in sight.
  A store's root, and how many pages are free: plain. No program in sight.
-/
import Derived.Test.YtpmkegbgbldpnaaGreatDoorK42
namespace Go.Proofs.YtpmkegbgbldpnaaGreatDoor
open Go Go.RowKit Go.Maps
set_option linter.unusedSimpArgs false
set_option linter.unusedVariables false

section
variable {w0 w w' : World} {s d f : Nat} {D : Dk.Disk} {m : Sm} {E : List Part}
theorem Dd.firstFree {w1 : World} {f' : Nat} {a b : Nat} {S' : Nat → Bool} (h : Dd w0 w d D (Part.sto s (some ⟨d, 0, none⟩) none false m :: E)) (hb : Born w (Part.map f' a b S') w1) : Dd w0 (w1.setCell ⟨s, 5, none⟩ (.pointer (some ⟨f', 0, none⟩))) d D (Part.sto s (some ⟨d, 0, none⟩) (some ⟨f', 0, none⟩) false m :: Part.map f' a b S' :: E) := by
  have h1 : Dd w0 w1 d D (Part.sto s (some ⟨d, 0, none⟩) none false m :: Part.map f' a b S' :: E) := Dd.perm (Dd.push h hb) (List.Perm.swap _ _ _)
  obtain ⟨nb, bk, ta, tc, L, h2, h3, hx, h4, h5, h6⟩ := Dd.stoX h1
  obtain ⟨h7, t⟩ := h2.setFree (some ⟨f', 0, none⟩)
  exact h6 _ _ _ false _ [] nb bk ta tc L h7 h3 (fun x hx => by cases hx) (t.mono (fun k _ e => Or.inl e)) (fun k hk => Or.inl hk)
set_option maxRecDepth 100000 in
set_option maxHeartbeats 4000000 in
theorem shReads_new (h : Dd w0 w d D (Part.sto s (some ⟨d, 0, none⟩) none false m :: E)) (lo : 32 ≤ D.seen.length) (hi : D.seen.length ≤ 16384) (hn : Rt.findE D = 7) :
    Calls Tryz.prog 57 #[.pointer (some ⟨s, 0, none⟩)] w fun e w' => e = .returned (.nilIface) ∧ ∃ f, Dd w0 w' d D (Part.sto s (some ⟨d, 0, none⟩) (some ⟨f, 0, none⟩) false m :: Part.map f 1 (1 + Sh.many D) (upTo 1 (1 + Sh.many D)) :: E) := by
  have H := Lib.hid h
  have Hlo := Lib.hid lo
  have Hn := Lib.hid hn
  have HMany : Hid (Sh.many D ≤ 4095) := Sh.many_le hi
  obtain ⟨nb, bk, ta, tc, L, h2, _⟩ := Dd.stoX h
  have k0 : w.cell? ⟨s, 0, none⟩ = some (.pointer (some ⟨d, 0, none⟩)) := h2.row.cell 0
  have HR : Hid (Row w s 124 [.pointer (some ⟨d, 0, none⟩), .int .u32 (m.epoch : Nat), .map nb, .map (some bk), .slice ta m.table.length tc, .pointer none]) := h2.row
  have C1 : Hid (Calls Tryz.prog 148 #[.pointer (some ⟨s, 0, none⟩)] w fun e w' => e = .returned (.int .i64 (Sh.many D : Nat)) ∧ w = w') := by
    obtain ⟨O, hO⟩ := h.disk
    exact shPages_at w s d D O hO lo k0
  clear h lo hi hn h2
  go_enter Tryz.func57, Tryz.ntmps57
  go_wp2_with fail
  refine C1.out.mono ?_
  rintro e w' ⟨rfl, rfl⟩
  go_wp2_with fail
  refine (new_ok w 1 (Sh.many D) (by have := HMany.out; omega)).mono ?_
  rintro e w2 ⟨f1, rfl, hf1, t2, m2⟩
  have B2 := Lib.hid (born_map hf1 t2 m2)
  have k5 : w2.cell? ⟨s, 5, none⟩ = some (.pointer none) := (HR.out.touch t2 (fun f => f)).cell 5
  have g5 : w2.frozen? ⟨s, 5, none⟩ = false := (HR.out.touch t2 (fun f => f)).soft 5
  clear hf1 t2 m2 C1 k0
  go_upto_region 2 with fail
  obtain ⟨w3, hw3⟩ : ∃ w3, w3 = w2.setCell ⟨s, 5, none⟩ (.pointer (some ⟨f1, 0, none⟩)) := ⟨_, rfl⟩
  have S3 : Hid (Dd w0 w3 d D (Part.sto s (some ⟨d, 0, none⟩) (some ⟨f1, 0, none⟩) false m :: Part.map f1 1 (1 + Sh.many D) (upTo 1 (1 + Sh.many D)) :: E)) := by
    show Dd _ _ _ _ _
    rw [hw3]
    exact H.out.firstFree B2.out
  have k0 : w3.cell? ⟨s, 0, none⟩ = some (.pointer (some ⟨d, 0, none⟩)) := by
    obtain ⟨nb, bk, ta, tc, L, h2, _⟩ := Dd.stoX S3.out
    exact h2.row.cell 0
  rw [← hw3]
  have CR : Hid (Calls Tryz.prog 149 #[.pointer (some ⟨d, 0, none⟩)] w3 (RootPost w3 (Rt.findR D) 7)) := by
    have := S3.out.rootRead
    rwa [Hn.out] at this
  clear hw3 B2 H k5 g5 HR
  go_wp2_with fail
  refine CR.out.mono ?_
  rintro e w4 ⟨rfl, t4⟩
  have S4 : Hid (Dd w0 w4 d D (Part.sto s (some ⟨d, 0, none⟩) (some ⟨f1, 0, none⟩) false m :: Part.map f1 1 (1 + Sh.many D) (upTo 1 (1 + Sh.many D)) :: E)) := S3.out.no t4
  clear S3 t4 CR k0
  go_wp2
  go_ret
  exact ⟨rfl, f1, S4.out.no ((Touch.refl No _).alloc _)⟩
/-- what a store leads to before it was read -/
theorem born_sto (w : World) (d : Nat) : Born w (Part.sto (w.heap.size + 1) (some ⟨d, 0, none⟩) none false ⟨0, [], 0, [], []⟩) ((w.alloc (.map #[] 0)).alloc (.cells #[.pointer (some ⟨d, 0, none⟩), .int .u32 0, .map none, .map (some w.heap.size), .slice none 0 0, .pointer none] 124)) := by
  have hs1 : (w.alloc (.map #[] 0)).heap.size = w.heap.size + 1 := by simp
  have t1 : Touch No w (w.alloc (.map #[] 0)) := (Touch.refl No w).alloc _
  have t2 : Touch No (w.alloc (.map #[] 0)) ((w.alloc (.map #[] 0)).alloc (.cells #[.pointer (some ⟨d, 0, none⟩), .int .u32 0, .map none, .map (some w.heap.size), .slice none 0 0, .pointer none] 124)) := (Touch.refl No _).alloc _
  refine ⟨t1.trans t2, stoO (w.heap.size + 1) none w.heap.size (fun _ => False), ⟨none, w.heap.size, none, 0, fun _ => False, ⟨?_, fun b e => (by cases e), ?_, ⟨Nat.le_refl _, Nat.zero_le _, Rd.nil _ _, fun g o e => by cases e⟩, fun f => f, fun f => f, by omega, fun k f => f.elim⟩, rfl, (fun x hx => by cases hx), fun k => Iff.rfl⟩, ?_⟩
  · have := Row.new (w.alloc (.map #[] 0)) 124 #[.pointer (some ⟨d, 0, none⟩), .int .u32 0, .map none, .map (some w.heap.size), .slice none 0 0, .pointer none]
    rw [hs1] at this
    exact this
  · have h0 : MapAtT (w.alloc (.map #[] 0)) (fun _ => False) w.heap.size 5000 [] := ⟨0, .map [], by decide, World.ownsMap_made (H := Value) w Tryz.prog 24 asHeld, MapT.nil _ _⟩
    exact h0.touch t2 (fun f => f) (fun _ f => f.elim) (fun _ h => h)
  · rintro k (rfl | e | rfl | f)
    · omega
    · cases e
    · exact Nat.le_refl _
    · exact f.elim
theorem shOpen_nil (w : World) : Calls Tryz.prog 13 #[.pointer none] w fun e w' => e = .returned (.tuple #[.pointer none, .int .i64 2]) ∧ w = w' := by
  go_enter Tryz.func13, Tryz.ntmps13
  go_wp2_with fail
  refine (len_nil w).mono ?_
  rintro e w' ⟨rfl, rfl⟩
  go_wp2
  go_ret2
  exact ⟨rfl, rfl⟩
set_option maxRecDepth 100000 in
theorem shCommit_nil (w : World) : Calls Tryz.prog 16 #[.pointer none] w fun e w' => e = .returned (.int .i64 2) ∧ w = w' := by
  go_enter Tryz.func16, Tryz.ntmps16
  go_wp2_with fail
  refine (shThere_nil w).mono ?_
  rintro e w' ⟨rfl, rfl⟩
  go_wp2
  go_ret
  exact ⟨rfl, rfl⟩
theorem errAs_nil (w : World) (v : Value) : Calls Tryz.prog 56 #[.nilIface, v] w fun e w' => e = .returned (.bool false) ∧ w = w' := by
  go_enter Tryz.func56, Tryz.ntmps56
  go_wp2
  go_ret
  exact ⟨rfl, rfl⟩
set_option maxRecDepth 100000 in
set_option maxHeartbeats 4000000 in
/-- a store is opened, of which reads tells no fault -/
theorem shOpen_ok (h : Dd w0 w d D E) (lo : 32 ≤ D.seen.length) (hi : D.seen.length ≤ 16384) (T : Sh.Sto) (hu : Mp.Up T.kept) (hlt : ∀ p ∈ T.kept, p.1 < 4294967296) (hl : T.kept.length ≤ 64)
    (HR : ∀ w2 s2 E2, Dd w0 w2 d D (Part.sto s2 (some ⟨d, 0, none⟩) none false ⟨0, [], 0, [], []⟩ :: E2) → Calls Tryz.prog 57 #[.pointer (some ⟨s2, 0, none⟩)] w2 fun e w' => e = .returned (.nilIface) ∧ ∃ f, Sg false w0 w' s2 d f T E2) :
    Calls Tryz.prog 13 #[.pointer (some ⟨d, 0, none⟩)] w fun e w' => ∃ s f, e = .returned (.tuple #[.pointer (some ⟨s, 0, none⟩), .int .i64 0]) ∧ Sg true w0 w' s d f { T with now := T.kept, puts := 64 } E := by
  have hmm := @run_makeMap Tryz.prog
  have H := Lib.hid h
  have HRR := Lib.hid HR
  have HK := Lib.hid (And.intro hu (And.intro hlt hl))
  have CL : Hid (Calls Tryz.prog 55 #[.pointer (some ⟨d, 0, none⟩)] w fun e w' => e = .returned (.int .i64 (D.seen.length : Nat)) ∧ w = w') := h.len
  obtain ⟨n, hn⟩ : ∃ n, D.seen.length = n := ⟨_, rfl⟩
  rw [hn] at CL lo hi
  have hn0 : ¬ (n : Int) = 0 := by omega
  have hn32 : ¬ (n : Int) < 32 := by omega
  clear h HR hu hlt hl hn
  go_enter Tryz.func13, Tryz.ntmps13
  go_wp2_with fail
  refine CL.out.mono ?_
  rintro e w' ⟨rfl, rfl⟩
  go_wp2_with fail
  obtain ⟨w1, hw1⟩ : ∃ w1, w1 = (w.alloc (.map #[] 0)).alloc (.cells #[.pointer (some ⟨d, 0, none⟩), .int .u32 0, .map none, .map (some w.heap.size), .slice none 0 0, .pointer none] 124) := ⟨_, rfl⟩
  obtain ⟨s, hs⟩ : ∃ s, s = w.heap.size + 1 := ⟨_, rfl⟩
  have S1 : Hid (Dd w0 w1 d D (Part.sto s (some ⟨d, 0, none⟩) none false ⟨0, [], 0, [], []⟩ :: E)) := by
    show Dd _ _ _ _ _
    rw [hw1, hs]
    exact Dd.push H.out (born_sto w d)
  obtain ⟨w2, hw2⟩ : ∃ w2, w2 = w1.alloc (.cells #[.pointer none] 125) := ⟨_, rfl⟩
  have S2 : Hid (Dd w0 w2 d D (Part.sto s (some ⟨d, 0, none⟩) none false ⟨0, [], 0, [], []⟩ :: E)) := by
    show Dd _ _ _ _ _
    rw [hw2]
    exact Dd.no S1.out ((Touch.refl No w1).alloc _)
  have CR := Lib.hid (HRR.out w2 s E S2.out)
  rw [← hw1, ← hw2, ← hs]
  clear hw1 hw2 hs S1 S2 H HRR CL hmm
  refine CR.out.mono ?_
  rintro e w3 ⟨rfl, f, s3⟩
  have S3 := Lib.hid s3
  clear s3 CR
  go_wp2_with fail
  refine (errAs_nil _ _).mono ?_
  rintro e w' ⟨rfl, rfl⟩
  obtain ⟨bk, k3, C4⟩ := S3.out.cloneKept HK.out.1 HK.out.2.1 HK.out.2.2
  have C4H := Lib.hid C4
  clear C4 S3
  go_wp2_with fail
  refine C4H.out.mono ?_
  rintro e w4 ⟨rfl, ⟨v, k2⟩, g2, s4⟩
  have S4 := Lib.hid s4
  clear s4 C4H
  go_wp2
  go_ret2
  exact ⟨s, f, rfl, S4.out⟩
/-- a disk without a root -/
theorem shOpen_new (h : Dd w0 w d D E) (lo : 32 ≤ D.seen.length) (hi : D.seen.length ≤ 16384) (hn : Rt.findE D = 7) :
    Calls Tryz.prog 13 #[.pointer (some ⟨d, 0, none⟩)] w fun e w' => ∃ s f, e = .returned (.tuple #[.pointer (some ⟨s, 0, none⟩), .int .i64 0]) ∧ Sg true w0 w' s d f ⟨D, upTo 1 (1 + Sh.many D), 0, [], [], [], 64⟩ E :=
  shOpen_ok h lo hi ⟨D, upTo 1 (1 + Sh.many D), 0, [], [], [], 0⟩ List.Pairwise.nil (fun p hp => by cases hp) (Nat.zero_le _) (fun w2 s2 E2 h2 => shReads_new h2 lo hi hn)
end
namespace Sh
def newS (D : Dk.Disk) : Sto := ⟨D, upTo 1 (1 + many D), 0, [], [], [], 64⟩
theorem newS_settle (D : Dk.Disk) : newS D = settle D 0 [] [] := by
  unfold newS settle
  rw [← rest_start, Fr.sub_nil]
  rfl
theorem newS_ok {D : Dk.Disk} (lo : 32 ≤ D.seen.length) (hi : D.seen.length ≤ 16384) : Ok (newS D) := by
  rw [newS_settle]
  exact Fit.ok ⟨lo, hi, by decide, List.Pairwise.nil, by decide, (fun p hp => by cases hp), (fun p hp => by cases hp), List.nodup_nil, by decide, (fun p hp => by cases hp), (fun p hp => by cases hp), fun p hp => by cases hp⟩
end Sh
end Go.Proofs.YtpmkegbgbldpnaaGreatDoor
namespace Go.Proofs.YtpmkegbgbldpnaaGreatDoor
set_option maxRecDepth 100000
open Go Go.RowKit
set_option linter.unusedSimpArgs false
set_option linter.unusedVariables false
namespace Mp
section
variable {α β : Type}
theorem look_fst (l : List (Nat × α)) (id : Nat) : (look (l.map fun p => (p.1, ())) id).isSome = (look l id).isSome := by
  induction l with
  | nil => rfl
  | cons p r ih =>
    obtain ⟨k, x⟩ := p
    simp only [List.map_cons, look]
    split
    · rfl
    · exact ih
/-- two rising lists of the same numbers -/
theorem same_len {l : List (Nat × α)} {m : List (Nat × β)} (hl : Up l) (hm : Up m) (h : ∀ id, (look l id).isSome = (look m id).isSome) : l.length = m.length := by
  have e : (l.map fun p => (p.1, ())) = (m.map fun p => (p.1, ())) := by
    refine ext (map_up hl _) (map_up hm _) (fun id => ?_)
    have := h id
    rw [← look_fst l, ← look_fst m] at this
    cases h1 : look (l.map fun p => (p.1, ())) id <;> cases h2 : look (m.map fun p => (p.1, ())) id <;> rw [h1, h2] at this <;> simp_all
  have := congrArg List.length e
  simpa using this
theorem look_some_put (l : List (Nat × α)) (id id' : Nat) (x : α) : (look (put l id x) id').isSome = (decide (id' = id) || (look l id').isSome) := by
  by_cases e : id' = id
  · subst e; rw [look_put_same]; simp
  · rw [look_put_other l e]; simp [e]
end
end Mp
namespace Sh
theorem look_old' (l : List (Nat × Th)) (id : Nat) : Mp.look (l.map old) id = (Mp.look l id).map fun x => ⟨x.bytes, x.epoch, x.pages, false⟩ := by
  induction l with
  | nil => rfl
  | cons p r ih =>
    obtain ⟨k, x⟩ := p
    simp only [List.map_cons, old, Mp.look]
    split
    · rfl
    · exact ih
/-- what lies on a thing's pages -/
structure Good (D : Dk.Disk) (x : Th) (b : List Nat) : Prop where
  bytes : x.bytes = b.length
  holds : ∀ i, i < Ex.pages b.length → Ex.Holds D x.epoch x.pages b i
section
variable {D : Dk.Disk} {x : Th} {b : List Nat}
theorem Good.fresh (h : Good D x b) (f : Bool) : Good D ⟨x.bytes, x.epoch, x.pages, f⟩ b := ⟨h.bytes, h.holds⟩
theorem Good.wr (h : Good D x b) (hl : x.pages.length = Ex.pages x.bytes) {l : List Nat} (ep : Nat) (b' : List Nat) (hb : l.length = Ex.pages b'.length) (hd : Dj l x.pages) : Good (Ex.wD D ep l b') x b :=
  ⟨h.bytes, fun i hi => Ex.wD_other (h.holds i hi) (fun j hj e => hd _ (Ex.at_mem (nums := l) (i := j) (by omega)) (by rw [← e]; exact Ex.at_mem (by rw [hl, h.bytes]; exact hi)))⟩
theorem Good.page (h : Good D x b) (hl : x.pages.length = Ex.pages x.bytes) {p : Nat} (ep : Nat) (q : List Nat) (hd : p ∉ x.pages) : Good (Pg.wD D p ep q) x b := by
  refine ⟨h.bytes, fun i hi j hj => ?_⟩
  have hm : Ex.at' x.pages i ∈ x.pages := Ex.at_mem (by rw [hl, h.bytes]; exact hi)
  have hne : Ex.at' x.pages i ≠ p := fun e => hd (by rw [← e]; exact hm)
  by_cases e : Pg.wE D p q = 0
  · rw [(Pg.wD_ok e).2.2, if_neg (by omega)]
    exact h.holds i hi j hj
  · rw [Pg.wD, if_neg e]
    exact h.holds i hi j hj
theorem Good.root (h : Good D x b) (hl : x.pages.length = Ex.pages x.bytes) (h1 : ∀ y ∈ x.pages, 1 ≤ y) (r : Rt.Root) : Good (Rt.wD D r) x b := by
  refine ⟨h.bytes, fun i hi j hj => ?_⟩
  have hm : 1 ≤ Ex.at' x.pages i := h1 _ (Ex.at_mem (by rw [hl, h.bytes]; exact hi))
  have hn := Rt.findN_le D
  rw [← h.holds i hi j hj]
  unfold Rt.wD
  split
  · show ((Dk.sync D).seen.set _ _).getD _ _ = D.seen.getD _ _
    rw [List.getD_eq_getElem?_getD, List.getD_eq_getElem?_getD, List.getElem?_set_ne (by omega)]
    rfl
  · rfl
theorem Good.new {l : List Nat} (ep : Nat) (f : Bool) (h : Ex.may D l b.length) : Good (Ex.wD D ep l b) ⟨b.length, ep, l, f⟩ b := ⟨rfl, (Ex.wD_read h).1⟩
theorem Good.read (h : Good D x b) (hM : Ex.may D x.pages x.bytes) (hn : ∀ y ∈ x.pages, y < 4294967296) (he : x.epoch < 4294967296) : Ex.rE D x.epoch x.pages x.bytes = 0 ∧ Ex.rB D x.epoch x.pages x.bytes = b := by
  rw [h.bytes] at hM ⊢
  exact Ex.read_all hM hn he h.holds
end
/-- what things hold -/
structure Con (D : Dk.Disk) (l : List (Nat × Th)) (c : List (Nat × List Nat)) : Prop where
  up : Mp.Up c
  ids : ∀ id, (Mp.look l id).isSome = (Mp.look c id).isSome
  good : ∀ id x b, Mp.look l id = some x → Mp.look c id = some b → Good D x b
section
variable {D D' : Dk.Disk} {l : List (Nat × Th)} {c : List (Nat × List Nat)}
theorem Con.nil (D : Dk.Disk) : Con D [] [] := ⟨List.Pairwise.nil, fun _ => rfl, fun id x b h => by cases h⟩
theorem Con.len (h : Con D l c) (hl : Mp.Up l) : l.length = c.length := Mp.same_len hl h.up h.ids
theorem Con.mono (h : Con D l c) (hg : ∀ p ∈ l, ∀ b, Good D p.2 b → Good D' p.2 b) : Con D' l c := ⟨h.up, h.ids, fun id x b h1 h2 => hg _ (Mp.mem_of_look h1) b (h.good id x b h1 h2)⟩
theorem Con.old (h : Con D l c) : Con D (l.map Sh.old) c := by
  refine ⟨h.up, fun id => ?_, fun id x b h1 h2 => ?_⟩
  · rw [look_old', Option.isSome_map]; exact h.ids id
  · rw [look_old'] at h1
    obtain ⟨y, hy, e⟩ := Option.map_eq_some_iff.1 h1
    subst e
    exact (h.good id y b hy h2).fresh false
theorem Con.put (h : Con D l c) (id : Nat) (x : Th) (b : List Nat) (hx : Good D' x b) (hg : ∀ p ∈ l, p.1 ≠ id → ∀ b, Good D p.2 b → Good D' p.2 b) : Con D' (Mp.put l id x) (Mp.put c id b) := by
  refine ⟨Mp.up_put h.up id b, fun id' => ?_, fun id' y b' h1 h2 => ?_⟩
  · rw [Mp.look_some_put, Mp.look_some_put, h.ids]
  · by_cases e : id' = id
    · subst e
      rw [Mp.look_put_same] at h1 h2
      cases h1; cases h2
      exact hx
    · rw [Mp.look_put_other _ e] at h1 h2
      exact hg _ (Mp.mem_of_look h1) e b' (h.good id' y b' h1 h2)
end
/-- a store: what it has now, and what is committed -/
structure Has (T : Sto) (c k : List (Nat × List Nat)) : Prop where
  ok : Ok T
  now : Con T.D T.now c
  kept : Con T.D T.kept k
section
variable {T : Sto} {c k : List (Nat × List Nat)}
theorem Has.new {D : Dk.Disk} (lo : 32 ≤ D.seen.length) (hi : D.seen.length ≤ 16384) : Has (newS D) [] [] := ⟨newS_ok lo hi, Con.nil _, Con.nil _⟩
theorem Has.put (h : Has T c k) {id : Nat} (hid : id < 4294967296) {b : List Nat} (he : putE T id b.length = 0) : Has (putT T id b) (Mp.put c id b) k := by
  have ho := h.ok.put hid b
  have hnew := fun x hx => h.ok.put_new (id := id) (n := b.length) (x := x) hx
  have e : putT T id b = ⟨Ex.wD T.D (nx T.epoch) (putL T id b.length) b, Fr.sub (dropS T (Mp.look T.now id)) (putL T id b.length), T.epoch, Mp.put T.now id ⟨b.length, nx T.epoch, putL T id b.length, true⟩, T.kept, T.table, T.puts + 1⟩ := by rw [putT, if_pos he]
  rw [e] at ho ⊢
  refine ⟨ho, h.now.put id _ b (Good.new _ _ (h.ok.put_may he)) (fun p hp hne b' hg => hg.wr (h.ok.thn p hp).len _ _ (putL_length he) (fun x hx hy => ?_)), h.kept.mono (fun p hp b' hg => hg.wr (h.ok.thk p hp).len _ _ (putL_length he) (fun x hx hy => (hnew x hx).2.2 (Or.inr (Or.inl ⟨p, hp, hy⟩))))⟩
  refine (hnew x hx).2.2 ?_
  cases hf : p.2.fresh with
  | true => exact Or.inr (Or.inr ⟨p, hp, hne, hf, hy⟩)
  | false => exact Or.inr (Or.inl ⟨p, h.ok.nk p hp hf, hy⟩)
theorem Has.undo (h : Has T c k) : Has (undoT T) k k := ⟨h.ok.undo, h.kept.old, h.kept.old⟩
theorem Has.com2 (h : Has T c k) (hf : comF T) {l : List (Nat × Th)} {c' : List (Nat × List Nat)} (hc : Con T.D l c') (ht : ∀ p ∈ l, ThOk p) (hd : ∀ p ∈ l, Dj (comL T) p.2.pages) : Con (comD2 T) l c' :=
  (hc.mono (fun p hp b hg => (hg.page (ht p hp).len (nx T.epoch) (comB T) (fun hm => hd p hp _ (by rw [comL_cons hf]; exact List.mem_cons_self) hm)).wr (ht p hp).len (nx T.epoch) (tabB T.now) (comL_tail hf) (fun x hx hy => hd p hp x (List.mem_of_mem_tail hx) hy)))
theorem Ok.com_now (h : Ok T) : ∀ p ∈ T.now, Dj (comL T) p.2.pages := fun p hp x hx hy => (h.com_free hx).2.2 (by
  cases hfr : p.2.fresh with
  | true => exact Or.inr (Or.inr ⟨p, hp, hfr, hy⟩)
  | false => exact Or.inr (Or.inl ⟨p, h.nk p hp hfr, hy⟩))
/-- a commit -/
theorem Has.com (h : Has T c k) (he : comE T = 0) : Has (comT T) c c := by
  have ho := h.ok.com
  have hf : comF T := by
    by_cases hf : comF T
    · exact hf
    · rw [comE, if_neg hf] at he; cases he
  have hr : Rt.wE (comD2 T) (comR T) = 0 := by rw [comE, if_pos hf] at he; exact he
  have e : comT T = settle (Rt.wD (comD2 T) (comR T)) (nx T.epoch) (comL T) T.now := by rw [comT, if_pos hf, if_pos hr]
  have hc := (h.com2 hf h.now h.ok.thn h.ok.com_now).mono (D' := Rt.wD (comD2 T) (comR T)) (fun p hp b hg => hg.root (h.ok.thn p hp).len (fun y hy => (h.ok.nrng hp hy).1) _)
  rw [e] at ho ⊢
  exact ⟨ho, hc.old, hc.old⟩
/-- what is asked for -/
theorem Has.get (h : Has T c k) {id : Nat} {b : List Nat} (hb : Mp.look c id = some b) : getE T id = 0 ∧ getB T id = b := by
  have h1 := h.now.ids id
  rw [hb] at h1
  obtain ⟨x, hx⟩ := Option.isSome_iff_exists.1 h1
  have hp := Mp.mem_of_look hx
  have ht := h.ok.thn _ hp
  have hl := h.ok.look hx
  rw [getE, getB, hx]
  exact (h.now.good id x b hx hb).read ⟨ht.nod, fun y hy => many_on h.ok.lo (h.ok.nrng hp hy).2, ht.len⟩ hl.2.2.2.2 hl.2.1
theorem Has.get_no (h : Has T c k) {id : Nat} (hb : Mp.look c id = none) : getE T id = 7 ∧ getB T id = [] := by
  have h1 := h.now.ids id
  rw [hb] at h1
  have hx : Mp.look T.now id = none := by
    cases hx : Mp.look T.now id with
    | none => rfl
    | some x => rw [hx] at h1; cases h1
  rw [getE, getB, hx]
  exact ⟨rfl, rfl⟩
theorem Has.len (h : Has T c k) : T.now.length = c.length := h.now.len h.ok.upn
end
end Sh
end Go.Proofs.YtpmkegbgbldpnaaGreatDoor
namespace Go.Proofs.YtpmkegbgbldpnaaGreatDoor
set_option maxRecDepth 100000
open Go Go.RowKit
set_option linter.unusedSimpArgs false
set_option linter.unusedVariables false
namespace Rt
theorem say_no : sayE Dk.noughts = 0 ∧ sayIs Dk.noughts = false := ⟨by kernel_rfl, by kernel_rfl⟩
theorem put_no (r : Root) : nought (put r) = false := by
  unfold put head mark
  simp [nought]
theorem say_put (r : Root) (h : r.Ok) : sayE ⟨put r, 0⟩ = 0 ∧ sayIs ⟨put r, 0⟩ = true ∧ sayR ⟨put r, 0⟩ = r := by
  have h1 : sayIs ⟨put r, 0⟩ = true := by
    unfold sayIs
    simp only [put_no, put_err]
    rfl
  refine ⟨?_, h1, ?_⟩
  · unfold sayE
    simp only [put_no, put_err]
    rfl
  · rw [sayR, if_pos h1]; exact put_root h
theorem pad_put (r : Root) : Dk.pad (put r) = put r := by
  unfold Dk.pad
  rw [put_length]
  simp
theorem find_congr {D D' : Dk.Disk} (hl : D'.seen.length = D.seen.length) (h0 : Dk.at_ D'.seen 0 = Dk.at_ D.seen 0) (h1 : Dk.at_ D'.seen 1 = Dk.at_ D.seen 1) : findE D' = findE D ∧ findR D' = findR D ∧ findN D' = findN D := by
  have e1 : findE D' = findE D := by rw [findE, findE, hl, h0, h1]
  have e2 : second D' = second D := by rw [second, second, h0, h1]
  exact ⟨e1, by rw [findR, findR, e1, e2, h0, h1], by rw [findN, findN, e1, e2]⟩
/-- the root that a disk has is that of an epoch -/
def At (D : Dk.Disk) (e : Nat) : Prop := (findE D = 7 ∧ e = 0) ∨ (findE D = 0 ∧ (findR D).epoch = e)
theorem At.congr {D D' : Dk.Disk} {e : Nat} (h : At D e) (hl : D'.seen.length = D.seen.length) (h0 : Dk.at_ D'.seen 0 = Dk.at_ D.seen 0) (h1 : Dk.at_ D'.seen 1 = Dk.at_ D.seen 1) : At D' e := by
  obtain ⟨e1, e2, _⟩ := find_congr hl h0 h1
  rw [At, e1, e2]; exact h
theorem At.may {D : Dk.Disk} {e : Nat} (h : At D e) {r : Root} (hr : e < r.epoch) : wE D r = 0 := by
  rcases h with ⟨h1, h2⟩ | ⟨h1, h2⟩
  · rw [wE, h1]; simp
  · rw [wE, h1, h2, if_neg (by simp), if_neg (by omega)]
theorem at_set_same (l : List Dk.Sec) (n : Nat) (s : Dk.Sec) (h : n < l.length) : Dk.at_ (l.set n s) n = s := by
  rw [Dk.at_, List.getD_eq_getElem?_getD, List.getElem?_set_self h]; rfl
theorem at_set_other (l : List Dk.Sec) (n m : Nat) (s : Dk.Sec) (h : n ≠ m) : Dk.at_ (l.set n s) m = Dk.at_ l m := by
  rw [Dk.at_, Dk.at_, List.getD_eq_getElem?_getD, List.getElem?_set_ne h, ← List.getD_eq_getElem?_getD]
theorem At.root {D : Dk.Disk} {e : Nat} (h : At D e) {r : Root} (hr : e < r.epoch) (ho : r.Ok) : findE (wD D r) = 0 ∧ findR (wD D r) = r ∧ At (wD D r) r.epoch := by
  suffices h2 : findE (wD D r) = 0 ∧ findR (wD D r) = r from ⟨h2.1, h2.2, Or.inr ⟨h2.1, by rw [h2.2]⟩⟩
  have h8 : 8 ≤ D.seen.length := findE_len (h.elim (fun e => Or.inr e.1) (fun e => Or.inl e.1))
  have hw := h.may hr
  have hseen : (wD D r).seen = D.seen.set (findN D) ⟨put r, 0⟩ := by
    rw [wD, if_pos hw]
    show D.seen.set _ ⟨Dk.pad _, 0⟩ = _
    rw [pad_put]
  have hlen : ¬ (wD D r).seen.length < 8 := by rw [hseen, List.length_set]; omega
  obtain ⟨p1, p2, p3⟩ := say_put r ho
  have hE : findE D = 7 ∨ findE D = 0 := h.elim (fun e => Or.inl e.1) (fun e => Or.inr e.1)
  have hs : sayE (Dk.at_ D.seen 0) = 0 ∧ sayE (Dk.at_ D.seen 1) = 0 := by
    have hx : ∀ s : Dk.Sec, sayE s ≠ 7 := fun s => by
      unfold sayE errOf
      split
      · decide
      · split
        · decide
        · split
          · split <;> decide
          · decide
    rw [findE, if_neg (by omega)] at hE
    by_cases a : sayE (Dk.at_ D.seen 0) = 0
    · refine ⟨a, ?_⟩
      rw [if_neg (fun e => e a)] at hE
      by_cases b : sayE (Dk.at_ D.seen 1) = 0
      · exact b
      · rw [if_pos b] at hE
        exact hE.elim (fun e => absurd e (hx _)) id
    · rw [if_pos a] at hE
      exact absurd (hE.elim (fun e => absurd e (hx _)) id) a
  by_cases hN : findN D = 0
  · have a0 : Dk.at_ (wD D r).seen 0 = ⟨put r, 0⟩ := by rw [hseen, hN]; exact at_set_same _ _ _ (by omega)
    have a1 : Dk.at_ (wD D r).seen 1 = Dk.at_ D.seen 1 := by rw [hseen, hN]; exact at_set_other _ _ _ _ (by decide)
    have hf : findE (wD D r) = 0 := by
      rw [findE, if_neg hlen, a0, a1, p1, p2, hs.2]
      simp
    refine ⟨hf, ?_⟩
    have hsec : second (wD D r) = false := by
      rw [second, a0, a1, p2, p3]
      simp only [Bool.not_true, Bool.false_or, Bool.and_eq_false_iff, decide_eq_false_iff_not]
      rcases h with ⟨h1, h2⟩ | ⟨h1, h2⟩
      · left
        rw [findE, if_neg (by omega), hs.1, hs.2] at h1
        by_cases hb : sayIs (Dk.at_ D.seen 0) = false ∧ sayIs (Dk.at_ D.seen 1) = false
        · exact hb.2
        · simp [hb] at h1
      · right
        have hsd : second D = true := by
          cases hsd : second D with
          | true => rfl
          | false => rw [findN, if_pos ⟨h1, hsd⟩] at hN; cases hN
        rw [findR, if_pos h1, if_pos hsd] at h2
        omega
    rw [findR, if_pos hf, if_neg (by rw [hsec]; decide), a0, p3]
  · have hN1 : findN D = 1 := by have := findN_le D; omega
    have hz : findE D = 0 ∧ second D = false := by
      by_cases hz : findE D = 0 ∧ second D = false
      · exact hz
      · rw [findN, if_neg hz] at hN1; cases hN1
    have a0 : Dk.at_ (wD D r).seen 0 = Dk.at_ D.seen 0 := by rw [hseen, hN1]; exact at_set_other _ _ _ _ (by decide)
    have a1 : Dk.at_ (wD D r).seen 1 = ⟨put r, 0⟩ := by rw [hseen, hN1]; exact at_set_same _ _ _ (by omega)
    have hf : findE (wD D r) = 0 := by
      rw [findE, if_neg hlen, a0, a1, p1, p2, hs.1]
      simp
    refine ⟨hf, ?_⟩
    have h2 : (findR D).epoch = e := by
      rcases h with ⟨h1, _⟩ | ⟨_, h2⟩
      · rw [hz.1] at h1; cases h1
      · exact h2
    rw [findR, if_pos hz.1, if_neg (by rw [hz.2]; decide)] at h2
    have hsec : second (wD D r) = true := by
      rw [second, a0, a1, p2, p3]
      simp only [Bool.true_and, Bool.or_eq_true, decide_eq_true_eq]
      right
      omega
    rw [findR, if_pos hf, if_pos hsec, a1, p3]
theorem new_no {n : Nat} (h : 8 ≤ n) : findE (Dk.new n) = 7 := by
  have a : ∀ i, i < n → Dk.at_ (Dk.new n).seen i = Dk.noughts := fun i hi => by
    simp [Dk.at_, Dk.new, List.getD_eq_getElem?_getD, List.getElem?_replicate, hi]
  rw [findE, if_neg (by simp [Dk.new]; omega), a 0 (by omega), a 1 (by omega), say_no.1, say_no.2]
  simp
theorem At.new {n : Nat} (h : 8 ≤ n) : At (Dk.new n) 0 := Or.inl ⟨new_no h, rfl⟩
theorem At.page {D : Dk.Disk} {e : Nat} (h : At D e) {p : Nat} (hp : 1 ≤ p) (ep : Nat) (q : List Nat) : At (Pg.wD D p ep q) e := by
  by_cases hw : Pg.wE D p q = 0
  · obtain ⟨h1, _, h3⟩ := Pg.wD_ok hw
    exact h.congr h1 (by rw [h3, if_neg (by omega)]) (by rw [h3, if_neg (by omega)])
  · rw [Pg.wD, if_neg hw]; exact h
theorem At.pages {D : Dk.Disk} {e : Nat} (h : At D e) {l : List Nat} (hp : ∀ p ∈ l, 1 ≤ p) (ep : Nat) (b : List Nat) : At (Ex.wD D ep l b) e := by
  by_cases hM : Ex.may D l b.length
  · have ho : ∀ n, n < 4 → Dk.at_ (Ex.wD D ep l b).seen n = Dk.at_ D.seen n := fun n hn => by
      rw [Ex.wD, if_pos hM]
      exact Ex.wr_other hM _ (Nat.le_refl _) n (fun i hi => by
        have := hp _ (Ex.at_mem (nums := l) (i := i) (by rw [hM.2.2]; exact hi))
        omega)
    exact h.congr (Ex.wD_len _ _ _ _) (ho 0 (by omega)) (ho 1 (by omega))
  · rw [Ex.wD, if_neg hM]; exact h
end Rt
namespace Sh
/-- so many pages are free -/
theorem Ok.count {T : Sto} (h : Ok T) {L : List Nat} (hn : L.Nodup) (hL : ∀ x, x ∈ L ↔ Used T x) : (Fr.lst T.S).length + L.length = many T.D := by
  have hm := many_le h.hi
  have hp : (Fr.lst T.S ++ L).Perm (List.range' 1 (many T.D)) := by
    refine (List.perm_ext_iff_of_nodup (List.nodup_append.2 ⟨Fr.lst_nodup _, hn, fun a ha b hb e => ?_⟩) List.nodup_range').2 (fun x => ?_)
    · subst e
      exact ((h.free a).1 (Fr.mem_lst.1 ha).2).2.2 ((hL a).1 hb)
    · rw [List.mem_append, Fr.mem_lst, h.free, hL, List.mem_range'_1]
      constructor
      · rintro (⟨h1, h2, h3, h4⟩ | h1)
        · omega
        · have := h.rng x h1; omega
      · intro hx
        by_cases hu : Used T x
        · exact Or.inr hu
        · exact Or.inl ⟨by omega, by omega, by omega, hu⟩
  have := hp.length_eq
  rw [List.length_append, List.length_range'] at this
  exact this
theorem flat_nodup {l : List (Nat × Th)} (hu : Mp.Up l) (hn : ∀ p ∈ l, p.2.pages.Nodup) (hd : ∀ p ∈ l, ∀ q ∈ l, p.1 ≠ q.1 → Dj p.2.pages q.2.pages) : (l.flatMap fun p => p.2.pages).Nodup := by
  induction l with
  | nil => exact List.nodup_nil
  | cons p r ih =>
    rw [List.flatMap_cons, List.nodup_append]
    have h1 := List.pairwise_cons.1 hu
    refine ⟨hn p List.mem_cons_self, ih h1.2 (fun q hq => hn q (List.mem_cons_of_mem _ hq)) (fun a ha b hb => hd a (List.mem_cons_of_mem _ ha) b (List.mem_cons_of_mem _ hb)), fun a ha b hb e => ?_⟩
    subst e
    obtain ⟨q, hq, hq2⟩ := List.mem_flatMap.1 hb
    exact hd p List.mem_cons_self q (List.mem_cons_of_mem _ hq) (by have := h1.1 q hq; omega) a ha hq2
/-- how many pages things take -/
def takes (c : List (Nat × List Nat)) : Nat := (c.map fun p => Ex.pages p.2.length).sum
end Sh
end Go.Proofs.YtpmkegbgbldpnaaGreatDoor
