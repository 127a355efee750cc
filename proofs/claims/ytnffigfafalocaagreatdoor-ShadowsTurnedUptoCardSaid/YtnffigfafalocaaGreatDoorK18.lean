/-
  A disk beside what else stands there: its own methods, roots, pages, extents.
  The plain mathematics of a map of pages: sets of pages below 4096 as Bool functions, their rising lists, the bits of a word. No program in sight.
  Package frees by its own text: what each method does to the memory of a map that reads as a set of pages.
  Package frees by its own text, second part: of, there, Is, Free, Mark.
  Package frees by its own text, third part: Is, Free, Mark.
-/
import Derived.Test.YtnffigfafalocaaGreatDoorK08
import Derived.Test.YtnffigfafalocaaGreatDoorK12
import Derived.Test.YtnffigfafalocaaGreatDoorK17
import Derived.Test.YtnffigfafalocaaGreatDoorK02
namespace Go.Proofs.YtnffigfafalocaaGreatDoor
open Go Go.RowKit
set_option linter.unusedSimpArgs false
set_option linter.unusedVariables false

/-- one part turned, the others kept -/
theorem Sl.step2 {w0 w : World} {p : Part} {l : List Part} (h : Sl w0 w (p :: l)) : ∃ A, p.P w A ∧ (∀ k, A k → w0.heap.size ≤ k ∧ k < w.heap.size) ∧ (∀ q ∈ l, ∃ C, q.P w C ∧ ∀ k, A k → ¬ C k) ∧ ∀ w' l', TurnsL w A l' w' → Sl w0 w' (l' ++ l) := by
  obtain ⟨O, ⟨A, B, ha, hb, hd, h1, h2⟩, h3, t0⟩ := h
  refine ⟨A, ha, fun k hk => h3 k (h1 k hk), fun q hq => ?_, fun w' l' ht => ?_⟩
  · obtain ⟨C, hC, hCB⟩ := hb.mem hq
    exact ⟨C, hC, fun k hk hc => hd k hk (hCB k hc)⟩
  · obtain ⟨t, A', ha', hin⟩ := ht
    have hAl : Al w' (l' ++ l) (fun k => A' k ∨ (B k ∧ k < w.heap.size)) := Al.join ha' (Al.stable t hb.cut (fun k hk f => hd k f hk.1)) (fun k hk hB => by
      rcases hin k hk with h | h
      · exact hd k h hB.1
      · have := hB.2
        omega) (fun k => Or.inl) (fun k => Or.inr)
    refine ⟨_, hAl.cut, fun k hk => ⟨?_, hk.2⟩, t0.then t (fun i hi f => absurd hi (Nat.not_lt.2 (h3 i (h1 i f)).1))⟩
    rcases hk.1 with h | h
    · rcases hin k h with h | h
      · exact (h3 k (h1 k h)).1
      · exact Nat.le_trans t0.size h
    · exact (h3 k (h2 k h.1)).1
theorem keep_old {w0 w : World} {A : Nat → Prop} {a : Option Addr} {vs : List Value} (hr : Rd w0 a vs) (t : Touch No w0 w) (hA : ∀ k, A k → w0.heap.size ≤ k ∧ k < w.heap.size) : Keep w A a vs :=
  ⟨hr.no t, fun g o e hv ho => by
    subst e
    have := hr.lt hv
    have := (hA g ho).1
    omega⟩
def Dd (w0 w : World) (d : Nat) (D : Dk.Disk) (E : List Part) : Prop := Sl w0 w (Part.disk d D :: E)
section
variable {w0 w w' wi : World} {d : Nat} {D : Dk.Disk} {E E' : List Part}
theorem Dd.end (h : Dd w0 w d D E) : Touch No w0 w := Sl.end h
theorem Dd.no (h : Dd w0 w d D E) (t : Touch No w w') : Dd w0 w' d D E := Sl.no h t
theorem Dd.disk (h : Dd w0 w d D E) : ∃ O, DiskAt w d D O := by
  obtain ⟨A, ⟨h, _⟩, _⟩ := Sl.mem h (List.mem_cons_self)
  exact ⟨A, h⟩
theorem Dd.ok (h : Dd w0 w d D E) : Dk.Ok D := by
  obtain ⟨O, h⟩ := h.disk
  exact h.ok
theorem Dd.rest (h : Dd w0 w d D E) {p : Part} (hp : p ∈ E) : ∃ A, p.P w A ∧ ∀ k, A k → w0.heap.size ≤ k ∧ k < w.heap.size := Sl.mem h (List.mem_cons_of_mem _ hp)
theorem Dd.row (h : Dd w0 w d D E) {T : TypeId} {x : Nat} {vs : List Value} (hp : Part.row x T vs ∈ E) : Row w x T vs := by
  obtain ⟨A, ⟨h, _⟩, _⟩ := h.rest hp
  exact h
theorem Dd.rd (h : Dd w0 w d D E) {T : TypeId} {a : Option Addr} {m c : Nat} {vs : List Value} (hp : Part.sl T a m c vs ∈ E) : Rd w a vs := by
  obtain ⟨A, ha, _⟩ := h.rest hp
  exact sl_rd ha
theorem Dd.push {p : Part} (h : Dd w0 w d D E) (hb : Born w p w') : Dd w0 w' d D (p :: E) := Sl.perm (Sl.push h hb) (List.Perm.swap _ _ _)
theorem Dd.perm (h : Dd w0 w d D E) (hp : E.Perm E') : Dd w0 w d D E' := Sl.perm h (hp.cons _)
theorem Dd.drop {p : Part} (h : Dd w0 w d D (p :: E)) : Dd w0 w d D E := (Sl.perm h (List.Perm.swap _ _ _)).drop
theorem Dd.turn {D' : Dk.Disk} {P : Program} {f : FuncId} {args : Array Value} {Z : Ending → Prop} (h : Dd w0 w d D E)
    (C : ∀ F, Al w [Part.disk d D] F → Calls P f args w fun e w' => Z e ∧ TurnsL w F [Part.disk d D'] w') :
    Calls P f args w fun e w' => Z e ∧ Dd w0 w' d D' E := by
  obtain ⟨F, hF, _, hf⟩ := Sl.frame (l := [Part.disk d D]) (m := E) h
  exact (C F hF).mono fun e w' ⟨he, ht⟩ => ⟨he, hf w' _ ht⟩
/-- a part beside it, taken up and laid down again, as it is or as others -/
theorem Dd.with {p : Part} (h : Dd w0 w d D (p :: E)) : ∃ A, p.P w A ∧ (∀ k, A k → w0.heap.size ≤ k ∧ k < w.heap.size) ∧ (∀ q ∈ Part.disk d D :: E, ∃ C, q.P w C ∧ ∀ k, A k → ¬ C k) ∧ ∀ w' l', TurnsL w A l' w' → Dd w0 w' d D (l' ++ E) := by
  obtain ⟨A, h1, h2, h3, h4⟩ := Sl.step2 (Sl.perm h (List.Perm.swap _ _ _))
  exact ⟨A, h1, h2, h3, fun w' l' t => Sl.perm (h4 w' l' t) List.perm_middle⟩
/-- the disk taken up -/
theorem Dd.with0 (h : Dd w0 w d D E) : ∃ A, Dsk w d D 0 A ∧ (∀ k, A k → w0.heap.size ≤ k ∧ k < w.heap.size) ∧ (∀ q ∈ E, ∃ C, q.P w C ∧ ∀ k, A k → ¬ C k) ∧ ∀ w' D', After w d D' 0 A w' → Dd w0 w' d D' E := by
  obtain ⟨A, ⟨h1, h1'⟩, h2, h3, h4⟩ := Sl.step2 h
  exact ⟨A, ⟨h1, h1', fun _ _ => Nat.zero_le _⟩, h2, h3, fun w' D' t => h4 w' [_] (disk_turn (fun _ h => h) t)⟩
theorem Dd.write (h : Dd w0 w d D E) (n : Int) (a : Option Addr) (l c : Nat) (b : List Nat) (hl : b.length = l) (hlt : ∀ x ∈ b, x < 256) (hr : Rd w a (nums .u8 b)) (hw : D.waits.length ≤ 1000000) :
    Calls Tryz.prog 147 #[.pointer (some ⟨d, 0, none⟩), .int .i64 n, .slice a l c] w fun e w' => e = .returned (.int .i64 (Dk.writeR D n b : Nat)) ∧ Dd w0 w' d (Dk.writeA D n b) E :=
  h.turn (fun F hF => diskWrite_al hF n a l c b hl hlt hr hw)
theorem Dd.sync (h : Dd w0 w d D E) :
    Calls Tryz.prog 146 #[.pointer (some ⟨d, 0, none⟩)] w fun e w' => e = .returned (.int .i64 0) ∧ Dd w0 w' d (Dk.sync D) E := h.turn (fun F hF => diskSync_al hF)
theorem Dd.rot (h : Dd w0 w d D E) (n p : Int) (x : Nat) (hx : x < 256) (hw : D.waits.length ≤ 1000000) :
    Calls Tryz.prog 10 #[.pointer (some ⟨d, 0, none⟩), .int .i64 n, .int .i64 p, .int .u8 (x : Nat)] w fun e w' => e = .returned (.int .i64 (Dk.rotR D n p : Nat)) ∧ Dd w0 w' d (Dk.rotA D n p x) E := h.turn (fun F hF => diskRot_al hF n p x hx hw)
theorem Dd.len (h : Dd w0 w d D E) : Calls Tryz.prog 58 #[.pointer (some ⟨d, 0, none⟩)] w fun e w' => e = .returned (.int .i64 (D.seen.length : Nat)) ∧ w = w' := by
  obtain ⟨O, h⟩ := h.disk
  exact len_in w d D O h
theorem Dd.rootRead (h : Dd w0 w d D E) : Calls Tryz.prog 158 #[.pointer (some ⟨d, 0, none⟩)] w (RootPost w (Rt.findR D) (Rt.findE D)) := by
  obtain ⟨O, h⟩ := h.disk
  exact rootRead_any w d D O h
theorem Dd.pgWrite (h : Dd w0 w d D E) (num epoch : Nat) (hnum : num < 4294967296) (hep : epoch < 4294967296) (a : Option Addr) (n c : Nat) (q : List Nat) (hq : q.length = n) (hr : Rd w a (nums .u8 q)) (hlt : ∀ x ∈ q, x < 256) (hw : D.waits.length ≤ 100000) :
    Calls Tryz.prog 51 #[dskV (some ⟨d, 0, none⟩), .int .u32 (num : Nat), .int .u32 (epoch : Nat), .slice a n c] w fun e w' => e = .returned (.int .i64 (Pg.wE D num q : Nat)) ∧ Dd w0 w' d (Pg.wD D num epoch q) E :=
  h.turn (fun F hF => by
    obtain ⟨O, hO, hA⟩ := al_disk hF
    exact (pgWrite_k w d D 0 O num epoch hnum hep a n c q hq hr hlt (Nat.zero_le _) hO hw).mono fun _ _ ⟨he, t⟩ => ⟨he, disk_turn hA t⟩)
theorem Dd.pgRead (h : Dd w0 w d D E) (num : Nat) (hnum : num < 4294967296) :
    Calls Tryz.prog 159 #[dskV (some ⟨d, 0, none⟩), .int .u32 (num : Nat)] w fun e w' => ∃ a n, e = .returned (.tuple #[.int .u32 (Pg.rN D num : Nat), .slice a n n, .int .i64 (Pg.rE D num : Nat)]) ∧ (Pg.rB D num).length = n ∧ Dd w0 w' d D (Part.sl 5 a n n (nums .u8 (Pg.rB D num)) :: E) := by
  obtain ⟨O, hO⟩ := h.disk
  exact (pgRead_any w d D O num hnum hO).mono fun e w' ⟨a, n, he, hn, ⟨c, ho⟩, t⟩ => ⟨a, n, he, hn, h.push (born_sl t (Nat.le_refl _) ho (Nat.le_refl _) (by
    have := ho.room
    omega))⟩
/-- lists that no part of the disk is -/
theorem Dd.exWrite (h : Dd w0 w d D E) (ep : Nat) (hep : ep < 4294967296) (a : Option Addr) (n c : Nat) (ids : List Nat) (hn : ids.length = n) (hnm : (n : Int) ≤ 1000000000000) (hi : ∀ A, (∀ k, A k → w0.heap.size ≤ k ∧ k < w.heap.size) → (∀ q ∈ E, ∃ C, q.P w C ∧ ∀ k, A k → ¬ C k) → Keep w A a (nums .u32 ids)) (hil : ∀ x ∈ ids, x < 4294967296)
    (a' : Option Addr) (m c' : Nat) (bs : List Nat) (hm : bs.length = m) (hcap : m ≤ c') (hmax : (m : Int) ≤ 100000000000) (hb : ∀ A, (∀ k, A k → w0.heap.size ≤ k ∧ k < w.heap.size) → (∀ q ∈ E, ∃ C, q.P w C ∧ ∀ k, A k → ¬ C k) → Keep w A a' (nums .u8 bs)) (hbl : ∀ x ∈ bs, x < 256) (hw : D.waits.length + 4 * Ex.pages m ≤ 100000) :
    Calls Tryz.prog 52 #[.pointer (some ⟨d, 0, none⟩), .int .u32 (ep : Nat), .slice a n c, .slice a' m c'] w fun e w' => e = .returned (.int .i64 (Ex.wE D ids m : Nat)) ∧ Dd w0 w' d (Ex.wD D ep ids bs) E := by
  obtain ⟨A, hp, hA, hq, hf⟩ := h.with0
  exact (exWrite_k w d D 0 A ep hep a n c ids hn hnm (hi A hA hq) hil a' m c' bs hm hcap hmax (hb A hA hq) hbl (Nat.zero_le _) hp hw).mono fun e w' ⟨he, ht⟩ => ⟨he, hf w' _ ht⟩
theorem Dd.exRead (h : Dd w0 w d D E) (ep : Nat) (hep : ep < 4294967296) (a : Option Addr) (n c : Nat) (ids : List Nat) (hn : ids.length = n) (hnm : (n : Int) ≤ 10000) (hr : Rd w a (nums .u32 ids)) (hil : ∀ x ∈ ids, x < 4294967296) (m : Nat) (hm : (m : Int) ≤ 100000000000) :
    Calls Tryz.prog 62 #[.pointer (some ⟨d, 0, none⟩), .int .u32 (ep : Nat), .slice a n c, .int .i64 (m : Nat)] w fun e w' => ∃ b k, e = .returned (.tuple #[.slice b k k, .int .i64 (Ex.rE D ep ids m : Nat)]) ∧ (Ex.rB D ep ids m).length = k ∧ Dd w0 w' d D (Part.sl 5 b k k (nums .u8 (Ex.rB D ep ids m)) :: E) := by
  obtain ⟨O, hd⟩ := h.disk
  exact (exRead_k w d D O ep hep a n c ids hn (by omega) hr hil m hm hd).mono fun e w' ⟨b, k, he, hk, ⟨cc, ho⟩, t⟩ => ⟨b, k, he, hk, h.push (born_sl t (Nat.le_refl _) ho (Nat.le_refl _) (by
    have := ho.room
    omega))⟩
theorem Rt.write_isD (D : Dk.Disk) (n : Nat) (r : Rt.Root) (hn : n < D.seen.length) : Dk.writeA D (n : Nat) (Rt.put r) = Dk.write D n (Rt.put r) ∧ Dk.writeR D (n : Nat) (Rt.put r) = 0 := by
  have hc : (0 ≤ (n : Int) ∧ (n : Int) < D.seen.length) ∧ (Rt.put r).length ≤ 64 := ⟨by omega, by rw [Rt.put_length]; exact Nat.le_refl _⟩
  rw [Dk.writeA, Dk.writeR, if_pos hc, if_pos hc, Int.toNat_natCast]
  exact ⟨rfl, rfl⟩
set_option maxRecDepth 100000 in
set_option maxHeartbeats 4000000 in
theorem Dd.rootWrite (h : Dd w0 wi d D E) (r : Rt.Root) (hr : r.Ok) :
    Calls Tryz.prog 53 #[.pointer (some ⟨d, 0, none⟩), .agg #[.int .u32 (r.epoch : Nat), .int .u32 (r.first : Nat), .int .u32 (r.bytes : Nat)]] wi fun e w' => e = .returned (.int .i64 (Rt.wE D r : Nat)) ∧ Dd w0 w' d (Rt.wD D r) E := by
  obtain ⟨xe, xf, xb⟩ := r
  have Hr := Lib.hid hr
  have H := Lib.hid h
  obtain ⟨er, her⟩ : ∃ er, Rt.findE D = er := ⟨_, rfl⟩
  obtain ⟨fr, hfr⟩ : ∃ fr, Rt.findR D = fr := ⟨_, rfl⟩
  obtain ⟨nx, hnx⟩ : ∃ nx, Rt.findN D = nx := ⟨_, rfl⟩
  have hfind : Hid (∀ wx, Touch No wi wx → Calls Tryz.prog 145 #[.pointer (some ⟨d, 0, none⟩)] wx (FindPost wx fr nx er)) := fun wx t => by
    rw [← her, ← hfr, ← hnx]
    obtain ⟨O, hO⟩ := (h.no t).disk
    exact find_any wx d D O hO
  have Her := Lib.hid her
  have Hfr := Lib.hid hfr
  have Hnx := Lib.hid hnx
  have hnx1 : nx ≤ 1 := by rw [← hnx]; exact Rt.findN_le D
  obtain ⟨fe, ff, fb⟩ := fr
  clear hr her hfr hnx h
  by_cases c1 : er ≠ 0 ∧ er ≠ 7
  · have hw : Rt.wE D ⟨xe, xf, xb⟩ = er := by rw [Rt.wE, Her.out, if_pos c1]
    have hd : Rt.wD D ⟨xe, xf, xb⟩ = D := by rw [Rt.wD, hw, if_neg c1.1]
    rw [hw, hd]
    have h0 : ((er : Int) != 0) = true := by simp; omega
    have h7 : ((er : Int) != 7) = true := by simp; omega
    clear hw hd c1
    go_enter Tryz.func53, Tryz.ntmps53
    go_wp2_with fail
    refine (hfind.out _ ((Touch.refl No wi).alloc _)).mono ?_
    rintro e w1 ⟨rfl, t1⟩
    have T1 := Lib.hid t1
    clear t1
    go_wp2
    go_ret
    exact ⟨rfl, H.out.no ((((Touch.refl No wi).alloc _).trans T1.out).alloc _)⟩
  by_cases c2 : er = 0 ∧ xe ≤ fe
  · obtain ⟨rfl, c2⟩ := c2
    have hw : Rt.wE D ⟨xe, xf, xb⟩ = 1 := by rw [Rt.wE, Her.out, if_neg (by omega), Hfr.out, if_pos ⟨rfl, c2⟩]
    have hd : Rt.wD D ⟨xe, xf, xb⟩ = D := by rw [Rt.wD, hw, if_neg (by decide)]
    rw [hw, hd]
    have hle : (xe : Int) ≤ (fe : Nat) := by omega
    clear hw hd c1 c2
    go_enter Tryz.func53, Tryz.ntmps53
    go_wp2_with fail
    refine (hfind.out _ ((Touch.refl No wi).alloc _)).mono ?_
    rintro e w1 ⟨rfl, t1⟩
    have hold := (Row.new wi 116 #[.int .u32 (xe : Nat), .int .u32 (xf : Nat), .int .u32 (xb : Nat)]).touch t1 id
    have k0 : w1.cell? ⟨wi.heap.size, 0, none⟩ = some (.int .u32 (xe : Nat)) := hold.cell 0
    have hlt : wi.heap.size < w1.heap.size := lt_of_cell k0
    have T1 := Lib.hid t1
    clear t1 hold
    go_wp2
    go_ret
    exact ⟨rfl, H.out.no ((((Touch.refl No wi).alloc _).trans T1.out).alloc _)⟩
  · have hw : Rt.wE D ⟨xe, xf, xb⟩ = 0 := by rw [Rt.wE, Her.out, if_neg (by omega), Hfr.out, if_neg c2]
    have hd : Rt.wD D ⟨xe, xf, xb⟩ = Dk.sync (Dk.write (Dk.sync D) nx (Rt.put ⟨xe, xf, xb⟩)) := by rw [Rt.wD, hw, if_pos rfl, Hnx.out]
    have h8 : Hid (8 ≤ D.seen.length) := Rt.findE_len (by rw [Her.out]; omega)
    rw [hw, hd]
    have hE : er = 0 ∧ fe < xe ∨ er = 7 := by omega
    clear hw hd c1 c2
    have hwr : Hid (nx < (Dk.sync D).seen.length) := by show nx < D.seen.length; have := h8.out; omega
    rcases hE with ⟨rfl, hE⟩ | rfl
    all_goals
      first | (have hle : ¬ (xe : Int) ≤ (fe : Nat) := by omega) | skip
      go_enter Tryz.func53, Tryz.ntmps53
      go_wp2_with fail
      have S0 := Lib.hid (H.out.push (Born.row wi 116 #[.int .u32 (xe : Nat), .int .u32 (xf : Nat), .int .u32 (xb : Nat)]))
      obtain ⟨X, hX⟩ : ∃ X, X = wi.heap.size := ⟨_, rfl⟩
      rw [← hX] at S0 ⊢
      refine (hfind.out _ ((Touch.refl No wi).alloc _)).mono ?_
      rintro e w1 ⟨rfl, t1⟩
      have k0 : w1.cell? ⟨X, 0, none⟩ = some (.int .u32 (xe : Nat)) := ((S0.out.no t1).row List.mem_cons_self).cell 0
      have hlt : X < w1.heap.size := lt_of_cell k0
      have S1 := Lib.hid ((S0.out.no t1).no ((Touch.refl No w1).alloc (.cells #[.int .u32 (fe : Nat), .int .u32 (ff : Nat), .int .u32 (fb : Nat)] 116)))
      clear t1 S0 hX
      go_wp2_with fail
      refine (S1.out.sync).mono ?_
      rintro e w2 ⟨rfl, s2⟩
      have S2 := Lib.hid s2
      have q0 : w2.cell? ⟨X, 0, none⟩ = some (.int .u32 (xe : Nat)) := (s2.row List.mem_cons_self).cell 0
      have q1 : w2.cell? ⟨X, 1, none⟩ = some (.int .u32 (xf : Nat)) := (s2.row List.mem_cons_self).cell 1
      have q2 : w2.cell? ⟨X, 2, none⟩ = some (.int .u32 (xb : Nat)) := (s2.row List.mem_cons_self).cell 2
      clear s2 k0 hlt S1
      go_wp2_with fail
      refine (rootPut_any w2 ⟨xe, xf, xb⟩ Hr.out).mono ?_
      rintro e w3 ⟨a3, c3, rfl, o3, t3⟩
      have O3 := Lib.hid (o3.rd : Rd w3 a3 (nums .u8 (Rt.put ⟨xe, xf, xb⟩)))
      have S3 := Lib.hid (S2.out.no t3).drop
      clear o3 t3 S2 q0 q1 q2
      have C4 := Lib.hid (S3.out.write (nx : Nat) a3 64 c3 (Rt.put ⟨xe, xf, xb⟩) (Rt.put_length _) (Rt.put_lt _) O3.out (Nat.zero_le _))
      rw [(Rt.write_isD _ nx ⟨xe, xf, xb⟩ hwr.out).1, (Rt.write_isD _ nx ⟨xe, xf, xb⟩ hwr.out).2] at C4
      go_wp2_with fail
      refine C4.out.mono ?_
      rintro e w4 ⟨rfl, s4⟩
      have S4 := Lib.hid s4
      clear S3 O3 s4 C4
      go_wp2_with fail
      refine (S4.out.sync).mono ?_
      rintro e w5 ⟨rfl, s5⟩
      have S5 := Lib.hid s5
      clear S4 s5
      go_wp2
      go_ret
      exact ⟨rfl, S5.out⟩

end
end Go.Proofs.YtnffigfafalocaaGreatDoor
namespace Go.Proofs.YtnffigfafalocaaGreatDoor.Fr

/-- the pages that are free, rising -/
def lst (S : Nat → Bool) : List Nat := (List.range 4096).filter S
def flip (S : Nat → Bool) (p : Nat) : Nat → Bool := fun q => if q = p then !S q else S q
def sub (S : Nat → Bool) (l : List Nat) : Nat → Bool := fun p => S p && !l.contains p
def add (S : Nat → Bool) (l : List Nat) : Nat → Bool := fun p => S p || l.contains p

theorem mem_lst {S : Nat → Bool} {p : Nat} : p ∈ lst S ↔ p < 4096 ∧ S p = true := by simp [lst]
theorem lst_sorted (S : Nat → Bool) : (lst S).Pairwise (· < ·) := List.pairwise_lt_range.filter _
theorem lst_nodup (S : Nat → Bool) : (lst S).Nodup := (lst_sorted S).imp (fun h => Nat.ne_of_lt h)
theorem lst_length_le (S : Nat → Bool) : (lst S).length ≤ 4096 := by
  have := List.length_filter_le S (List.range 4096); simpa [lst] using this

/-- two rising lists with the same members are one -/
theorem sorted_ext : ∀ (a b : List Nat), a.Pairwise (· < ·) → b.Pairwise (· < ·) → (∀ x, x ∈ a ↔ x ∈ b) → a = b
  | [], [], _, _, _ => rfl
  | [], y :: b, _, _, h => by have := (h y).2 (by simp); simp at this
  | x :: a, [], _, _, h => by have := (h x).1 (by simp); simp at this
  | x :: a, y :: b, ha, hb, h => by
    have hxa : ∀ z ∈ a, x < z := (List.pairwise_cons.1 ha).1
    have hyb : ∀ z ∈ b, y < z := (List.pairwise_cons.1 hb).1
    have e : x = y := by
      rcases List.mem_cons.1 ((h x).1 (by simp)) with e | hx
      · exact e
      · rcases List.mem_cons.1 ((h y).2 (by simp)) with e | hy
        · exact e.symm
        · have h1 := hyb x hx; have h2 := hxa y hy; omega
    subst e
    congr 1
    refine sorted_ext a b (List.pairwise_cons.1 ha).2 (List.pairwise_cons.1 hb).2 (fun z => ?_)
    constructor
    · intro hz
      rcases List.mem_cons.1 ((h z).1 (List.mem_cons_of_mem _ hz)) with e | h'
      · have := hxa z hz; omega
      · exact h'
    · intro hz
      rcases List.mem_cons.1 ((h z).2 (List.mem_cons_of_mem _ hz)) with e | h'
      · have := hyb z hz; omega
      · exact h'

/-- the least free page stands first -/
theorem lst_cons {S : Nat → Bool} {p : Nat} (hp : p < 4096) (hS : S p = true) (hl : ∀ q, q < p → S q = false) : lst S = p :: lst (flip S p) := by
  refine sorted_ext _ _ (lst_sorted S) (List.pairwise_cons.2 ⟨fun q hq => ?_, lst_sorted _⟩) (fun q => ?_)
  · obtain ⟨_, h2⟩ := mem_lst.1 hq
    by_cases e : q = p
    · subst e; simp [flip, hS] at h2
    · rcases Nat.lt_or_gt_of_ne e with h | h
      · have := hl q h; simp [flip, e, this] at h2
      · exact h
  · rw [List.mem_cons, mem_lst, mem_lst]
    by_cases e : q = p
    · subst e; simp [hp, hS]
    · simp [flip, e]

theorem lst_flip_on {S : Nat → Bool} {p : Nat} (hp : p < 4096) (hS : S p = true) : (lst S).length = (lst (flip S p)).length + 1 := by
  have h : ∀ (l : List Nat), l.Nodup → p ∈ l → (l.filter S).length = (l.filter (flip S p)).length + 1 := by
    intro l
    induction l with
    | nil => intro _ h; simp at h
    | cons x l ih =>
      intro hn hm
      obtain ⟨hx, hn'⟩ := List.nodup_cons.1 hn
      by_cases e : x = p
      · subst e
        have hc : l.filter (flip S x) = l.filter S := List.filter_congr (fun q hq => by
          have : q ≠ x := fun e => hx (e ▸ hq)
          simp [flip, this])
        have hf : flip S x x = false := by simp [flip, hS]
        rw [List.filter_cons_of_pos hS, List.filter_cons_of_neg (by simp [hf]), hc]; simp
      · have hm' : p ∈ l := by rcases List.mem_cons.1 hm with h | h; exact absurd h.symm e; exact h
        have hf : flip S p x = S x := by simp [flip, e]
        rw [List.filter_cons, List.filter_cons, hf]
        have := ih hn' hm'
        cases S x <;> simp [this]
  exact h _ List.nodup_range (by simpa using hp)

theorem flip_flip (S : Nat → Bool) (p : Nat) : flip (flip S p) p = S := by
  funext q; simp only [flip]; split <;> simp

theorem lst_flip_off {S : Nat → Bool} {p : Nat} (hp : p < 4096) (hS : S p = false) : (lst (flip S p)).length = (lst S).length + 1 := by
  have := lst_flip_on (S := flip S p) hp (by simp [flip, hS])
  rwa [flip_flip] at this

/-- a word of the map: its bits are the pages -/
def Word (x : Nat) (S : Nat → Bool) (i : Nat) : Prop := x < 18446744073709551616 ∧ ∀ j, j < 64 → x.testBit j = S (64 * i + j)

theorem two_pow_lt {j : Nat} (hj : j < 64) : 2 ^ j < 18446744073709551616 := by
  have h : 2 ^ j < 2 ^ 64 := Nat.pow_lt_pow_right (by decide) hj
  have e : (2 : Nat) ^ 64 = 18446744073709551616 := by decide
  omega
theorem Word.flip_here {x i j : Nat} {S : Nat → Bool} (h : Word x S i) (hj : j < 64) : Word (x ^^^ 2 ^ j) (flip S (64 * i + j)) i := by
  have e : (18446744073709551616 : Nat) = 2 ^ 64 := by decide
  refine ⟨?_, fun k hk => ?_⟩
  · rw [e]; exact Nat.xor_lt_two_pow (by rw [← e]; exact h.1) (by rw [← e]; exact two_pow_lt hj)
  · rw [Nat.testBit_xor, h.2 k hk, Nat.testBit_two_pow]
    by_cases hkj : k = j
    · subst hkj; simp [flip]
    · simp [flip, hkj, Ne.symm hkj]
theorem Word.flip_there {x i p : Nat} {S : Nat → Bool} (h : Word x S i) (hp : p / 64 ≠ i) : Word x (flip S p) i := by
  refine ⟨h.1, fun k hk => ?_⟩
  have : ¬ (64 * i + k = p) := by omega
  rw [h.2 k hk]; simp [flip, this]
theorem Word.flip {x i p : Nat} {S : Nat → Bool} (h : Word x S i) (hp : p / 64 = i) : Word (x ^^^ 2 ^ (p % 64)) (Fr.flip S p) i := by
  have := h.flip_here (j := p % 64) (Nat.mod_lt _ (by decide))
  have e : 64 * i + p % 64 = p := by omega
  rwa [e] at this
theorem Word.bit {x i p : Nat} {S : Nat → Bool} (h : Word x S i) (hp : p / 64 = i) : x.testBit (p % 64) = S p := by
  have e : 64 * i + p % 64 = p := by omega
  rw [h.2 _ (Nat.mod_lt _ (by decide)), e]
theorem Word.zero {x i : Nat} {S : Nat → Bool} (h : Word x S i) : x = 0 ↔ ∀ j, j < 64 → S (64 * i + j) = false := by
  constructor
  · rintro rfl j hj; rw [← h.2 j hj]; simp
  · intro hz
    refine Nat.eq_of_testBit_eq (fun j => ?_)
    by_cases hj : j < 64
    · rw [h.2 j hj, hz j hj]; simp
    · have e : (18446744073709551616 : Nat) = 2 ^ 64 := by decide
      have : x < 2 ^ j := Nat.lt_of_lt_of_le h.1 (by rw [e]; exact Nat.pow_le_pow_right (by decide) (by omega))
      rw [Nat.testBit_lt_two_pow this]; simp

theorem and_pow (x j : Nat) : x &&& 2 ^ j = if x.testBit j then 2 ^ j else 0 := by
  refine Nat.eq_of_testBit_eq (fun k => ?_)
  rw [Nat.testBit_and, Nat.testBit_two_pow]
  by_cases h : j = k
  · subst h; cases hx : x.testBit j <;> simp
  · cases hx : x.testBit j <;> simp [h]
theorem shift_one (x j : Nat) : x / 2 ^ j % 2 = if x.testBit j then 1 else 0 := by
  rw [Nat.testBit_eq_decide_div_mod_eq]
  have := Nat.mod_two_eq_zero_or_one (x / 2 ^ j)
  rcases this with h | h <;> simp [h]

/-- x = 2^t (2m + 1): the least bit is t -/
theorem least_bit {x t m : Nat} (h : x = 2 ^ t * (2 * m + 1)) : x.testBit t = true ∧ ∀ j, j < t → x.testBit j = false := by
  subst h
  constructor
  · rw [Nat.testBit_two_pow_mul]; simp [Nat.testBit_zero]
  · intro j hj
    rw [Nat.testBit_two_pow_mul]; simp; omega

/-! ### lists that are taken and given -/
theorem sub_nil (S : Nat → Bool) : sub S [] = S := by funext p; simp [sub]
theorem add_nil (S : Nat → Bool) : add S [] = S := by funext p; simp [add]
theorem flip_sub {S : Nat → Bool} {l : List Nat} {p : Nat} (h : sub S l p = true) : flip (sub S l) p = sub S (l ++ [p]) := by
  funext q
  simp only [flip, sub, List.contains_eq_mem, List.mem_append, List.mem_singleton]
  by_cases e : q = p
  · subst e; rw [if_pos rfl]
    have : (S q && !decide (q ∈ l)) = true := by simpa [sub] using h
    rw [this]; simp
  · rw [if_neg e]; simp [e]
theorem flip_add {S : Nat → Bool} {l : List Nat} {p : Nat} (h : add S l p = false) : flip (add S l) p = add S (l ++ [p]) := by
  funext q
  simp only [flip, add, List.contains_eq_mem, List.mem_append, List.mem_singleton]
  by_cases e : q = p
  · subst e; rw [if_pos rfl]
    have : (S q || decide (q ∈ l)) = false := by simpa [add] using h
    rw [this]; simp
  · rw [if_neg e]; simp [e]

/-- the k least are taken: the others stay, rising -/
theorem lst_sub_take (S : Nat → Bool) (k : Nat) : lst (sub S ((lst S).take k)) = (lst S).drop k := by
  refine sorted_ext _ _ (lst_sorted _) ((lst_sorted S).sublist (List.drop_sublist k _)) (fun q => ?_)
  have hs := lst_sorted S
  rw [mem_lst]
  have hsplit : q ∈ lst S ↔ q ∈ (lst S).take k ∨ q ∈ (lst S).drop k := by
    conv => lhs; rw [← List.take_append_drop k (lst S)]
    exact List.mem_append
  have hdis : q ∈ (lst S).take k → q ∈ (lst S).drop k → False := by
    intro h1 h2
    have hs' := hs
    rw [← List.take_append_drop k (lst S)] at hs'
    have := (List.pairwise_append.1 hs').2.2 q h1 q h2
    omega
  constructor
  · rintro ⟨h1, h2⟩
    simp only [sub, Bool.and_eq_true, List.contains_eq_mem, Bool.not_eq_true', decide_eq_false_iff_not] at h2
    rcases hsplit.1 (mem_lst.2 ⟨h1, h2.1⟩) with h | h
    · exact absurd h h2.2
    · exact h
  · intro h
    obtain ⟨h1, h2⟩ := mem_lst.1 (hsplit.2 (Or.inr h))
    refine ⟨h1, ?_⟩
    simp only [sub, Bool.and_eq_true, List.contains_eq_mem, Bool.not_eq_true', decide_eq_false_iff_not]
    exact ⟨h2, fun h' => hdis h' h⟩
/-- given again they are as they were -/
theorem add_sub {S : Nat → Bool} {l m : List Nat} (hl : ∀ p ∈ l, S p = true) (hm : ∀ p, p ∈ m ↔ p ∈ l) : add (sub S l) m = S := by
  funext q
  simp only [add, sub, List.contains_eq_mem]
  by_cases h : q ∈ l
  · simp [h, hm, hl q h]
  · simp [h, hm]
end Go.Proofs.YtnffigfafalocaaGreatDoor.Fr
namespace Go.Proofs.YtnffigfafalocaaGreatDoor
open Go.RowKit

/-- block b is a map of the pages from first to last whose free ones are S -/
structure MapAt (w : World) (b first last : Nat) (S : Nat → Bool) : Prop where
  made : w.cell? ⟨b, 0, none⟩ = some (.int .i64 1)
  lo : w.cell? ⟨b, 1, none⟩ = some (.int .i64 (first : Nat))
  hi : w.cell? ⟨b, 2, none⟩ = some (.int .i64 (last : Nat))
  word : ∀ i, i < 64 → ∃ x : Nat, w.cell? ⟨b, 3 + i, none⟩ = some (.int .u64 (x : Nat)) ∧ Fr.Word x S i
  many : w.cell? ⟨b, 67, none⟩ = some (.int .i64 ((Fr.lst S).length : Nat))
  soft : ∀ o, w.frozen? ⟨b, o, none⟩ = false
  top : last ≤ 4096
  rng : ∀ p, S p = true → first ≤ p ∧ p < last

theorem MapAt.lt {w : World} {b first last : Nat} {S : Nat → Bool} (h : MapAt w b first last S) : b < w.heap.size := lt_of_cell h.made
theorem MapAt.touch {F : Nat → Prop} {w w' : World} {b first last : Nat} {S : Nat → Bool} (h : MapAt w b first last S) (t : Touch F w w') (hF : ¬ F b) : MapAt w' b first last S :=
  ⟨t.cell hF h.made, t.cell hF h.lo, t.cell hF h.hi, fun i hi => let ⟨x, hx, hw⟩ := h.word i hi; ⟨x, t.cell hF hx, hw⟩, t.cell hF h.many,
    fun o => (t.frozen h.lt hF o).trans (h.soft o), h.top, h.rng⟩

theorem turn_world {w : World} {b first last p x : Nat} {S : Nat → Bool} {n : Int} (h : MapAt w b first last S) (hp : p < 4096) (hr : first ≤ p ∧ p < last)
    (hx : w.cell? ⟨b, 3 + p / 64, none⟩ = some (.int .u64 (x : Nat))) (hn : n = ((Fr.lst (Fr.flip S p)).length : Nat)) :
    MapAt ((w.setCell ⟨b, 3 + p / 64, none⟩ (.int .u64 ((x ^^^ 2 ^ (p % 64) : Nat) : Int))).setCell ⟨b, 67, none⟩ (.int .i64 n)) b first last (Fr.flip S p) := by
  have h1 : p / 64 < 64 := by omega
  obtain ⟨x', hx', hw⟩ := h.word _ h1
  have ex : x' = x := by rw [hx] at hx'; injection hx' with e; injection e with _ e; omega
  subst ex
  have c : ∀ o v, o ≠ 67 → o ≠ 3 + p / 64 → w.cell? ⟨b, o, none⟩ = some v → ((w.setCell ⟨b, 3 + p / 64, none⟩ (.int .u64 ((x' ^^^ 2 ^ (p % 64) : Nat) : Int))).setCell ⟨b, 67, none⟩ (.int .i64 n)).cell? ⟨b, o, none⟩ = some v := by
    intro o v h67 h3 hv
    rw [cell_set_ne (Or.inr (Ne.symm h67)), cell_set_ne (Or.inr (Ne.symm h3))]; exact hv
  have hm : (w.setCell ⟨b, 3 + p / 64, none⟩ (.int .u64 ((x' ^^^ 2 ^ (p % 64) : Nat) : Int))).cell? ⟨b, 67, none⟩ = some (.int .i64 ((Fr.lst S).length : Nat)) := by
    rw [cell_set_ne (Or.inr (by omega))]; exact h.many
  refine ⟨c 0 _ (by omega) (by omega) h.made, c 1 _ (by omega) (by omega) h.lo, c 2 _ (by omega) (by omega) h.hi, fun i hi => ?_, ?_, fun o => ?_, h.top, fun q hq => ?_⟩
  · by_cases e : p / 64 = i
    · subst e
      refine ⟨_, ?_, hw.flip rfl⟩
      rw [cell_set_ne (Or.inr (by omega)), cell_set hx]
    · obtain ⟨y, hy, hwy⟩ := h.word i hi
      exact ⟨y, c _ _ (by omega) (by omega) hy, hwy.flip_there e⟩
  · rw [cell_set hm, hn]
  · rw [World.frozen?_setCell, World.frozen?_setCell]; exact h.soft o
  · by_cases e : q = p
    · subst e; exact hr
    · exact h.rng q (by simpa [Fr.flip, e] using hq)

theorem shl_pow (p : Nat) : IntKind.u64.wrap (2 ^ (p % 64)) = ((2 ^ (p % 64) : Nat) : Int) := by
  have h1 := Fr.two_pow_lt (Nat.mod_lt p (show 0 < 64 by decide))
  have e : ((2 : Int) ^ (p % 64)) = ((2 ^ (p % 64) : Nat) : Int) := by norm_cast
  rw [e, IntKind.wrap_u64]
  clear e
  generalize (2 ^ (p % 64) : Nat) = a at *
  omega

set_option maxHeartbeats 1000000 in
theorem turn_any (w : World) (b first last p : Nat) (S : Nat → Bool) (h : MapAt w b first last S) (hr : first ≤ p ∧ p < last) :
    Calls Tryz.prog 139 #[.pointer (some ⟨b, 0, none⟩), .int .u32 (p : Nat)] w fun e w' => e = .returned (.tuple #[]) ∧ Touch (One b) w w' ∧ MapAt w' b first last (Fr.flip S p) := by
  have hp : p < 4096 := by have := h.top; omega
  have h1 : p / 64 < 64 := by omega
  obtain ⟨x, hx, hw⟩ := h.word _ h1
  have hb := hw.bit (p := p) rfl
  have hxf := h.soft (3 + p / 64)
  have hm := h.many
  have hmf := h.soft 67
  have hl := Fr.lst_length_le S
  have hpow := Fr.two_pow_lt (Nat.mod_lt p (show 0 < 64 by decide))
  have hxor : bits BinOp.xor .u64 (x : Int) (IntKind.u64.wrap (2 ^ (p % 64))) = ((x ^^^ 2 ^ (p % 64) : Nat) : Int) := by
    rw [shl_pow, bits_xor_u64_nat _ _ hw.1 hpow]
  have hand : bits BinOp.and .u64 ((x ^^^ 2 ^ (p % 64) : Nat) : Int) (IntKind.u64.wrap (2 ^ (p % 64))) = (((x ^^^ 2 ^ (p % 64)) &&& 2 ^ (p % 64) : Nat) : Int) := by
    rw [shl_pow, bits_and_u64_nat _ _ (hw.flip (p := p) rfl).1 hpow]
  have hbit := (hw.flip (p := p) rfl).bit (p := p) rfl
  have htest : (((((x ^^^ 2 ^ (p % 64)) &&& 2 ^ (p % 64) : Nat) : Int)) == 0) = S p := by
    rw [Fr.and_pow, hbit]
    cases hS : S p
    · have : 0 < 2 ^ (p % 64) := Nat.pow_pos (by decide)
      rw [if_pos (by simp [Fr.flip, hS])]
      generalize (2 ^ (p % 64) : Nat) = a at *
      simp; omega
    · simp [Fr.flip, hS]
  have fin : ∀ n : Int, n = ((Fr.lst (Fr.flip S p)).length : Nat) →
      Touch (One b) w ((w.setCell ⟨b, 3 + p / 64, none⟩ (.int .u64 ((x ^^^ 2 ^ (p % 64) : Nat) : Int))).setCell ⟨b, 67, none⟩ (.int .i64 n)) ∧
      MapAt ((w.setCell ⟨b, 3 + p / 64, none⟩ (.int .u64 ((x ^^^ 2 ^ (p % 64) : Nat) : Int))).setCell ⟨b, 67, none⟩ (.int .i64 n)) b first last (Fr.flip S p) := fun n hn =>
    ⟨((Touch.refl (One b) w).setCell (p := ⟨b, 3 + p / 64, none⟩) (fun _ => rfl) _).setCell (p := ⟨b, 67, none⟩) (fun _ => rfl) _, turn_world h hp hr hx hn⟩
  have Fin := Lib.hid fin
  clear fin hbit hb hpow
  generalize hxx : (x ^^^ 2 ^ (p % 64) : Nat) = xx at *
  generalize hyy : (xx &&& 2 ^ (p % 64) : Nat) = yy at *
  have H := Lib.hid h
  have Hw := Lib.hid hw
  have Hr := Lib.hid hr
  have Hxx := Lib.hid hxx
  have Hyy := Lib.hid hyy
  clear h hw hr h1 hxx hyy
  cases hS : S p
  · have HS := Lib.hid hS
    rw [hS] at htest
    have Hn := Lib.hid (Fr.lst_flip_off hp hS)
    clear hS
    generalize (Fr.lst S).length = n0 at *
    go_enter Tryz.func139, Tryz.ntmps139
    go_wp2
    go_end0
    exact ⟨rfl, Fin.out _ (by rw [Hn.out]; omega)⟩
  · have HS := Lib.hid hS
    rw [hS] at htest
    have hn1 := Fr.lst_flip_on hp hS
    have Hn := Lib.hid hn1
    have hpos : 1 ≤ (Fr.lst S).length := by omega
    clear hS hn1
    generalize (Fr.lst S).length = n0 at *
    go_enter Tryz.func139, Tryz.ntmps139
    go_wp2
    go_end0
    exact ⟨rfl, Fin.out _ (by rw [Hn.out]; omega)⟩
end Go.Proofs.YtnffigfafalocaaGreatDoor
namespace Go.Proofs.YtnffigfafalocaaGreatDoor
open Go.RowKit

/-- a page of the map? -/
def inMap (first last p : Nat) : Bool := decide (first ≤ p) && decide (p < last)
theorem inMap_true {first last p : Nat} : inMap first last p = true ↔ first ≤ p ∧ p < last := by simp [inMap]
theorem inMap_false {first last p : Nat} : inMap first last p = false ↔ ¬ (first ≤ p ∧ p < last) := by
  rw [← inMap_true]; cases inMap first last p <;> simp

set_option maxHeartbeats 400000 in
theorem there_map (w : World) (b first last : Nat) (S : Nat → Bool) (h : MapAt w b first last S) :
    Calls Tryz.prog 137 #[.pointer (some ⟨b, 0, none⟩)] w fun e w' => e = .returned (.bool true) ∧ w = w' := by
  have hm := h.made
  go_enter Tryz.func137, Tryz.ntmps137
  go_wp2
  go_ret
  exact ⟨rfl, rfl⟩

set_option maxHeartbeats 400000 in
theorem pageOf_any (w : World) (b first last p : Nat) (S : Nat → Bool) (h : MapAt w b first last S) (hp : p < 4294967296) :
    Calls Tryz.prog 149 #[.pointer (some ⟨b, 0, none⟩), .int .u32 (p : Nat)] w fun e w' => e = .returned (.bool (inMap first last p)) ∧ w = w' := by
  have hlo := h.lo
  have hhi := h.hi
  have ht := h.top
  have hpi : (p : Int) ≤ 4294967295 := by omega
  have Fin : Hid (∀ c : Bool, (c = true ↔ first ≤ p ∧ p < last) → c = inMap first last p) := fun c hc => by
    rw [Bool.eq_iff_iff, hc, inMap_true]
  clear h
  by_cases h1 : first ≤ p
  · by_cases h2 : p < last
    · have hl : (first : Int) ≤ 4611686018427387904 := by omega
      go_enter Tryz.func149, Tryz.ntmps149
      go_wp2
      go_ret
      exact ⟨ret_bool (Fin.out _ (by simp [h1, h2])), rfl⟩
    · have hl : (last : Int) ≤ 4611686018427387904 := by omega
      go_enter Tryz.func149, Tryz.ntmps149
      go_wp2
      go_ret
      exact ⟨ret_bool (Fin.out _ (by simp [h2])), rfl⟩
  · go_enter Tryz.func149, Tryz.ntmps149
    go_wp2
    go_ret
    exact ⟨ret_bool (Fin.out _ (by simp [h1])), rfl⟩
end Go.Proofs.YtnffigfafalocaaGreatDoor
namespace Go.Proofs.YtnffigfafalocaaGreatDoor
open Go.RowKit

theorem bit_test15 (x j : Nat) (hx : x < 18446744073709551616) : (bits BinOp.and .u64 ((x : Int) / 2 ^ j) 1 == 1) = x.testBit j := by
  have e : ((x : Int) / 2 ^ j) = ((x / 2 ^ j : Nat) : Int) := by norm_cast
  have hl : x / 2 ^ j < 18446744073709551616 := Nat.lt_of_le_of_lt (Nat.div_le_self _ _) hx
  have h := bits_and_u64_nat (x / 2 ^ j) 1 hl (by decide)
  rw [e]
  rw [show ((1 : Nat) : Int) = 1 from rfl] at h
  rw [h, nat_mask1, Fr.shift_one]
  cases x.testBit j <;> rfl

set_option maxHeartbeats 400000 in
theorem is_any (w : World) (b first last p : Nat) (S : Nat → Bool) (h : MapAt w b first last S) (hp : p < 4294967296) :
    Calls Tryz.prog 150 #[.pointer (some ⟨b, 0, none⟩), .int .u32 (p : Nat)] w fun e w' => e = .returned (.bool (S p)) ∧ w = w' := by
  cases hc : inMap first last p
  · have hS : S p = false := by
      cases hS : S p
      · rfl
      · exact absurd (h.rng p hS) (inMap_false.1 hc)
    have HS := Lib.hid hS; clear hS
    have H := Lib.hid h; clear h
    go_enter Tryz.func150, Tryz.ntmps150
    go_wp2_with (first
      | (go_at_call 137; refine (there_map _ _ _ _ _ H.out).mono ?_; rintro e w' ⟨rfl, rfl⟩)
      | (go_at_call 149; refine (pageOf_any _ _ _ _ _ _ H.out hp).mono ?_; rintro e w' ⟨rfl, rfl⟩))
    go_ret
    exact ⟨ret_bool HS.out.symm, rfl⟩
  · have hr := inMap_true.1 hc
    have hp' : p < 4096 := by have := h.top; omega
    obtain ⟨x, hx, hw⟩ := h.word (p / 64) (by omega)
    have hb := hw.bit (p := p) rfl
    have H := Lib.hid h; clear h
    go_enter Tryz.func150, Tryz.ntmps150
    go_wp2_with (first
      | (go_at_call 137; refine (there_map _ _ _ _ _ H.out).mono ?_; rintro e w' ⟨rfl, rfl⟩)
      | (go_at_call 149; refine (pageOf_any _ _ _ _ _ _ H.out hp).mono ?_; rintro e w' ⟨rfl, rfl⟩))
    go_ret
    exact ⟨ret_bool (by rw [bit_test15 _ _ hw.1, hb]), rfl⟩

set_option maxHeartbeats 400000 in
theorem free_any (w : World) (b first last : Nat) (S : Nat → Bool) (h : MapAt w b first last S) :
    Calls Tryz.prog 129 #[.pointer (some ⟨b, 0, none⟩)] w fun e w' => e = .returned (.int .i64 ((Fr.lst S).length : Nat)) ∧ w = w' := by
  have hm := h.many
  have H := Lib.hid h; clear h
  go_enter Tryz.func129, Tryz.ntmps129
  go_wp2_with (go_at_call 137; refine (there_map _ _ _ _ _ H.out).mono ?_; rintro e w' ⟨rfl, rfl⟩)
  go_ret
  exact ⟨rfl, rfl⟩

/-- what Mark says -/
def markSays (first last : Nat) (S : Nat → Bool) (p : Nat) : Nat := if inMap first last p then (if S p then 0 else 8) else 1
def markSet (S : Nat → Bool) (p : Nat) : Nat → Bool := if S p then Fr.flip S p else S

set_option maxHeartbeats 400000 in
theorem mark_any (w : World) (b first last p : Nat) (S : Nat → Bool) (h : MapAt w b first last S) (hp : p < 4294967296) :
    Calls Tryz.prog 131 #[.pointer (some ⟨b, 0, none⟩), .int .u32 (p : Nat)] w fun e w' => e = .returned (.int .i64 (markSays first last S p : Nat)) ∧ Touch (One b) w w' ∧ MapAt w' b first last (markSet S p) := by
  have H := Lib.hid h
  cases hc : inMap first last p
  · have fin : MapAt w b first last (markSet S p) := by
      have : S p = false := by
        cases hS : S p
        · rfl
        · exact absurd (h.rng p hS) (inMap_false.1 hc)
      rw [markSet, this]; exact h
    have Fin := Lib.hid fin; clear fin h
    have hm : markSays first last S p = 1 := by simp [markSays, hc]
    rw [hm]; clear hm
    go_enter Tryz.func131, Tryz.ntmps131
    go_wp2_with (first
      | (go_at_call 137; refine (there_map _ _ _ _ _ H.out).mono ?_; rintro e w' ⟨rfl, rfl⟩)
      | (go_at_call 149; refine (pageOf_any _ _ _ _ _ _ H.out hp).mono ?_; rintro e w' ⟨rfl, rfl⟩))
    go_ret
    exact ⟨rfl, Touch.refl _ _, Fin.out⟩
  · cases hS : S p
    · have fin : MapAt w b first last (markSet S p) := by rw [markSet, hS]; exact h
      have Fin := Lib.hid fin; clear fin h
      have hm : markSays first last S p = 8 := by simp [markSays, hc, hS]
      rw [hm]; clear hm
      go_enter Tryz.func131, Tryz.ntmps131
      go_wp2_with (first
        | (go_at_call 137; refine (there_map _ _ _ _ _ H.out).mono ?_; rintro e w' ⟨rfl, rfl⟩)
        | (go_at_call 149; refine (pageOf_any _ _ _ _ _ _ H.out hp).mono ?_; rintro e w' ⟨rfl, rfl⟩)
        | (go_at_call 150; refine (is_any _ _ _ _ _ _ H.out hp).mono ?_; rintro e w' ⟨rfl, rfl⟩))
      go_ret
      exact ⟨rfl, Touch.refl _ _, Fin.out⟩
    · have hr := inMap_true.1 hc
      have fin : ∀ w', MapAt w' b first last (Fr.flip S p) → MapAt w' b first last (markSet S p) := by intro w' h'; rw [markSet, hS]; exact h'
      have Fin := Lib.hid fin; clear fin h
      have hm : markSays first last S p = 0 := by simp [markSays, hc, hS]
      rw [hm]; clear hm
      go_enter Tryz.func131, Tryz.ntmps131
      go_wp2_with (first
        | (go_at_call 137; refine (there_map _ _ _ _ _ H.out).mono ?_; rintro e w' ⟨rfl, rfl⟩)
        | (go_at_call 149; refine (pageOf_any _ _ _ _ _ _ H.out hp).mono ?_; rintro e w' ⟨rfl, rfl⟩)
        | (go_at_call 150; refine (is_any _ _ _ _ _ _ H.out hp).mono ?_; rintro e w' ⟨rfl, rfl⟩)
        | (go_at_call 139; refine (turn_any _ _ _ _ _ _ H.out hr).mono ?_; rintro e w' ⟨rfl, ht, hm⟩))
      go_ret
      exact ⟨rfl, ht, Fin.out _ hm⟩
end Go.Proofs.YtnffigfafalocaaGreatDoor
