/-
  A disk beside what else stands there: its own methods, roots, pages, extents.
-/
import Derived.Test.YtpmkegbgbldpnaaGreatDoorK08
import Derived.Test.YtpmkegbgbldpnaaGreatDoorK12
import Derived.Test.YtpmkegbgbldpnaaGreatDoorK18
namespace Go.Proofs.YtpmkegbgbldpnaaGreatDoor
open Go Go.RowKit
set_option linter.unusedSimpArgs false
set_option linter.unusedVariables false

/-- one part turned, the others kept -/
theorem Sl.step2 {w0 w : World} {p : Part} {l : List Part} (h : Sl w0 w (p :: l)) : ∃ A, p.P w A ∧ (∀ k, A k → w0.heap.size ≤ k ∧ k < w.heap.size) ∧ (∀ q ∈ l, ∃ C, q.P w C ∧ ∀ k, A k → ¬ C k) ∧ ∀ w' l', TurnsL w A l' w' → Sl w0 w' (l' ++ l) := by
  obtain ⟨O, ⟨A, B, ha, hb, hd, h1, h2⟩, h3, t0⟩ := h
  refine ⟨A, ha, fun k hk => h3 k (h1 k hk), fun q hq => ?_, fun w' l' ht => ?_⟩
  · obtain ⟨C, hC, hCB⟩ := hb.mem hq
    exact ⟨C, hC, fun k hk hc => hd k hk (hCB k hc)⟩
  · obtain ⟨t, A', ha', hin⟩ := ht
    have hAl : Al w' (l' ++ l) (fun k => A' k ∨ (B k ∧ k < w.heap.size)) := Al.join ha' (Al.stable t hb.cut (fun k hk f => hd k f hk.1)) (fun k hk hB => by
      rcases hin k hk with h | h
      · exact hd k h hB.1
      · have := hB.2
        omega) (fun k => Or.inl) (fun k => Or.inr)
    refine ⟨_, hAl.cut, fun k hk => ⟨?_, hk.2⟩, t0.then t (fun i hi f => absurd hi (Nat.not_lt.2 (h3 i (h1 i f)).1))⟩
    rcases hk.1 with h | h
    · rcases hin k h with h | h
      · exact (h3 k (h1 k h)).1
      · exact Nat.le_trans t0.size h
    · exact (h3 k (h2 k h.1)).1
theorem keep_old {w0 w : World} {A : Nat → Prop} {a : Option Addr} {vs : List Value} (hr : Rd w0 a vs) (t : Touch No w0 w) (hA : ∀ k, A k → w0.heap.size ≤ k ∧ k < w.heap.size) : Keep w A a vs :=
  ⟨hr.no t, fun g o e hv ho => by
    subst e
    have := hr.lt hv
    have := (hA g ho).1
    omega⟩
def Dd (w0 w : World) (d : Nat) (D : Dk.Disk) (E : List Part) : Prop := Sl w0 w (Part.disk d D :: E)
section
variable {w0 w w' wi : World} {d : Nat} {D : Dk.Disk} {E E' : List Part}
theorem Dd.end (h : Dd w0 w d D E) : Touch No w0 w := Sl.end h
theorem Dd.no (h : Dd w0 w d D E) (t : Touch No w w') : Dd w0 w' d D E := Sl.no h t
theorem Dd.disk (h : Dd w0 w d D E) : ∃ O, DiskAt w d D O := by
  obtain ⟨A, ⟨h, _⟩, _⟩ := Sl.mem h (List.mem_cons_self)
  exact ⟨A, h⟩
theorem Dd.ok (h : Dd w0 w d D E) : Dk.Ok D := by
  obtain ⟨O, h⟩ := h.disk
  exact h.ok
theorem Dd.rest (h : Dd w0 w d D E) {p : Part} (hp : p ∈ E) : ∃ A, p.P w A ∧ ∀ k, A k → w0.heap.size ≤ k ∧ k < w.heap.size := Sl.mem h (List.mem_cons_of_mem _ hp)
theorem Dd.row (h : Dd w0 w d D E) {T : TypeId} {x : Nat} {vs : List Value} (hp : Part.row x T vs ∈ E) : Row w x T vs := by
  obtain ⟨A, ⟨h, _⟩, _⟩ := h.rest hp
  exact h
theorem Dd.rd (h : Dd w0 w d D E) {T : TypeId} {a : Option Addr} {m c : Nat} {vs : List Value} (hp : Part.sl T a m c vs ∈ E) : Rd w a vs := by
  obtain ⟨A, ha, _⟩ := h.rest hp
  exact sl_rd ha
theorem Dd.push {p : Part} (h : Dd w0 w d D E) (hb : Born w p w') : Dd w0 w' d D (p :: E) := Sl.perm (Sl.push h hb) (List.Perm.swap _ _ _)
theorem Dd.perm (h : Dd w0 w d D E) (hp : E.Perm E') : Dd w0 w d D E' := Sl.perm h (hp.cons _)
theorem Dd.drop {p : Part} (h : Dd w0 w d D (p :: E)) : Dd w0 w d D E := (Sl.perm h (List.Perm.swap _ _ _)).drop
theorem Dd.turn {D' : Dk.Disk} {P : Program} {f : FuncId} {args : Array Value} {Z : Ending → Prop} (h : Dd w0 w d D E)
    (C : ∀ F, Al w [Part.disk d D] F → Calls P f args w fun e w' => Z e ∧ TurnsL w F [Part.disk d D'] w') :
    Calls P f args w fun e w' => Z e ∧ Dd w0 w' d D' E := by
  obtain ⟨F, hF, _, hf⟩ := Sl.frame (l := [Part.disk d D]) (m := E) h
  exact (C F hF).mono fun e w' ⟨he, ht⟩ => ⟨he, hf w' _ ht⟩
/-- a part beside it, taken up and laid down again, as it is or as others -/
theorem Dd.with {p : Part} (h : Dd w0 w d D (p :: E)) : ∃ A, p.P w A ∧ (∀ k, A k → w0.heap.size ≤ k ∧ k < w.heap.size) ∧ (∀ q ∈ Part.disk d D :: E, ∃ C, q.P w C ∧ ∀ k, A k → ¬ C k) ∧ ∀ w' l', TurnsL w A l' w' → Dd w0 w' d D (l' ++ E) := by
  obtain ⟨A, h1, h2, h3, h4⟩ := Sl.step2 (Sl.perm h (List.Perm.swap _ _ _))
  exact ⟨A, h1, h2, h3, fun w' l' t => Sl.perm (h4 w' l' t) List.perm_middle⟩
/-- the disk taken up -/
theorem Dd.with0 (h : Dd w0 w d D E) : ∃ A, Dsk w d D 0 A ∧ (∀ k, A k → w0.heap.size ≤ k ∧ k < w.heap.size) ∧ (∀ q ∈ E, ∃ C, q.P w C ∧ ∀ k, A k → ¬ C k) ∧ ∀ w' D', After w d D' 0 A w' → Dd w0 w' d D' E := by
  obtain ⟨A, ⟨h1, h1'⟩, h2, h3, h4⟩ := Sl.step2 h
  exact ⟨A, ⟨h1, h1', fun _ _ => Nat.zero_le _⟩, h2, h3, fun w' D' t => h4 w' [_] (disk_turn (fun _ h => h) t)⟩
theorem Dd.write (h : Dd w0 w d D E) (n : Int) (a : Option Addr) (l c : Nat) (b : List Nat) (hl : b.length = l) (hlt : ∀ x ∈ b, x < 256) (hr : Rd w a (nums .u8 b)) (hw : D.waits.length ≤ 1000000) :
    Calls Tryz.prog 12 #[.pointer (some ⟨d, 0, none⟩), .int .i64 n, .slice a l c] w fun e w' => e = .returned (.int .i64 (Dk.writeR D n b : Nat)) ∧ Dd w0 w' d (Dk.writeA D n b) E :=
  h.turn (fun F hF => diskWrite_al hF n a l c b hl hlt hr hw)
theorem Dd.sync (h : Dd w0 w d D E) :
    Calls Tryz.prog 172 #[.pointer (some ⟨d, 0, none⟩)] w fun e w' => e = .returned (.int .i64 0) ∧ Dd w0 w' d (Dk.sync D) E := h.turn (fun F hF => diskSync_al hF)
theorem Dd.len (h : Dd w0 w d D E) : Calls Tryz.prog 55 #[.pointer (some ⟨d, 0, none⟩)] w fun e w' => e = .returned (.int .i64 (D.seen.length : Nat)) ∧ w = w' := by
  obtain ⟨O, h⟩ := h.disk
  exact len_in w d D O h
theorem Dd.rootRead (h : Dd w0 w d D E) : Calls Tryz.prog 149 #[.pointer (some ⟨d, 0, none⟩)] w (RootPost w (Rt.findR D) (Rt.findE D)) := by
  obtain ⟨O, h⟩ := h.disk
  exact rootRead_any w d D O h
theorem Dd.pgWrite (h : Dd w0 w d D E) (num epoch : Nat) (hnum : num < 4294967296) (hep : epoch < 4294967296) (a : Option Addr) (n c : Nat) (q : List Nat) (hq : q.length = n) (hr : Rd w a (nums .u8 q)) (hlt : ∀ x ∈ q, x < 256) (hw : D.waits.length ≤ 100000) :
    Calls Tryz.prog 70 #[dskV (some ⟨d, 0, none⟩), .int .u32 (num : Nat), .int .u32 (epoch : Nat), .slice a n c] w fun e w' => e = .returned (.int .i64 (Pg.wE D num q : Nat)) ∧ Dd w0 w' d (Pg.wD D num epoch q) E :=
  h.turn (fun F hF => by
    obtain ⟨O, hO, hA⟩ := al_disk hF
    exact (pgWrite_k w d D 0 O num epoch hnum hep a n c q hq hr hlt (Nat.zero_le _) hO hw).mono fun _ _ ⟨he, t⟩ => ⟨he, disk_turn hA t⟩)
theorem Dd.pgRead (h : Dd w0 w d D E) (num : Nat) (hnum : num < 4294967296) :
    Calls Tryz.prog 150 #[dskV (some ⟨d, 0, none⟩), .int .u32 (num : Nat)] w fun e w' => ∃ a n, e = .returned (.tuple #[.int .u32 (Pg.rN D num : Nat), .slice a n n, .int .i64 (Pg.rE D num : Nat)]) ∧ (Pg.rB D num).length = n ∧ Dd w0 w' d D (Part.sl 5 a n n (nums .u8 (Pg.rB D num)) :: E) := by
  obtain ⟨O, hO⟩ := h.disk
  exact (pgRead_any w d D O num hnum hO).mono fun e w' ⟨a, n, he, hn, ⟨c, ho⟩, t⟩ => ⟨a, n, he, hn, h.push (born_sl t (Nat.le_refl _) ho (Nat.le_refl _) (by
    have := ho.room
    omega))⟩
/-- lists that no part of the disk is -/
theorem Dd.exWrite (h : Dd w0 w d D E) (ep : Nat) (hep : ep < 4294967296) (a : Option Addr) (n c : Nat) (ids : List Nat) (hn : ids.length = n) (hnm : (n : Int) ≤ 1000000000000) (hi : ∀ A, (∀ k, A k → w0.heap.size ≤ k ∧ k < w.heap.size) → (∀ q ∈ E, ∃ C, q.P w C ∧ ∀ k, A k → ¬ C k) → Keep w A a (nums .u32 ids)) (hil : ∀ x ∈ ids, x < 4294967296)
    (a' : Option Addr) (m c' : Nat) (bs : List Nat) (hm : bs.length = m) (hcap : m ≤ c') (hmax : (m : Int) ≤ 100000000000) (hb : ∀ A, (∀ k, A k → w0.heap.size ≤ k ∧ k < w.heap.size) → (∀ q ∈ E, ∃ C, q.P w C ∧ ∀ k, A k → ¬ C k) → Keep w A a' (nums .u8 bs)) (hbl : ∀ x ∈ bs, x < 256) (hw : D.waits.length + 4 * Ex.pages m ≤ 100000) :
    Calls Tryz.prog 64 #[.pointer (some ⟨d, 0, none⟩), .int .u32 (ep : Nat), .slice a n c, .slice a' m c'] w fun e w' => e = .returned (.int .i64 (Ex.wE D ids m : Nat)) ∧ Dd w0 w' d (Ex.wD D ep ids bs) E := by
  obtain ⟨A, hp, hA, hq, hf⟩ := h.with0
  exact (exWrite_k w d D 0 A ep hep a n c ids hn hnm (hi A hA hq) hil a' m c' bs hm hcap hmax (hb A hA hq) hbl (Nat.zero_le _) hp hw).mono fun e w' ⟨he, ht⟩ => ⟨he, hf w' _ ht⟩
theorem Dd.exRead (h : Dd w0 w d D E) (ep : Nat) (hep : ep < 4294967296) (a : Option Addr) (n c : Nat) (ids : List Nat) (hn : ids.length = n) (hnm : (n : Int) ≤ 10000) (hr : Rd w a (nums .u32 ids)) (hil : ∀ x ∈ ids, x < 4294967296) (m : Nat) (hm : (m : Int) ≤ 100000000000) :
    Calls Tryz.prog 65 #[.pointer (some ⟨d, 0, none⟩), .int .u32 (ep : Nat), .slice a n c, .int .i64 (m : Nat)] w fun e w' => ∃ b k, e = .returned (.tuple #[.slice b k k, .int .i64 (Ex.rE D ep ids m : Nat)]) ∧ (Ex.rB D ep ids m).length = k ∧ Dd w0 w' d D (Part.sl 5 b k k (nums .u8 (Ex.rB D ep ids m)) :: E) := by
  obtain ⟨O, hd⟩ := h.disk
  exact (exRead_k w d D O ep hep a n c ids hn (by omega) hr hil m hm hd).mono fun e w' ⟨b, k, he, hk, ⟨cc, ho⟩, t⟩ => ⟨b, k, he, hk, h.push (born_sl t (Nat.le_refl _) ho (Nat.le_refl _) (by
    have := ho.room
    omega))⟩
theorem Rt.write_isD (D : Dk.Disk) (n : Nat) (r : Rt.Root) (hn : n < D.seen.length) : Dk.writeA D (n : Nat) (Rt.put r) = Dk.write D n (Rt.put r) ∧ Dk.writeR D (n : Nat) (Rt.put r) = 0 := by
  have hc : (0 ≤ (n : Int) ∧ (n : Int) < D.seen.length) ∧ (Rt.put r).length ≤ 64 := ⟨by omega, by rw [Rt.put_length]; exact Nat.le_refl _⟩
  rw [Dk.writeA, Dk.writeR, if_pos hc, if_pos hc, Int.toNat_natCast]
  exact ⟨rfl, rfl⟩
set_option maxRecDepth 100000 in
set_option maxHeartbeats 4000000 in
theorem Dd.rootWrite (h : Dd w0 wi d D E) (r : Rt.Root) (hr : r.Ok) :
    Calls Tryz.prog 71 #[.pointer (some ⟨d, 0, none⟩), .agg #[.int .u32 (r.epoch : Nat), .int .u32 (r.first : Nat), .int .u32 (r.bytes : Nat)]] wi fun e w' => e = .returned (.int .i64 (Rt.wE D r : Nat)) ∧ Dd w0 w' d (Rt.wD D r) E := by
  obtain ⟨xe, xf, xb⟩ := r
  have Hr := Lib.hid hr
  have H := Lib.hid h
  obtain ⟨er, her⟩ : ∃ er, Rt.findE D = er := ⟨_, rfl⟩
  obtain ⟨fr, hfr⟩ : ∃ fr, Rt.findR D = fr := ⟨_, rfl⟩
  obtain ⟨nx, hnx⟩ : ∃ nx, Rt.findN D = nx := ⟨_, rfl⟩
  have hfind : Hid (∀ wx, Touch No wi wx → Calls Tryz.prog 171 #[.pointer (some ⟨d, 0, none⟩)] wx (FindPost wx fr nx er)) := fun wx t => by
    rw [← her, ← hfr, ← hnx]
    obtain ⟨O, hO⟩ := (h.no t).disk
    exact find_any wx d D O hO
  have Her := Lib.hid her
  have Hfr := Lib.hid hfr
  have Hnx := Lib.hid hnx
  have hnx1 : nx ≤ 1 := by rw [← hnx]; exact Rt.findN_le D
  obtain ⟨fe, ff, fb⟩ := fr
  clear hr her hfr hnx h
  by_cases c1 : er ≠ 0 ∧ er ≠ 7
  · have hw : Rt.wE D ⟨xe, xf, xb⟩ = er := by rw [Rt.wE, Her.out, if_pos c1]
    have hd : Rt.wD D ⟨xe, xf, xb⟩ = D := by rw [Rt.wD, hw, if_neg c1.1]
    rw [hw, hd]
    have h0 : ((er : Int) != 0) = true := by simp; omega
    have h7 : ((er : Int) != 7) = true := by simp; omega
    clear hw hd c1
    go_enter Tryz.func71, Tryz.ntmps71
    go_wp2_with fail
    refine (hfind.out _ ((Touch.refl No wi).alloc _)).mono ?_
    rintro e w1 ⟨rfl, t1⟩
    have T1 := Lib.hid t1
    clear t1
    go_wp2
    go_ret
    exact ⟨rfl, H.out.no ((((Touch.refl No wi).alloc _).trans T1.out).alloc _)⟩
  by_cases c2 : er = 0 ∧ xe ≤ fe
  · obtain ⟨rfl, c2⟩ := c2
    have hw : Rt.wE D ⟨xe, xf, xb⟩ = 1 := by rw [Rt.wE, Her.out, if_neg (by omega), Hfr.out, if_pos ⟨rfl, c2⟩]
    have hd : Rt.wD D ⟨xe, xf, xb⟩ = D := by rw [Rt.wD, hw, if_neg (by decide)]
    rw [hw, hd]
    have hle : (xe : Int) ≤ (fe : Nat) := by omega
    clear hw hd c1 c2
    go_enter Tryz.func71, Tryz.ntmps71
    go_wp2_with fail
    refine (hfind.out _ ((Touch.refl No wi).alloc _)).mono ?_
    rintro e w1 ⟨rfl, t1⟩
    have hold := (Row.new wi 154 #[.int .u32 (xe : Nat), .int .u32 (xf : Nat), .int .u32 (xb : Nat)]).touch t1 id
    have k0 : w1.cell? ⟨wi.heap.size, 0, none⟩ = some (.int .u32 (xe : Nat)) := hold.cell 0
    have hlt : wi.heap.size < w1.heap.size := lt_of_cell k0
    have T1 := Lib.hid t1
    clear t1 hold
    go_wp2
    go_ret
    exact ⟨rfl, H.out.no ((((Touch.refl No wi).alloc _).trans T1.out).alloc _)⟩
  · have hw : Rt.wE D ⟨xe, xf, xb⟩ = 0 := by rw [Rt.wE, Her.out, if_neg (by omega), Hfr.out, if_neg c2]
    have hd : Rt.wD D ⟨xe, xf, xb⟩ = Dk.sync (Dk.write (Dk.sync D) nx (Rt.put ⟨xe, xf, xb⟩)) := by rw [Rt.wD, hw, if_pos rfl, Hnx.out]
    have h8 : Hid (8 ≤ D.seen.length) := Rt.findE_len (by rw [Her.out]; omega)
    rw [hw, hd]
    have hE : er = 0 ∧ fe < xe ∨ er = 7 := by omega
    clear hw hd c1 c2
    have hwr : Hid (nx < (Dk.sync D).seen.length) := by show nx < D.seen.length; have := h8.out; omega
    rcases hE with ⟨rfl, hE⟩ | rfl
    all_goals
      first | (have hle : ¬ (xe : Int) ≤ (fe : Nat) := by omega) | skip
      go_enter Tryz.func71, Tryz.ntmps71
      go_wp2_with fail
      have S0 := Lib.hid (H.out.push (Born.row wi 154 #[.int .u32 (xe : Nat), .int .u32 (xf : Nat), .int .u32 (xb : Nat)]))
      obtain ⟨X, hX⟩ : ∃ X, X = wi.heap.size := ⟨_, rfl⟩
      rw [← hX] at S0 ⊢
      refine (hfind.out _ ((Touch.refl No wi).alloc _)).mono ?_
      rintro e w1 ⟨rfl, t1⟩
      have k0 : w1.cell? ⟨X, 0, none⟩ = some (.int .u32 (xe : Nat)) := ((S0.out.no t1).row List.mem_cons_self).cell 0
      have hlt : X < w1.heap.size := lt_of_cell k0
      have S1 := Lib.hid ((S0.out.no t1).no ((Touch.refl No w1).alloc (.cells #[.int .u32 (fe : Nat), .int .u32 (ff : Nat), .int .u32 (fb : Nat)] 154)))
      clear t1 S0 hX
      go_wp2_with fail
      refine (S1.out.sync).mono ?_
      rintro e w2 ⟨rfl, s2⟩
      have S2 := Lib.hid s2
      have q0 : w2.cell? ⟨X, 0, none⟩ = some (.int .u32 (xe : Nat)) := (s2.row List.mem_cons_self).cell 0
      have q1 : w2.cell? ⟨X, 1, none⟩ = some (.int .u32 (xf : Nat)) := (s2.row List.mem_cons_self).cell 1
      have q2 : w2.cell? ⟨X, 2, none⟩ = some (.int .u32 (xb : Nat)) := (s2.row List.mem_cons_self).cell 2
      clear s2 k0 hlt S1
      go_wp2_with fail
      refine (rootPut_any w2 ⟨xe, xf, xb⟩ Hr.out).mono ?_
      rintro e w3 ⟨a3, c3, rfl, o3, t3⟩
      have O3 := Lib.hid (o3.rd : Rd w3 a3 (nums .u8 (Rt.put ⟨xe, xf, xb⟩)))
      have S3 := Lib.hid (S2.out.no t3).drop
      clear o3 t3 S2 q0 q1 q2
      have C4 := Lib.hid (S3.out.write (nx : Nat) a3 64 c3 (Rt.put ⟨xe, xf, xb⟩) (Rt.put_length _) (Rt.put_lt _) O3.out (Nat.zero_le _))
      rw [(Rt.write_isD _ nx ⟨xe, xf, xb⟩ hwr.out).1, (Rt.write_isD _ nx ⟨xe, xf, xb⟩ hwr.out).2] at C4
      go_wp2_with fail
      refine C4.out.mono ?_
      rintro e w4 ⟨rfl, s4⟩
      have S4 := Lib.hid s4
      clear S3 O3 s4 C4
      go_wp2_with fail
      refine (S4.out.sync).mono ?_
      rintro e w5 ⟨rfl, s5⟩
      have S5 := Lib.hid s5
      clear S4 s5
      go_wp2
      go_ret
      exact ⟨rfl, S5.out⟩

end
end Go.Proofs.YtpmkegbgbldpnaaGreatDoor
