/-
  Package shadows by its own text: Put.
-/
import Derived.Test.YtnffigfafalocaaGreatDoorK37
namespace Go.Proofs.YtnffigfafalocaaGreatDoor
open Go Go.RowKit Go.Maps
set_option linter.unusedSimpArgs false
set_option linter.unusedVariables false

namespace Sh
def th0 : Th := ⟨0, 0, [], false⟩
/-- what an id has now, or nothing -/
def wasT (T : Sto) (id : Nat) : Th := (Mp.look T.now id).getD th0
theorem was_dropped {T : Sto} (h : Ok T) (id : Nat) : dropped T (wasT T id) = dropS T (Mp.look T.now id) := by
  cases hl : Mp.look T.now id with
  | none => rw [wasT, hl]; rfl
  | some x =>
    have e : wasT T id = x := by rw [wasT, hl]; rfl
    rw [e, h.dropped hl, hl]
theorem was_ok {T : Sto} (h : Ok T) (id : Nat) : (wasT T id).pages.length ≤ 274 ∧ (∀ y ∈ (wasT T id).pages, y < 4294967296) ∧ (wasT T id).pages.Nodup ∧ (∀ y ∈ (wasT T id).pages, (wasT T id).fresh = true → T.S y = false) := by
  cases hl : Mp.look T.now id with
  | none =>
    have e : wasT T id = th0 := by rw [wasT, hl]; rfl
    rw [e]
    exact ⟨Nat.zero_le _, (fun y hy => by cases hy), List.nodup_nil, (fun y hy => by cases hy)⟩
  | some x =>
    have e : wasT T id = x := by rw [wasT, hl]; rfl
    rw [e]
    have hx := h.look hl
    have hw := Mp.mem_of_look hl
    refine ⟨hx.2.2.1, hx.2.2.2.2, (h.thn _ hw).nod, fun y hy hf => ?_⟩
    cases hS : T.S y with
    | false => rfl
    | true => exact absurd (Or.inr (Or.inr ⟨_, hw, hf, hy⟩)) ((h.free y).1 hS).2.2
theorem was_fresh {T : Sto} (h : Ok T) (id : Nat) (hf : (wasT T id).fresh = true) : dropped T (wasT T id) = Fr.add T.S (wasT T id).pages := by
  cases hl : Mp.look T.now id with
  | none =>
    have e : wasT T id = th0 := by rw [wasT, hl]; rfl
    rw [e] at hf; cases hf
  | some x =>
    have e : wasT T id = x := by rw [wasT, hl]; rfl
    rw [e] at hf ⊢
    rw [dropped, if_pos hf, (h.give hl hf).2]
theorem back_all {S : Nat → Bool} {l : List Nat} (h : ∀ y ∈ l, S y = false) : Fr.sub (Fr.add S l) l = S := by
  funext x
  simp only [Fr.sub, Fr.add, List.contains_eq_mem]
  by_cases hx : x ∈ l
  · simp [hx, h x hx]
  · simp [hx]
theorem back_one {S : Nat → Bool} {l : List Nat} {k : Nat} (hn : l.Nodup) (hk : k < l.length) : Fr.sub (Fr.add S l) (l.take k) (l.getD k 0) = true := by
  refine sub_true.2 ⟨add_true.2 (Or.inr ?_), fun hx => ?_⟩
  · rw [List.getD_eq_getElem?_getD, List.getElem?_eq_getElem hk]; exact List.getElem_mem hk
  · rw [List.getD_eq_getElem?_getD, List.getElem?_eq_getElem hk] at hx
    obtain ⟨j, hj, e⟩ := List.mem_iff_getElem.1 hx
    rw [List.getElem_take] at e
    rw [List.length_take] at hj
    have := (List.getElem_inj hn).1 e
    omega
end Sh
theorem wrap_nx (e : Nat) (h : e < 4294967296) : IntKind.u32.wrap ((e : Int) + 1) = (Sh.nx e : Nat) := by
  rw [IntKind.wrap_u32]; unfold Sh.nx; omega
section
variable {w0 w w' : World} {s d f : Nat} {T : Sh.Sto} {E : List Part}
theorem Sg.withD {u : Bool} {D' : Dk.Disk} (h : Dd w0 w d D' (Part.sto s (some ⟨d, 0, none⟩) (some ⟨f, 0, none⟩) u T.m :: Part.map f 1 (1 + Sh.many T.D) T.S :: E)) (hl : D'.seen.length = T.D.seen.length) : Sg u w0 w s d f { T with D := D' } E := by
  unfold Sg
  rw [show Sh.many ({ T with D := D' } : Sh.Sto).D = Sh.many T.D from Sh.many_eq hl]
  exact h
/-- bytes on pages -/
theorem Sg.exWrite {u : Bool} (h : Sg u w0 w s d f T E) (ep : Nat) (hep : ep < 4294967296) (a : Option Addr) (n c : Nat) (ids : List Nat) (hn : ids.length = n) (hnm : (n : Int) ≤ 1000000000000) (hi : Off w0 E a (nums .u32 ids)) (hil : ∀ x ∈ ids, x < 4294967296)
    (a' : Option Addr) (m c' : Nat) (bs : List Nat) (hm : bs.length = m) (hcap : m ≤ c') (hmax : (m : Int) ≤ 100000000000) (hb : Off w0 E a' (nums .u8 bs)) (hbl : ∀ x ∈ bs, x < 256) (hw : T.D.waits.length + 4 * Ex.pages m ≤ 100000) :
    Calls Tryz.prog 52 #[.pointer (some ⟨d, 0, none⟩), .int .u32 (ep : Nat), .slice a n c, .slice a' m c'] w fun e w' => e = .returned (.int .i64 (Ex.wE T.D ids m : Nat)) ∧ Sg u w0 w' s d f { T with D := Ex.wD T.D ep ids bs } E :=
  (Dd.exWrite h ep hep a n c ids hn hnm (fun A hA hq => hi.keep h.end hA (fun q hq' => hq q (List.mem_cons_of_mem _ (List.mem_cons_of_mem _ hq')))) hil a' m c' bs hm hcap hmax (fun A hA hq => hb.keep h.end hA (fun q hq' => hq q (List.mem_cons_of_mem _ (List.mem_cons_of_mem _ hq')))) hbl hw).mono fun e w' ⟨he, hd⟩ => ⟨he, Sg.withD hd (Ex.wD_len _ _ _ _)⟩
/-- 's.now[id] = ..', of a list that stands beside -/
theorem Ss.setNow {x : Sh.Th} {a : Option Addr} {n c : Nat} (h : Sg true w0 w s d f T (Part.sl 38 a n c (nums .u32 x.pages) :: E)) (hp : T.puts ≤ 1000000) {id : Nat} (hid : id < 4294967296) : ∃ bn, w.cell? ⟨s, 2, none⟩ = some (.map (some bn)) ∧ ∃ w', (Instr.mapUpdate 99 (.map (some bn)) (.int .u32 (id : Nat)) (thV x a c)).run Tryz.prog w = .ok () w' ∧ Sg true w0 w' s d f ⟨T.D, T.S, T.epoch, Mp.put T.now id x, T.kept, T.table, T.puts + 1⟩ E := by
  have h1 := Dd.stoList (Dd.perm h ((List.Perm.swap _ _ _).cons _))
  obtain ⟨nb, bk, ta, tc, L, h2, h3, hx, h4, h5, h6⟩ := Dd.stoX h1
  cases nb with
  | none => cases h3
  | some bn =>
    obtain ⟨w', hrun, hin, t⟩ := h2.putNow hp hid (x := x) ⟨a, c, rfl, hx _ List.mem_cons_self⟩
    exact ⟨bn, h2.row.cell 2, w', hrun, h6 w' _ _ true _ [] (some bn) bk ta tc L hin rfl (fun x hx => by cases hx) (t.mono (fun k _ e => Or.inr (Or.inl (by rw [show k = bn from e])))) (fun k hk => Or.inl hk)⟩
end
section
variable {w0 w w' : World} {s d f : Nat} {T : Sh.Sto} {E : List Part}
set_option maxRecDepth 100000 in
set_option maxHeartbeats 16000000 in
theorem Ss.put (h : Sg true w0 w s d f T E) (hT : Sh.Ok T) (hTab : TabAt w0) (id : Nat) (hid : id < 4294967296) (a' : Option Addr) (m c' : Nat) (bs : List Nat) (hm : bs.length = m) (hcap : m ≤ c') (hmax : (m : Int) ≤ 100000000000) (hb : Off w0 E a' (nums .u8 bs)) (hbl : ∀ x ∈ bs, x < 256) (hw : T.D.waits.length ≤ 90000) (hp : T.puts ≤ 1000000) :
    Calls Tryz.prog 42 #[.pointer (some ⟨s, 0, none⟩), .int .u32 (id : Nat), .slice a' m c'] w fun e w' => e = .returned (.int .i64 (Sh.putE T id m : Nat)) ∧ Sg true w0 w' s d f (Sh.putT T id bs) E := by
  have H := Lib.hid h
  have HT := Lib.hid hT
  have HTab := Lib.hid hTab
  have HM := Lib.hid hm
  have Hcap := Lib.hid hcap
  have HB := Lib.hid hb
  have HBL := Lib.hid hbl
  have HW := Lib.hid hw
  have HP := Lib.hid hp
  obtain ⟨bn, bk, ta, tc, L, hin, hO, hLf, hk⟩ := Ss.in h
  have c0 := h.c0
  have c2 : w.cell? ⟨s, 2, none⟩ = some (.map (some bn)) := hin.row.cell 2
  obtain ⟨v, hl1, hl2, hn, hs⟩ := sh_look (hin.now bn rfl).1 hid
  clear hl2
  obtain ⟨is, his⟩ : ∃ is, (Mp.look T.now id).isSome = is := ⟨_, rfl⟩
  rw [show (Mp.look T.m.now id).isSome = is from his] at hl1
  have hv : ∃ a c, v = thV (Sh.wasT T id) a c ∧ ListAt w L a c (Sh.wasT T id).pages := by
    cases hlk : Mp.look T.now id with
    | none =>
      have e : Sh.wasT T id = Sh.th0 := by rw [Sh.wasT, hlk]; rfl
      rw [e, hn hlk]
      exact ⟨none, 0, rfl, Nat.le_refl _, Nat.zero_le _, Rd.nil _ _, fun g o e => by cases e⟩
    | some x =>
      have e : Sh.wasT T id = x := by rw [Sh.wasT, hlk]; rfl
      rw [e]
      exact hs x hlk
  obtain ⟨a, c, rfl, hA⟩ := hv
  obtain ⟨y1, y2, y3, y4⟩ := Sh.was_ok hT id
  have HD := Lib.hid (Sh.was_dropped hT id)
  have HLn : Hid (is = false ↔ Mp.look T.now id = none) := by show _ ↔ _; rw [← his]; cases Mp.look T.now id <;> simp
  have C : Hid (∀ w2 E2, Sg true w0 w2 s d f T E2 → Touch No w w2 → Calls Tryz.prog 130 #[.pointer (some ⟨s, 0, none⟩), thV (Sh.wasT T id) a c] w2 fun e w' => e = .returned (.tuple #[]) ∧ Sg true w0 w' s d f { T with S := Sh.dropped T (Sh.wasT T id) } E2 ∧ Touch (One f) w2 w') :=
    fun w2 E2 h2 t => shDrops_any h2 (Sh.wasT T id) a c hA.1 hA.2.1 (hA.2.2.1.no t) (fun g o e h0 => hLf g (hA.2.2.2 g o e (List.length_pos_iff.1 h0))) y2
  have HLen : Hid (∀ ob, (Builtin.len_ #[99] 3 #[.map (some bn)]).run Tryz.prog (w.alloc ob) = .ok (.int .i64 (T.now.length : Nat)) (w.alloc ob)) := fun ob =>
    sh_len (its := T.now) ((hin.touch (F := No) ((Touch.refl No w).alloc ob) (fun _ _ f => f)).now bn rfl).1 hT.upn (fun p hp => (hT.thn p hp).id) 3
  have HA := Lib.hid hA
  obtain ⟨x, hx⟩ : ∃ x, Sh.wasT T id = x := ⟨_, rfl⟩
  rw [hx] at hl1 hA y1 y2 y3 y4 HD C HA
  have HX := Lib.hid hx
  obtain ⟨xb, xe, xp, xf⟩ := x
  unfold thV at hl1 C
  dsimp only at *
  obtain ⟨n, hn'⟩ : ∃ n, xp.length = n := ⟨_, rfl⟩
  rw [hn'] at hl1 C
  have Hxn := Lib.hid hn'
  have Y1 : Hid (n ≤ 274) := by show _ ≤ _; rw [← hn']; exact y1
  have Y2 := Lib.hid y2
  have Y3 := Lib.hid y3
  have Y4 := Lib.hid y4
  have HLF := Lib.hid hLf
  obtain ⟨ln, hln⟩ : ∃ ln, T.now.length = ln := ⟨_, rfl⟩
  rw [hln] at HLen
  have Hln := Lib.hid hln
  clear h hT hTab hm hcap hb hbl hw hp hin hO hLf hk hn hs hA y1 y2 y3 y4 hx hn' hln his
  by_cases hbig : 65536 < m
  · have hbi : (65536 : Int) < (m : Nat) := by omega
    have e1 : Sh.putE T id m = 1 := by rw [Sh.putE, if_pos hbig]
    have e2 : Sh.putT T id bs = T := by rw [Sh.putT, HM.out, if_neg (by rw [e1]; decide)]
    rw [e1, e2]
    clear hbig e1 e2 HLen
    go_enter Tryz.func42, Tryz.ntmps42
    go_wp2_with fail
    refine (shThere_at w s d c0).mono ?_
    rintro e w' ⟨rfl, rfl⟩
    go_wp2
    go_ret
    exact ⟨rfl, H.out.no ((Touch.refl No w).alloc _)⟩
  · have hbi : ¬ (65536 : Int) < (m : Nat) := by omega
    by_cases hroom : is = false ∧ 64 ≤ ln
    · obtain ⟨rfl, h64⟩ := hroom
      have h64i : (64 : Int) ≤ (ln : Nat) := by omega
      have e1 : Sh.putE T id m = 3 := by rw [Sh.putE, if_neg hbig, if_pos ⟨HLn.out.1 rfl, by rw [Hln.out]; exact h64⟩]
      have e2 : Sh.putT T id bs = T := by rw [Sh.putT, HM.out, if_neg (by rw [e1]; decide)]
      have c2' : ∀ ob, (w.alloc ob).cell? ⟨s, 2, none⟩ = some (.map (some bn)) := fun ob => ((Touch.refl No w).alloc ob).cell (fun f => f) c2
      have hlen := HLen.out
      rw [e1, e2]
      clear hbig e1 e2 h64 HLen
      go_enter Tryz.func42, Tryz.ntmps42
      go_wp2_with fail
      refine (shThere_at w s d c0).mono ?_
      rintro e w' ⟨rfl, rfl⟩
      go_wp2
      go_ret
      exact ⟨rfl, H.out.no ((Touch.refl No w).alloc _)⟩
    · have H64i : Hid (is = true ∨ ¬ (64 : Int) ≤ (ln : Nat)) := by
        show _ ∨ _
        cases is with
        | true => exact Or.inl rfl
        | false => exact Or.inr (fun e => hroom ⟨rfl, by omega⟩)
      have c2' : ∀ ob, (w.alloc ob).cell? ⟨s, 2, none⟩ = some (.map (some bn)) := fun ob => ((Touch.refl No w).alloc ob).cell (fun f => f) c2
      have Hroom : Hid (¬ (Mp.look T.now id = none ∧ 64 ≤ T.now.length)) := fun e => hroom ⟨HLn.out.2 e.1, by rw [← Hln.out]; exact e.2⟩
      have Hbig := Lib.hid hbig
      have hlen := HLen.out
      obtain ⟨S1, hS1⟩ : ∃ S1, Sh.dropS T (Mp.look T.now id) = S1 := ⟨_, rfl⟩
      have HS1 := Lib.hid hS1
      rw [hS1] at HD
      obtain ⟨P, hP⟩ : ∃ P, Ex.pages m = P := ⟨_, rfl⟩
      have HPg := Lib.hid hP
      have hP4 : P ≤ 274 := by rw [← hP]; exact Sh.pages_max (by omega)
      have CP : Hid (∀ wx, Calls Tryz.prog 49 #[.int .i64 (m : Nat)] wx fun e w' => e = .returned (.int .i64 (P : Nat)) ∧ wx = w') := fun wx => by
        have := exPages_any wx (m : Nat) (by omega)
        rwa [Int.toNat_natCast, hP] at this
      have hm16 : (m : Int) ≤ 65536 := by omega
      have hwm : IntKind.u32.wrap (m : Int) = (m : Int) := by rw [IntKind.wrap_u32]; omega
      have hwe := wrap_nx T.epoch HT.out.epoch
      have Hne : Hid (Sh.nx T.epoch < 4294967296) := Sh.nx_lt _
      obtain ⟨ne, hne⟩ : ∃ ne, Sh.nx T.epoch = ne := ⟨_, rfl⟩
      rw [hne] at hwe
      have HNE := Lib.hid hne
      by_cases hfull : (Fr.lst S1).length < P
      · have e1 : Sh.putE T id m = 6 := by rw [Sh.putE, if_neg hbig, if_neg Hroom.out, hS1, hP, if_pos hfull]
        have e2 : Sh.putT T id bs = T := by rw [Sh.putT, HM.out, if_neg (by rw [e1]; decide)]
        rw [e1, e2]
        have Hfull := Lib.hid hfull
        clear hbig hroom e1 e2 hfull hS1 hP HLen hne hwm hwe
        go_enter Tryz.func42, Tryz.ntmps42
        go_wp2_with fail
        refine (shThere_at w s d c0).mono ?_
        rintro e w' ⟨rfl, rfl⟩
        go_upto_region 4 with fail
        obtain ⟨X, hX⟩ : ∃ X, X = w.heap.size := ⟨_, rfl⟩
        obtain ⟨w2, hw2⟩ : ∃ w2, w2 = w.alloc (.cells #[.int .u32 (xb : Nat), .int .u32 (xe : Nat), .slice a n c, .bool xf] 103) := ⟨_, rfl⟩
        have S2 : Hid (Sg true w0 w2 s d f T (Part.row X 103 [.int .u32 (xb : Nat), .int .u32 (xe : Nat), .slice a n c, .bool xf] :: E)) := by
          show Sg _ _ _ _ _ _ _ _
          rw [hw2, hX]
          exact H.out.push (Born.row w 103 #[.int .u32 (xb : Nat), .int .u32 (xe : Nat), .slice a n c, .bool xf])
        have HC := Lib.hid (C.out w2 _ S2.out (by rw [hw2]; exact (Touch.refl No w).alloc _))
        have hlen2 := hlen (.cells #[.int .u32 (xb : Nat), .int .u32 (xe : Nat), .slice a n c, .bool xf] 103)
        have c22 := c2' (.cells #[.int .u32 (xb : Nat), .int .u32 (xe : Nat), .slice a n c, .bool xf] 103)
        have HA2 : Hid (ListAt w2 L a c xp) := by show ListAt _ _ _ _ _; rw [hw2]; exact HA.out.touch ((Touch.refl No w).alloc _) (fun _ _ f => f) (fun _ h => h)
        rw [← hw2] at hlen2 c22
        rw [← hw2, ← hX]
        clear hw2 hX c0 c2 hl1 C hlen c2' HA
        have k0 : w2.cell? ⟨X, 0, none⟩ = some (.int .u32 (xb : Nat)) := (S2.out.row List.mem_cons_self).cell 0
        have k1 : w2.cell? ⟨X, 1, none⟩ = some (.int .u32 (xe : Nat)) := (S2.out.row List.mem_cons_self).cell 1
        have k2 : w2.cell? ⟨X, 2, none⟩ = some (.slice a n c) := (S2.out.row List.mem_cons_self).cell 2
        have k3 : w2.cell? ⟨X, 3, none⟩ = some (.bool xf) := (S2.out.row List.mem_cons_self).cell 3
        cases is
        all_goals
          first
            | (have h64' : ¬ (64 : Int) ≤ (ln : Nat) := (by rcases H64i.out with e | e; cases e; omega); have h64d : decide ((64 : Int) ≤ (ln : Nat)) = false := decide_eq_false h64'; have h64n : decide (64 ≤ ln) = false := decide_eq_false (by omega); have h64m : ¬ 64 ≤ ln := by omega)
            | skip
          go_wp2_with fail
          refine HC.out.mono ?_
          rintro e w3 ⟨rfl, s3, t3⟩
          have S3 := Lib.hid s3
          have HA3 : Hid (ListAt w3 L a c xp) := HA2.out.touch t3 (fun k hk e => HLF.out k hk e) (fun _ h => h)
          clear s3 t3 HA2 k0 k1 k2 k3 hlen2 c22 HC S2
          have CT : Hid (Calls Tryz.prog 50 #[.pointer (some ⟨f, 0, none⟩), .int .i64 (P : Nat)] w3.drew fun e w' => e = .returned (.tuple #[.slice none 0 0, .int .i64 6]) ∧ w3.drew = w') := by
            refine Sg.takeFull (S3.out.no (Touch.refl No w3).drew) P ?_
            show (Fr.lst (Sh.dropped T _)).length < P
            rw [HD.out]; exact Hfull.out
          have k5 : w3.cell? ⟨s, 5, none⟩ = some (.pointer (some ⟨f, 0, none⟩)) := S3.out.c5
          have k5d : w3.drew.cell? ⟨s, 5, none⟩ = some (.pointer (some ⟨f, 0, none⟩)) := k5
          go_wp2_with fail
          go_region_held3 (fun w' => w'.cell? ⟨s, 5, none⟩ = some (.pointer (some ⟨f, 0, none⟩))) (first | exact k5 | exact k5d) (first
            | (go_at_call 49; refine (CP.out _).mono ?_; rintro e w8 ⟨rfl, rfl⟩)
            | (go_at_call 50; refine CT.out.mono ?_; rintro e w9 ⟨rfl, rfl⟩))
          all_goals
            have S4 := Lib.hid (S3.out.no (Touch.refl No w3).drew)
            obtain ⟨w4, hw4⟩ : ∃ w4, w4 = w3.drew := ⟨_, rfl⟩
            have HA4 : Hid (ListAt w4 L a c xp) := by show ListAt _ _ _ _ _; rw [hw4]; exact HA3.out.touch (Touch.refl No w3).drew (fun _ _ f => f) (fun _ h => h)
            rw [← hw4] at S4 ⊢
            clear hw4 S3 HA3 k5 k5d CT CP
            have k3 : w4.cell? ⟨X, 3, none⟩ = some (.bool xf) := (S4.out.row List.mem_cons_self).cell 3
            cases xf with
            | false =>
              go_wp2
              go_ret
              exact ⟨rfl, S4.out.drop⟩
            | true =>
              have k2 : w4.cell? ⟨X, 2, none⟩ = some (.slice a n c) := (S4.out.row List.mem_cons_self).cell 2
              have B0 : Hid (∀ y ∈ xp, T.S y = false) := fun y hy => Y4.out y hy rfl
              have S5 : Hid (Sg true w0 w4 s d f { T with S := Fr.add T.S xp } (Part.row X 103 [.int .u32 (xb : Nat), .int .u32 (xe : Nat), .slice a n c, .bool true] :: E)) := by
                have e : Sh.dropped T ⟨xb, xe, xp, true⟩ = Fr.add T.S xp := by
                  have := Sh.was_fresh HT.out id (by rw [HX.out])
                  rw [HX.out] at this
                  exact this
                have := S4.out
                rw [e] at this
                exact this
              clear S4
              go_wp2
              go_loopg [62] n (fun g s62 wr => ∃ k : Nat, k + g = n ∧ s62 = .int .i64 ((k : Nat) : Int) ∧ Hid (Touch (One f) w4 wr) ∧ Hid (Sg true w0 wr s d f { T with S := Fr.sub (Fr.add T.S xp) (xp.take k) } (Part.row X 103 [.int .u32 (xb : Nat), .int .u32 (xe : Nat), .slice a n c, .bool true] :: E)))
              case atStart => exact ⟨0, by omega, rfl, Touch.refl _ _, by show Sg _ _ _ _ _ _ _ _; rw [List.take_zero, Fr.sub_nil]; exact S5.out⟩
              case round =>
                clear S5
                obtain ⟨k, hkn, rfl, HT5, HS5⟩ := hrel
                cases gk with
                | zero =>
                  obtain rfl : k = n := by omega
                  have e : xp.take k = xp := List.take_of_length_le (by rw [Hxn.out]; exact Nat.le_refl _)
                  have S6 : Hid (Sg true w0 wr s d f T E) := by
                    have := HS5.out.drop
                    rw [e, Sh.back_all B0.out] at this
                    exact this
                  go_wp2
                  go_ret
                  exact ⟨rfl, S6.out⟩
                | succ g =>
                  have hki : (k : Int) < (n : Nat) := by omega
                  have hkl : k < xp.length := by rw [Hxn.out]; omega
                  have hk274 : (k : Int) < 274 := by have := Y1.out; omega
                  have hA5 := HA4.out.touch HT5.out (fun k hk e => HLF.out k hk e) (fun _ h => h)
                  obtain ⟨gb, go, ha, hc⟩ := hA5.2.2.1.num hkl
                  subst ha
                  obtain ⟨y, hy⟩ : ∃ y, xp.getD k 0 = y := ⟨_, rfl⟩
                  have hy32 : y < 4294967296 := by rw [← hy]; exact nums_lt Y2.out
                  have hback := Sh.back_one (S := T.S) Y3.out hkl
                  rw [hy] at hc hback
                  have k5 := HS5.out.c5
                  obtain ⟨hm, _, _, hk⟩ := HS5.out.map
                  have C5 := Lib.hid (mark_any wr f 1 (1 + Sh.many T.D) y _ hm hy32)
                  have HKK := Lib.hid hk
                  have hstep : Hid (markSet (Fr.sub (Fr.add T.S xp) (xp.take k)) y = Fr.sub (Fr.add T.S xp) (xp.take (k + 1))) := by
                    show _ = _
                    rw [markSet, if_pos hback, take_getD hkl, hy, Fr.flip_sub hback]
                  clear hy hkl hm hk hA5 hback
                  go_wp2_with fail
                  refine C5.out.mono ?_
                  rintro e w6 ⟨rfl, t6, m6⟩
                  have HS6 := Lib.hid (HKK.out _ _ t6 m6)
                  have HT6 := Lib.hid (HT5.out.then t6 (fun _ _ h => h))
                  clear t6 m6 HKK HS5 HT5 k5 hc
                  go_wp2
                  go_roundg g
                  case measure => omega
                  case rel => exact ⟨k + 1, by omega, by go_num, HT6.out, by rw [← hstep.out]; exact HS6.out⟩
      · have hok : Sh.putE T id m = 0 := by rw [Sh.putE, if_neg hbig, if_neg Hroom.out, hS1, hP, if_neg hfull]
        have Hok := Lib.hid hok
        have hfit : P ≤ (Fr.lst S1).length := by omega
        obtain ⟨l, hl⟩ : ∃ l, (Fr.lst S1).take P = l := ⟨_, rfl⟩
        have HLl := Lib.hid hl
        have e2 : Sh.putT T id bs = ⟨Ex.wD T.D ne l bs, Fr.sub S1 l, T.epoch, Mp.put T.now id ⟨m, ne, l, true⟩, T.kept, T.table, T.puts + 1⟩ := by
          rw [Sh.putT, HM.out, if_pos hok, Sh.putL, hS1, hP, hl, hne]
        have Hmay : Hid (Ex.wE T.D l m = 0) := by
          have := HT.out.put_may (id := id) (b := bs) (by rw [HM.out]; exact hok)
          rw [Sh.putL, HM.out, hS1, hP, hl] at this
          show _ = _
          rw [Ex.wE, if_pos this]
        have Hll : Hid (l.length = P) := by show _ = _; rw [← hl, List.length_take]; omega
        have HlX : Hid (∀ y ∈ l, y < 4294967296) := fun y hy => by
          rw [← hl] at hy
          have := Fr.mem_lst.1 (List.mem_of_mem_take hy)
          omega
        rw [hok, e2]
        have Hfit := Lib.hid hfit
        clear hbig hroom e2 hfull hS1 hP HLen hne hok hl hfit
        go_enter Tryz.func42, Tryz.ntmps42
        go_wp2_with fail
        refine (shThere_at w s d c0).mono ?_
        rintro e w' ⟨rfl, rfl⟩
        go_upto_region 4 with fail
        obtain ⟨X, hX⟩ : ∃ X, X = w.heap.size := ⟨_, rfl⟩
        obtain ⟨w2, hw2⟩ : ∃ w2, w2 = w.alloc (.cells #[.int .u32 (xb : Nat), .int .u32 (xe : Nat), .slice a n c, .bool xf] 103) := ⟨_, rfl⟩
        have S2 : Hid (Sg true w0 w2 s d f T (Part.row X 103 [.int .u32 (xb : Nat), .int .u32 (xe : Nat), .slice a n c, .bool xf] :: E)) := by
          show Sg _ _ _ _ _ _ _ _
          rw [hw2, hX]
          exact H.out.push (Born.row w 103 #[.int .u32 (xb : Nat), .int .u32 (xe : Nat), .slice a n c, .bool xf])
        have HC := Lib.hid (C.out w2 _ S2.out (by rw [hw2]; exact (Touch.refl No w).alloc _))
        have hlen2 := hlen (.cells #[.int .u32 (xb : Nat), .int .u32 (xe : Nat), .slice a n c, .bool xf] 103)
        have c22 := c2' (.cells #[.int .u32 (xb : Nat), .int .u32 (xe : Nat), .slice a n c, .bool xf] 103)
        have HA2 : Hid (ListAt w2 L a c xp) := by show ListAt _ _ _ _ _; rw [hw2]; exact HA.out.touch ((Touch.refl No w).alloc _) (fun _ _ f => f) (fun _ h => h)
        rw [← hw2] at hlen2 c22
        rw [← hw2, ← hX]
        clear hw2 hX c0 c2 hl1 C hlen c2' HA
        have k0 : w2.cell? ⟨X, 0, none⟩ = some (.int .u32 (xb : Nat)) := (S2.out.row List.mem_cons_self).cell 0
        have k1 : w2.cell? ⟨X, 1, none⟩ = some (.int .u32 (xe : Nat)) := (S2.out.row List.mem_cons_self).cell 1
        have k2 : w2.cell? ⟨X, 2, none⟩ = some (.slice a n c) := (S2.out.row List.mem_cons_self).cell 2
        have k3 : w2.cell? ⟨X, 3, none⟩ = some (.bool xf) := (S2.out.row List.mem_cons_self).cell 3
        cases is
        all_goals
          first
            | (have h64' : ¬ (64 : Int) ≤ (ln : Nat) := (by rcases H64i.out with e | e; cases e; omega); have h64d : decide ((64 : Int) ≤ (ln : Nat)) = false := decide_eq_false h64'; have h64n : decide (64 ≤ ln) = false := decide_eq_false (by omega); have h64m : ¬ 64 ≤ ln := by omega)
            | skip
          go_wp2_with fail
          refine HC.out.mono ?_
          rintro e w3 ⟨rfl, s3, t3⟩
          have S3 := Lib.hid s3
          have HA3 : Hid (ListAt w3 L a c xp) := HA2.out.touch t3 (fun k hk e => HLF.out k hk e) (fun _ h => h)
          clear s3 t3 HA2 k0 k1 k2 k3 hlen2 c22 HC S2
          have CT : Hid (Calls Tryz.prog 50 #[.pointer (some ⟨f, 0, none⟩), .int .i64 (P : Nat)] w3.drew fun e w' => ∃ al cl, e = .returned (.tuple #[.slice al P cl, .int .i64 0]) ∧ Sg true w0 w' s d f { T with S := Fr.sub S1 l } (Part.sl 38 al P cl (nums .u32 l) :: Part.row X 103 [.int .u32 (xb : Nat), .int .u32 (xe : Nat), .slice a n c, .bool xf] :: E)) := by
            have := Sg.take (S3.out.no (Touch.refl No w3).drew) HTab.out P (by show P ≤ (Fr.lst (Sh.dropped T _)).length; rw [HD.out]; exact Hfit.out)
            dsimp only at this
            rw [HD.out, HLl.out] at this
            exact this
          have k5 : w3.cell? ⟨s, 5, none⟩ = some (.pointer (some ⟨f, 0, none⟩)) := S3.out.c5
          have k5d : w3.drew.cell? ⟨s, 5, none⟩ = some (.pointer (some ⟨f, 0, none⟩)) := k5
          go_wp2_with fail
          go_region_held3 (fun w' => w'.cell? ⟨s, 5, none⟩ = some (.pointer (some ⟨f, 0, none⟩))) (first | exact k5 | exact k5d | exact s9.c5) (first
            | (go_at_call 49; refine (CP.out _).mono ?_; rintro e w8 ⟨rfl, rfl⟩)
            | (go_at_call 50; refine CT.out.mono ?_; rintro e w9 ⟨al, cl, rfl, s9⟩))
          all_goals
            have S4 := Lib.hid s9
            clear s9 S3 HA3 k5 k5d CT CP
            have S4d := Lib.hid (S4.out.no (Touch.refl No w9).drew)
            have CE : Hid (Calls Tryz.prog 52 #[.pointer (some ⟨d, 0, none⟩), .int .u32 (ne : Nat), .slice al P cl, .slice a' m c'] w9.drew fun e w' => e = .returned (.int .i64 0) ∧ Sg true w0 w' s d f { T with S := Fr.sub S1 l, D := Ex.wD T.D ne l bs } (Part.sl 38 al P cl (nums .u32 l) :: Part.row X 103 [.int .u32 (xb : Nat), .int .u32 (xe : Nat), .slice a n c, .bool xf] :: E)) := by
              have := Sg.exWrite S4d.out ne (by rw [← HNE.out]; exact Hne.out) al P cl l Hll.out (by omega) (Or.inr (Or.inl ⟨_, P, cl, [], by rw [List.append_nil]; exact List.mem_cons_self⟩)) HlX.out a' m c' bs HM.out Hcap.out (by omega) (HB.out.mono (fun q hq => List.mem_cons_of_mem _ (List.mem_cons_of_mem _ hq))) HBL.out (by rw [HPg.out]; have := HW.out; show T.D.waits.length + _ ≤ _; omega)
              dsimp only at this
              rw [Hmay.out] at this
              exact this
            have k0 : w9.cell? ⟨s, 0, none⟩ = some (.pointer (some ⟨d, 0, none⟩)) := S4.out.c0
            have k1 : w9.cell? ⟨s, 1, none⟩ = some (.int .u32 (T.epoch : Nat)) := S4.out.c1
            have hS : w9.cell? ⟨s, 0, none⟩ = some (.pointer (some ⟨d, 0, none⟩)) ∧ w9.cell? ⟨s, 1, none⟩ = some (.int .u32 (T.epoch : Nat)) := ⟨k0, k1⟩
            go_wp2_with fail
            go_region_held3 (fun w' => w'.cell? ⟨s, 0, none⟩ = some (.pointer (some ⟨d, 0, none⟩)) ∧ w'.cell? ⟨s, 1, none⟩ = some (.int .u32 (T.epoch : Nat))) (first | exact hS | exact ⟨S4d.out.c0, S4d.out.c1⟩ | exact ⟨s5.c0, s5.c1⟩) (first
              | (go_at_call 52; refine CE.out.mono ?_; rintro e w5 ⟨rfl, s5⟩))
            all_goals
              have S5 := Lib.hid s5
              clear s5 S4 S4d CE k0 k1 hS
              have S5d := S5.out.no (Touch.refl No w5).drew
              have k1 : w5.cell? ⟨s, 1, none⟩ = some (.int .u32 (T.epoch : Nat)) := S5.out.c1
              obtain ⟨bn5, k2, w6, hrun, s6⟩ := Ss.setNow (x := ⟨m, ne, l, true⟩) S5d HP.out hid
              have k2' : w5.cell? ⟨s, 2, none⟩ = some (.map (some bn5)) := k2
              have k1' : w5.drew.cell? ⟨s, 1, none⟩ = some (.int .u32 (T.epoch : Nat)) := k1
              unfold thV at hrun
              dsimp only at hrun
              rw [Hll.out] at hrun
              have S6 := Lib.hid s6.drop
              clear s6 S5d S5
              go_wp2_with fail
              go_still_tail 16, (by kernel_rfl)
              go_wp2
              go_ret
              exact ⟨rfl, S6.out⟩
end
end Go.Proofs.YtnffigfafalocaaGreatDoor
