/-
  Package shadows by its own text: what was committed is read.
-/
import Derived.Test.YtnffigfafalocaaGreatDoorK43
namespace Go.Proofs.YtnffigfafalocaaGreatDoor
open Go Go.RowKit Go.Maps
set_option linter.unusedSimpArgs false
set_option linter.unusedVariables false
section
variable {u : Bool} {w0 w w' : World} {s d f : Nat} {D : Dk.Disk} {T : Sh.Sto} {E : List Part}
def ReadsPost (w0 : World) (s d : Nat) (D : Dk.Disk) (E : List Part) (R : Except Nat Sh.Sto) (e : Ending) (w' : World) : Prop :=
  (∃ T f, R = .ok T ∧ T.D = D ∧ e = .returned .nilIface ∧ Sg false w0 w' s d f T E) ∨
  (∃ k b st, R = .error k ∧ e = .returned (faultV b) ∧ Dd w0 w' d D (Part.row b 141 [.string st, .int .i64 (k : Nat)] :: E))
/-- only the disk is left, and what stands beside -/
theorem Sg.left (h : Sg u w0 w s d f T E) : Dd w0 w d T.D E := (Dd.drop (Dd.drop h))
theorem Sg.left1 {p q : Part} (h : Sg u w0 w s d f T (p :: q :: E)) : Dd w0 w d T.D (p :: E) := Dd.drop (Dd.perm (Sg.left h) (List.Perm.swap _ _ _))
theorem own_new1 (w : World) (T : TypeId) (v : Value) : Own (w.alloc (.cells #[v] T)) w.heap.size T (.slice (some ⟨w.heap.size, 0, none⟩) 1 1) [v] :=
  ⟨rfl, Or.inr ⟨w.heap.size, 1, #[v], rfl, Nat.le_refl _, heap_alloc_new _ _, Nat.le_refl _, by unfold maxLen; omega, rfl, rfl⟩⟩
theorem Sg.pgRead (h : Sg u w0 w s d f T E) (num : Nat) (hnum : num < 4294967296) {D : Dk.Disk} (hD : T.D = D) :
    Calls Tryz.prog 159 #[dskV (some ⟨d, 0, none⟩), .int .u32 (num : Nat)] w fun e w' => ∃ a n, e = .returned (.tuple #[.int .u32 (Pg.rN D num : Nat), .slice a n n, .int .i64 (Pg.rE D num : Nat)]) ∧ (Pg.rB D num).length = n ∧ Sg u w0 w' s d f T (Part.sl 5 a n n (nums .u8 (Pg.rB D num)) :: E) := by
  subst hD
  refine (Dd.pgRead h num hnum).mono ?_
  rintro e w' ⟨a, n, he, hn, hd⟩
  exact ⟨a, n, he, hn, Dd.perm hd ((List.Perm.swap _ _ _).trans ((List.Perm.swap _ _ _).cons _))⟩
theorem Sg.exRead (h : Sg u w0 w s d f T E) (ep : Nat) (hep : ep < 4294967296) (a : Option Addr) (n c : Nat) (ids : List Nat) (hn : ids.length = n) (hnm : (n : Int) ≤ 10000) (hr : Rd w a (nums .u32 ids)) (hil : ∀ x ∈ ids, x < 4294967296) (m : Nat) (hm : (m : Int) ≤ 100000000000) {D : Dk.Disk} (hD : T.D = D) :
    Calls Tryz.prog 62 #[.pointer (some ⟨d, 0, none⟩), .int .u32 (ep : Nat), .slice a n c, .int .i64 (m : Nat)] w fun e w' => ∃ b k, e = .returned (.tuple #[.slice b k k, .int .i64 (Ex.rE D ep ids m : Nat)]) ∧ (Ex.rB D ep ids m).length = k ∧ Sg u w0 w' s d f T (Part.sl 5 b k k (nums .u8 (Ex.rB D ep ids m)) :: E) := by
  subst hD
  refine (Dd.exRead h ep hep a n c ids hn hnm hr hil m hm).mono ?_
  rintro e w' ⟨b, k, he, hk, hd⟩
  exact ⟨b, k, he, hk, Dd.perm hd ((List.Perm.swap _ _ _).trans ((List.Perm.swap _ _ _).cons _))⟩
set_option maxRecDepth 100000 in
set_option maxHeartbeats 16000000 in
theorem shReads_any (h : Dd w0 w d D (Part.sto s (some ⟨d, 0, none⟩) none false ⟨0, [], 0, [], []⟩ :: E)) (lo : 32 ≤ D.seen.length) (hi : D.seen.length ≤ 16384) :
    Calls Tryz.prog 60 #[.pointer (some ⟨s, 0, none⟩)] w (ReadsPost w0 s d D E (Sh.readsP D)) := by
  have H := Lib.hid h
  have Hlo := Lib.hid lo
  have Hok : Hid (Dk.Ok D) := h.ok
  have HMany : Hid (Sh.many D ≤ 4095) := Sh.many_le hi
  obtain ⟨R, hR⟩ : ∃ R, Sh.readsP D = R := ⟨_, rfl⟩
  rw [hR]
  have HR0 := Lib.hid hR
  obtain ⟨nb, bk, ta, tc, L, h2, _⟩ := Dd.stoX h
  have k0 : w.cell? ⟨s, 0, none⟩ = some (.pointer (some ⟨d, 0, none⟩)) := h2.row.cell 0
  have HR : Hid (Row w s 106 [.pointer (some ⟨d, 0, none⟩), .int .u32 0, .map nb, .map (some bk), .slice ta 0 tc, .pointer none]) := h2.row
  have C1 : Hid (Calls Tryz.prog 152 #[.pointer (some ⟨s, 0, none⟩)] w fun e w' => e = .returned (.int .i64 (Sh.many D : Nat)) ∧ w = w') := by
    obtain ⟨O, hO⟩ := h.disk
    exact shPages_at w s d D O hO lo k0
  clear h lo hi h2 hR
  go_enter Tryz.func60, Tryz.ntmps60
  go_wp2_with fail
  refine C1.out.mono ?_
  rintro e w' ⟨rfl, rfl⟩
  go_wp2_with fail
  refine (new_ok w 1 (Sh.many D) (by have := HMany.out; omega)).mono ?_
  rintro e w2 ⟨f1, rfl, hf1, t2, m2⟩
  have B2 := Lib.hid (born_map hf1 t2 m2)
  have k5 : w2.cell? ⟨s, 5, none⟩ = some (.pointer none) := (HR.out.touch t2 (fun f => f)).cell 5
  have g5 : w2.frozen? ⟨s, 5, none⟩ = false := (HR.out.touch t2 (fun f => f)).soft 5
  clear hf1 t2 m2 C1 k0
  go_upto_region 2 with fail
  obtain ⟨w3, hw3⟩ : ∃ w3, w3 = w2.setCell ⟨s, 5, none⟩ (.pointer (some ⟨f1, 0, none⟩)) := ⟨_, rfl⟩
  obtain ⟨T0, hT0⟩ : ∃ T0 : Sh.Sto, T0 = ⟨D, upTo 1 (1 + Sh.many D), 0, [], [], [], 0⟩ := ⟨_, rfl⟩
  have HT0 := Lib.hid hT0
  have S3 : Hid (Sg false w0 w3 s d f1 T0 E) := by
    show Sg _ _ _ _ _ _ _ _
    rw [hw3, hT0]
    exact H.out.firstFree B2.out
  have k0 : w3.cell? ⟨s, 0, none⟩ = some (.pointer (some ⟨d, 0, none⟩)) := S3.out.c0
  rw [← hw3]
  obtain ⟨r, hr⟩ : ∃ r, Rt.findR D = r := ⟨_, rfl⟩
  obtain ⟨er, her⟩ : ∃ er, Rt.findE D = er := ⟨_, rfl⟩
  have HTD : Hid (T0.D = D) := by show _ = _; rw [hT0]
  have CR : Hid (Calls Tryz.prog 158 #[.pointer (some ⟨d, 0, none⟩)] w3 (RootPost w3 r er)) := by
    have : Calls Tryz.prog 158 #[.pointer (some ⟨d, 0, none⟩)] w3 (RootPost w3 (Rt.findR T0.D) (Rt.findE T0.D)) := Dd.rootRead S3.out
    rwa [HTD.out, hr, her] at this
  have Hr := Lib.hid hr
  have Her := Lib.hid her
  have HP := HR0.out
  unfold Sh.readsP at HP
  rw [hr, her] at HP
  have HP := Lib.hid HP
  clear hw3 B2 H k5 g5 HR hT0 hr her HR0
  go_wp2_with fail
  refine CR.out.mono ?_
  rintro e w4 ⟨rfl, t4⟩
  obtain ⟨X, hX⟩ : ∃ X, X = w4.heap.size := ⟨_, rfl⟩
  obtain ⟨w5, hw5⟩ : ∃ w5, w5 = w4.alloc (.cells #[.int .u32 (r.epoch : Nat), .int .u32 (r.first : Nat), .int .u32 (r.bytes : Nat)] 116) := ⟨_, rfl⟩
  have S5 : Hid (Sg false w0 w5 s d f1 T0 (Part.row X 116 [.int .u32 (r.epoch : Nat), .int .u32 (r.first : Nat), .int .u32 (r.bytes : Nat)] :: E)) := by
    show Sg _ _ _ _ _ _ _ _
    rw [hw5, hX]
    exact Sg.push (S3.out.no t4) (Born.row w4 116 #[.int .u32 (r.epoch : Nat), .int .u32 (r.first : Nat), .int .u32 (r.bytes : Nat)])
  clear S3 t4 CR k0
  go_upto_region 3 with fail
  rw [← hw5, ← hX]
  clear hw5 hX
  by_cases e7 : er = 7
  · subst e7
    have HRR : Hid (R = .ok T0) := by
      have := HP.out
      rw [if_pos rfl] at this
      show _ = _
      rw [← this, HT0.out]
    clear HP
    go_wp2
    go_ret
    exact Or.inl ⟨T0, f1, HRR.out, HTD.out, rfl, S5.out.drop⟩
  · by_cases e0 : er = 0
    · subst e0
      have HP2 := HP.out
      rw [if_neg e7, if_neg (by simp)] at HP2
      have HP := Lib.hid HP2
      clear HP2 e7
      have x0 : w5.cell? ⟨X, 0, none⟩ = some (.int .u32 (r.epoch : Nat)) := (S5.out.row List.mem_cons_self).cell 0
      have s1 : w5.cell? ⟨s, 1, none⟩ = some (.int .u32 (T0.epoch : Nat)) := S5.out.c1
      have g1 : w5.frozen? ⟨s, 1, none⟩ = false := S5.out.soft 1
      go_upto_region 9 with fail
      obtain ⟨w6, hw6⟩ : ∃ w6, w6 = w5.setCell ⟨s, 1, none⟩ (.int .u32 (r.epoch : Nat)) := ⟨_, rfl⟩
      obtain ⟨T1, hT1⟩ : ∃ T1 : Sh.Sto, T1 = { T0 with epoch := r.epoch } := ⟨_, rfl⟩
      have S6 : Hid (Sg false w0 w6 s d f1 T1 (Part.row X 116 [.int .u32 (r.epoch : Nat), .int .u32 (r.first : Nat), .int .u32 (r.bytes : Nat)] :: E)) := by
        show Sg _ _ _ _ _ _ _ _
        rw [hw6, hT1]
        exact S5.out.setEpoch r.epoch
      have HT1 : Hid (T1 = ⟨D, upTo 1 (1 + Sh.many D), r.epoch, [], [], [], 0⟩) := by show _ = _; rw [hT1, HT0.out]
      rw [← hw6]
      have HTD1 : Hid (T1.D = D) := by show _ = _; rw [HT1.out]
      have HX : Hid (∀ W f' T' E', Sg false w0 W s d f' T' E' → Part.row X 116 [.int .u32 (r.epoch : Nat), .int .u32 (r.first : Nat), .int .u32 (r.bytes : Nat)] ∈ E' → W.cell? ⟨X, 0, none⟩ = some (.int .u32 (r.epoch : Nat)) ∧ W.cell? ⟨X, 1, none⟩ = some (.int .u32 (r.first : Nat)) ∧ W.cell? ⟨X, 2, none⟩ = some (.int .u32 (r.bytes : Nat))) := fun W f' T' E' h hm => ⟨(h.row hm).cell 0, (h.row hm).cell 1, (h.row hm).cell 2⟩
      have HrO : Hid (r.Ok) := by show _; rw [← Hr.out]; exact Rt.find_ok Hok.out
      obtain ⟨_, x1, _⟩ := HX.out _ _ _ _ S6.out List.mem_cons_self
      have CPg : Hid (∀ W f' T' E', Sg false w0 W s d f' T' E' → T'.D = D → Calls Tryz.prog 152 #[.pointer (some ⟨s, 0, none⟩)] W fun e w' => e = .returned (.int .i64 (Sh.many D : Nat)) ∧ W = w') := fun W f' T' E' h hD => by
        obtain ⟨O, hO⟩ := h.disk
        rw [hD] at hO
        exact shPages_at W s d D O hO Hlo.out h.c0
      clear hw6 hT1 S5 x0 s1 g1
      obtain ⟨mn, hmn⟩ : ∃ mn, Sh.many D = mn := ⟨_, rfl⟩
      have Hmn := Lib.hid hmn
      have HP1 := HP.out
      rw [hmn] at CPg HP1
      by_cases hA : r.first < 1
      · have hAi : (r.first : Int) < 1 := by omega
        have HRR : Hid (R = .error 4) := by
          rw [if_pos (Or.inl hA)] at HP1
          exact HP1.symm
        clear HP HP1 hA hmn CPg
        go_wp2_with fail
        go_quiet (fail)
        go_wp2
        go_ret
        exact Or.inr ⟨4, _, _, HRR.out, rfl, by rw [← HTD1.out]; exact Sg.left1 ((S6.out.no ((Touch.refl No w6).drewN _)).push (Born.row _ _ _))⟩
      · have hAi : ¬ (r.first : Int) < 1 := by omega
        have dA : decide ((r.first : Int) < 1) = false := decide_eq_false hAi
        have wf : IntKind.i64.wrap (r.first : Int) = (r.first : Int) := IntWalk.i64_in _ (by have := HrO.out.first; omega)
        have CP1 := Lib.hid (CPg.out _ _ _ _ (S6.out.no (Touch.refl No w6).drew) HTD1.out)
        have S6d := Lib.hid (S6.out.no (Touch.refl No w6).drew)
        clear hmn
        by_cases hB : mn < r.first
        · have hBi : (mn : Int) < (r.first : Nat) := by omega
          have HRR : Hid (R = .error 4) := by
            rw [if_pos (Or.inr hB)] at HP1
            exact HP1.symm
          clear HP HP1 hA hB
          go_wp2_with fail
          go_region_held3 (fun w' => w'.cell? ⟨X, 1, none⟩ = some (.int .u32 (r.first : Nat))) (first | exact x1 | exact (HX.out _ _ _ _ S6d.out List.mem_cons_self).2.1) (first
            | (go_at_call 152; refine CP1.out.mono ?_; rintro e w7 ⟨rfl, rfl⟩))
          all_goals
            go_wp2
            go_ret
            exact Or.inr ⟨4, _, _, HRR.out, rfl, by rw [← HTD1.out]; exact Sg.left1 (S6d.out.push (Born.row _ _ _))⟩
        · have hBi : ¬ (mn : Int) < (r.first : Nat) := by omega
          have dB : decide ((mn : Int) < (r.first : Nat)) = false := decide_eq_false hBi
          rw [if_neg (by rintro (h | h); exact hA h; exact hB h)] at HP1
          have HP := Lib.hid HP1
          clear HP1 hA hB
          go_wp2_with fail
          go_region_held3 (fun w' => w'.cell? ⟨X, 1, none⟩ = some (.int .u32 (r.first : Nat))) (first | exact x1 | exact (HX.out _ _ _ _ S6d.out List.mem_cons_self).2.1) (first
            | (go_at_call 152; refine CP1.out.mono ?_; rintro e w7 ⟨rfl, rfl⟩))
          obtain ⟨w7, hw7⟩ : ∃ w7, w7 = w6.drew := ⟨_, rfl⟩
          have S7 : Hid (Sg false w0 w7 s d f1 T1 (Part.row X 116 [.int .u32 (r.epoch : Nat), .int .u32 (r.first : Nat), .int .u32 (r.bytes : Nat)] :: E)) := by show Sg _ _ _ _ _ _ _ _; rw [hw7]; exact S6d.out
          rw [← hw7]
          clear hw7 S6d S6 CP1 x1 dA dB wf
          obtain ⟨_, x1, _⟩ := HX.out _ _ _ _ S7.out List.mem_cons_self
          have c0 : w7.cell? ⟨s, 0, none⟩ = some (.pointer (some ⟨d, 0, none⟩)) := S7.out.c0
          obtain ⟨ne, hne⟩ : ∃ ne, Pg.rN D r.first = ne := ⟨_, rfl⟩
          obtain ⟨pe, hpe⟩ : ∃ pe, Pg.rE D r.first = pe := ⟨_, rfl⟩
          obtain ⟨pb, hpb⟩ : ∃ pb, Pg.rB D r.first = pb := ⟨_, rfl⟩
          have CR := (S7.out.no (Touch.refl No w7).drew).pgRead r.first HrO.out.first HTD1.out
          have hpl : pb.length ≤ 240 := by rw [← hpb]; exact Pg.rB_le _ _
          have hpx : ∀ x ∈ pb, x < 256 := by rw [← hpb]; exact Pg.rB_lt Hok.out _
          have HP1 := HP.out
          rw [hne, hpe, hpb] at HP1
          rw [hne, hpe, hpb] at CR
          have CR := Lib.hid CR
          have HP := Lib.hid HP1
          have Hpl := Lib.hid hpl
          have Hpx := Lib.hid hpx
          clear HP1 hne hpe hpb hpl hpx
          go_wp2_with fail
          go_region_held3 (fun w' => w'.cell? ⟨X, 1, none⟩ = some (.int .u32 (r.first : Nat)) ∧ w'.cell? ⟨s, 0, none⟩ = some (.pointer (some ⟨d, 0, none⟩))) (first | exact ⟨x1, c0⟩ | exact ⟨(HX.out _ _ _ _ s8 (List.mem_cons_of_mem _ List.mem_cons_self)).2.1, s8.c0⟩) (first
            | (go_at_call 159; refine CR.out.mono ?_; rintro e w8 ⟨a8, n8, rfl, hn8, s8⟩))
          by_cases pe0 : pe = 0
          · subst pe0
            have HP1 := HP.out
            rw [if_neg (by simp)] at HP1
            have HP := Lib.hid HP1
            clear HP1 CR S7 x1 c0
            have Hn8 := Lib.hid hn8
            have hn240 : (n8 : Int) ≤ 240 := by have := Hpl.out; omega
            have CN := Lib.hid (shNumbers_all w8 a8 n8 n8 pb hn8 (Nat.le_refl _) (by omega) (s8.rd List.mem_cons_self) Hpx.out)
            obtain ⟨cnt, hcnt⟩ : ∃ cnt, pb.length / 4 = cnt := ⟨_, rfl⟩
            have hc60 : (cnt : Int) ≤ 60 := by have := Hpl.out; omega
            rw [hcnt] at CN HP
            obtain ⟨l, hl⟩ : ∃ l, Sh.nums pb cnt = l := ⟨_, rfl⟩
            rw [hl] at HP
            have S8 := Lib.hid s8
            have Hcnt := Lib.hid hcnt
            have Hl := Lib.hid hl
            clear s8 hn8 hcnt hl
            go_wp2_with fail
            refine CN.out.mono ?_
            rintro e w9 ⟨al, cl, a9, p9, q9, rfl, _, _, own9, _, _, t9⟩
            rw [Hl.out] at own9
            obtain ⟨O9, hO9, hge9⟩ := own_sl own9
            have s9 : Sg false w0 w9 s d f1 T1 (Part.sl 38 al cnt cl (nums .u32 l) :: Part.row X 116 [.int .u32 (r.epoch : Nat), .int .u32 (r.first : Nat), .int .u32 (r.bytes : Nat)] :: E) := Sg.drop (Sg.perm (Sg.push S8.out ⟨t9, O9, hO9, hge9⟩) (List.Perm.swap _ _ _))
            have Hll : Hid (l.length = cnt) := by show _ = _; rw [← Hl.out, Sh.nums_length]
            have Hlx : Hid (∀ y ∈ l, y < 4294967296) := by rw [← Hl.out]; exact Sh.nums_lt Hpx.out cnt
            have S9 := Lib.hid s9
            clear own9 hO9 hge9 t9 s9 CN S8
            obtain ⟨_, x1, _⟩ := HX.out _ _ _ _ S9.out (List.mem_cons_of_mem _ List.mem_cons_self)
            obtain ⟨I, hi0, hi1, hi2, hi3⟩ := u32_info
            have HI := Lib.hid (And.intro hi0 (And.intro hi1 (And.intro hi2 hi3)))
            have SA : Hid (Sg false w0 (w9.alloc (.cells #[.int .u32 (r.first : Nat)] 38)) s d f1 T1 (Part.sl 38 al cnt cl (nums .u32 l) :: Part.row X 116 [.int .u32 (r.epoch : Nat), .int .u32 (r.first : Nat), .int .u32 (r.bytes : Nat)] :: E)) := S9.out.no ((Touch.refl No w9).alloc _)
            have HRl : Hid (Rd (w9.alloc (.cells #[.int .u32 (r.first : Nat)] 38)) al (nums .u32 l)) := SA.out.rd List.mem_cons_self
            clear hi0 hi1 hi2 hi3
            go_upto_region 16 with (at_builtin; refine wpList_append_rd rfl _ _ _ rfl w9.heap.size 38 I (.int .u32 0) 4 Tryz.underlying86 HI.out.1 HI.out.2.1 HI.out.2.2.1 HI.out.2.2.2 rfl _ [.int .u32 (r.first : Nat)] (own_new1 w9 38 _) rfl al cnt cl (nums .u32 l) rfl (by rw [nums_length, Hll.out]) HRl.out (nums_one _ _) (by simp; unfold maxLen; omega) (by simp; omega) (by simp) ?_; intro v10 w10 own10 t10; obtain ⟨a10, c10, rfl, hc10, _⟩ := own10.form' (n := 1 + cnt) (by simp [nums_length, Hll.out]; omega); have T10 : Hid (Touch No w9 w10) := ((Touch.refl No w9).alloc _).then t10 (fun i hi e => by cases e; exact absurd hi (Nat.lt_irrefl _)); have S10 : Hid (Sg false w0 w10 s d f1 T1 (Part.sl 38 al cnt cl (nums .u32 l) :: Part.row X 116 [.int .u32 (r.epoch : Nat), .int .u32 (r.first : Nat), .int .u32 (r.bytes : Nat)] :: E)) := S9.out.no T10.out; have Own10 := Lib.hid own10; obtain ⟨vt, s4⟩ := S10.out.c4; have g4 : w10.frozen? ⟨s, 4, none⟩ = false := S10.out.soft 4; clear own10 t10 SA HRl)
            have hOw : Own w10 w9.heap.size 38 (.slice a10 (1 + cnt) c10) (nums .u32 (r.first :: l)) := Own10.out
            obtain ⟨O10, hO10, hge10⟩ := own_sl hOw
            have s11 := Sg.push S9.out ⟨T10.out, O10, hO10, hge10⟩
            have hll2 : (r.first :: l).length = 1 + cnt := by rw [List.length_cons, Hll.out]; omega
            have s12 := Sg.setTable s11 hll2
            obtain ⟨w12, hw12⟩ : ∃ w12, w12 = w10.setCell ⟨s, 4, none⟩ (.slice a10 (1 + cnt) c10) := ⟨_, rfl⟩
            rw [← hw12] at s12 ⊢
            obtain ⟨T2, hT2⟩ : ∃ T2 : Sh.Sto, T2 = { T1 with table := r.first :: l } := ⟨_, rfl⟩
            rw [← hT2] at s12
            have S12 := Lib.hid s12
            have HT2 : Hid (T2 = ⟨D, upTo 1 (1 + Sh.many D), r.epoch, [], [], r.first :: l, 0⟩) := by show _ = _; rw [hT2, HT1.out]
            have HTD2 : Hid (T2.D = D) := by show _ = _; rw [HT2.out]
            clear hOw hO10 hge10 s11 hll2 s12 hw12 hT2 S9 S10 T10 Own10 s4 g4 x1 hc10
            obtain ⟨x0, _, x2⟩ := HX.out _ _ _ _ S12.out (List.mem_cons_of_mem _ List.mem_cons_self)
            have Fail : Hid (R = .error 4 → ∀ st, ReadsPost w0 s d D E R (.returned (faultV w12.heap.size)) (w12.alloc (.cells #[.string st, .int .i64 4] 141))) := fun hRR st =>
              Or.inr ⟨4, _, st, hRR, rfl, by rw [← HTD2.out]; exact Sg.left1 (Sg.drop (Sg.perm (S12.out.push (Born.row w12 141 #[.string st, .int .i64 4])) (List.Perm.swap _ _ _)))⟩
            by_cases hA : ne = r.epoch
            · subst hA
              by_cases hB : n8 % 4 = 0
              · obtain ⟨N, hN⟩ : ∃ N, Ex.pages r.bytes = N := ⟨_, rfl⟩
                have HN := Lib.hid hN
                have wb : IntKind.i64.wrap (r.bytes : Int) = (r.bytes : Int) := IntWalk.i64_in _ (by have := HrO.out.bytes; omega)
                have CPa := Lib.hid (exPages_at w12 (r.bytes : Nat) N (by have := HrO.out.bytes; omega) (by rw [Int.toNat_natCast]; exact hN))
                have hBi : (n8 : Int) % 4 = 0 := by omega
                clear hN
                go_wp2_with fail
                refine CPa.out.mono ?_
                rintro e w' ⟨rfl, rfl⟩
                by_cases hC : cnt = N
                · subst hC
                  have HP1 := HP.out
                  rw [if_neg (by rintro (h | h | h); exact h rfl; exact h (by rw [Hn8.out]; exact hB); exact h HN.out.symm)] at HP1
                  have HP := Lib.hid HP1
                  obtain ⟨ta, tc, k4, htc, htm, hrt, hoff⟩ := S12.out.tableC
                  have htl : T2.table = r.first :: l := by rw [HT2.out]
                  rw [htl] at k4 htc hrt hoff
                  have hl1 : (r.first :: l).length = 1 + cnt := by rw [List.length_cons, Hll.out]; omega
                  rw [hl1] at k4 htc hoff
                  have CM := Lib.hid (shMarks_any S12.out ta (1 + cnt) tc (r.first :: l) hl1 (by omega) hrt hoff (fun y hy => by
                    rcases List.mem_cons.1 hy with rfl | hy
                    · exact HrO.out.first
                    · exact Hlx.out y hy))
                  clear HP1 htc htm hrt hoff htl hl1 CPa wb x0 x2 hBi
                  go_wp2_with fail
                  refine CM.out.mono ?_
                  rintro e w13 (⟨hmk, rfl, s13, _⟩ | ⟨hmk, bq, S', st, rfl, s13⟩)
                  · have hS2 : T2.S = upTo 1 (1 + Sh.many D) := by rw [HT2.out]
                    rw [hS2] at hmk s13
                    have HP1 := HP.out
                    rw [Hmn.out] at hmk
                    rw [hmk, if_neg (by decide)] at HP1
                    obtain ⟨T3, hT3⟩ : ∃ T3 : Sh.Sto, T3 = { T2 with S := Fr.sub (upTo 1 (1 + Sh.many D)) (r.first :: l) } := ⟨_, rfl⟩
                    rw [← hT3] at s13
                    have HT3 : Hid (T3 = ⟨D, Fr.sub (upTo 1 (1 + Sh.many D)) (r.first :: l), r.epoch, [], [], r.first :: l, 0⟩) := by show _ = _; rw [hT3, HT2.out]
                    have HTD3 : Hid (T3.D = D) := by show _ = _; rw [HT3.out]
                    have S13 := Lib.hid s13
                    clear hmk s13 hT3 hS2 CM S12 Fail k4
                    obtain ⟨re, hre⟩ : ∃ re, Ex.rE D r.epoch l r.bytes = re := ⟨_, rfl⟩
                    obtain ⟨rb, hrb⟩ : ∃ rb, Ex.rB D r.epoch l r.bytes = rb := ⟨_, rfl⟩
                    have hbl : rb.length ≤ 14400 := by rw [← hrb]; exact Ex.rB_le (by rw [Hll.out]; omega)
                    have hbx : ∀ x ∈ rb, x < 256 := by rw [← hrb]; exact Ex.rB_lt Hok.out _ _ _
                    have CE := (S13.out.no (Touch.refl No w13).drew).exRead r.epoch HrO.out.epoch al cnt cl l Hll.out (by omega) ((S13.out.no (Touch.refl No w13).drew).rd List.mem_cons_self) Hlx.out r.bytes (by have := HrO.out.bytes; omega) HTD3.out
                    rw [hre, hrb] at CE HP1
                    have CE := Lib.hid CE
                    have HP := Lib.hid HP1
                    have Hbl := Lib.hid hbl
                    have Hbx := Lib.hid hbx
                    obtain ⟨x0, _, x2⟩ := HX.out _ _ _ _ S13.out (List.mem_cons_of_mem _ List.mem_cons_self)
                    have c0 : w13.cell? ⟨s, 0, none⟩ = some (.pointer (some ⟨d, 0, none⟩)) := S13.out.c0
                    have wb : IntKind.i64.wrap (r.bytes : Int) = (r.bytes : Int) := IntWalk.i64_in _ (by have := HrO.out.bytes; omega)
                    have hS : w13.cell? ⟨X, 0, none⟩ = some (.int .u32 (r.epoch : Nat)) ∧ w13.cell? ⟨X, 2, none⟩ = some (.int .u32 (r.bytes : Nat)) ∧ w13.cell? ⟨s, 0, none⟩ = some (.pointer (some ⟨d, 0, none⟩)) := ⟨x0, x2, c0⟩
                    clear HP1 hre hrb hbl hbx
                    go_wp2_with fail
                    go_region_held3 (fun w' => w'.cell? ⟨X, 0, none⟩ = some (.int .u32 (r.epoch : Nat)) ∧ w'.cell? ⟨X, 2, none⟩ = some (.int .u32 (r.bytes : Nat)) ∧ w'.cell? ⟨s, 0, none⟩ = some (.pointer (some ⟨d, 0, none⟩))) (first | exact hS | exact ⟨(HX.out _ _ _ _ s14 (List.mem_cons_of_mem _ (List.mem_cons_of_mem _ List.mem_cons_self))).1, (HX.out _ _ _ _ s14 (List.mem_cons_of_mem _ (List.mem_cons_of_mem _ List.mem_cons_self))).2.2, s14.c0⟩) (first
                      | (go_at_call 62; refine CE.out.mono ?_; rintro e w14 ⟨b14, k14, rfl, hk14, s14⟩))
                    by_cases re0 : re = 0
                    · subst re0
                      have HP1 := HP.out
                      rw [if_neg (by simp)] at HP1
                      have hep : T3.epoch = r.epoch := by rw [HT3.out]
                      have CRo := shRows_any s14 b14 k14 k14 rb hk14 (by have := Hbl.out; omega) (Nat.le_refl _) (by have := Hbl.out; omega) (fun w' T' h => h.rd List.mem_cons_self) Hbx.out (by rw [hep]; exact HrO.out.epoch) (by rw [HT3.out])
                      have hS3 : T3.S = Fr.sub (upTo 1 (1 + Sh.many D)) (r.first :: l) := by rw [HT3.out]
                      rw [hep, hS3, Hmn.out] at CRo
                      obtain ⟨Q, hQ⟩ : ∃ Q, Sh.rowsP r.epoch rb (-1) (Fr.sub (upTo 1 (1 + mn)) (r.first :: l)) [] = Q := ⟨_, rfl⟩
                      rw [hQ] at CRo HP1
                      have CRo := Lib.hid CRo
                      have HP := Lib.hid HP1
                      clear HP1 hep hS3 hQ s14 hk14 CE S13 x0 x2 c0 hS
                      go_wp2_with fail
                      refine CRo.out.mono ?_
                      rintro e w15 (⟨S', k', hQ, hk', rfl, s15⟩ | ⟨hno, bq, S', k', st, rfl, s15⟩)
                      · have HRR : Hid (R = .ok ⟨D, S', r.epoch, [], k', r.first :: l, 0⟩) := by
                          have := HP.out
                          rw [hQ] at this
                          simp only at this
                          rw [if_neg (by omega)] at this
                          exact this.symm
                        have S15 : Hid (Sg false w0 w15 s d f1 ⟨D, S', r.epoch, [], k', r.first :: l, 0⟩ E) := by
                          have h1 := s15.drop.drop.drop
                          rw [HT3.out] at h1
                          exact h1
                        clear s15 hQ HP CRo
                        go_wp2
                        go_ret
                        exact Or.inl ⟨_, f1, HRR.out, rfl, rfl, S15.out⟩
                      · have HRR : Hid (R = .error 4) := by
                          have := HP.out
                          cases hq : Q with
                          | none => rw [hq] at this; exact this.symm
                          | some z =>
                            obtain ⟨S2, k2⟩ := z
                            rw [hq] at this
                            simp only at this
                            rw [if_pos (hno S2 k2 hq)] at this
                            exact this.symm
                        have S15 : Hid (Dd w0 w15 d D (Part.row bq 141 [.string st, .int .i64 4] :: E)) := by
                          show Dd _ _ _ _ _
                          have h1 := Sg.left (Sg.perm s15 (E' := Part.sl 5 b14 k14 k14 (nums .u8 rb) :: Part.sl 38 al cnt cl (nums .u32 l) :: Part.row X 116 [.int .u32 (r.epoch : Nat), .int .u32 (r.first : Nat), .int .u32 (r.bytes : Nat)] :: Part.row bq 141 [.string st, .int .i64 4] :: E) ((List.Perm.swap _ _ _).trans (((List.Perm.swap _ _ _).trans ((List.Perm.swap _ _ _).cons _)).cons _)))
                          have h2 := Dd.drop (Dd.drop (Dd.drop h1))
                          rw [show ({ T3 with S := S', kept := k' } : Sh.Sto).D = T3.D from rfl, HTD3.out] at h2
                          exact h2
                        clear s15 hno HP CRo
                        unfold faultV
                        go_wp2
                        go_ret
                        exact Or.inr ⟨4, bq, st, HRR.out, rfl, S15.out⟩
                    · have HRR : Hid (R = .error re) := by
                        have HP1 := HP.out
                        rw [if_pos re0] at HP1
                        exact HP1.symm
                      have rei : ¬ (re : Int) = 0 := by omega
                      have S14 := Lib.hid s14
                      clear HP re0 s14 CE S13 x0 x2 c0 hS
                      go_wp2
                      go_ret
                      refine Or.inr ⟨re, w14.heap.size, ⟨#[116, 104, 101, 32, 116, 97, 98, 108, 101]⟩, HRR.out, rfl, ?_⟩
                      have h1 := Sg.left (Sg.perm (S14.out.push (Born.row w14 141 #[.string ⟨#[116, 104, 101, 32, 116, 97, 98, 108, 101]⟩, .int .i64 (re : Nat)])) ((List.Perm.swap _ _ _).trans (((List.Perm.swap _ _ _).trans ((List.Perm.swap _ _ _).cons _)).cons _)))
                      have h2 := Dd.drop (Dd.drop (Dd.drop h1))
                      rw [HTD3.out] at h2
                      exact h2
                  · have HRR : Hid (R = .error 4) := by
                      have HP1 := HP.out
                      have hS2 : T2.S = upTo 1 (1 + Sh.many D) := by rw [HT2.out]
                      rw [hS2, Hmn.out] at hmk
                      rw [if_pos hmk] at HP1
                      exact HP1.symm
                    have S13 : Hid (Dd w0 w13 d D (Part.row bq 141 [.string st, .int .i64 4] :: E)) := by
                      show Dd _ _ _ _ _
                      have h1 := Sg.left (Sg.perm s13 (E' := Part.sl 38 al cnt cl (nums .u32 l) :: Part.row X 116 [.int .u32 (r.epoch : Nat), .int .u32 (r.first : Nat), .int .u32 (r.bytes : Nat)] :: Part.row bq 141 [.string st, .int .i64 4] :: E) ((List.Perm.swap _ _ _).trans ((List.Perm.swap _ _ _).cons _)))
                      have h2 := Dd.drop (Dd.drop h1)
                      rw [show ({ T2 with S := S' } : Sh.Sto).D = T2.D from rfl, HTD2.out] at h2
                      exact h2
                    clear s13 hmk HP CM S12 Fail
                    unfold faultV
                    go_wp2
                    go_ret
                    exact Or.inr ⟨4, bq, st, HRR.out, rfl, S13.out⟩
                · have hCi : ¬ (cnt : Int) = (N : Nat) := by omega
                  have HRR : Hid (R = .error 4) := by
                    have HP1 := HP.out
                    rw [if_pos (Or.inr (Or.inr (by rw [HN.out]; exact hC)))] at HP1
                    exact HP1.symm
                  clear HP hC
                  go_wp2
                  go_ret
                  exact Fail.out HRR.out _
              · have hBi : ¬ (n8 : Int) % 4 = 0 := by omega
                have HRR : Hid (R = .error 4) := by
                  have HP1 := HP.out
                  rw [if_pos (Or.inr (Or.inl (by rw [Hn8.out]; exact hB)))] at HP1
                  exact HP1.symm
                clear HP hB
                go_wp2
                go_ret
                exact Fail.out HRR.out _
            · have hAi : ¬ (ne : Int) = (r.epoch : Nat) := by omega
              have HRR : Hid (R = .error 4) := by
                have HP1 := HP.out
                rw [if_pos (Or.inl hA)] at HP1
                exact HP1.symm
              clear HP hA
              go_wp2
              go_ret
              exact Fail.out HRR.out _
          · have HRR : Hid (R = .error pe) := by
              have HP1 := HP.out
              rw [if_pos pe0] at HP1
              exact HP1.symm
            have pei : ¬ (pe : Int) = 0 := by omega
            have S8 := Lib.hid s8
            clear HP pe0 s8 CR S7 x1 c0
            go_wp2
            go_ret
            exact Or.inr ⟨pe, _, _, HRR.out, rfl, by rw [← HTD1.out]; exact Sg.left1 ((Sg.drop (Sg.perm (S8.out.push (Born.row _ _ _)) (List.Perm.swap _ _ _))))⟩
    · have HRR : Hid (R = .error er) := by
        have := HP.out
        rw [if_neg e7, if_pos e0] at this
        exact this.symm
      have e7i : ¬ (er : Int) = 7 := by omega
      have e0i : ¬ (er : Int) = 0 := by omega
      have He7 := Lib.hid e7
      clear HP e7 e0
      go_wp2
      go_ret
      exact Or.inr ⟨er, _, _, HRR.out, rfl, by rw [← HTD.out]; exact Sg.left1 (S5.out.push (Born.row _ _ _))⟩
end
end Go.Proofs.YtnffigfafalocaaGreatDoor
