/-
  Package drydocklaw14 by its own text: great, does: an act, with both disks.
-/
import Derived.Test.YtkiehoboeiengaaGreatDoorK48
import Derived.Test.YtkiehoboeiengaaGreatDoorK35
import Derived.Deep.DeepCutAuto
import Derived.Deep.CutBlock
import Derived.Lib.SmallJoins
namespace Go.Proofs.YtkiehoboeiengaaGreatDoor
open Go Go.RowKit
set_option linter.unusedSimpArgs false
set_option linter.unusedVariables false

/-- great: more than is gone through -/
def pgGreatFrom (m : Nat) : List PDeed → Bool
  | [] => false
  | x :: l => decide (30000 < m + 1 + x.b.length) || pgGreatFrom (m + 1 + x.b.length) l
def pgGreat (l : List PDeed) : Bool := pgGreatFrom 0 l || decide (100 < l.length)
theorem pgGreatFrom_each : ∀ (l : List PDeed) (m : Nat), pgGreatFrom m l = false → ∀ x ∈ l, x.b.length ≤ 30000
  | [], _, _, x, h => by cases h
  | y :: l, m, h, x, hx => by
    rw [pgGreatFrom, Bool.or_eq_false_iff] at h
    rcases List.mem_cons.1 hx with rfl | hx
    · have := h.1
      simp at this; omega
    · exact pgGreatFrom_each l _ h.2 x hx
theorem pgGreat_no {l : List PDeed} (h : pgGreat l = false) : l.length ≤ 100 ∧ ∀ x ∈ l, x.b.length ≤ 30000 := by
  rw [pgGreat, Bool.or_eq_false_iff] at h
  exact ⟨by have := h.2; simpa using this, pgGreatFrom_each l 0 h.1⟩

set_option maxRecDepth 100000 in
set_option maxHeartbeats 1000000 in
theorem pgGreat_any (w : World) (ad : Option Addr) (n cap : Nat) (acts : List PDeed) (hn : acts.length = n) (hmax : (n : Int) ≤ 9223372036854775807) (h : IsPDeeds w ad acts) :
    Calls Tryz.prog 6 #[.slice ad n cap] w fun e w' => e = .returned (.bool (pgGreat acts)) ∧ w = w' := by
  have H := Lib.hid h; clear h
  have HN := Lib.hid hn; clear hn
  go_enter Tryz.func6, Tryz.ntmps6
  go_wp2
  go_loopg [3, 4] n (fun g s3 s4 wr => ∃ k m, k + g = n ∧ s4 = .int .i64 ((k : Nat) : Int) ∧ s3 = .int .i64 ((m : Nat) : Int) ∧ m ≤ 30000 ∧ Hid (pgGreatFrom 0 acts = pgGreatFrom m (acts.drop k)) ∧ Hid (wr = w))
  case atStart => exact ⟨0, 0, by omega, rfl, rfl, by omega, rfl, rfl⟩
  case round =>
    obtain ⟨k, m, hkg, rfl, rfl, hm, hf, hwr⟩ := hrel
    have hww : w = wr := hwr.out.symm
    clear hwr
    subst hww
    cases gk with
    | zero =>
      obtain rfl : k = n := by omega
      have Hres : Hid (pgGreat acts = decide (100 < k)) := by
        have e : acts.drop k = [] := List.drop_eq_nil_of_le (by have := HN.out; omega)
        show pgGreat acts = _
        rw [pgGreat, hf.out, e, HN.out]; simp [pgGreatFrom]
      go_wp2
      go_ret
      exact ⟨ret_bool (by rw [Hres.out, Bool.eq_iff_iff]; simp; omega), rfl⟩
    | succ g =>
      have hlt : (k : Int) < n := by omega
      obtain ⟨x, hx⟩ : ∃ x, acts[k]? = some x := ⟨_, List.getElem?_eq_getElem (by have := HN.out; omega)⟩
      obtain ⟨c, o, rfl, ha⟩ := H.out k x hx
      have hl : w.cell? ⟨c, o + k * 7 + 3, none⟩ = some (.slice x.b_a x.b.length x.b_cap) := ha.cell 3 (by decide)
      have hle := ha.b_le
      have hmx := ha.b_max
      clear ha
      have HF : Hid (pgGreatFrom 0 acts = (decide (30000 < m + 1 + x.b.length) || pgGreatFrom (m + 1 + x.b.length) (acts.drop (k + 1)))) := by
        have hd : acts.drop k = x :: acts.drop (k + 1) := by
          have hlen : k < acts.length := by have := HN.out; omega
          rw [List.drop_eq_getElem_cons hlen]
          rw [List.getElem?_eq_getElem hlen] at hx
          rw [Option.some.inj hx]
        show pgGreatFrom 0 acts = _
        rw [hf.out, hd]; rfl
      clear hx hf
      generalize x.b.length = q at *
      generalize x.b_a = qa at *
      generalize x.b_cap = qc at *
      by_cases hbig : 30000 < m + 1 + q
      · have hbig' : (30000 : Int) < (m : Int) + 1 + (q : Int) := by omega
        have Hres : Hid (pgGreat acts = true) := by
          show pgGreat acts = true
          rw [pgGreat, HF.out]; simp [hbig]
        clear hbig
        go_wp2
        go_ret
        exact ⟨ret_bool Hres.out.symm, rfl⟩
      · have hbig' : ¬ (30000 : Int) < (m : Int) + 1 + (q : Int) := by omega
        have HF2 : Hid (pgGreatFrom 0 acts = pgGreatFrom (m + 1 + q) (acts.drop (k + 1))) := by
          show pgGreatFrom 0 acts = _
          rw [HF.out, decide_eq_false hbig, Bool.false_or]
        have hbound : m + 1 + q ≤ 30000 := by omega
        clear hbig
        go_wp2
        go_roundg g
        case measure => omega
        case rel => exact ⟨k + 1, m + 1 + q, by omega, by go_num, by go_num, hbound, HF2.out, rfl⟩

theorem pg_wD_waits (D : Dk.Disk) (p e : Nat) (q : List Nat) : (Pg.wD D p e q).waits.length ≤ D.waits.length + 4 := by
  unfold Pg.wD; split
  · rw [Pg.wr_waits]; omega
  · omega
def PgDoes (w0 : World) (d g gk nb : Nat) (D : Dk.Disk) (B : List HE) (E : List Part) (m : Nat) (e : Ending) (w' : World) : Prop :=
  e = .returned (.bool true) ∧ ∃ (D' : Dk.Disk) (a : Option Addr) (c : Nat), Two w0 w' d g D' D' (Part.book gk (nb + 1) (B ++ [⟨a, m, c, nb + 1⟩]) [] [] [] :: E) ∧ D'.waits.length ≤ D.waits.length + 4
set_option maxRecDepth 100000 in
set_option maxHeartbeats 16000000 in
theorem pgDoes_any (w0 w : World) (d g gk nb : Nat) (D : Dk.Disk) (B : List HE) (E : List Part) (h : Two w0 w d g D D (Part.book gk nb B [] [] [] :: E)) (xk xm xe : Nat) (hkind : xk % 9 ≠ 7) (hm4 : xm < 4294967296) (he4 : xe < 4294967296) (xa : Option Addr) (m xc : Nat) (xs : List Nat) (xn xt : Int) (xp : Nat)
    (hlen : xs.length = m) (hm5 : m ≤ 30000) (hrd : Rd w0 xa (nums .u8 xs)) (hx8 : ∀ y ∈ xs, y < 256) (hw : D.waits.length ≤ 90000) (hB : B.length ≤ 100000) (hnb : nb ≤ 1000000) :
    Calls Tryz.prog 11 #[.pointer (some ⟨d, 0, none⟩), .pointer (some ⟨g, 0, none⟩), .agg #[.int .u8 (xk : Nat), .int .u32 (xm : Nat), .int .u32 (xe : Nat), .slice xa m xc, .int .i64 xn, .int .i64 xt, .int .u64 (xp : Nat)], .pointer (some ⟨gk, 0, none⟩)] w (PgDoes w0 d g gk nb D B E m) := by
  have HS := Lib.hid h
  have Hm4 := Lib.hid hm4
  have He4 := Lib.hid he4
  have Hlen := Lib.hid hlen
  have Hrd := Lib.hid hrd
  have Hx8 := Lib.hid hx8
  have Hw := Lib.hid hw
  have Hw1 : Hid (D.waits.length ≤ 1000000) := by show _ ≤ _; omega
  have Hw2 : Hid (D.waits.length ≤ 100000) := by show _ ≤ _; omega
  have HB := Lib.hid hB
  have Hnb := Lib.hid hnb
  obtain ⟨q, hq⟩ : ∃ q, xk % 9 = q := ⟨_, rfl⟩
  have hq8 : q < 9 := by rw [← hq]; exact Nat.mod_lt _ (by decide)
  have hq7 : q ≠ 7 := by rw [← hq]; exact hkind
  have hkq : ((xk : Nat) : Int) % 9 = (q : Nat) := by omega
  clear h hm4 he4 hlen hrd hx8 hw hq hkind hB hnb
  go_enter Tryz.func11, Tryz.ntmps11
  go_wp2_with fail
  obtain ⟨X, hX⟩ : ∃ X, X = w.heap.size := ⟨_, rfl⟩
  obtain ⟨w1, hw1⟩ : ∃ w1, w1 = w.alloc (.cells #[.int .u8 (xk : Nat), .int .u32 (xm : Nat), .int .u32 (xe : Nat), .slice xa m xc, .int .i64 xn, .int .i64 xt, .int .u64 (xp : Nat)] 52) := ⟨_, rfl⟩
  have S1 : Hid (Two w0 w1 d g D D (Part.row X 52 [.int .u8 (xk : Nat), .int .u32 (xm : Nat), .int .u32 (xe : Nat), .slice xa m xc, .int .i64 xn, .int .i64 xt, .int .u64 (xp : Nat)] :: Part.book gk nb B [] [] [] :: E)) := by
    show Two _ _ _ _ _ _ _
    rw [hw1, hX]
    exact HS.out.push (Born.row w 52 #[.int .u8 (xk : Nat), .int .u32 (xm : Nat), .int .u32 (xe : Nat), .slice xa m xc, .int .i64 xn, .int .i64 xt, .int .u64 (xp : Nat)])
  rw [← hw1, ← hX]
  clear hw1 hX HS
  refine (twinBytes_any w1 xa m xc (xs.map fun (x : Nat) => (x : Int)) (by rw [List.length_map]; exact Hlen.out) (by omega) (by rw [nums_ints]; exact Hrd.out.no S1.out.end)).mono ?_
  rintro e w2 ⟨ta, tc, rfl, htc, ot, t2⟩
  rw [nums_ints] at ot
  have Htc := Lib.hid htc
  have S2 := Lib.hid (S1.out.push (born_own t2 ot))
  clear htc ot t2 S1
  have HC : Hid (∀ (w' : World) (d' g' : Nat) (D' R' : Dk.Disk) (E' : List Part), Two w0 w' d' g' D' R' E' → Part.row X 52 [.int .u8 (xk : Nat), .int .u32 (xm : Nat), .int .u32 (xe : Nat), .slice xa m xc, .int .i64 xn, .int .i64 xt, .int .u64 (xp : Nat)] ∈ E' → w'.cell? ⟨X, 1, none⟩ = some (.int .u32 (xm : Nat)) ∧ w'.cell? ⟨X, 2, none⟩ = some (.int .u32 (xe : Nat)) ∧ w'.cell? ⟨X, 3, none⟩ = some (.slice xa m xc) ∧ w'.cell? ⟨X, 4, none⟩ = some (.int .i64 xn) ∧ w'.cell? ⟨X, 5, none⟩ = some (.int .i64 xt) ∧ w'.cell? ⟨X, 6, none⟩ = some (.int .u64 (xp : Nat))) := fun w' d' g' D' R' E' h hp => ⟨(h.row hp).cell 1, (h.row hp).cell 2, (h.row hp).cell 3, (h.row hp).cell 4, (h.row hp).cell 5, (h.row hp).cell 6⟩
  have k0 : w2.cell? ⟨X, 0, none⟩ = some (.int .u8 (xk : Nat)) := (S2.out.row (List.mem_cons_of_mem _ List.mem_cons_self)).cell 0
  go_upto_block 0 with fail
  go_cut [10, 11, 17] (fun s10 s11 s17 wx => ∃ (er : Nat) (D' : Dk.Disk), s10 = .int .i64 ((er : Nat) : Int) ∧ s11 = .int .i64 ((er : Nat) : Int) ∧ Hid (Two w0 wx d g D' D' (Part.sl 5 ta (m + 1) tc (nums .u8 xs ++ [.int .u8 77]) :: Part.row X 52 [.int .u8 (xk : Nat), .int .u32 (xm : Nat), .int .u32 (xe : Nat), .slice xa m xc, .int .i64 xn, .int .i64 xt, .int .u64 (xp : Nat)] :: Part.book gk nb B [] [] [] :: E)) ∧ Hid (D'.waits.length ≤ D.waits.length + 4))
  case first =>
    have hcases : q = 0 ∨ q = 1 ∨ q = 2 ∨ q = 3 ∨ q = 4 ∨ q = 5 ∨ q = 6 ∨ q = 8 := by omega
    clear hq8 hq7
    rcases hcases with rfl | rfl | rfl | rfl | rfl | rfl | rfl | rfl
    · obtain ⟨k1, k2, k3, _, _, _⟩ := HC.out _ _ _ _ _ _ S2.out (List.mem_cons_of_mem _ List.mem_cons_self)
      go_wp2_with fail
      refine (S2.out.pgWriteD xm xe Hm4.out He4.out ta m tc xs Hlen.out (rd_pre (S2.out.rd List.mem_cons_self)) Hx8.out Hw2.out).mono ?_
      rintro e w3 ⟨rfl, s3⟩
      have S3 := Lib.hid s3
      clear s3 k1 k2 k3
      obtain ⟨k1, k2, k3, _, _, _⟩ := HC.out _ _ _ _ _ _ S3.out (List.mem_cons_of_mem _ List.mem_cons_self)
      go_wp2_with fail
      refine (S3.out.pgWriteR xm xe Hm4.out He4.out xa m xc xs Hlen.out (Hrd.out.no S3.out.end) Hx8.out Hw2.out).mono ?_
      rintro e w4 ⟨rfl, s4⟩
      have S4 := Lib.hid s4
      clear s4 k1 k2 k3
      have Hw4 : Hid ((Pg.wD D xm xe xs).waits.length ≤ D.waits.length + 4) := by exact pg_wD_waits D xm xe xs
      go_wp2_with fail
      go_meet
      exact ⟨_, _, rfl, rfl, S4.out, Hw4.out⟩
    · obtain ⟨k1, k2, k3, _, _, _⟩ := HC.out _ _ _ _ _ _ S2.out (List.mem_cons_of_mem _ List.mem_cons_self)
      go_wp2_with fail
      refine (S2.out.pgWriteD xm xe Hm4.out He4.out ta m tc xs Hlen.out (rd_pre (S2.out.rd List.mem_cons_self)) Hx8.out Hw2.out).mono ?_
      rintro e w3 ⟨rfl, s3⟩
      have S3 := Lib.hid s3
      clear s3 k1 k2 k3
      obtain ⟨k1, k2, k3, _, _, _⟩ := HC.out _ _ _ _ _ _ S3.out (List.mem_cons_of_mem _ List.mem_cons_self)
      go_wp2_with fail
      refine (S3.out.pgWriteR xm xe Hm4.out He4.out xa m xc xs Hlen.out (Hrd.out.no S3.out.end) Hx8.out Hw2.out).mono ?_
      rintro e w4 ⟨rfl, s4⟩
      have S4 := Lib.hid s4
      clear s4 k1 k2 k3
      have Hw4 : Hid ((Pg.wD D xm xe xs).waits.length ≤ D.waits.length + 4) := by exact pg_wD_waits D xm xe xs
      go_wp2_with fail
      go_meet
      exact ⟨_, _, rfl, rfl, S4.out, Hw4.out⟩
    · obtain ⟨k1, k2, k3, _, _, _⟩ := HC.out _ _ _ _ _ _ S2.out (List.mem_cons_of_mem _ List.mem_cons_self)
      go_wp2_with fail
      refine (S2.out.pgWriteD xm xe Hm4.out He4.out ta m tc xs Hlen.out (rd_pre (S2.out.rd List.mem_cons_self)) Hx8.out Hw2.out).mono ?_
      rintro e w3 ⟨rfl, s3⟩
      have S3 := Lib.hid s3
      clear s3 k1 k2 k3
      obtain ⟨k1, k2, k3, _, _, _⟩ := HC.out _ _ _ _ _ _ S3.out (List.mem_cons_of_mem _ List.mem_cons_self)
      go_wp2_with fail
      refine (S3.out.pgWriteR xm xe Hm4.out He4.out xa m xc xs Hlen.out (Hrd.out.no S3.out.end) Hx8.out Hw2.out).mono ?_
      rintro e w4 ⟨rfl, s4⟩
      have S4 := Lib.hid s4
      clear s4 k1 k2 k3
      have Hw4 : Hid ((Pg.wD D xm xe xs).waits.length ≤ D.waits.length + 4) := by exact pg_wD_waits D xm xe xs
      go_wp2_with fail
      go_meet
      exact ⟨_, _, rfl, rfl, S4.out, Hw4.out⟩
    · obtain ⟨k1, k2, k3, _, _, _⟩ := HC.out _ _ _ _ _ _ S2.out (List.mem_cons_of_mem _ List.mem_cons_self)
      go_wp2_with fail
      refine (S2.out.pgWriteD xm xe Hm4.out He4.out ta m tc xs Hlen.out (rd_pre (S2.out.rd List.mem_cons_self)) Hx8.out Hw2.out).mono ?_
      rintro e w3 ⟨rfl, s3⟩
      have S3 := Lib.hid s3
      clear s3 k1 k2 k3
      obtain ⟨k1, k2, k3, _, _, _⟩ := HC.out _ _ _ _ _ _ S3.out (List.mem_cons_of_mem _ List.mem_cons_self)
      go_wp2_with fail
      refine (S3.out.pgWriteR xm xe Hm4.out He4.out xa m xc xs Hlen.out (Hrd.out.no S3.out.end) Hx8.out Hw2.out).mono ?_
      rintro e w4 ⟨rfl, s4⟩
      have S4 := Lib.hid s4
      clear s4 k1 k2 k3
      have Hw4 : Hid ((Pg.wD D xm xe xs).waits.length ≤ D.waits.length + 4) := by exact pg_wD_waits D xm xe xs
      go_wp2_with fail
      go_meet
      exact ⟨_, _, rfl, rfl, S4.out, Hw4.out⟩
    · obtain ⟨_, _, k3, k4, _, _⟩ := HC.out _ _ _ _ _ _ S2.out (List.mem_cons_of_mem _ List.mem_cons_self)
      go_wp2_with fail
      refine (S2.out.writeD xn ta m tc xs Hlen.out Hx8.out (rd_pre (S2.out.rd List.mem_cons_self)) Hw1.out).mono ?_
      rintro e w3 ⟨rfl, s3⟩
      have S3 := Lib.hid s3
      clear s3 k3 k4
      obtain ⟨_, _, k3, k4, _, _⟩ := HC.out _ _ _ _ _ _ S3.out (List.mem_cons_of_mem _ List.mem_cons_self)
      go_wp2_with fail
      refine (S3.out.writeR xn xa m xc xs Hlen.out Hx8.out (Hrd.out.no S3.out.end) Hw1.out).mono ?_
      rintro e w4 ⟨rfl, s4⟩
      have S4 := Lib.hid s4
      clear s4 k3 k4
      have Hw4 : Hid ((Dk.writeA D xn xs).waits.length ≤ D.waits.length + 4) := by show _ ≤ _; have := Dk.writeA_waits D xn xs; omega
      go_wp2_with fail
      go_meet
      exact ⟨_, _, rfl, rfl, S4.out, Hw4.out⟩
    · obtain ⟨xb, hxb⟩ : ∃ xb, xp % 256 = xb := ⟨_, rfl⟩
      have hxb8 : xb < 256 := by rw [← hxb]; exact Nat.mod_lt _ (by decide)
      have hxi : ((xp : Nat) : Int) % 256 = (xb : Nat) := by omega
      have Hxb8 := Lib.hid hxb8
      clear hxb hxb8
      obtain ⟨_, _, _, k4, k5, k6⟩ := HC.out _ _ _ _ _ _ S2.out (List.mem_cons_of_mem _ List.mem_cons_self)
      go_wp2_with fail
      refine (S2.out.rotD xn xt xb Hxb8.out Hw1.out).mono ?_
      rintro e w3 ⟨rfl, s3⟩
      have S3 := Lib.hid s3
      clear s3 k4 k5 k6
      obtain ⟨_, _, _, k4, k5, k6⟩ := HC.out _ _ _ _ _ _ S3.out (List.mem_cons_of_mem _ List.mem_cons_self)
      go_wp2_with fail
      refine (S3.out.rotR xn xt xb Hxb8.out Hw1.out).mono ?_
      rintro e w4 ⟨rfl, s4⟩
      have S4 := Lib.hid s4
      clear s4 k4 k5 k6
      have Hw4 : Hid ((Dk.rotA D xn xt xb).waits.length ≤ D.waits.length + 4) := by show _ ≤ _; have := Dk.rotA_waits D xn xt xb; omega
      go_wp2_with fail
      go_meet
      exact ⟨_, _, rfl, rfl, S4.out, Hw4.out⟩
    · obtain ⟨_, _, _, k4, _, _⟩ := HC.out _ _ _ _ _ _ S2.out (List.mem_cons_of_mem _ List.mem_cons_self)
      go_wp2_with fail
      refine (S2.out.badD xn Hw1.out).mono ?_
      rintro e w3 ⟨rfl, s3⟩
      have S3 := Lib.hid s3
      clear s3 k4
      obtain ⟨_, _, _, k4, _, _⟩ := HC.out _ _ _ _ _ _ S3.out (List.mem_cons_of_mem _ List.mem_cons_self)
      go_wp2_with fail
      refine (S3.out.badR xn Hw1.out).mono ?_
      rintro e w4 ⟨rfl, s4⟩
      have S4 := Lib.hid s4
      clear s4 k4
      have Hw4 : Hid ((Dk.badA D xn).waits.length ≤ D.waits.length + 4) := by show _ ≤ _; have := Dk.badA_waits D xn; omega
      go_wp2_with fail
      go_meet
      exact ⟨_, _, rfl, rfl, S4.out, Hw4.out⟩
    · go_wp2_with fail
      go_meet
      exact ⟨0, D, rfl, rfl, S2.out, Nat.le_add_right _ _⟩
  case rest =>
    obtain ⟨er, D', rfl, rfl, S3, W3⟩ := hcut
    clear S2 k0 hkq hq8 hq7
    have hee : ((er : Int) == (er : Int)) = true := by simp
    have S4 : Hid (Two w0 _ d g D' D' (Part.book gk nb B [] [] [] :: Part.sl 5 ta (m + 1) tc (nums .u8 xs ++ [.int .u8 77]) :: Part.row X 52 [.int .u8 (xk : Nat), .int .u32 (xm : Nat), .int .u32 (xe : Nat), .slice xa m xc, .int .i64 xn, .int .i64 xt, .int .u64 (xp : Nat)] :: E)) := S3.out.perm (List.perm_append_comm_assoc [_, _] [_] E)
    go_wp2_with fail
    refine (S4.out.told ta m tc HB.out Hnb.out).mono ?_
    rintro e w5 ⟨rfl, s5⟩
    have S5 := Lib.hid s5
    clear s5 S4 S3
    obtain ⟨_, _, k3, _⟩ := HC.out _ _ _ _ _ _ S5.out (List.mem_cons_of_mem _ (List.mem_cons_of_mem _ List.mem_cons_self))
    have h1 := S5.out.rd (List.mem_cons_of_mem _ List.mem_cons_self)
    have HL := Lib.hid (leftBytes_any w5 ta m tc xa xc (xs.map fun (x : Nat) => (x : Int)) (by rw [List.length_map]; exact Hlen.out) (by omega) Htc.out (by rw [nums_ints]; exact h1) (by rw [nums_ints]; exact Hrd.out.no S5.out.end))
    clear h1
    go_wp2_with fail
    refine HL.out.mono ?_
    rintro e w6 ⟨rfl, t6⟩
    have S6 : Hid (Two w0 w6 d g D' D' (Part.book gk (nb + 1) (B ++ [⟨ta, m, tc, nb + 1⟩]) [] [] [] :: E)) := by
      have s := (S5.out.no t6).perm (List.Perm.swap _ _ _)
      have s2 := (s.imp1 (q := Part.sl 5 ta m tc (nums .u8 xs)) (fun A h => sl_twin h)).perm (List.Perm.swap _ _ _)
      have s3 := s2.takeOne
      exact (s3.perm (List.Perm.swap _ _ _)).drop
    clear t6 HL k3 S5
    go_wp2
    go_ret
    exact ⟨rfl, D', ta, tc, S6.out, W3.out⟩
end Go.Proofs.YtkiehoboeiengaaGreatDoor
