/-
  The walk of FreesPlay.
-/
import Derived.Test.YtmjeigceclmdoaaGreatDoorK47
import Derived.Test.YtmjeigceclmdoaaGreatDoorK48
import Derived.Deep.DeepCutAuto
import Derived.Deep.CutBlock
namespace Go.Proofs.YtmjeigceclmdoaaGreatDoor
open Go Go.RowKit
set_option linter.unusedSimpArgs false
set_option linter.unusedVariables false

theorem greatFrom_each : ∀ (l : List Deed) (m : Nat), greatFrom m l = false → ∀ x ∈ l, x.xs.length ≤ 5000
  | [], _, _, x, h => by cases h
  | y :: l, m, h, x, hx => by
    rw [greatFrom, Bool.or_eq_false_iff] at h
    rcases List.mem_cons.1 hx with rfl | hx
    · have := h.1
      simp at this; omega
    · exact greatFrom_each l _ h.2 x hx
theorem great_no {l : List Deed} (h : great l = false) : l.length ≤ 200 ∧ ∀ x ∈ l, x.xs.length ≤ 5000 := by
  rw [great, Bool.or_eq_false_iff] at h
  exact ⟨by have := h.2; simpa using this, greatFrom_each l 0 h.1⟩
theorem FrS.nil {w0 w : World} {b g first many gk n : Nat} {S R : Nat → Bool} {D : List HE} {E : List Part} (h : FrS w0 w b g first many S R gk n D E) : FrS w0 w b g first many S R gk n D (Part.sl 23 none 0 0 [] :: E) :=
  h.push (born_own (Touch.refl No w) (Own.nil w w.heap.size 23))
theorem book_next {nb k : Nat} {D : List HE} (h : nb ≤ 2 * k ∧ D.length ≤ 2 * k ∧ ∀ e ∈ D, e.k ≤ 2 * k ∧ e.n ≤ 5000) {a : Option Addr} {m c : Nat} (hm : m ≤ 5000) :
    nb + 1 ≤ 2 * k + 1 ∧ (D ++ [(⟨a, m, c, nb + 1⟩ : HE)]).length ≤ 2 * k + 1 ∧ ∀ e ∈ D ++ [(⟨a, m, c, nb + 1⟩ : HE)], e.k ≤ 2 * k + 1 ∧ e.n ≤ 5000 := by
  obtain ⟨h1, h2, h3⟩ := h
  refine ⟨by omega, by simp; omega, fun e he => ?_⟩
  rcases List.mem_append.1 he with he | he
  · have := h3 e he; omega
  · rw [List.mem_singleton.1 he]
    exact ⟨by show nb + 1 ≤ _; omega, hm⟩
theorem book_last {nb k : Nat} {D : List HE} (h : nb ≤ 2 * k + 1 ∧ D.length ≤ 2 * k + 1 ∧ ∀ e ∈ D, e.k ≤ 2 * k + 1 ∧ e.n ≤ 5000) {a : Option Addr} {m c : Nat} (hm : m ≤ 5000) :
    nb + 1 ≤ 2 * (k + 1) ∧ (D ++ [(⟨a, m, c, nb + 1⟩ : HE)]).length ≤ 2 * (k + 1) ∧ ∀ e ∈ D ++ [(⟨a, m, c, nb + 1⟩ : HE)], e.k ≤ 2 * (k + 1) ∧ e.n ≤ 5000 := by
  obtain ⟨h1, h2, h3⟩ := h
  refine ⟨by omega, by simp; omega, fun e he => ?_⟩
  rcases List.mem_append.1 he with he | he
  · have := h3 e he; omega
  · rw [List.mem_singleton.1 he]
    exact ⟨by show nb + 1 ≤ _; omega, hm⟩
theorem book_small {nb k : Nat} {D : List HE} (h : nb ≤ 2 * k ∧ D.length ≤ 2 * k ∧ ∀ e ∈ D, e.k ≤ 2 * k ∧ e.n ≤ 5000) (hk : k < 200) : nb ≤ 1000000 ∧ D.length ≤ 100000 := by
  obtain ⟨h1, h2, _⟩ := h
  omega
set_option maxRecDepth 100000 in
set_option maxHeartbeats 16000000 in
theorem freesPlay_walk (w : World) (first many : Int) (hf : -9223372036854775808 ≤ first ∧ first ≤ 9223372036854775807) (hm : -9223372036854775808 ≤ many ∧ many ≤ 9223372036854775807) (ad : Option Addr) (n cap : Nat) (acts : List Deed)
    (hn : acts.length = n) (hmax : (n : Int) ≤ 9223372036854775807) (hd : IsDeeds w ad acts) (hT : TabAt w) :
    Calls Tryz.prog 5 #[.int .i64 first, .int .i64 many, .slice ad n cap] w fun e w' => e = .returned (.bool true) ∧ Touch No w w' := by
  have HN := Lib.hid hn
  have HD := Lib.hid hd
  have HT := Lib.hid hT
  have Hf := Lib.hid hf
  have Hm := Lib.hid hm
  clear hn hd hT hf hm
  go_enter Tryz.func5, Tryz.ntmps5
  go_wp2_with fail
  refine (great_any w ad n cap acts HN.out hmax HD.out).mono ?_
  rintro e w1 ⟨rfl, rfl⟩
  cases hg : great acts with
  | true =>
    clear hg
    go_wp2
    go_ret
    exact ⟨rfl, Touch.refl _ _⟩
  | false =>
    have HG := Lib.hid hg
    clear hg
    by_cases hb : newBad first many
    · have C1 := Lib.hid (map_bad w first many hb)
      have C2 := Lib.hid (refNew_bad w first many Hf.out Hm.out hb)
      clear hb
      go_wp2_with fail
      refine C1.out.mono ?_
      rintro e w1 ⟨rfl, rfl⟩
      go_wp2_with fail
      refine C2.out.mono ?_
      rintro e w1 ⟨rfl, rfl⟩
      go_wp2
      go_ret
      exact ⟨rfl, Touch.refl _ _⟩
    · obtain ⟨F, M, rfl, rfl, hFM⟩ : ∃ F M : Nat, first = (F : Nat) ∧ many = (M : Nat) ∧ F + M ≤ 4096 := by
        unfold newBad at hb
        exact ⟨first.toNat, many.toNat, by omega, by omega, by omega⟩
      clear hb Hf Hm
      go_wp2_with fail
      refine (new_ok w F M hFM).mono ?_
      rintro e w1 ⟨b, rfl, hb, t1, m1⟩
      have S1 := Lib.hid ((Sl.nil (Touch.refl No w)).push (born_map hb t1 m1))
      clear hb t1 m1
      go_wp2_with fail
      refine (refNew_ok w1 F M hFM).mono ?_
      rintro e w2 ⟨g, rfl, born2⟩
      rw [← Fr.lst_upTo hFM] at born2
      have S2 := Lib.hid (S1.out.push born2)
      clear born2 S1
      go_wp2_with fail
      obtain ⟨gk, hgk⟩ : ∃ gk, gk = w2.heap.size := ⟨_, rfl⟩
      obtain ⟨w3, hw3⟩ : ∃ w3, w3 = w2.alloc (.cells #[.int .i64 0, .slice none 0 0, .slice none 0 0, .slice none 0 0, .slice none 0 0, .slice none 0 0, .slice none 0 0, .slice none 0 0, .slice none 0 0, .slice none 0 0, .slice none 0 0, .slice none 0 0, .slice none 0 0, .slice none 0 0, .slice none 0 0, .slice none 0 0] 48) := ⟨_, rfl⟩
      have S3 : Hid (FrS w w3 b g F M (upTo F (F + M)) (upTo F (F + M)) gk 0 [] []) := by
        have h := S2.out.push (born_book w2 #[.int .i64 0, .slice none 0 0, .slice none 0 0, .slice none 0 0, .slice none 0 0, .slice none 0 0, .slice none 0 0, .slice none 0 0, .slice none 0 0, .slice none 0 0, .slice none 0 0, .slice none 0 0, .slice none 0 0, .slice none 0 0, .slice none 0 0, .slice none 0 0] rfl)
        rw [← hw3, ← hgk] at h
        exact Sl.perm h ((List.Perm.swap _ _ _).trans (((List.Perm.swap _ _ _).cons _).trans (List.Perm.swap _ _ _)))
      rw [← hw3, ← hgk]
      clear hw3 hgk S2
      go_loopg [8, 10, 12] n (fun gh s8 s10 s12 wr => ∃ (k er nb : Nat) (S : Nat → Bool) (D : List HE), k + gh = n ∧ s12 = .int .i64 ((k : Nat) : Int) ∧ s8 = .int .i64 ((er : Nat) : Int) ∧ s10 = .int .i64 ((er : Nat) : Int) ∧ Hid (FrS w wr b g F M S S gk nb D []) ∧ Hid (nb ≤ 2 * k ∧ D.length ≤ 2 * k ∧ ∀ e ∈ D, e.k ≤ 2 * k ∧ e.n ≤ 5000))
      case atStart => exact ⟨0, 0, 0, _, [], by omega, rfl, rfl, rfl, S3.out, Nat.zero_le _, Nat.zero_le _, fun e h => by cases h⟩
      case round =>
        clear S3
        obtain ⟨k, er, nb, S, D, hkg, rfl, rfl, rfl, HS, HDk⟩ := hrel
        cases gk with
        | zero =>
          obtain rfl : k = n := by omega
          have hk200 : Hid (k ≤ 200) := by show k ≤ 200; have := (great_no HG.out).1; have := HN.out; omega
          go_wp2_with fail
          go_loopg [19] 4100 (fun gh s19 wx => ∃ j : Nat, j + gh = 4100 ∧ s19 = .int .u32 ((j : Nat) : Int) ∧ Hid (FrS w wx b g F M S S gk nb D []))
          case atStart => exact ⟨0, by omega, rfl, HS.out⟩
          case round =>
            obtain ⟨j, hjg, rfl, HJ⟩ := hrel
            cases gk with
            | zero =>
              obtain rfl : j = 4100 := by omega
              go_wp2_with fail
              have Sb : Sl w wr (Part.book gk nb [] [] [] D :: [Part.map b F (F + M) S, Part.ref g F M (Fr.lst S)]) := Sl.perm HJ.out (List.perm_append_comm (l₁ := [_, _]) (l₂ := [_]))
              have HSb := Lib.hid Sb
              clear Sb
              refine (HSb.out.apart bkOkB_nil bkOk_nil ?hD).mono ?_
              case hD => exact ⟨by have := HDk.out.2.1; have := hk200.out; omega, fun e he => by have := HDk.out.2.2 e he; have := hk200.out; omega, fun e he => by have := HDk.out.2.2 e he; omega⟩
              rintro e w7 ⟨rfl, t7⟩
              have T7 := Lib.hid t7
              clear t7
              go_wp2
              go_ret
              exact ⟨rfl, T7.out⟩
            | succ g' =>
              have hlt : (j : Int) < 4100 := by omega
              have hj32 : j < 4294967296 := by omega
              obtain ⟨sb, hsb⟩ : ∃ sb, S j = sb := ⟨_, rfl⟩
              have C1 : Hid (Calls Tryz.prog 43 #[.pointer (some ⟨b, 0, none⟩), .int .u32 (j : Nat)] wr fun e w'' => e = .returned (.bool sb) ∧ wr = w'') := by show Calls _ _ _ _ _; rw [← hsb]; exact is_any wr b F _ j S HJ.out.map hj32
              have C2 : Hid (Calls Tryz.prog 44 #[.pointer (some ⟨g, 0, none⟩), .int .u32 (j : Nat)] wr fun e w'' => e = .returned (.bool sb) ∧ wr = w'') := by show Calls _ _ _ _ _; rw [← hsb]; exact HJ.out.isR j hj32
              have hbb : (sb != sb) = false := by simp
              clear hsb hj32
              go_wp2_with fail
              refine C1.out.mono ?_
              rintro e w5 ⟨rfl, rfl⟩
              go_wp2_with fail
              refine C2.out.mono ?_
              rintro e w5 ⟨rfl, rfl⟩
              go_wp2_with fail
              go_roundg g'
              case measure => omega
              case rel => exact ⟨j + 1, by omega, by go_num, HJ.out⟩
        | succ g' =>
          have hlt : (k : Int) < (n : Nat) := by omega
          obtain ⟨x, hx⟩ : ∃ x, acts[k]? = some x := ⟨_, List.getElem?_eq_getElem (by have := HN.out; omega)⟩
          obtain ⟨c, o, rfl, ha⟩ := (HD.out.touch HS.out.end) k x hx
          have ha0 : ∃ c' o', DeedAt w c' o' x := by obtain ⟨c', o', _, h⟩ := HD.out k x hx; exact ⟨c', _, h⟩
          have hkind := ha.kind
          have hnn := ha.n
          have hnum := ha.num
          have hl := ha.l
          obtain ⟨xk, hxk⟩ : ∃ y, x.kind = y := ⟨_, rfl⟩
          obtain ⟨xn, hxn⟩ : ∃ y, x.n = y := ⟨_, rfl⟩
          obtain ⟨xp, hxp⟩ : ∃ y, x.num = y := ⟨_, rfl⟩
          obtain ⟨xs, hxs⟩ : ∃ y, x.xs = y := ⟨_, rfl⟩
          obtain ⟨xa, hxa⟩ : ∃ y, x.a = y := ⟨_, rfl⟩
          obtain ⟨xc, hxc⟩ : ∃ y, x.cap = y := ⟨_, rfl⟩
          obtain ⟨m, hm⟩ : ∃ m, xs.length = m := ⟨_, rfl⟩
          rw [hxk] at hkind
          rw [hxn] at hnn
          rw [hxp] at hnum
          rw [hxs, hxa, hxc, hm] at hl
          have Hlen := Lib.hid hm
          have Hk8 : Hid (xk < 256) := by have := ha.k8; rw [hxk] at this; exact this
          have Hn32 : Hid (xp < 4294967296) := by have := ha.n32; rw [hxp] at this; exact this
          have Hle : Hid (m ≤ xc) := by have := ha.le; rw [hxs, hxc, hm] at this; exact this
          have Hx32 : Hid (∀ y ∈ xs, y < 4294967296) := by have := ha.x32; rw [hxs] at this; exact this
          have Hrd : Hid (Rd w xa (nums .u32 xs)) := by
            obtain ⟨c', o', h⟩ := ha0
            have := h.rd
            rw [hxa, hxs] at this; exact this
          have hm5 : m ≤ 5000 := by have := (great_no HG.out).2 x (List.mem_of_getElem? hx); rw [hxs, hm] at this; exact this
          clear ha ha0 hxk hxn hxp hxs hxa hxc hm
          go_wp2_with fail
          obtain ⟨X, hX⟩ : ∃ X, X = wr.heap.size := ⟨_, rfl⟩
          obtain ⟨w1, hw1⟩ : ∃ w1, w1 = wr.alloc (.cells #[.int .u8 (xk : Nat), .int .i64 xn, .int .u32 (xp : Nat), .slice xa m xc] 69) := ⟨_, rfl⟩
          have S1 : Hid (FrS w w1 b g F M S S gk nb D [Part.row X 69 [.int .u8 (xk : Nat), .int .i64 xn, .int .u32 (xp : Nat), .slice xa m xc]]) := by
            show FrS _ _ _ _ _ _ _ _ _ _ _ _
            rw [hw1, hX]
            exact HS.out.push (Born.row wr 69 #[.int .u8 (xk : Nat), .int .i64 xn, .int .u32 (xp : Nat), .slice xa m xc])
          rw [← hw1, ← hX]
          clear hw1 hX HS
          refine (twinIds_any w1 xa m xc (xs.map fun (x : Nat) => (x : Int)) (by rw [List.length_map]; exact Hlen.out) (by omega) (by rw [nums_ints]; exact Hrd.out.no S1.out.end)).mono ?_
          rintro e w2 ⟨ta, tc, rfl, htc, ot, t2⟩
          rw [nums_ints] at ot
          have Htc := Lib.hid htc
          have S2 := Lib.hid (S1.out.push (born_own t2 ot))
          clear htc ot t2 S1
          have k0 : w2.cell? ⟨X, 0, none⟩ = some (.int .u8 (xk : Nat)) := (S2.out.row (List.mem_cons_of_mem _ List.mem_cons_self)).cell 0
          obtain ⟨q, hq⟩ : ∃ q, xk % 8 = q := ⟨_, rfl⟩
          have hq8 : q < 8 := by rw [← hq]; exact Nat.mod_lt _ (by decide)
          have hkq : ((xk : Nat) : Int) % 8 = (q : Nat) := by omega
          have hk200 : k < 200 := by have := (great_no HG.out).1; have := HN.out; omega
          clear hq
          go_upto_block 2 with fail
          go_cut [8, 10, 64] (fun s8 s10 s64 wx => ∃ (er nb : Nat) (S : Nat → Bool) (D : List HE), s8 = .int .i64 ((er : Nat) : Int) ∧ s10 = .int .i64 ((er : Nat) : Int) ∧ Hid (FrS w wx b g F M S S gk nb D [Part.sl 23 ta (m + 1) tc (nums .u32 xs ++ [.int .u32 77]), Part.row X 69 [.int .u8 (xk : Nat), .int .i64 xn, .int .u32 (xp : Nat), .slice xa m xc]]) ∧ Hid (nb ≤ 2 * k + 1 ∧ D.length ≤ 2 * k + 1 ∧ ∀ e ∈ D, e.k ≤ 2 * k + 1 ∧ e.n ≤ 5000))
          case first =>
            have HDk2 : Hid (nb ≤ 2 * k + 1 ∧ D.length ≤ 2 * k + 1 ∧ ∀ e ∈ D, e.k ≤ 2 * k + 1 ∧ e.n ≤ 5000) := ⟨by have := HDk.out.1; omega, by have := HDk.out.2.1; omega, fun e h => by have := HDk.out.2.2 e h; omega⟩
            have hcases : q = 0 ∨ q = 1 ∨ q = 2 ∨ q = 3 ∨ q = 4 ∨ q = 5 ∨ q = 6 ∨ q = 7 := by omega
            clear hq8
            rcases hcases with rfl | rfl | rfl | rfl | rfl | rfl | rfl | rfl
            · rcases take_same (S := S) xn (first := F) (last := F + M) with h | ⟨h1, h2⟩ | ⟨y, rfl, hy⟩
              · have HBd : Hid (nb + 1 ≤ 2 * k + 1 ∧ (D ++ [(⟨none, 0, 0, nb + 1⟩ : HE)]).length ≤ 2 * k + 1 ∧ ∀ e ∈ D ++ [(⟨none, 0, 0, nb + 1⟩ : HE)], e.k ≤ 2 * k + 1 ∧ e.n ≤ 5000) := book_next HDk.out (by decide)
                have C1 := Lib.hid (take_bad w2 b F (F + M) S xn S2.out.map h)
                have C2 := Lib.hid (refTake_bad w2 g xn h)
                have Hnk := Lib.hid (book_small HDk.out hk200)
                have k1 : w2.cell? ⟨X, 1, none⟩ = some (.int .i64 xn) := (S2.out.row (List.mem_cons_of_mem _ List.mem_cons_self)).cell 1
                clear h
                go_wp2_with fail
                refine C1.out.mono ?_
                rintro e w3 ⟨rfl, rfl⟩
                go_wp2_with fail
                refine C2.out.mono ?_
                rintro e w3 ⟨rfl, rfl⟩
                go_wp2_with fail
                refine (sameIds_eq w2 none none 0 0 0 [] [] rfl rfl (by decide) (Rd.nil _ _) (Rd.nil _ _)).mono ?_
                rintro e w4 ⟨rfl, t4⟩
                have S4 := Lib.hid (FrS.nil (S2.out.no t4))
                rw [show sameIds [] [] = true from rfl]
                clear t4
                go_wp2_with fail
                refine (S4.out.ids Hnk.out.2 Hnk.out.1).mono ?_
                rintro e w5 ⟨rfl, s5⟩
                have S5 := Lib.hid s5
                clear s5
                go_wp2_with fail
                go_meet
                exact ⟨1, nb + 1, S, _, rfl, rfl, S5.out, HBd.out⟩
              · have HBd : Hid (nb + 1 ≤ 2 * k + 1 ∧ (D ++ [(⟨none, 0, 0, nb + 1⟩ : HE)]).length ≤ 2 * k + 1 ∧ ∀ e ∈ D ++ [(⟨none, 0, 0, nb + 1⟩ : HE)], e.k ≤ 2 * k + 1 ∧ e.n ≤ 5000) := book_next HDk.out (by decide)
                have C1 := Lib.hid (take_full w2 b F (F + M) S xn S2.out.map h2)
                have C2 := Lib.hid (S2.out.fullR xn h2)
                have Hnk := Lib.hid (book_small HDk.out hk200)
                have k1 : w2.cell? ⟨X, 1, none⟩ = some (.int .i64 xn) := (S2.out.row (List.mem_cons_of_mem _ List.mem_cons_self)).cell 1
                clear h1 h2
                go_wp2_with fail
                refine C1.out.mono ?_
                rintro e w3 ⟨rfl, rfl⟩
                go_wp2_with fail
                refine C2.out.mono ?_
                rintro e w3 ⟨rfl, rfl⟩
                go_wp2_with fail
                refine (sameIds_eq w2 none none 0 0 0 [] [] rfl rfl (by decide) (Rd.nil _ _) (Rd.nil _ _)).mono ?_
                rintro e w4 ⟨rfl, t4⟩
                have S4 := Lib.hid (FrS.nil (S2.out.no t4))
                rw [show sameIds [] [] = true from rfl]
                clear t4
                go_wp2_with fail
                refine (S4.out.ids Hnk.out.2 Hnk.out.1).mono ?_
                rintro e w5 ⟨rfl, s5⟩
                have S5 := Lib.hid s5
                clear s5
                go_wp2_with fail
                go_meet
                exact ⟨6, nb + 1, S, _, rfl, rfl, S5.out, HBd.out⟩
              · have k1 : w2.cell? ⟨X, 1, none⟩ = some (.int .i64 ((y : Nat) : Int)) := (S2.out.row (List.mem_cons_of_mem _ List.mem_cons_self)).cell 1
                have hy4 : y ≤ 4096 := Nat.le_trans hy (Fr.lst_length_le S)
                have Hy := Lib.hid hy
                have Hnk := Lib.hid (book_small HDk.out hk200)
                have HTa := Lib.hid (HT.out.touch S2.out.end (fun f => f))
                have Hly : Hid (((Fr.lst S).take y).length = y) := by show _ = _; rw [List.length_take]; omega
                clear hy
                go_wp2_with fail
                refine (S2.out.takeM HTa.out y Hy.out).mono ?_
                rintro e w3 ⟨a3, c3, rfl, s3⟩
                have S3 := Lib.hid s3
                have k1 : w3.cell? ⟨X, 1, none⟩ = some (.int .i64 ((y : Nat) : Int)) := (s3.row (List.mem_cons_of_mem _ (List.mem_cons_of_mem _ List.mem_cons_self))).cell 1
                clear s3 HTa
                go_wp2_with fail
                refine (S3.out.takeR y Hy.out).mono ?_
                rintro e w4 ⟨a4, c4, rfl, s4⟩
                have S4 := Lib.hid s4
                clear s4
                go_wp2_with fail
                refine (sameIds_eq w4 a3 a4 y c3 c4 _ _ Hly.out Hly.out (by omega) (S4.out.rd (List.mem_cons_of_mem _ List.mem_cons_self)) (S4.out.rd List.mem_cons_self)).mono ?_
                rintro e w5 ⟨rfl, t5⟩
                have S5 := Lib.hid (FrS.drop (S4.out.no t5))
                rw [show sameIds ((Fr.lst S).take y) ((Fr.lst S).take y) = true from by simp [sameIds]]
                clear t5 S4
                have HBd : Hid (nb + 1 ≤ 2 * k + 1 ∧ (D ++ [(⟨a3, y, c3, nb + 1⟩ : HE)]).length ≤ 2 * k + 1 ∧ ∀ e ∈ D ++ [(⟨a3, y, c3, nb + 1⟩ : HE)], e.k ≤ 2 * k + 1 ∧ e.n ≤ 5000) := book_next HDk.out (by show y ≤ 5000; omega)
                go_wp2_with fail
                refine (S5.out.ids Hnk.out.2 Hnk.out.1).mono ?_
                rintro e w6 ⟨rfl, s6⟩
                have S6 := Lib.hid s6
                clear s6
                go_wp2_with fail
                go_meet
                exact ⟨0, nb + 1, _, _, rfl, rfl, S6.out, HBd.out⟩
            · rcases take_same (S := S) xn (first := F) (last := F + M) with h | ⟨h1, h2⟩ | ⟨y, rfl, hy⟩
              · have HBd : Hid (nb + 1 ≤ 2 * k + 1 ∧ (D ++ [(⟨none, 0, 0, nb + 1⟩ : HE)]).length ≤ 2 * k + 1 ∧ ∀ e ∈ D ++ [(⟨none, 0, 0, nb + 1⟩ : HE)], e.k ≤ 2 * k + 1 ∧ e.n ≤ 5000) := book_next HDk.out (by decide)
                have C1 := Lib.hid (take_bad w2 b F (F + M) S xn S2.out.map h)
                have C2 := Lib.hid (refTake_bad w2 g xn h)
                have Hnk := Lib.hid (book_small HDk.out hk200)
                have k1 : w2.cell? ⟨X, 1, none⟩ = some (.int .i64 xn) := (S2.out.row (List.mem_cons_of_mem _ List.mem_cons_self)).cell 1
                clear h
                go_wp2_with fail
                refine C1.out.mono ?_
                rintro e w3 ⟨rfl, rfl⟩
                go_wp2_with fail
                refine C2.out.mono ?_
                rintro e w3 ⟨rfl, rfl⟩
                go_wp2_with fail
                refine (sameIds_eq w2 none none 0 0 0 [] [] rfl rfl (by decide) (Rd.nil _ _) (Rd.nil _ _)).mono ?_
                rintro e w4 ⟨rfl, t4⟩
                have S4 := Lib.hid (FrS.nil (S2.out.no t4))
                rw [show sameIds [] [] = true from rfl]
                clear t4
                go_wp2_with fail
                refine (S4.out.ids Hnk.out.2 Hnk.out.1).mono ?_
                rintro e w5 ⟨rfl, s5⟩
                have S5 := Lib.hid s5
                clear s5
                go_wp2_with fail
                go_meet
                exact ⟨1, nb + 1, S, _, rfl, rfl, S5.out, HBd.out⟩
              · have HBd : Hid (nb + 1 ≤ 2 * k + 1 ∧ (D ++ [(⟨none, 0, 0, nb + 1⟩ : HE)]).length ≤ 2 * k + 1 ∧ ∀ e ∈ D ++ [(⟨none, 0, 0, nb + 1⟩ : HE)], e.k ≤ 2 * k + 1 ∧ e.n ≤ 5000) := book_next HDk.out (by decide)
                have C1 := Lib.hid (take_full w2 b F (F + M) S xn S2.out.map h2)
                have C2 := Lib.hid (S2.out.fullR xn h2)
                have Hnk := Lib.hid (book_small HDk.out hk200)
                have k1 : w2.cell? ⟨X, 1, none⟩ = some (.int .i64 xn) := (S2.out.row (List.mem_cons_of_mem _ List.mem_cons_self)).cell 1
                clear h1 h2
                go_wp2_with fail
                refine C1.out.mono ?_
                rintro e w3 ⟨rfl, rfl⟩
                go_wp2_with fail
                refine C2.out.mono ?_
                rintro e w3 ⟨rfl, rfl⟩
                go_wp2_with fail
                refine (sameIds_eq w2 none none 0 0 0 [] [] rfl rfl (by decide) (Rd.nil _ _) (Rd.nil _ _)).mono ?_
                rintro e w4 ⟨rfl, t4⟩
                have S4 := Lib.hid (FrS.nil (S2.out.no t4))
                rw [show sameIds [] [] = true from rfl]
                clear t4
                go_wp2_with fail
                refine (S4.out.ids Hnk.out.2 Hnk.out.1).mono ?_
                rintro e w5 ⟨rfl, s5⟩
                have S5 := Lib.hid s5
                clear s5
                go_wp2_with fail
                go_meet
                exact ⟨6, nb + 1, S, _, rfl, rfl, S5.out, HBd.out⟩
              · have k1 : w2.cell? ⟨X, 1, none⟩ = some (.int .i64 ((y : Nat) : Int)) := (S2.out.row (List.mem_cons_of_mem _ List.mem_cons_self)).cell 1
                have hy4 : y ≤ 4096 := Nat.le_trans hy (Fr.lst_length_le S)
                have Hy := Lib.hid hy
                have Hnk := Lib.hid (book_small HDk.out hk200)
                have HTa := Lib.hid (HT.out.touch S2.out.end (fun f => f))
                have Hly : Hid (((Fr.lst S).take y).length = y) := by show _ = _; rw [List.length_take]; omega
                clear hy
                go_wp2_with fail
                refine (S2.out.takeM HTa.out y Hy.out).mono ?_
                rintro e w3 ⟨a3, c3, rfl, s3⟩
                have S3 := Lib.hid s3
                have k1 : w3.cell? ⟨X, 1, none⟩ = some (.int .i64 ((y : Nat) : Int)) := (s3.row (List.mem_cons_of_mem _ (List.mem_cons_of_mem _ List.mem_cons_self))).cell 1
                clear s3 HTa
                go_wp2_with fail
                refine (S3.out.takeR y Hy.out).mono ?_
                rintro e w4 ⟨a4, c4, rfl, s4⟩
                have S4 := Lib.hid s4
                clear s4
                go_wp2_with fail
                refine (sameIds_eq w4 a3 a4 y c3 c4 _ _ Hly.out Hly.out (by omega) (S4.out.rd (List.mem_cons_of_mem _ List.mem_cons_self)) (S4.out.rd List.mem_cons_self)).mono ?_
                rintro e w5 ⟨rfl, t5⟩
                have S5 := Lib.hid (FrS.drop (S4.out.no t5))
                rw [show sameIds ((Fr.lst S).take y) ((Fr.lst S).take y) = true from by simp [sameIds]]
                clear t5 S4
                have HBd : Hid (nb + 1 ≤ 2 * k + 1 ∧ (D ++ [(⟨a3, y, c3, nb + 1⟩ : HE)]).length ≤ 2 * k + 1 ∧ ∀ e ∈ D ++ [(⟨a3, y, c3, nb + 1⟩ : HE)], e.k ≤ 2 * k + 1 ∧ e.n ≤ 5000) := book_next HDk.out (by show y ≤ 5000; omega)
                go_wp2_with fail
                refine (S5.out.ids Hnk.out.2 Hnk.out.1).mono ?_
                rintro e w6 ⟨rfl, s6⟩
                have S6 := Lib.hid s6
                clear s6
                go_wp2_with fail
                go_meet
                exact ⟨0, nb + 1, _, _, rfl, rfl, S6.out, HBd.out⟩
            · rcases take_same (S := S) xn (first := F) (last := F + M) with h | ⟨h1, h2⟩ | ⟨y, rfl, hy⟩
              · have HBd : Hid (nb + 1 ≤ 2 * k + 1 ∧ (D ++ [(⟨none, 0, 0, nb + 1⟩ : HE)]).length ≤ 2 * k + 1 ∧ ∀ e ∈ D ++ [(⟨none, 0, 0, nb + 1⟩ : HE)], e.k ≤ 2 * k + 1 ∧ e.n ≤ 5000) := book_next HDk.out (by decide)
                have C1 := Lib.hid (take_bad w2 b F (F + M) S xn S2.out.map h)
                have C2 := Lib.hid (refTake_bad w2 g xn h)
                have Hnk := Lib.hid (book_small HDk.out hk200)
                have k1 : w2.cell? ⟨X, 1, none⟩ = some (.int .i64 xn) := (S2.out.row (List.mem_cons_of_mem _ List.mem_cons_self)).cell 1
                clear h
                go_wp2_with fail
                refine C1.out.mono ?_
                rintro e w3 ⟨rfl, rfl⟩
                go_wp2_with fail
                refine C2.out.mono ?_
                rintro e w3 ⟨rfl, rfl⟩
                go_wp2_with fail
                refine (sameIds_eq w2 none none 0 0 0 [] [] rfl rfl (by decide) (Rd.nil _ _) (Rd.nil _ _)).mono ?_
                rintro e w4 ⟨rfl, t4⟩
                have S4 := Lib.hid (FrS.nil (S2.out.no t4))
                rw [show sameIds [] [] = true from rfl]
                clear t4
                go_wp2_with fail
                refine (S4.out.ids Hnk.out.2 Hnk.out.1).mono ?_
                rintro e w5 ⟨rfl, s5⟩
                have S5 := Lib.hid s5
                clear s5
                go_wp2_with fail
                go_meet
                exact ⟨1, nb + 1, S, _, rfl, rfl, S5.out, HBd.out⟩
              · have HBd : Hid (nb + 1 ≤ 2 * k + 1 ∧ (D ++ [(⟨none, 0, 0, nb + 1⟩ : HE)]).length ≤ 2 * k + 1 ∧ ∀ e ∈ D ++ [(⟨none, 0, 0, nb + 1⟩ : HE)], e.k ≤ 2 * k + 1 ∧ e.n ≤ 5000) := book_next HDk.out (by decide)
                have C1 := Lib.hid (take_full w2 b F (F + M) S xn S2.out.map h2)
                have C2 := Lib.hid (S2.out.fullR xn h2)
                have Hnk := Lib.hid (book_small HDk.out hk200)
                have k1 : w2.cell? ⟨X, 1, none⟩ = some (.int .i64 xn) := (S2.out.row (List.mem_cons_of_mem _ List.mem_cons_self)).cell 1
                clear h1 h2
                go_wp2_with fail
                refine C1.out.mono ?_
                rintro e w3 ⟨rfl, rfl⟩
                go_wp2_with fail
                refine C2.out.mono ?_
                rintro e w3 ⟨rfl, rfl⟩
                go_wp2_with fail
                refine (sameIds_eq w2 none none 0 0 0 [] [] rfl rfl (by decide) (Rd.nil _ _) (Rd.nil _ _)).mono ?_
                rintro e w4 ⟨rfl, t4⟩
                have S4 := Lib.hid (FrS.nil (S2.out.no t4))
                rw [show sameIds [] [] = true from rfl]
                clear t4
                go_wp2_with fail
                refine (S4.out.ids Hnk.out.2 Hnk.out.1).mono ?_
                rintro e w5 ⟨rfl, s5⟩
                have S5 := Lib.hid s5
                clear s5
                go_wp2_with fail
                go_meet
                exact ⟨6, nb + 1, S, _, rfl, rfl, S5.out, HBd.out⟩
              · have k1 : w2.cell? ⟨X, 1, none⟩ = some (.int .i64 ((y : Nat) : Int)) := (S2.out.row (List.mem_cons_of_mem _ List.mem_cons_self)).cell 1
                have hy4 : y ≤ 4096 := Nat.le_trans hy (Fr.lst_length_le S)
                have Hy := Lib.hid hy
                have Hnk := Lib.hid (book_small HDk.out hk200)
                have HTa := Lib.hid (HT.out.touch S2.out.end (fun f => f))
                have Hly : Hid (((Fr.lst S).take y).length = y) := by show _ = _; rw [List.length_take]; omega
                clear hy
                go_wp2_with fail
                refine (S2.out.takeM HTa.out y Hy.out).mono ?_
                rintro e w3 ⟨a3, c3, rfl, s3⟩
                have S3 := Lib.hid s3
                have k1 : w3.cell? ⟨X, 1, none⟩ = some (.int .i64 ((y : Nat) : Int)) := (s3.row (List.mem_cons_of_mem _ (List.mem_cons_of_mem _ List.mem_cons_self))).cell 1
                clear s3 HTa
                go_wp2_with fail
                refine (S3.out.takeR y Hy.out).mono ?_
                rintro e w4 ⟨a4, c4, rfl, s4⟩
                have S4 := Lib.hid s4
                clear s4
                go_wp2_with fail
                refine (sameIds_eq w4 a3 a4 y c3 c4 _ _ Hly.out Hly.out (by omega) (S4.out.rd (List.mem_cons_of_mem _ List.mem_cons_self)) (S4.out.rd List.mem_cons_self)).mono ?_
                rintro e w5 ⟨rfl, t5⟩
                have S5 := Lib.hid (FrS.drop (S4.out.no t5))
                rw [show sameIds ((Fr.lst S).take y) ((Fr.lst S).take y) = true from by simp [sameIds]]
                clear t5 S4
                have HBd : Hid (nb + 1 ≤ 2 * k + 1 ∧ (D ++ [(⟨a3, y, c3, nb + 1⟩ : HE)]).length ≤ 2 * k + 1 ∧ ∀ e ∈ D ++ [(⟨a3, y, c3, nb + 1⟩ : HE)], e.k ≤ 2 * k + 1 ∧ e.n ≤ 5000) := book_next HDk.out (by show y ≤ 5000; omega)
                go_wp2_with fail
                refine (S5.out.ids Hnk.out.2 Hnk.out.1).mono ?_
                rintro e w6 ⟨rfl, s6⟩
                have S6 := Lib.hid s6
                clear s6
                go_wp2_with fail
                go_meet
                exact ⟨0, nb + 1, _, _, rfl, rfl, S6.out, HBd.out⟩
            · have k2 : w2.cell? ⟨X, 2, none⟩ = some (.int .u32 (xp : Nat)) := (S2.out.row (List.mem_cons_of_mem _ List.mem_cons_self)).cell 2
              have Hrng := Lib.hid S2.out.map.rng
              go_wp2_with fail
              refine (S2.out.markM xp Hn32.out).mono ?_
              rintro e w3 ⟨rfl, s3⟩
              have S3 := Lib.hid s3
              have k2 : w3.cell? ⟨X, 2, none⟩ = some (.int .u32 (xp : Nat)) := (s3.row (List.mem_cons_of_mem _ List.mem_cons_self)).cell 2
              clear s3
              go_wp2_with fail
              refine (S3.out.markR Hrng.out xp Hn32.out).mono ?_
              rintro e w4 ⟨rfl, s4⟩
              have S4 := Lib.hid s4
              clear s4
              go_wp2_with fail
              go_meet
              exact ⟨_, nb, _, D, rfl, rfl, S4.out, HDk2.out⟩
            · have k2 : w2.cell? ⟨X, 2, none⟩ = some (.int .u32 (xp : Nat)) := (S2.out.row (List.mem_cons_of_mem _ List.mem_cons_self)).cell 2
              have Hrng := Lib.hid S2.out.map.rng
              go_wp2_with fail
              refine (S2.out.markM xp Hn32.out).mono ?_
              rintro e w3 ⟨rfl, s3⟩
              have S3 := Lib.hid s3
              have k2 : w3.cell? ⟨X, 2, none⟩ = some (.int .u32 (xp : Nat)) := (s3.row (List.mem_cons_of_mem _ List.mem_cons_self)).cell 2
              clear s3
              go_wp2_with fail
              refine (S3.out.markR Hrng.out xp Hn32.out).mono ?_
              rintro e w4 ⟨rfl, s4⟩
              have S4 := Lib.hid s4
              clear s4
              go_wp2_with fail
              go_meet
              exact ⟨_, nb, _, D, rfl, rfl, S4.out, HDk2.out⟩
            · go_wp2_with fail
              refine (S2.out.giveM ta m tc xs _ List.mem_cons_self Hlen.out Hx32.out).mono ?_
              rintro e w3 ⟨rfl, s3⟩
              have S3 := Lib.hid s3
              have k3 : w3.cell? ⟨X, 3, none⟩ = some (.slice xa m xc) := (s3.row (List.mem_cons_of_mem _ List.mem_cons_self)).cell 3
              clear s3
              go_wp2_with fail
              refine (S3.out.giveR xa m xc xs Hlen.out hm5 Hx32.out Hrd.out).mono ?_
              rintro e w4 ⟨rfl, s4⟩
              have S4 := Lib.hid s4
              clear s4
              go_wp2_with fail
              go_meet
              exact ⟨_, nb, _, D, rfl, rfl, S4.out, HDk2.out⟩
            · go_wp2_with fail
              refine (S2.out.giveM ta m tc xs _ List.mem_cons_self Hlen.out Hx32.out).mono ?_
              rintro e w3 ⟨rfl, s3⟩
              have S3 := Lib.hid s3
              have k3 : w3.cell? ⟨X, 3, none⟩ = some (.slice xa m xc) := (s3.row (List.mem_cons_of_mem _ List.mem_cons_self)).cell 3
              clear s3
              go_wp2_with fail
              refine (S3.out.giveR xa m xc xs Hlen.out hm5 Hx32.out Hrd.out).mono ?_
              rintro e w4 ⟨rfl, s4⟩
              have S4 := Lib.hid s4
              clear s4
              go_wp2_with fail
              go_meet
              exact ⟨_, nb, _, D, rfl, rfl, S4.out, HDk2.out⟩
            · go_wp2_with fail
              go_meet
              exact ⟨er, nb, S, D, rfl, rfl, S2.out, HDk2.out⟩
          case rest =>
            obtain ⟨er, nb, S, D, rfl, rfl, HS, HDk⟩ := hcut
            clear S2 hkq hq8 k0
            obtain ⟨L, hL⟩ : ∃ L, (Fr.lst S).length = L := ⟨_, rfl⟩
            obtain ⟨sb, hsb⟩ : ∃ sb, S xp = sb := ⟨_, rfl⟩
            have HX : Hid (∀ w', Touch No wc w' → w'.cell? ⟨X, 2, none⟩ = some (.int .u32 (xp : Nat)) ∧ w'.cell? ⟨X, 3, none⟩ = some (.slice xa m xc)) := fun w' t => ⟨((HS.out.no t).row (List.mem_cons_of_mem _ List.mem_cons_self)).cell 2, ((HS.out.no t).row (List.mem_cons_of_mem _ List.mem_cons_self)).cell 3⟩
            have HF1 : Hid (∀ w', Touch No wc w' → Calls Tryz.prog 41 #[.pointer (some ⟨b, 0, none⟩)] w' fun e w'' => e = .returned (.int .i64 (L : Nat)) ∧ w' = w'') := fun w' t => by rw [← hL]; exact free_any w' b F _ S (HS.out.no t).map
            have HF2 : Hid (∀ w', Touch No wc w' → Calls Tryz.prog 42 #[.pointer (some ⟨g, 0, none⟩)] w' fun e w'' => e = .returned (.int .i64 (L : Nat)) ∧ w' = w'') := fun w' t => by rw [← hL]; exact (HS.out.no t).freeR
            have HI1 : Hid (∀ w', Touch No wc w' → Calls Tryz.prog 43 #[.pointer (some ⟨b, 0, none⟩), .int .u32 (xp : Nat)] w' fun e w'' => e = .returned (.bool sb) ∧ w' = w'') := fun w' t => by rw [← hsb]; exact is_any w' b F _ xp S (HS.out.no t).map Hn32.out
            have HI2 : Hid (∀ w', Touch No wc w' → Calls Tryz.prog 44 #[.pointer (some ⟨g, 0, none⟩), .int .u32 (xp : Nat)] w' fun e w'' => e = .returned (.bool sb) ∧ w' = w'') := fun w' t => by rw [← hsb]; exact (HS.out.no t).isR xp Hn32.out
            have HL2 : Hid (∀ w', Touch No wc w' → Calls Tryz.prog 45 #[.slice ta m tc, .slice xa m xc] w' fun e w'' => e = .returned (.bool true) ∧ Touch No w' w'') := fun w' t => by
              have h1 := (HS.out.no t).rd List.mem_cons_self
              exact leftIds_any w' ta m tc xa xc (xs.map fun (x : Nat) => (x : Int)) (by rw [List.length_map]; exact Hlen.out) (by omega) Htc.out (by rw [nums_ints]; exact h1) (by rw [nums_ints]; exact Hrd.out.no (HS.out.no t).end)
            have hee : ((er : Int) != (er : Int)) = false := by simp
            have hll : ((L : Int) != (L : Int)) = false := by simp
            have hbb : (sb != sb) = false := by simp
            have hS := HX.out wc (Touch.refl _ _)
            clear hL hsb
            go_wp2_with fail
            go_region_held3 (fun w' => w'.cell? ⟨X, 2, none⟩ = some (.int .u32 (xp : Nat)) ∧ w'.cell? ⟨X, 3, none⟩ = some (.slice xa m xc)) (first | exact hS | exact HX.out _ ((Touch.refl No wc).drew) | exact HX.out _ ((Touch.refl No wc).drew.trans t9)) (first
              | (go_at_call 41; refine (HF1.out _ ((Touch.refl No wc).drew)).mono ?_; rintro e w9 ⟨rfl, rfl⟩)
              | (go_at_call 42; refine (HF2.out _ ((Touch.refl No wc).drew)).mono ?_; rintro e w9 ⟨rfl, rfl⟩)
              | (go_at_call 43; refine (HI1.out _ ((Touch.refl No wc).drew)).mono ?_; rintro e w9 ⟨rfl, rfl⟩)
              | (go_at_call 44; refine (HI2.out _ ((Touch.refl No wc).drew)).mono ?_; rintro e w9 ⟨rfl, rfl⟩)
              | (go_at_call 45; refine (HL2.out _ ((Touch.refl No wc).drew)).mono ?_; rintro e w9 ⟨rfl, t9⟩))
            all_goals
              have S9 := Lib.hid ((HS.out.no ((Touch.refl No wc).drew.trans t9)).imp1 (fun A h => sl_twin h))
              have HBd : Hid (nb + 1 ≤ 2 * (k + 1) ∧ (D ++ [(⟨ta, m, tc, nb + 1⟩ : HE)]).length ≤ 2 * (k + 1) ∧ ∀ e ∈ D ++ [(⟨ta, m, tc, nb + 1⟩ : HE)], e.k ≤ 2 * (k + 1) ∧ e.n ≤ 5000) := book_last HDk.out hm5
              have Hnk : Hid (nb ≤ 1000000 ∧ D.length ≤ 100000) := ⟨by have := HDk.out.1; omega, by have := HDk.out.2.1; omega⟩
              clear t9 HF1 HF2 HI1 HI2 HL2 HX hS
              go_wp2_with fail
              refine (S9.out.ids Hnk.out.2 Hnk.out.1).mono ?_
              rintro e w10 ⟨rfl, s10⟩
              have S10 := Lib.hid s10.drop
              clear s10
              go_wp2_with fail
              go_roundg g'
              case measure => omega
              case rel => exact ⟨k + 1, er, nb + 1, S, _, by omega, by go_num, rfl, rfl, S10.out, HBd.out⟩
end Go.Proofs.YtmjeigceclmdoaaGreatDoor
