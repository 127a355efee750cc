/-
  Package drydocklaw16 by its own text: the walk of ExtentsPlay.
-/
import Derived.Test.YtkiehoboeiengaaGreatDoorK47
import Derived.Test.YtkiehoboeiengaaGreatDoorK32
import Derived.Test.YtkiehoboeiengaaGreatDoorK48
import Derived.Deep.DeepCutAuto
import Derived.Deep.CutBlock
import Derived.Lib.SmallJoins
namespace Go.Proofs.YtkiehoboeiengaaGreatDoor
open Go Go.RowKit
set_option linter.unusedSimpArgs false
set_option linter.unusedVariables false

theorem Ex.rdB_le (D : Dk.Disk) (ids : List Nat) : ∀ k, (Ex.rdB D ids k).length ≤ 240 * k
  | 0 => Nat.le_refl _
  | k + 1 => by
    rw [Ex.rdB, List.length_append]
    have := Ex.rdB_le D ids k
    have := Pg.rB_le D (Ex.at' ids k)
    omega
theorem Ex.zB_le (D : Dk.Disk) (ep : Nat) (ids : List Nat) (z : Int) : (Ex.zB D ep ids z).length ≤ 240 * ids.length := by
  unfold Ex.zB
  split
  · unfold Ex.rB
    split
    · rename_i h
      unfold Ex.rE at h
      split at h
      · rename_i hm
        rw [hm.2.2]
        exact Ex.rdB_le _ _ _
      · cases h
    · exact Nat.zero_le _
  · exact Nat.zero_le _
/-- how much acts have -/
def exSum : List EDeed → Nat
  | [] => 0
  | x :: l => 8 + x.pages.length + x.b.length / 8 + exSum l
def exGreat (l : List EDeed) : Bool := decide (4000 < exSum l) || decide (100 < l.length)
theorem exSum_each : ∀ (l : List EDeed), ∀ x ∈ l, 8 + x.pages.length + x.b.length / 8 ≤ exSum l
  | [], x, h => by cases h
  | y :: l, x, hx => by
    rw [exSum]
    rcases List.mem_cons.1 hx with rfl | hx
    · omega
    · have := exSum_each l x hx; omega
theorem exGreat_no {l : List EDeed} (h : exGreat l = false) : l.length ≤ 100 ∧ ∀ x ∈ l, x.pages.length ≤ 4000 ∧ x.b.length ≤ 32010 := by
  rw [exGreat, Bool.or_eq_false_iff] at h
  have h1 : ¬ 4000 < exSum l := by simpa using h.1
  have h2 : ¬ 100 < l.length := by simpa using h.2
  exact ⟨by omega, fun x hx => by have := exSum_each l x hx; omega⟩
theorem exSum_append (l : List EDeed) (x : EDeed) : exSum (l ++ [x]) = exSum l + (8 + x.pages.length + x.b.length / 8) := by
  induction l with
  | nil => simp [exSum]
  | cons y l ih => simp only [List.cons_append, exSum, ih]; omega
theorem exSum_le (l : List EDeed) (h : ∀ x ∈ l, x.pages.length ≤ 35184372088832 ∧ x.b.length ≤ 140737488355328) : exSum l ≤ 60000000000000 * l.length := by
  induction l with
  | nil => simp [exSum]
  | cons y l ih =>
    have h1 := ih (fun x hx => h x (List.mem_cons_of_mem _ hx))
    have h2 := h y List.mem_cons_self
    simp only [exSum, List.length_cons]
    omega

set_option maxRecDepth 100000 in
set_option maxHeartbeats 2000000 in
theorem exGreat_any (w : World) (ad : Option Addr) (n cap : Nat) (acts : List EDeed) (hn : acts.length = n) (hmax : (n : Int) ≤ 9223372036854775807) (h : IsEDeeds w ad acts) :
    Calls Tryz.prog 17 #[.slice ad n cap] w fun e w' => e = .returned (.bool (exGreat acts)) ∧ Touch No w w' := by
  have H := Lib.hid h; clear h
  have HN := Lib.hid hn; clear hn
  by_cases hbig : 100 < n
  · have hb1 : (100 : Int) < (n : Nat) := by omega
    have Hres : Hid (exGreat acts = true) := by show _ = _; rw [exGreat, HN.out, decide_eq_true hbig, Bool.or_true]
    clear hbig
    go_enter Tryz.func17, Tryz.ntmps17
    go_wp2
    go_loopg [3, 4] n (fun g s3 s4 wr => ∃ (k : Nat) (z : Int), k + g = n ∧ s4 = .int .i64 ((k : Nat) : Int) ∧ s3 = .int .i64 z ∧ Hid (Touch No w wr))
    case atStart => exact ⟨0, 0, by omega, rfl, rfl, Touch.refl _ _⟩
    case round =>
      obtain ⟨k, z, hkg, rfl, rfl, T⟩ := hrel
      cases gk with
      | zero =>
        obtain rfl : k = n := by omega
        by_cases hz : (4000 : Int) < z
        all_goals
          go_wp2
          go_ret
          exact ⟨by rw [Hres.out]; rfl, T.out⟩
      | succ g =>
        have hlt : (k : Int) < n := by omega
        obtain ⟨x, hx⟩ : ∃ x, acts[k]? = some x := ⟨_, List.getElem?_eq_getElem (by have := HN.out; omega)⟩
        obtain ⟨c, o, rfl, ha⟩ := (H.out.touch T.out) k x hx
        have c2 : wr.cell? ⟨c, o + k * 8 + 2, none⟩ = some (.slice x.pages_a x.pages.length x.pages_cap) := ha.cell 2 (by decide)
        have c3 : wr.cell? ⟨c, o + k * 8 + 3, none⟩ = some (.slice x.b_a x.b.length x.b_cap) := ha.cell 3 (by decide)
        clear ha hx
        generalize x.pages.length = q at *
        generalize x.pages_a = qa at *
        generalize x.pages_cap = qc at *
        generalize x.b.length = q' at *
        generalize x.b_a = qa' at *
        generalize x.b_cap = qc' at *
        go_wp2
        go_quiet (fail)
        go_wp2
        have T2 := Lib.hid (T.out.drewN nq)
        go_roundg g
        case measure => omega
        case rel => exact ⟨k + 1, _, by omega, by go_num, rfl, T2.out⟩
  · have hb1 : ¬ (100 : Int) < (n : Nat) := by omega
    have hb2 : (n : Int) ≤ 100 := by omega
    have HAll : Hid (∀ x ∈ acts, x.pages.length ≤ 35184372088832 ∧ x.b.length ≤ 140737488355328) := fun x hx => by
      obtain ⟨i, hi, e⟩ := List.getElem_of_mem hx
      obtain ⟨c, o, _, ha⟩ := H.out i x (by rw [List.getElem?_eq_getElem hi, e])
      have := ha.pages_le; have := ha.pages_max; have := ha.b_le; have := ha.b_max
      omega
    clear hbig
    go_enter Tryz.func17, Tryz.ntmps17
    go_wp2
    go_loopg [3, 4] n (fun g s3 s4 wr => ∃ (k z : Nat), k + g = n ∧ s4 = .int .i64 ((k : Nat) : Int) ∧ s3 = .int .i64 (z : Nat) ∧ Hid (z = exSum (acts.take k)) ∧ Hid (Touch No w wr))
    case atStart => exact ⟨0, 0, by omega, rfl, rfl, rfl, Touch.refl _ _⟩
    case round =>
      obtain ⟨k, z, hkg, rfl, rfl, HZ, T⟩ := hrel
      cases gk with
      | zero =>
        obtain rfl : k = n := by omega
        have hz0 : z = exSum acts := by have := HZ.out; rwa [List.take_of_length_le (by rw [HN.out]; omega)] at this
        by_cases hz : (4000 : Int) < (z : Nat)
        · have Hres : Hid (exGreat acts = true) := by show _ = _; rw [exGreat, ← hz0, decide_eq_true (by omega), Bool.true_or]
          clear hz0
          go_wp2
          go_ret
          exact ⟨by rw [Hres.out]; rfl, T.out⟩
        · have Hres : Hid (exGreat acts = false) := by show _ = _; rw [exGreat, ← hz0, decide_eq_false (by omega), decide_eq_false (by rw [HN.out]; omega)]; rfl
          clear hz0
          go_wp2
          go_ret
          exact ⟨by rw [Hres.out]; exact ret_bool (decide_eq_false (by omega)), T.out⟩
      | succ g =>
        have hlt : (k : Int) < n := by omega
        have hkl : k < acts.length := by have := HN.out; omega
        obtain ⟨x, hx⟩ : ∃ x, acts[k]? = some x := ⟨_, List.getElem?_eq_getElem hkl⟩
        obtain ⟨c, o, rfl, ha⟩ := (H.out.touch T.out) k x hx
        have c2 : wr.cell? ⟨c, o + k * 8 + 2, none⟩ = some (.slice x.pages_a x.pages.length x.pages_cap) := ha.cell 2 (by decide)
        have c3 : wr.cell? ⟨c, o + k * 8 + 3, none⟩ = some (.slice x.b_a x.b.length x.b_cap) := ha.cell 3 (by decide)
        have hz1 := exSum_le (acts.take k) (fun y hy => HAll.out y (List.mem_of_mem_take hy))
        rw [← HZ.out, List.length_take] at hz1
        have hx1 := HAll.out x (List.mem_of_getElem? hx)
        have HZ2 : Hid (z + 8 + x.pages.length + x.b.length / 8 = exSum (acts.take (k + 1))) := by
          show _ = _
          have e : acts.take (k + 1) = acts.take k ++ [x] := by
            rw [List.take_add_one, hx]; rfl
          rw [e, exSum_append, ← HZ.out]; omega
        clear ha hx hkl
        generalize x.pages.length = q at *
        generalize x.pages_a = qa at *
        generalize x.pages_cap = qc at *
        generalize x.b.length = q' at *
        generalize x.b_a = qa' at *
        generalize x.b_cap = qc' at *
        have hzz : (z : Int) ≤ 6000000000000000 := by omega
        have hq : (q : Int) ≤ 35184372088832 := by omega
        have hq' : (q' : Int) ≤ 140737488355328 := by omega
        clear hz1 hx1
        obtain ⟨r, hr⟩ : ∃ r, q' / 8 = r := ⟨_, rfl⟩
        rw [hr] at HZ2
        have e3 : Int.tdiv (q' : Int) 8 = (r : Nat) := by rw [Int.tdiv_eq_ediv_of_nonneg (by omega)]; omega
        have hrb : (r : Int) ≤ 140737488355328 := by omega
        have e1 : IntKind.i64.wrap ((z : Int) + 8) = (z : Int) + 8 := IntWalk.i64_in _ (by omega)
        have e2 : IntKind.i64.wrap ((z : Int) + 8 + (q : Int)) = (z : Int) + 8 + (q : Int) := IntWalk.i64_in _ (by omega)
        have e4 : IntKind.i64.wrap ((r : Nat) : Int) = (r : Nat) := IntWalk.i64_in _ (by omega)
        have e5 : IntKind.i64.wrap ((z : Int) + 8 + (q : Int) + (r : Nat)) = (z : Int) + 8 + (q : Int) + (r : Nat) := IntWalk.i64_in _ (by omega)
        clear hr
        go_wp2
        go_quiet (fail)
        clear e1 e2 e3 e4 e5
        go_wp2
        have T2 := Lib.hid (T.out.drewN nq)
        go_roundg g
        case measure => omega
        case rel => exact ⟨k + 1, z + 8 + q + r, by omega, by go_num, by go_num, HZ2.out, T2.out⟩

set_option maxRecDepth 100000 in
set_option maxHeartbeats 32000000 in
theorem extentsPlay_walk (w : World) (size : Nat) (hsz : size < 256) (ad : Option Addr) (n cap : Nat) (acts : List EDeed)
    (hn : acts.length = n) (hmax : (n : Int) ≤ 9223372036854775807) (hd : IsEDeeds w ad acts) :
    Calls Tryz.prog 4 #[.int .u8 (size : Nat), .slice ad n cap] w fun e w' => e = .returned (.bool true) ∧ Touch No w w' := by
  have HN := Lib.hid hn
  have HD := Lib.hid hd
  clear hn hd
  go_enter Tryz.func4, Tryz.ntmps4
  go_wp2_with fail
  refine (exGreat_any w ad n cap acts HN.out hmax HD.out).mono ?_
  rintro e w0 ⟨rfl, t0⟩
  have T0 := Lib.hid t0
  clear t0
  cases hg : exGreat acts with
  | true =>
    clear hg
    go_wp2_with fail
    refine (lives_is _).mono ?_
    rintro e w1 ⟨rfl, t1⟩
    have T1 := Lib.hid (T0.out.trans t1)
    clear t1
    go_wp2
    go_ret
    exact ⟨rfl, T1.out⟩
  | false =>
    have HG := Lib.hid hg
    clear hg
    go_wp2_with fail
    have C1 := new_k w0 (8 + size) (by omega) (by omega)
    rw [show ((8 + size : Nat) : Int) = 8 + (size : Int) from by omega] at C1
    refine C1.mono ?_
    rintro e w1 ⟨d0, rfl, m1⟩
    have S1 := Lib.hid ((Sl.nil T0.out).push (born_disk m1))
    have C2 := refNew3_ok w1 (8 + size) (by omega) (by omega)
    rw [show ((8 + size : Nat) : Int) = 8 + (size : Int) from by omega] at C2
    have HC2 := Lib.hid C2
    clear m1 C1 C2 T0
    go_wp2_with fail
    refine HC2.out.mono ?_
    rintro e w2 ⟨g0, rfl, born2⟩
    have S2 := Lib.hid ((S1.out.push born2).perm (List.Perm.swap _ _ _))
    clear born2 S1 HC2
    go_wp2_with fail
    obtain ⟨gk, hgk⟩ : ∃ gk, gk = w2.heap.size := ⟨_, rfl⟩
    obtain ⟨w3, hw3⟩ : ∃ w3, w3 = w2.alloc (.cells #[.int .i64 0, .slice none 0 0, .slice none 0 0, .slice none 0 0, .slice none 0 0, .slice none 0 0, .slice none 0 0, .slice none 0 0, .slice none 0 0, .slice none 0 0, .slice none 0 0, .slice none 0 0, .slice none 0 0, .slice none 0 0, .slice none 0 0, .slice none 0 0] 47) := ⟨_, rfl⟩
    have S3 : Hid (Two w w3 d0 g0 (Dk.new (8 + size)) (Dk.new (8 + size)) [Part.book gk 0 [] [] [] []]) := by
      have h := S2.out.push (born_book w2 #[.int .i64 0, .slice none 0 0, .slice none 0 0, .slice none 0 0, .slice none 0 0, .slice none 0 0, .slice none 0 0, .slice none 0 0, .slice none 0 0, .slice none 0 0, .slice none 0 0, .slice none 0 0, .slice none 0 0, .slice none 0 0, .slice none 0 0, .slice none 0 0] rfl)
      rw [← hw3, ← hgk] at h
      exact Sl.perm h (List.perm_append_comm (l₁ := [_]) (l₂ := [_, _]))
    rw [← hw3, ← hgk]
    clear hw3 hgk S2
    go_loopg [10] n (fun gh s10 wr => ∃ (k nb : Nat) (D : Dk.Disk) (B : List HE), k + gh = n ∧ s10 = .int .i64 ((k : Nat) : Int) ∧ Hid (Two w wr d0 g0 D D [Part.book gk nb B [] [] []]) ∧ Hid (BkTo k nb B) ∧ Hid (D.waits.length ≤ 600 * k))
    case atStart => exact ⟨0, 0, _, [], by omega, rfl, S3.out, BkTo.nil, Nat.zero_le _⟩
    case round =>
      clear S3
      obtain ⟨k, nb, D, B, hkg, rfl, HS, HB, HW⟩ := hrel
      have hk100 : k ≤ 100 := by have := (exGreat_no HG.out).1; have := HN.out; omega
      cases gk with
      | zero =>
        obtain rfl : k = n := by omega
        go_wp2_with fail
        refine (HS.out.apart (HB.out.ok (by omega))).mono ?_
        rintro e w7 ⟨rfl, t7⟩
        have T7 := Lib.hid t7
        clear t7
        go_wp2_with fail
        refine (lives_is _).mono ?_
        rintro e w8 ⟨rfl, t8⟩
        have T8 := Lib.hid (T7.out.trans t8)
        clear t8 T7
        go_wp2
        go_ret
        exact ⟨rfl, T8.out⟩
      | succ g' =>
        have hlt : (k : Int) < (n : Nat) := by omega
        obtain ⟨x, hx⟩ : ∃ x, acts[k]? = some x := ⟨_, List.getElem?_eq_getElem (by have := HN.out; omega)⟩
        obtain ⟨c, o, rfl, ha⟩ := (HD.out.touch HS.out.end) k x hx
        have ha0 : ∃ c' o', EDeedAt w c' o' x := by obtain ⟨c', o', _, h⟩ := HD.out k x hx; exact ⟨c', _, h⟩
        have hsm := (exGreat_no HG.out).2 x (List.mem_of_getElem? hx)
        obtain ⟨xk, xe, ps, pa, pc, xs, xa, xc, xz, xn, xt, xy⟩ := x
        obtain ⟨m, hm⟩ : ∃ m, xs.length = m := ⟨_, rfl⟩
        obtain ⟨np, hp⟩ : ∃ np, ps.length = np := ⟨_, rfl⟩
        have c0 : wr.cell? ⟨c, o + k * 8, none⟩ = some (.int .u8 (xk : Nat)) := ha.cell 0 (by decide)
        have c1 : wr.cell? ⟨c, o + k * 8 + 1, none⟩ = some (.int .u32 (xe : Nat)) := ha.cell 1 (by decide)
        have c2 : wr.cell? ⟨c, o + k * 8 + 2, none⟩ = some (.slice pa np pc) := by rw [← hp]; exact ha.cell 2 (by decide)
        have c3 : wr.cell? ⟨c, o + k * 8 + 3, none⟩ = some (.slice xa m xc) := by rw [← hm]; exact ha.cell 3 (by decide)
        have c4 : wr.cell? ⟨c, o + k * 8 + 4, none⟩ = some (.int .i64 xz) := ha.cell 4 (by decide)
        have c5 : wr.cell? ⟨c, o + k * 8 + 5, none⟩ = some (.int .i64 xn) := ha.cell 5 (by decide)
        have c6 : wr.cell? ⟨c, o + k * 8 + 6, none⟩ = some (.int .i64 xt) := ha.cell 6 (by decide)
        have c7 : wr.cell? ⟨c, o + k * 8 + 7, none⟩ = some (.int .u8 (xy : Nat)) := ha.cell 7 (by decide)
        have hmB : m ≤ 32010 := by rw [← hm]; exact hsm.2
        have hnp : np ≤ 4000 := by rw [← hp]; exact hsm.1
        have hle : m ≤ xc := by rw [← hm]; exact ha.b_le
        have hmx : (xc : Int) ≤ 140737488355328 := by have h : (xc : Int) * 1 ≤ 140737488355328 := ha.b_max; omega
        have hz1 : -9223372036854775808 ≤ xz := ha.bytes_in.1
        have hz2 : xz ≤ 9223372036854775807 := ha.bytes_in.2
        have Hlen := Lib.hid hm
        have Hplen := Lib.hid hp
        have He4 : Hid (xe < 4294967296) := ha.epoch_lt
        have Hy8 : Hid (xy < 256) := ha.by__lt
        have Hx8 : Hid (∀ y ∈ xs, y < 256) := ha.b_each
        have Hp4 : Hid (∀ y ∈ ps, y < 4294967296) := ha.pages_each
        have Hrd : Hid (Rd w xa (nums .u8 xs)) := by
          obtain ⟨c', o', h⟩ := ha0
          exact h.b_rd
        have Hrp : Hid (Rd w pa (nums .u32 ps)) := by
          obtain ⟨c', o', h⟩ := ha0
          exact h.pages_rd
        clear ha ha0 hm hp hx hsm
        go_upto_region 12 with fail
        obtain ⟨X, hX⟩ : ∃ X, X = wr.heap.size := ⟨_, rfl⟩
        obtain ⟨w2, hw2⟩ : ∃ w2, w2 = wr.alloc (.cells #[.int .u8 (xk : Nat), .int .u32 (xe : Nat), .slice pa np pc, .slice xa m xc, .int .i64 xz, .int .i64 xn, .int .i64 xt, .int .u8 (xy : Nat)] 68) := ⟨_, rfl⟩
        have S2 : Hid (Two w w2 d0 g0 D D [Part.row X 68 [.int .u8 (xk : Nat), .int .u32 (xe : Nat), .slice pa np pc, .slice xa m xc, .int .i64 xz, .int .i64 xn, .int .i64 xt, .int .u8 (xy : Nat)], Part.book gk nb B [] [] []]) := by
          show Two _ _ _ _ _ _ _
          rw [hw2, hX]
          exact HS.out.push (Born.row wr 68 #[.int .u8 (xk : Nat), .int .u32 (xe : Nat), .slice pa np pc, .slice xa m xc, .int .i64 xz, .int .i64 xn, .int .i64 xt, .int .u8 (xy : Nat)])
        rw [← hw2, ← hX]
        clear hw2 hX HS c0 c1 c2 c3 c4 c5 c6 c7
        have HC : Hid (∀ (w' : World) (d' g' : Nat) (D' R' : Dk.Disk) (E' : List Part), Two w w' d' g' D' R' E' → Part.row X 68 [.int .u8 (xk : Nat), .int .u32 (xe : Nat), .slice pa np pc, .slice xa m xc, .int .i64 xz, .int .i64 xn, .int .i64 xt, .int .u8 (xy : Nat)] ∈ E' → w'.cell? ⟨X, 0, none⟩ = some (.int .u8 (xk : Nat)) ∧ w'.cell? ⟨X, 1, none⟩ = some (.int .u32 (xe : Nat)) ∧ w'.cell? ⟨X, 2, none⟩ = some (.slice pa np pc) ∧ w'.cell? ⟨X, 3, none⟩ = some (.slice xa m xc) ∧ w'.cell? ⟨X, 4, none⟩ = some (.int .i64 xz) ∧ w'.cell? ⟨X, 5, none⟩ = some (.int .i64 xn) ∧ w'.cell? ⟨X, 6, none⟩ = some (.int .i64 xt) ∧ w'.cell? ⟨X, 7, none⟩ = some (.int .u8 (xy : Nat))) := fun w' d' g' D' R' E' h hp => ⟨(h.row hp).cell 0, (h.row hp).cell 1, (h.row hp).cell 2, (h.row hp).cell 3, (h.row hp).cell 4, (h.row hp).cell 5, (h.row hp).cell 6, (h.row hp).cell 7⟩
        obtain ⟨_, _, j2, _, _, _, _, _⟩ := HC.out _ _ _ _ _ _ S2.out List.mem_cons_self
        go_wp2_with fail
        refine (twinIds_any w2 pa np pc (ps.map fun (x : Nat) => (x : Int)) (by rw [List.length_map]; exact Hplen.out) (by omega) (by rw [nums_ints]; exact Hrp.out.no S2.out.end)).mono ?_
        rintro e w3 ⟨la, lc, rfl, hlc, ot, t3⟩
        rw [nums_ints] at ot
        have Hlc := Lib.hid hlc
        have S3 := Lib.hid (S2.out.push (born_own t3 ot))
        clear hlc ot t3 S2 j2
        obtain ⟨q, hq⟩ : ∃ q, xk % 10 = q := ⟨_, rfl⟩
        have hq8 : q < 10 := by rw [← hq]; exact Nat.mod_lt _ (by decide)
        have hkq : ((xk : Nat) : Int) % 10 = (q : Nat) := by omega
        have hW1 := HW.out
        have Hw1 : Hid (D.waits.length ≤ 1000000) := by show _ ≤ _; omega
        have Hw2 : Hid (D.waits.length + 4 * Ex.pages m ≤ 100000) := by show _ ≤ _; unfold Ex.pages; omega
        clear hW1 hq
        obtain ⟨j0, _, _, _, _, _, _, _⟩ := HC.out _ _ _ _ _ _ S3.out (List.mem_cons_of_mem _ List.mem_cons_self)
        go_upto_block 2 with fail
        go_cut [13, 14, 15, 16, 17, 56] (fun s13 s14 s15 s16 s17 s56 wx => ∃ (nb' : Nat) (D' : Dk.Disk) (B' : List HE), Hid (Two w wx d0 g0 D' D' [Part.sl 48 la (np + 1) lc (nums .u32 ps ++ [.int .u32 77]), Part.row X 68 [.int .u8 (xk : Nat), .int .u32 (xe : Nat), .slice pa np pc, .slice xa m xc, .int .i64 xz, .int .i64 xn, .int .i64 xt, .int .u8 (xy : Nat)], Part.book gk nb' B' [] [] []]) ∧ Hid (BkTo (k + 1) nb' B') ∧ Hid (D'.waits.length ≤ 600 * k + 600))
        case first =>
          obtain ⟨wc, hwc⟩ : ∃ wc, wc = w3 := ⟨_, rfl⟩
          subst hwc
          have hcases : q = 0 ∨ q = 1 ∨ q = 2 ∨ q = 3 ∨ q = 4 ∨ q = 5 ∨ q = 6 ∨ q = 7 ∨ q = 8 ∨ q = 9 := by omega
          clear hq8
          rcases hcases with rfl | rfl | rfl | rfl | rfl | rfl | rfl | rfl | rfl | rfl
          · obtain ⟨_, _, _, j3, _, _, _, _⟩ := HC.out _ _ _ _ _ _ S3.out (List.mem_cons_of_mem _ List.mem_cons_self)
            go_wp2_with fail
            refine (twinBytes_any wc xa m xc (xs.map fun (x : Nat) => (x : Int)) (by rw [List.length_map]; exact Hlen.out) (by omega) (by rw [nums_ints]; exact Hrd.out.no S3.out.end)).mono ?_
            rintro e w4 ⟨ta, tc, rfl, htc, ot, t4⟩
            rw [nums_ints] at ot
            have Htc := Lib.hid htc
            have S4 := Lib.hid (S3.out.push (born_own t4 ot))
            have hmtc : m ≤ tc := by omega
            have Hmtc := Lib.hid hmtc
            clear htc ot t4 S3 j0 j3 hmtc
            have S4d := S4.out.no (Touch.refl No w4).drew
            have S4D := Lib.hid S4d
            have hS : w4.cell? ⟨X, 1, none⟩ = some (.int .u32 (xe : Nat)) ∧ w4.cell? ⟨X, 2, none⟩ = some (.slice pa np pc) ∧ w4.cell? ⟨X, 3, none⟩ = some (.slice xa m xc) := (fun h => ⟨h.2.1, h.2.2.1, h.2.2.2.1⟩) (HC.out _ _ _ _ _ _ S4.out (List.mem_cons_of_mem _ (List.mem_cons_of_mem _ List.mem_cons_self)))
            obtain ⟨ER, hE⟩ : ∃ ER, Ex.wE D ps m = ER := ⟨_, rfl⟩
            obtain ⟨D2, hD2⟩ : ∃ D2, Ex.wD D xe ps xs = D2 := ⟨_, rfl⟩
            have R1 := Lib.hid (S4D.out.exWriteD xe He4.out la np lc ps Hplen.out (by omega) (List.mem_cons_of_mem _ List.mem_cons_self) Hp4.out ta m tc xs Hlen.out Hmtc.out (by omega) List.mem_cons_self Hx8.out Hw2.out)
            rw [hE, hD2] at R1
            have R2 : Hid (∀ (wx : World) (E' : List Part), Two w wx d0 g0 D2 D E' → Calls Tryz.prog 28 #[.pointer (some ⟨g0, 0, none⟩), .int .u32 (xe : Nat), .slice pa np pc, .slice xa m xc] wx fun e w' => e = .returned (.int .i64 (ER : Nat)) ∧ Two w w' d0 g0 D2 D2 E') := fun wx E' h => by
              rw [← hE]
              have := h.exWriteR xe He4.out pa np pc ps Hplen.out (by omega) Hrp.out Hp4.out xa m xc xs Hlen.out hle hmx Hrd.out Hx8.out Hw2.out
              rwa [hD2] at this
            have W7 : Hid (D2.waits.length ≤ 600 * k + 600) := by
              show _ ≤ _
              rw [← hD2]
              have := Ex.wD_waits D xe ps xs
              rw [Hlen.out] at this
              have := HW.out
              have h3 : 4 * Ex.pages m ≤ 600 := by unfold Ex.pages; omega
              omega
            have HLB : Hid (∀ (wx : World), Two w wx d0 g0 D2 D2 [Part.sl 5 ta (m + 1) tc (nums .u8 xs ++ [.int .u8 77]), Part.sl 48 la (np + 1) lc (nums .u32 ps ++ [.int .u32 77]), Part.row X 68 [.int .u8 (xk : Nat), .int .u32 (xe : Nat), .slice pa np pc, .slice xa m xc, .int .i64 xz, .int .i64 xn, .int .i64 xt, .int .u8 (xy : Nat)], Part.book gk nb B [] [] []] → Calls Tryz.prog 29 #[.slice ta m tc, .slice xa m xc] wx fun e w'' => e = .returned (.bool true) ∧ Touch No wx w'') := fun wx h =>
              leftBytes_any wx ta m tc xa xc (xs.map fun (x : Nat) => (x : Int)) (by rw [List.length_map]; exact Hlen.out) (by omega) Htc.out (by rw [nums_ints]; exact h.rd List.mem_cons_self) (by rw [nums_ints]; exact Hrd.out.no h.end)
            have hee : ((ER : Int) != (ER : Int)) = false := by simp
            clear hE hD2
            go_wp2_with fail
            go_region_held3 (fun w' => w'.cell? ⟨X, 1, none⟩ = some (.int .u32 (xe : Nat)) ∧ w'.cell? ⟨X, 2, none⟩ = some (.slice pa np pc) ∧ w'.cell? ⟨X, 3, none⟩ = some (.slice xa m xc)) (first | exact hS | exact (fun h => ⟨h.2.1, h.2.2.1, h.2.2.2.1⟩) (HC.out _ _ _ _ _ _ s11 (List.mem_cons_of_mem _ (List.mem_cons_of_mem _ List.mem_cons_self))) | exact (fun h => ⟨h.2.1, h.2.2.1, h.2.2.2.1⟩) (HC.out _ _ _ _ _ _ s10 (List.mem_cons_of_mem _ (List.mem_cons_of_mem _ List.mem_cons_self))) | exact (fun h => ⟨h.2.1, h.2.2.1, h.2.2.2.1⟩) (HC.out _ _ _ _ _ _ s9 (List.mem_cons_of_mem _ (List.mem_cons_of_mem _ List.mem_cons_self))) | exact (fun h => ⟨h.2.1, h.2.2.1, h.2.2.2.1⟩) (HC.out _ _ _ _ _ _ S4d (List.mem_cons_of_mem _ (List.mem_cons_of_mem _ List.mem_cons_self)))) (first
              | (go_at_call 27; refine R1.out.mono ?_; rintro e w9 ⟨rfl, s9⟩)
              | (go_at_call 28; refine (R2.out _ _ s9).mono ?_; rintro e w10 ⟨rfl, s10⟩)
              | (go_at_call 29; refine (HLB.out _ s10).mono ?_; rintro e w11 ⟨rfl, t11⟩; have s11 := s10.no t11))
            have S11 := Lib.hid ((s11.imp1 (q := Part.sl 5 ta m tc (nums .u8 xs)) (fun A h => sl_twin h)).perm (List.perm_append_comm (l₁ := [_, _, _]) (l₂ := [_])))
            have Hs := Lib.hid (HB.out.small (by omega))
            have HB6 := Lib.hid (HB.out.next (a := ta) (m := m) (c := tc) (by omega))
            clear s9 s10 s11 t11 S4d S4D hS R1 R2 HLB S4
            go_wp2_with fail
            refine (S11.out.bytes Hs.out.2 Hs.out.1).mono ?_
            rintro e w7 ⟨rfl, s7⟩
            have S7 := Lib.hid (s7.perm (List.perm_append_comm (l₁ := [_]) (l₂ := [_, _])))
            clear s7 S11
            go_wp2_with fail
            go_meet
            exact ⟨nb + 1, D2, _, S7.out, HB6.out, W7.out⟩
          · obtain ⟨_, _, _, j3, _, _, _, _⟩ := HC.out _ _ _ _ _ _ S3.out (List.mem_cons_of_mem _ List.mem_cons_self)
            go_wp2_with fail
            refine (twinBytes_any wc xa m xc (xs.map fun (x : Nat) => (x : Int)) (by rw [List.length_map]; exact Hlen.out) (by omega) (by rw [nums_ints]; exact Hrd.out.no S3.out.end)).mono ?_
            rintro e w4 ⟨ta, tc, rfl, htc, ot, t4⟩
            rw [nums_ints] at ot
            have Htc := Lib.hid htc
            have S4 := Lib.hid (S3.out.push (born_own t4 ot))
            have hmtc : m ≤ tc := by omega
            have Hmtc := Lib.hid hmtc
            clear htc ot t4 S3 j0 j3 hmtc
            have S4d := S4.out.no (Touch.refl No w4).drew
            have S4D := Lib.hid S4d
            have hS : w4.cell? ⟨X, 1, none⟩ = some (.int .u32 (xe : Nat)) ∧ w4.cell? ⟨X, 2, none⟩ = some (.slice pa np pc) ∧ w4.cell? ⟨X, 3, none⟩ = some (.slice xa m xc) := (fun h => ⟨h.2.1, h.2.2.1, h.2.2.2.1⟩) (HC.out _ _ _ _ _ _ S4.out (List.mem_cons_of_mem _ (List.mem_cons_of_mem _ List.mem_cons_self)))
            obtain ⟨ER, hE⟩ : ∃ ER, Ex.wE D ps m = ER := ⟨_, rfl⟩
            obtain ⟨D2, hD2⟩ : ∃ D2, Ex.wD D xe ps xs = D2 := ⟨_, rfl⟩
            have R1 := Lib.hid (S4D.out.exWriteD xe He4.out la np lc ps Hplen.out (by omega) (List.mem_cons_of_mem _ List.mem_cons_self) Hp4.out ta m tc xs Hlen.out Hmtc.out (by omega) List.mem_cons_self Hx8.out Hw2.out)
            rw [hE, hD2] at R1
            have R2 : Hid (∀ (wx : World) (E' : List Part), Two w wx d0 g0 D2 D E' → Calls Tryz.prog 28 #[.pointer (some ⟨g0, 0, none⟩), .int .u32 (xe : Nat), .slice pa np pc, .slice xa m xc] wx fun e w' => e = .returned (.int .i64 (ER : Nat)) ∧ Two w w' d0 g0 D2 D2 E') := fun wx E' h => by
              rw [← hE]
              have := h.exWriteR xe He4.out pa np pc ps Hplen.out (by omega) Hrp.out Hp4.out xa m xc xs Hlen.out hle hmx Hrd.out Hx8.out Hw2.out
              rwa [hD2] at this
            have W7 : Hid (D2.waits.length ≤ 600 * k + 600) := by
              show _ ≤ _
              rw [← hD2]
              have := Ex.wD_waits D xe ps xs
              rw [Hlen.out] at this
              have := HW.out
              have h3 : 4 * Ex.pages m ≤ 600 := by unfold Ex.pages; omega
              omega
            have HLB : Hid (∀ (wx : World), Two w wx d0 g0 D2 D2 [Part.sl 5 ta (m + 1) tc (nums .u8 xs ++ [.int .u8 77]), Part.sl 48 la (np + 1) lc (nums .u32 ps ++ [.int .u32 77]), Part.row X 68 [.int .u8 (xk : Nat), .int .u32 (xe : Nat), .slice pa np pc, .slice xa m xc, .int .i64 xz, .int .i64 xn, .int .i64 xt, .int .u8 (xy : Nat)], Part.book gk nb B [] [] []] → Calls Tryz.prog 29 #[.slice ta m tc, .slice xa m xc] wx fun e w'' => e = .returned (.bool true) ∧ Touch No wx w'') := fun wx h =>
              leftBytes_any wx ta m tc xa xc (xs.map fun (x : Nat) => (x : Int)) (by rw [List.length_map]; exact Hlen.out) (by omega) Htc.out (by rw [nums_ints]; exact h.rd List.mem_cons_self) (by rw [nums_ints]; exact Hrd.out.no h.end)
            have hee : ((ER : Int) != (ER : Int)) = false := by simp
            clear hE hD2
            go_wp2_with fail
            go_region_held3 (fun w' => w'.cell? ⟨X, 1, none⟩ = some (.int .u32 (xe : Nat)) ∧ w'.cell? ⟨X, 2, none⟩ = some (.slice pa np pc) ∧ w'.cell? ⟨X, 3, none⟩ = some (.slice xa m xc)) (first | exact hS | exact (fun h => ⟨h.2.1, h.2.2.1, h.2.2.2.1⟩) (HC.out _ _ _ _ _ _ s11 (List.mem_cons_of_mem _ (List.mem_cons_of_mem _ List.mem_cons_self))) | exact (fun h => ⟨h.2.1, h.2.2.1, h.2.2.2.1⟩) (HC.out _ _ _ _ _ _ s10 (List.mem_cons_of_mem _ (List.mem_cons_of_mem _ List.mem_cons_self))) | exact (fun h => ⟨h.2.1, h.2.2.1, h.2.2.2.1⟩) (HC.out _ _ _ _ _ _ s9 (List.mem_cons_of_mem _ (List.mem_cons_of_mem _ List.mem_cons_self))) | exact (fun h => ⟨h.2.1, h.2.2.1, h.2.2.2.1⟩) (HC.out _ _ _ _ _ _ S4d (List.mem_cons_of_mem _ (List.mem_cons_of_mem _ List.mem_cons_self)))) (first
              | (go_at_call 27; refine R1.out.mono ?_; rintro e w9 ⟨rfl, s9⟩)
              | (go_at_call 28; refine (R2.out _ _ s9).mono ?_; rintro e w10 ⟨rfl, s10⟩)
              | (go_at_call 29; refine (HLB.out _ s10).mono ?_; rintro e w11 ⟨rfl, t11⟩; have s11 := s10.no t11))
            have S11 := Lib.hid ((s11.imp1 (q := Part.sl 5 ta m tc (nums .u8 xs)) (fun A h => sl_twin h)).perm (List.perm_append_comm (l₁ := [_, _, _]) (l₂ := [_])))
            have Hs := Lib.hid (HB.out.small (by omega))
            have HB6 := Lib.hid (HB.out.next (a := ta) (m := m) (c := tc) (by omega))
            clear s9 s10 s11 t11 S4d S4D hS R1 R2 HLB S4
            go_wp2_with fail
            refine (S11.out.bytes Hs.out.2 Hs.out.1).mono ?_
            rintro e w7 ⟨rfl, s7⟩
            have S7 := Lib.hid (s7.perm (List.perm_append_comm (l₁ := [_]) (l₂ := [_, _])))
            clear s7 S11
            go_wp2_with fail
            go_meet
            exact ⟨nb + 1, D2, _, S7.out, HB6.out, W7.out⟩
          · obtain ⟨_, _, _, j3, _, _, _, _⟩ := HC.out _ _ _ _ _ _ S3.out (List.mem_cons_of_mem _ List.mem_cons_self)
            go_wp2_with fail
            refine (twinBytes_any wc xa m xc (xs.map fun (x : Nat) => (x : Int)) (by rw [List.length_map]; exact Hlen.out) (by omega) (by rw [nums_ints]; exact Hrd.out.no S3.out.end)).mono ?_
            rintro e w4 ⟨ta, tc, rfl, htc, ot, t4⟩
            rw [nums_ints] at ot
            have Htc := Lib.hid htc
            have S4 := Lib.hid (S3.out.push (born_own t4 ot))
            have hmtc : m ≤ tc := by omega
            have Hmtc := Lib.hid hmtc
            clear htc ot t4 S3 j0 j3 hmtc
            have S4d := S4.out.no (Touch.refl No w4).drew
            have S4D := Lib.hid S4d
            have hS : w4.cell? ⟨X, 1, none⟩ = some (.int .u32 (xe : Nat)) ∧ w4.cell? ⟨X, 2, none⟩ = some (.slice pa np pc) ∧ w4.cell? ⟨X, 3, none⟩ = some (.slice xa m xc) := (fun h => ⟨h.2.1, h.2.2.1, h.2.2.2.1⟩) (HC.out _ _ _ _ _ _ S4.out (List.mem_cons_of_mem _ (List.mem_cons_of_mem _ List.mem_cons_self)))
            obtain ⟨ER, hE⟩ : ∃ ER, Ex.wE D ps m = ER := ⟨_, rfl⟩
            obtain ⟨D2, hD2⟩ : ∃ D2, Ex.wD D xe ps xs = D2 := ⟨_, rfl⟩
            have R1 := Lib.hid (S4D.out.exWriteD xe He4.out la np lc ps Hplen.out (by omega) (List.mem_cons_of_mem _ List.mem_cons_self) Hp4.out ta m tc xs Hlen.out Hmtc.out (by omega) List.mem_cons_self Hx8.out Hw2.out)
            rw [hE, hD2] at R1
            have R2 : Hid (∀ (wx : World) (E' : List Part), Two w wx d0 g0 D2 D E' → Calls Tryz.prog 28 #[.pointer (some ⟨g0, 0, none⟩), .int .u32 (xe : Nat), .slice pa np pc, .slice xa m xc] wx fun e w' => e = .returned (.int .i64 (ER : Nat)) ∧ Two w w' d0 g0 D2 D2 E') := fun wx E' h => by
              rw [← hE]
              have := h.exWriteR xe He4.out pa np pc ps Hplen.out (by omega) Hrp.out Hp4.out xa m xc xs Hlen.out hle hmx Hrd.out Hx8.out Hw2.out
              rwa [hD2] at this
            have W7 : Hid (D2.waits.length ≤ 600 * k + 600) := by
              show _ ≤ _
              rw [← hD2]
              have := Ex.wD_waits D xe ps xs
              rw [Hlen.out] at this
              have := HW.out
              have h3 : 4 * Ex.pages m ≤ 600 := by unfold Ex.pages; omega
              omega
            have HLB : Hid (∀ (wx : World), Two w wx d0 g0 D2 D2 [Part.sl 5 ta (m + 1) tc (nums .u8 xs ++ [.int .u8 77]), Part.sl 48 la (np + 1) lc (nums .u32 ps ++ [.int .u32 77]), Part.row X 68 [.int .u8 (xk : Nat), .int .u32 (xe : Nat), .slice pa np pc, .slice xa m xc, .int .i64 xz, .int .i64 xn, .int .i64 xt, .int .u8 (xy : Nat)], Part.book gk nb B [] [] []] → Calls Tryz.prog 29 #[.slice ta m tc, .slice xa m xc] wx fun e w'' => e = .returned (.bool true) ∧ Touch No wx w'') := fun wx h =>
              leftBytes_any wx ta m tc xa xc (xs.map fun (x : Nat) => (x : Int)) (by rw [List.length_map]; exact Hlen.out) (by omega) Htc.out (by rw [nums_ints]; exact h.rd List.mem_cons_self) (by rw [nums_ints]; exact Hrd.out.no h.end)
            have hee : ((ER : Int) != (ER : Int)) = false := by simp
            clear hE hD2
            go_wp2_with fail
            go_region_held3 (fun w' => w'.cell? ⟨X, 1, none⟩ = some (.int .u32 (xe : Nat)) ∧ w'.cell? ⟨X, 2, none⟩ = some (.slice pa np pc) ∧ w'.cell? ⟨X, 3, none⟩ = some (.slice xa m xc)) (first | exact hS | exact (fun h => ⟨h.2.1, h.2.2.1, h.2.2.2.1⟩) (HC.out _ _ _ _ _ _ s11 (List.mem_cons_of_mem _ (List.mem_cons_of_mem _ List.mem_cons_self))) | exact (fun h => ⟨h.2.1, h.2.2.1, h.2.2.2.1⟩) (HC.out _ _ _ _ _ _ s10 (List.mem_cons_of_mem _ (List.mem_cons_of_mem _ List.mem_cons_self))) | exact (fun h => ⟨h.2.1, h.2.2.1, h.2.2.2.1⟩) (HC.out _ _ _ _ _ _ s9 (List.mem_cons_of_mem _ (List.mem_cons_of_mem _ List.mem_cons_self))) | exact (fun h => ⟨h.2.1, h.2.2.1, h.2.2.2.1⟩) (HC.out _ _ _ _ _ _ S4d (List.mem_cons_of_mem _ (List.mem_cons_of_mem _ List.mem_cons_self)))) (first
              | (go_at_call 27; refine R1.out.mono ?_; rintro e w9 ⟨rfl, s9⟩)
              | (go_at_call 28; refine (R2.out _ _ s9).mono ?_; rintro e w10 ⟨rfl, s10⟩)
              | (go_at_call 29; refine (HLB.out _ s10).mono ?_; rintro e w11 ⟨rfl, t11⟩; have s11 := s10.no t11))
            have S11 := Lib.hid ((s11.imp1 (q := Part.sl 5 ta m tc (nums .u8 xs)) (fun A h => sl_twin h)).perm (List.perm_append_comm (l₁ := [_, _, _]) (l₂ := [_])))
            have Hs := Lib.hid (HB.out.small (by omega))
            have HB6 := Lib.hid (HB.out.next (a := ta) (m := m) (c := tc) (by omega))
            clear s9 s10 s11 t11 S4d S4D hS R1 R2 HLB S4
            go_wp2_with fail
            refine (S11.out.bytes Hs.out.2 Hs.out.1).mono ?_
            rintro e w7 ⟨rfl, s7⟩
            have S7 := Lib.hid (s7.perm (List.perm_append_comm (l₁ := [_]) (l₂ := [_, _])))
            clear s7 S11
            go_wp2_with fail
            go_meet
            exact ⟨nb + 1, D2, _, S7.out, HB6.out, W7.out⟩
          · obtain ⟨_, _, _, j3, _, _, _, _⟩ := HC.out _ _ _ _ _ _ S3.out (List.mem_cons_of_mem _ List.mem_cons_self)
            go_wp2_with fail
            refine (twinBytes_any wc xa m xc (xs.map fun (x : Nat) => (x : Int)) (by rw [List.length_map]; exact Hlen.out) (by omega) (by rw [nums_ints]; exact Hrd.out.no S3.out.end)).mono ?_
            rintro e w4 ⟨ta, tc, rfl, htc, ot, t4⟩
            rw [nums_ints] at ot
            have Htc := Lib.hid htc
            have S4 := Lib.hid (S3.out.push (born_own t4 ot))
            have hmtc : m ≤ tc := by omega
            have Hmtc := Lib.hid hmtc
            clear htc ot t4 S3 j0 j3 hmtc
            have S4d := S4.out.no (Touch.refl No w4).drew
            have S4D := Lib.hid S4d
            have hS : w4.cell? ⟨X, 1, none⟩ = some (.int .u32 (xe : Nat)) ∧ w4.cell? ⟨X, 2, none⟩ = some (.slice pa np pc) ∧ w4.cell? ⟨X, 3, none⟩ = some (.slice xa m xc) := (fun h => ⟨h.2.1, h.2.2.1, h.2.2.2.1⟩) (HC.out _ _ _ _ _ _ S4.out (List.mem_cons_of_mem _ (List.mem_cons_of_mem _ List.mem_cons_self)))
            obtain ⟨ER, hE⟩ : ∃ ER, Ex.wE D ps m = ER := ⟨_, rfl⟩
            obtain ⟨D2, hD2⟩ : ∃ D2, Ex.wD D xe ps xs = D2 := ⟨_, rfl⟩
            have R1 := Lib.hid (S4D.out.exWriteD xe He4.out la np lc ps Hplen.out (by omega) (List.mem_cons_of_mem _ List.mem_cons_self) Hp4.out ta m tc xs Hlen.out Hmtc.out (by omega) List.mem_cons_self Hx8.out Hw2.out)
            rw [hE, hD2] at R1
            have R2 : Hid (∀ (wx : World) (E' : List Part), Two w wx d0 g0 D2 D E' → Calls Tryz.prog 28 #[.pointer (some ⟨g0, 0, none⟩), .int .u32 (xe : Nat), .slice pa np pc, .slice xa m xc] wx fun e w' => e = .returned (.int .i64 (ER : Nat)) ∧ Two w w' d0 g0 D2 D2 E') := fun wx E' h => by
              rw [← hE]
              have := h.exWriteR xe He4.out pa np pc ps Hplen.out (by omega) Hrp.out Hp4.out xa m xc xs Hlen.out hle hmx Hrd.out Hx8.out Hw2.out
              rwa [hD2] at this
            have W7 : Hid (D2.waits.length ≤ 600 * k + 600) := by
              show _ ≤ _
              rw [← hD2]
              have := Ex.wD_waits D xe ps xs
              rw [Hlen.out] at this
              have := HW.out
              have h3 : 4 * Ex.pages m ≤ 600 := by unfold Ex.pages; omega
              omega
            have HLB : Hid (∀ (wx : World), Two w wx d0 g0 D2 D2 [Part.sl 5 ta (m + 1) tc (nums .u8 xs ++ [.int .u8 77]), Part.sl 48 la (np + 1) lc (nums .u32 ps ++ [.int .u32 77]), Part.row X 68 [.int .u8 (xk : Nat), .int .u32 (xe : Nat), .slice pa np pc, .slice xa m xc, .int .i64 xz, .int .i64 xn, .int .i64 xt, .int .u8 (xy : Nat)], Part.book gk nb B [] [] []] → Calls Tryz.prog 29 #[.slice ta m tc, .slice xa m xc] wx fun e w'' => e = .returned (.bool true) ∧ Touch No wx w'') := fun wx h =>
              leftBytes_any wx ta m tc xa xc (xs.map fun (x : Nat) => (x : Int)) (by rw [List.length_map]; exact Hlen.out) (by omega) Htc.out (by rw [nums_ints]; exact h.rd List.mem_cons_self) (by rw [nums_ints]; exact Hrd.out.no h.end)
            have hee : ((ER : Int) != (ER : Int)) = false := by simp
            clear hE hD2
            go_wp2_with fail
            go_region_held3 (fun w' => w'.cell? ⟨X, 1, none⟩ = some (.int .u32 (xe : Nat)) ∧ w'.cell? ⟨X, 2, none⟩ = some (.slice pa np pc) ∧ w'.cell? ⟨X, 3, none⟩ = some (.slice xa m xc)) (first | exact hS | exact (fun h => ⟨h.2.1, h.2.2.1, h.2.2.2.1⟩) (HC.out _ _ _ _ _ _ s11 (List.mem_cons_of_mem _ (List.mem_cons_of_mem _ List.mem_cons_self))) | exact (fun h => ⟨h.2.1, h.2.2.1, h.2.2.2.1⟩) (HC.out _ _ _ _ _ _ s10 (List.mem_cons_of_mem _ (List.mem_cons_of_mem _ List.mem_cons_self))) | exact (fun h => ⟨h.2.1, h.2.2.1, h.2.2.2.1⟩) (HC.out _ _ _ _ _ _ s9 (List.mem_cons_of_mem _ (List.mem_cons_of_mem _ List.mem_cons_self))) | exact (fun h => ⟨h.2.1, h.2.2.1, h.2.2.2.1⟩) (HC.out _ _ _ _ _ _ S4d (List.mem_cons_of_mem _ (List.mem_cons_of_mem _ List.mem_cons_self)))) (first
              | (go_at_call 27; refine R1.out.mono ?_; rintro e w9 ⟨rfl, s9⟩)
              | (go_at_call 28; refine (R2.out _ _ s9).mono ?_; rintro e w10 ⟨rfl, s10⟩)
              | (go_at_call 29; refine (HLB.out _ s10).mono ?_; rintro e w11 ⟨rfl, t11⟩; have s11 := s10.no t11))
            have S11 := Lib.hid ((s11.imp1 (q := Part.sl 5 ta m tc (nums .u8 xs)) (fun A h => sl_twin h)).perm (List.perm_append_comm (l₁ := [_, _, _]) (l₂ := [_])))
            have Hs := Lib.hid (HB.out.small (by omega))
            have HB6 := Lib.hid (HB.out.next (a := ta) (m := m) (c := tc) (by omega))
            clear s9 s10 s11 t11 S4d S4D hS R1 R2 HLB S4
            go_wp2_with fail
            refine (S11.out.bytes Hs.out.2 Hs.out.1).mono ?_
            rintro e w7 ⟨rfl, s7⟩
            have S7 := Lib.hid (s7.perm (List.perm_append_comm (l₁ := [_]) (l₂ := [_, _])))
            clear s7 S11
            go_wp2_with fail
            go_meet
            exact ⟨nb + 1, D2, _, S7.out, HB6.out, W7.out⟩
          · obtain ⟨_, j1, _, _, j4, _, _, _⟩ := HC.out _ _ _ _ _ _ S3.out (List.mem_cons_of_mem _ List.mem_cons_self)
            have R1 := Lib.hid (S3.out.exReadD xe He4.out la np lc ps Hplen.out (by omega) List.mem_cons_self Hp4.out xz hz1 hz2)
            have hBl := Ex.zB_le D xe ps xz
            rw [Hplen.out] at hBl
            obtain ⟨ER, hE⟩ : ∃ ER, Ex.zE D xe ps xz = ER := ⟨_, rfl⟩
            obtain ⟨BB, hBB⟩ : ∃ BB, Ex.zB D xe ps xz = BB := ⟨_, rfl⟩
            have R2 : Hid (∀ (wx : World) (E' : List Part), Two w wx d0 g0 D D E' → Calls Tryz.prog 21 #[.pointer (some ⟨g0, 0, none⟩), .int .u32 (xe : Nat), .slice pa np pc, .int .i64 xz] wx fun e w' => ∃ b k q, e = .returned (.tuple #[.slice b k q, .int .i64 (ER : Nat)]) ∧ BB.length = k ∧ Rd w' b (nums .u8 BB) ∧ Touch No wx w') := fun wx E' h => by
              rw [← hE, ← hBB]
              exact h.exReadR xe He4.out pa np pc ps Hplen.out (by omega) Hrp.out Hp4.out xz hz1 hz2
            rw [hE, hBB] at R1
            rw [hBB] at hBl
            have HBl := Lib.hid hBl
            have hee : ((ER : Int) != (ER : Int)) = false := by simp
            clear hE hBB hBl
            go_wp2_with fail
            refine R1.out.mono ?_
            rintro e w4 ⟨ra, rn, rfl, hrn, s4⟩
            have S4 := Lib.hid s4
            have Hrn := Lib.hid hrn
            have hr960 : rn ≤ 960000 := by rw [← hrn]; have := HBl.out; omega
            clear s4 hrn j0 j1 j4 S3 R1
            obtain ⟨_, j1, j2, _, j4, _, _, _⟩ := HC.out _ _ _ _ _ _ S4.out (List.mem_cons_of_mem _ (List.mem_cons_of_mem _ List.mem_cons_self))
            go_wp2_with fail
            refine (R2.out _ _ S4.out).mono ?_
            rintro e w5 ⟨ca, cl, cc, rfl, hcl, hrc, t5⟩
            obtain rfl : cl = rn := by rw [← hcl, Hrn.out]
            have S5 := Lib.hid (S4.out.no t5)
            have Hrc := Lib.hid hrc
            clear hcl hrc t5 S4 R2 j1 j2 j4
            go_wp2_with fail
            refine (sameB_any w5 ra ca cl cl cc _ Hrn.out (by omega) (S5.out.rd List.mem_cons_self) Hrc.out).mono ?_
            rintro e w6 ⟨rfl, t6⟩
            have S6 := Lib.hid ((S5.out.no t6).perm (List.perm_append_comm (l₁ := [_, _, _]) (l₂ := [_])))
            have Hs := Lib.hid (HB.out.small (by omega))
            have HB6 := Lib.hid (HB.out.next (a := ra) (m := cl) (c := cl) (by omega))
            clear t6 S5 Hrc
            go_wp2_with fail
            refine (S6.out.bytes Hs.out.2 Hs.out.1).mono ?_
            rintro e w7 ⟨rfl, s7⟩
            have S7 := Lib.hid (s7.perm (List.perm_append_comm (l₁ := [_]) (l₂ := [_, _])))
            have W7 : Hid (D.waits.length ≤ 600 * k + 600) := by show _ ≤ _; have := HW.out; omega
            clear s7 S6
            go_wp2_with fail
            go_meet
            exact ⟨nb + 1, D, _, S7.out, HB6.out, W7.out⟩
          · obtain ⟨_, j1, _, _, j4, _, _, _⟩ := HC.out _ _ _ _ _ _ S3.out (List.mem_cons_of_mem _ List.mem_cons_self)
            have R1 := Lib.hid (S3.out.exReadD xe He4.out la np lc ps Hplen.out (by omega) List.mem_cons_self Hp4.out xz hz1 hz2)
            have hBl := Ex.zB_le D xe ps xz
            rw [Hplen.out] at hBl
            obtain ⟨ER, hE⟩ : ∃ ER, Ex.zE D xe ps xz = ER := ⟨_, rfl⟩
            obtain ⟨BB, hBB⟩ : ∃ BB, Ex.zB D xe ps xz = BB := ⟨_, rfl⟩
            have R2 : Hid (∀ (wx : World) (E' : List Part), Two w wx d0 g0 D D E' → Calls Tryz.prog 21 #[.pointer (some ⟨g0, 0, none⟩), .int .u32 (xe : Nat), .slice pa np pc, .int .i64 xz] wx fun e w' => ∃ b k q, e = .returned (.tuple #[.slice b k q, .int .i64 (ER : Nat)]) ∧ BB.length = k ∧ Rd w' b (nums .u8 BB) ∧ Touch No wx w') := fun wx E' h => by
              rw [← hE, ← hBB]
              exact h.exReadR xe He4.out pa np pc ps Hplen.out (by omega) Hrp.out Hp4.out xz hz1 hz2
            rw [hE, hBB] at R1
            rw [hBB] at hBl
            have HBl := Lib.hid hBl
            have hee : ((ER : Int) != (ER : Int)) = false := by simp
            clear hE hBB hBl
            go_wp2_with fail
            refine R1.out.mono ?_
            rintro e w4 ⟨ra, rn, rfl, hrn, s4⟩
            have S4 := Lib.hid s4
            have Hrn := Lib.hid hrn
            have hr960 : rn ≤ 960000 := by rw [← hrn]; have := HBl.out; omega
            clear s4 hrn j0 j1 j4 S3 R1
            obtain ⟨_, j1, j2, _, j4, _, _, _⟩ := HC.out _ _ _ _ _ _ S4.out (List.mem_cons_of_mem _ (List.mem_cons_of_mem _ List.mem_cons_self))
            go_wp2_with fail
            refine (R2.out _ _ S4.out).mono ?_
            rintro e w5 ⟨ca, cl, cc, rfl, hcl, hrc, t5⟩
            obtain rfl : cl = rn := by rw [← hcl, Hrn.out]
            have S5 := Lib.hid (S4.out.no t5)
            have Hrc := Lib.hid hrc
            clear hcl hrc t5 S4 R2 j1 j2 j4
            go_wp2_with fail
            refine (sameB_any w5 ra ca cl cl cc _ Hrn.out (by omega) (S5.out.rd List.mem_cons_self) Hrc.out).mono ?_
            rintro e w6 ⟨rfl, t6⟩
            have S6 := Lib.hid ((S5.out.no t6).perm (List.perm_append_comm (l₁ := [_, _, _]) (l₂ := [_])))
            have Hs := Lib.hid (HB.out.small (by omega))
            have HB6 := Lib.hid (HB.out.next (a := ra) (m := cl) (c := cl) (by omega))
            clear t6 S5 Hrc
            go_wp2_with fail
            refine (S6.out.bytes Hs.out.2 Hs.out.1).mono ?_
            rintro e w7 ⟨rfl, s7⟩
            have S7 := Lib.hid (s7.perm (List.perm_append_comm (l₁ := [_]) (l₂ := [_, _])))
            have W7 : Hid (D.waits.length ≤ 600 * k + 600) := by show _ ≤ _; have := HW.out; omega
            clear s7 S6
            go_wp2_with fail
            go_meet
            exact ⟨nb + 1, D, _, S7.out, HB6.out, W7.out⟩
          · obtain ⟨_, j1, _, _, j4, _, _, _⟩ := HC.out _ _ _ _ _ _ S3.out (List.mem_cons_of_mem _ List.mem_cons_self)
            have R1 := Lib.hid (S3.out.exReadD xe He4.out la np lc ps Hplen.out (by omega) List.mem_cons_self Hp4.out xz hz1 hz2)
            have hBl := Ex.zB_le D xe ps xz
            rw [Hplen.out] at hBl
            obtain ⟨ER, hE⟩ : ∃ ER, Ex.zE D xe ps xz = ER := ⟨_, rfl⟩
            obtain ⟨BB, hBB⟩ : ∃ BB, Ex.zB D xe ps xz = BB := ⟨_, rfl⟩
            have R2 : Hid (∀ (wx : World) (E' : List Part), Two w wx d0 g0 D D E' → Calls Tryz.prog 21 #[.pointer (some ⟨g0, 0, none⟩), .int .u32 (xe : Nat), .slice pa np pc, .int .i64 xz] wx fun e w' => ∃ b k q, e = .returned (.tuple #[.slice b k q, .int .i64 (ER : Nat)]) ∧ BB.length = k ∧ Rd w' b (nums .u8 BB) ∧ Touch No wx w') := fun wx E' h => by
              rw [← hE, ← hBB]
              exact h.exReadR xe He4.out pa np pc ps Hplen.out (by omega) Hrp.out Hp4.out xz hz1 hz2
            rw [hE, hBB] at R1
            rw [hBB] at hBl
            have HBl := Lib.hid hBl
            have hee : ((ER : Int) != (ER : Int)) = false := by simp
            clear hE hBB hBl
            go_wp2_with fail
            refine R1.out.mono ?_
            rintro e w4 ⟨ra, rn, rfl, hrn, s4⟩
            have S4 := Lib.hid s4
            have Hrn := Lib.hid hrn
            have hr960 : rn ≤ 960000 := by rw [← hrn]; have := HBl.out; omega
            clear s4 hrn j0 j1 j4 S3 R1
            obtain ⟨_, j1, j2, _, j4, _, _, _⟩ := HC.out _ _ _ _ _ _ S4.out (List.mem_cons_of_mem _ (List.mem_cons_of_mem _ List.mem_cons_self))
            go_wp2_with fail
            refine (R2.out _ _ S4.out).mono ?_
            rintro e w5 ⟨ca, cl, cc, rfl, hcl, hrc, t5⟩
            obtain rfl : cl = rn := by rw [← hcl, Hrn.out]
            have S5 := Lib.hid (S4.out.no t5)
            have Hrc := Lib.hid hrc
            clear hcl hrc t5 S4 R2 j1 j2 j4
            go_wp2_with fail
            refine (sameB_any w5 ra ca cl cl cc _ Hrn.out (by omega) (S5.out.rd List.mem_cons_self) Hrc.out).mono ?_
            rintro e w6 ⟨rfl, t6⟩
            have S6 := Lib.hid ((S5.out.no t6).perm (List.perm_append_comm (l₁ := [_, _, _]) (l₂ := [_])))
            have Hs := Lib.hid (HB.out.small (by omega))
            have HB6 := Lib.hid (HB.out.next (a := ra) (m := cl) (c := cl) (by omega))
            clear t6 S5 Hrc
            go_wp2_with fail
            refine (S6.out.bytes Hs.out.2 Hs.out.1).mono ?_
            rintro e w7 ⟨rfl, s7⟩
            have S7 := Lib.hid (s7.perm (List.perm_append_comm (l₁ := [_]) (l₂ := [_, _])))
            have W7 : Hid (D.waits.length ≤ 600 * k + 600) := by show _ ≤ _; have := HW.out; omega
            clear s7 S6
            go_wp2_with fail
            go_meet
            exact ⟨nb + 1, D, _, S7.out, HB6.out, W7.out⟩
          · obtain ⟨_, j1, _, _, j4, _, _, _⟩ := HC.out _ _ _ _ _ _ S3.out (List.mem_cons_of_mem _ List.mem_cons_self)
            have R1 := Lib.hid (S3.out.exReadD xe He4.out la np lc ps Hplen.out (by omega) List.mem_cons_self Hp4.out xz hz1 hz2)
            have hBl := Ex.zB_le D xe ps xz
            rw [Hplen.out] at hBl
            obtain ⟨ER, hE⟩ : ∃ ER, Ex.zE D xe ps xz = ER := ⟨_, rfl⟩
            obtain ⟨BB, hBB⟩ : ∃ BB, Ex.zB D xe ps xz = BB := ⟨_, rfl⟩
            have R2 : Hid (∀ (wx : World) (E' : List Part), Two w wx d0 g0 D D E' → Calls Tryz.prog 21 #[.pointer (some ⟨g0, 0, none⟩), .int .u32 (xe : Nat), .slice pa np pc, .int .i64 xz] wx fun e w' => ∃ b k q, e = .returned (.tuple #[.slice b k q, .int .i64 (ER : Nat)]) ∧ BB.length = k ∧ Rd w' b (nums .u8 BB) ∧ Touch No wx w') := fun wx E' h => by
              rw [← hE, ← hBB]
              exact h.exReadR xe He4.out pa np pc ps Hplen.out (by omega) Hrp.out Hp4.out xz hz1 hz2
            rw [hE, hBB] at R1
            rw [hBB] at hBl
            have HBl := Lib.hid hBl
            have hee : ((ER : Int) != (ER : Int)) = false := by simp
            clear hE hBB hBl
            go_wp2_with fail
            refine R1.out.mono ?_
            rintro e w4 ⟨ra, rn, rfl, hrn, s4⟩
            have S4 := Lib.hid s4
            have Hrn := Lib.hid hrn
            have hr960 : rn ≤ 960000 := by rw [← hrn]; have := HBl.out; omega
            clear s4 hrn j0 j1 j4 S3 R1
            obtain ⟨_, j1, j2, _, j4, _, _, _⟩ := HC.out _ _ _ _ _ _ S4.out (List.mem_cons_of_mem _ (List.mem_cons_of_mem _ List.mem_cons_self))
            go_wp2_with fail
            refine (R2.out _ _ S4.out).mono ?_
            rintro e w5 ⟨ca, cl, cc, rfl, hcl, hrc, t5⟩
            obtain rfl : cl = rn := by rw [← hcl, Hrn.out]
            have S5 := Lib.hid (S4.out.no t5)
            have Hrc := Lib.hid hrc
            clear hcl hrc t5 S4 R2 j1 j2 j4
            go_wp2_with fail
            refine (sameB_any w5 ra ca cl cl cc _ Hrn.out (by omega) (S5.out.rd List.mem_cons_self) Hrc.out).mono ?_
            rintro e w6 ⟨rfl, t6⟩
            have S6 := Lib.hid ((S5.out.no t6).perm (List.perm_append_comm (l₁ := [_, _, _]) (l₂ := [_])))
            have Hs := Lib.hid (HB.out.small (by omega))
            have HB6 := Lib.hid (HB.out.next (a := ra) (m := cl) (c := cl) (by omega))
            clear t6 S5 Hrc
            go_wp2_with fail
            refine (S6.out.bytes Hs.out.2 Hs.out.1).mono ?_
            rintro e w7 ⟨rfl, s7⟩
            have S7 := Lib.hid (s7.perm (List.perm_append_comm (l₁ := [_]) (l₂ := [_, _])))
            have W7 : Hid (D.waits.length ≤ 600 * k + 600) := by show _ ≤ _; have := HW.out; omega
            clear s7 S6
            go_wp2_with fail
            go_meet
            exact ⟨nb + 1, D, _, S7.out, HB6.out, W7.out⟩
          · obtain ⟨_, _, _, _, _, j5, j6, j7⟩ := HC.out _ _ _ _ _ _ S3.out (List.mem_cons_of_mem _ List.mem_cons_self)
            have hS : wc.cell? ⟨X, 5, none⟩ = some (.int .i64 xn) ∧ wc.cell? ⟨X, 6, none⟩ = some (.int .i64 xt) ∧ wc.cell? ⟨X, 7, none⟩ = some (.int .u8 (xy : Nat)) := ⟨j5, j6, j7⟩
            have S3d := S3.out.no (Touch.refl No wc).drew
            have S3D := Lib.hid S3d
            clear j5 j6 j7
            go_wp2_with fail
            go_region_held3 (fun w' => w'.cell? ⟨X, 5, none⟩ = some (.int .i64 xn) ∧ w'.cell? ⟨X, 6, none⟩ = some (.int .i64 xt) ∧ w'.cell? ⟨X, 7, none⟩ = some (.int .u8 (xy : Nat))) (first | exact hS | exact (HC.out _ _ _ _ _ _ s10 (List.mem_cons_of_mem _ List.mem_cons_self)).2.2.2.2.2 | exact (HC.out _ _ _ _ _ _ s9 (List.mem_cons_of_mem _ List.mem_cons_self)).2.2.2.2.2 | exact (HC.out _ _ _ _ _ _ S3d (List.mem_cons_of_mem _ List.mem_cons_self)).2.2.2.2.2) (first
              | (go_at_call 22; refine (S3D.out.rotD xn xt xy Hy8.out Hw1.out).mono ?_; rintro e w9 ⟨rfl, s9⟩)
              | (go_at_call 23; refine (s9.rotR xn xt xy Hy8.out Hw1.out).mono ?_; rintro e w10 ⟨rfl, s10⟩))
            have S10 := Lib.hid s10
            clear s9 s10 S3d S3D hS
            have Hw4 : Hid ((Dk.rotA D xn xt xy).waits.length ≤ 600 * k + 600) := by show _ ≤ _; have := Dk.rotA_waits D xn xt xy; have := HW.out; omega
            have HB6 := Lib.hid (HB.out.more (K' := k + 1) (by omega))
            go_wp2_with fail
            go_meet
            exact ⟨nb, _, B, S10.out, HB6.out, Hw4.out⟩
          · obtain ⟨_, _, _, _, _, j5, _, _⟩ := HC.out _ _ _ _ _ _ S3.out (List.mem_cons_of_mem _ List.mem_cons_self)
            have hS : wc.cell? ⟨X, 5, none⟩ = some (.int .i64 xn) := j5
            have S3d := S3.out.no (Touch.refl No wc).drew
            have S3D := Lib.hid S3d
            clear j5
            go_wp2_with fail
            go_region_held3 (fun w' => w'.cell? ⟨X, 5, none⟩ = some (.int .i64 xn)) (first | exact hS | exact (HC.out _ _ _ _ _ _ s10 (List.mem_cons_of_mem _ List.mem_cons_self)).2.2.2.2.2.1 | exact (HC.out _ _ _ _ _ _ s9 (List.mem_cons_of_mem _ List.mem_cons_self)).2.2.2.2.2.1 | exact (HC.out _ _ _ _ _ _ S3d (List.mem_cons_of_mem _ List.mem_cons_self)).2.2.2.2.2.1) (first
              | (go_at_call 24; refine (S3D.out.badD xn Hw1.out).mono ?_; rintro e w9 ⟨rfl, s9⟩)
              | (go_at_call 25; refine (s9.badR xn Hw1.out).mono ?_; rintro e w10 ⟨rfl, s10⟩))
            have S10 := Lib.hid s10
            clear s9 s10 S3d S3D hS
            have Hw4 : Hid ((Dk.badA D xn).waits.length ≤ 600 * k + 600) := by show _ ≤ _; have := Dk.badA_waits D xn; have := HW.out; omega
            have HB6 := Lib.hid (HB.out.more (K' := k + 1) (by omega))
            go_wp2_with fail
            go_meet
            exact ⟨nb, _, B, S10.out, HB6.out, Hw4.out⟩
        case rest =>
          obtain ⟨nb', D', B', S5, HB5, W5⟩ := hcut
          clear S3 j0 hkq Hw1 Hw2 HB HW
          obtain ⟨P, hP⟩ : ∃ P, Ex.pages xz.toNat = P := ⟨_, rfl⟩
          have CP1 : Hid (∀ wx, Calls Tryz.prog 31 #[.int .i64 xz] wx fun e w' => e = .returned (.int .i64 (P : Nat)) ∧ wx = w') := fun wx => by
            have := exPages_any wx xz hz2
            rwa [hP] at this
          have CP2 : Hid (∀ wx, Calls Tryz.prog 32 #[.int .i64 xz] wx fun e w' => e = .returned (.int .i64 (P : Nat)) ∧ wx = w') := fun wx => by
            have := refExPages_any wx xz hz1 hz2
            rwa [hP] at this
          have HLI : Hid (∀ (wx : World), Two w wx d0 g0 D' D' [Part.sl 48 la (np + 1) lc (nums .u32 ps ++ [.int .u32 77]), Part.row X 68 [.int .u8 (xk : Nat), .int .u32 (xe : Nat), .slice pa np pc, .slice xa m xc, .int .i64 xz, .int .i64 xn, .int .i64 xt, .int .u8 (xy : Nat)], Part.book gk nb' B' [] [] []] → Calls Tryz.prog 30 #[.slice la np lc, .slice pa np pc] wx fun e w'' => e = .returned (.bool true) ∧ Touch No wx w'') := fun wx h =>
            leftIds_any wx la np lc pa pc (ps.map fun (x : Nat) => (x : Int)) (by rw [List.length_map]; exact Hplen.out) (by omega) Hlc.out (by rw [nums_ints]; exact h.rd List.mem_cons_self) (by rw [nums_ints]; exact Hrp.out.no h.end)
          have hpp : ((P : Int) != (P : Int)) = false := by simp
          have S5d := S5.out.no (Touch.refl No _).drew
          have hS := (fun h => And.intro h.2.2.1 h.2.2.2.2.1) (HC.out _ _ _ _ _ _ S5.out (List.mem_cons_of_mem _ List.mem_cons_self))
          clear hP
          go_wp2_with fail
          go_region_held3 (fun w' => w'.cell? ⟨X, 2, none⟩ = some (.slice pa np pc) ∧ w'.cell? ⟨X, 4, none⟩ = some (.int .i64 xz)) (first | exact hS | exact (fun h => ⟨h.2.2.1, h.2.2.2.2.1⟩) (HC.out _ _ _ _ _ _ s6 (List.mem_cons_of_mem _ List.mem_cons_self)) | exact (fun h => ⟨h.2.2.1, h.2.2.2.2.1⟩) (HC.out _ _ _ _ _ _ S5d (List.mem_cons_of_mem _ List.mem_cons_self))) (first
            | (go_at_call 30; refine (HLI.out _ S5d).mono ?_; rintro e w6 ⟨rfl, t6⟩; have s6 := S5d.no t6)
            | (go_at_call 31; refine (CP1.out _).mono ?_; rintro e w7 ⟨rfl, rfl⟩)
            | (go_at_call 32; refine (CP2.out _).mono ?_; rintro e w8 ⟨rfl, rfl⟩))
          have S6 := Lib.hid s6.drop.drop
          have W6 : Hid (D'.waits.length ≤ 600 * (k + 1)) := by show _ ≤ _; have := W5.out; omega
          clear s6 t6 S5d hS HLI CP1 CP2 S5
          go_wp2_with fail
          go_roundg g'
          case measure => omega
          case rel => exact ⟨k + 1, nb', D', B', by omega, by go_num, S6.out, HB5.out, W6.out⟩
end Go.Proofs.YtkiehoboeiengaaGreatDoor
