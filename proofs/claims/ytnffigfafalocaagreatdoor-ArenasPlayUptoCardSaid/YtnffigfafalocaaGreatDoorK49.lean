/-
  Package drydocklaw24 by its own text: the walk of ArenasPlay.
-/
import Derived.Test.YtnffigfafalocaaGreatDoorK48
import Derived.Deep.DeepCutAuto
import Derived.Deep.CutBlock
import Derived.Lib.SmallJoins
namespace Go.Proofs.YtnffigfafalocaaGreatDoor
open Go Go.RowKit Go.Maps
set_option linter.unusedSimpArgs false
set_option linter.unusedVariables false

def apSum (l : List ADeed) : Nat := (l.map fun d => d.t_s.length + d.t_l.length + 4).sum
theorem apSum_take (l : List ADeed) (k : Nat) : apSum (l.take k) ≤ apSum l := by
  induction l generalizing k with
  | nil => simp [apSum]
  | cons x r ih =>
    cases k with
    | zero => simp [apSum]
    | succ k =>
      have := ih k
      simp only [apSum, List.take_succ_cons, List.map_cons, List.sum_cons] at this ⊢
      omega
theorem apSum_len (l : List ADeed) : 4 * l.length ≤ apSum l := by
  induction l with
  | nil => exact Nat.zero_le _
  | cons x r ih =>
    simp only [apSum, List.map_cons, List.sum_cons, List.length_cons] at ih ⊢
    omega
theorem apSum_each {l : List ADeed} {x : ADeed} (h : x ∈ l) : x.t_s.length + x.t_l.length + 4 ≤ apSum l := by
  induction l with
  | nil => cases h
  | cons y r ih =>
    simp only [apSum, List.map_cons, List.sum_cons] at ih ⊢
    rcases List.mem_cons.1 h with rfl | h
    · omega
    · have := ih h; omega
theorem apSum_next {l : List ADeed} {k : Nat} {x : ADeed} (h : l[k]? = some x) : apSum (l.take (k + 1)) = apSum (l.take k) + 4 + x.t_l.length + x.t_s.length := by
  have hk : k < l.length := by
    rcases Nat.lt_or_ge k l.length with h | h
    · exact h
    · rw [List.getElem?_eq_none h] at *; contradiction
  rw [List.take_succ_eq_append_getElem hk]
  rw [List.getElem?_eq_getElem hk] at h
  rw [Option.some.inj h]
  simp only [apSum, List.map_append, List.sum_append, List.map_cons, List.map_nil, List.sum_cons, List.sum_nil]
  omega
set_option maxRecDepth 100000 in
set_option maxHeartbeats 1000000 in
theorem great24_is (w : World) (ad : Option Addr) (n cap : Nat) (acts : List ADeed) (hn : acts.length = n) (hs : apSum acts ≤ 1048576) (h : IsADeeds w ad acts) :
    Calls Tryz.prog 15 #[.slice ad n cap] w fun e w' => e = .returned (.bool (decide ((apSum acts : Int) > 6000))) ∧ Touch No w w' := by
  have H := Lib.hid h; clear h
  have HN := Lib.hid hn
  have HS := Lib.hid hs
  have hn4 : n ≤ 1048576 := by have := apSum_len acts; omega
  clear hn hs
  go_enter Tryz.func15, Tryz.ntmps15
  go_wp2
  go_loopg [3, 4] n (fun g s3 s4 wr => ∃ (k z : Nat), k + g = n ∧ s4 = .int .i64 ((k : Nat) : Int) ∧ s3 = .int .i64 (z : Nat) ∧ Hid (apSum (acts.take k) = z) ∧ Hid (Touch No w wr))
  case atStart => exact ⟨0, 0, by omega, rfl, rfl, by show apSum (acts.take 0) = 0; rw [List.take_zero]; rfl, Touch.refl No w⟩
  case round =>
    obtain ⟨k, z, hkg, rfl, rfl, HZ, T⟩ := hrel
    have hz9 : (z : Int) ≤ 1048576 := by have h1 := HZ.out; have h2 := apSum_take acts k; have h3 := HS.out; omega
    cases gk with
    | zero =>
      obtain rfl : k = n := by omega
      have hE : Hid (apSum acts = z) := by have := HZ.out; rwa [List.take_of_length_le (by rw [HN.out]; exact Nat.le_refl _)] at this
      clear HZ
      go_wp2
      go_ret
      exact ⟨by rw [hE.out]; rfl, T.out⟩
    | succ g =>
      have hlt : (k : Int) < n := by omega
      obtain ⟨x, hx⟩ : ∃ x, acts[k]? = some x := ⟨_, List.getElem?_eq_getElem (by have := HN.out; omega)⟩
      obtain ⟨c, o, rfl, ha⟩ := (H.out.touch T.out) k x hx
      have hl : wr.cell? ⟨c, o + k * 5 + 3, none⟩ = some (.slice x.t_s_a x.t_s.length x.t_s_cap) := ha.cell 3 (by decide)
      have hl2 : wr.cell? ⟨c, o + k * 5 + 4, none⟩ = some (.slice x.t_l_a x.t_l.length x.t_l_cap) := ha.cell 4 (by decide)
      have hnx := apSum_next hx
      rw [HZ.out] at hnx
      have hb := apSum_take acts (k + 1)
      have hb2 := HS.out
      rw [hnx] at hb
      have hqs : x.t_s.length ≤ 1048576 := by omega
      have hql : x.t_l.length ≤ 1048576 := by omega
      have HNX := Lib.hid hnx
      clear ha hx hnx hb hb2
      generalize x.t_s.length = q at *
      generalize x.t_s_a = qa at *
      generalize x.t_s_cap = qc at *
      generalize x.t_l.length = q' at *
      generalize x.t_l_a = qa' at *
      generalize x.t_l_cap = qc' at *
      have hq1 : (q : Int) ≤ 1048576 := by omega
      have hq2 : (q' : Int) ≤ 1048576 := by omega
      go_wp2
      go_quiet (fail)
      go_wp2
      have T2 := Lib.hid (T.out.drewN nq)
      go_roundg g
      case measure => omega
      case rel => exact ⟨k + 1, z + 4 + q' + q, by omega, by go_num, by go_num, HNX.out, T2.out⟩

/-- how much the book holds -/
def Bnd (m : Nat) (l : List HE) : Prop := l.length ≤ m ∧ (∀ e ∈ l, e.k ≤ 1000000) ∧ ∀ e ∈ l, e.n ≤ 10000000
theorem Bnd.nil (m : Nat) : Bnd m [] := ⟨Nat.zero_le _, (fun e h => by cases h), fun e h => by cases h⟩
theorem Bnd.mono {m m' : Nat} {l : List HE} (h : Bnd m l) (hm : m ≤ m') : Bnd m' l := ⟨Nat.le_trans h.1 hm, h.2⟩
theorem Bnd.snoc {m : Nat} {l : List HE} (h : Bnd m l) {e : HE} (hk : e.k ≤ 1000000) (hn : e.n ≤ 10000000) : Bnd (m + 1) (l ++ [e]) := by
  refine ⟨by rw [List.length_append]; exact Nat.succ_le_succ h.1, fun x hx => ?_, fun x hx => ?_⟩
  · rcases List.mem_append.1 hx with hx | hx
    · exact h.2.1 x hx
    · rw [List.mem_singleton.1 hx]; exact hk
  · rcases List.mem_append.1 hx with hx | hx
    · exact h.2.2 x hx
    · rw [List.mem_singleton.1 hx]; exact hn
theorem Bnd.bk {m : Nat} {l : List HE} (h : Bnd m l) (hm : m ≤ 100000) : BkOk l := ⟨Nat.le_trans h.1 hm, h.2⟩
structure ApInv (i : Nat) (A : Ar.Arena) (R : List Ar.REnt) (k : Nat) (I N D : List HE) : Prop where
  ok : Ar.Ok A
  map : R.map Ar.REnt.it = A.its
  len : R.length ≤ i
  puts : A.puts ≤ i
  k : k ≤ 3 * i
  I : Bnd i I
  N : Bnd i N
  D : Bnd i D

/-- .. ahead of the ids -/
structure ApMid (i : Nat) (A : Ar.Arena) (R : List Ar.REnt) (k : Nat) (I N D : List HE) : Prop where
  ok : Ar.Ok A
  map : R.map Ar.REnt.it = A.its
  len : R.length ≤ i + 1
  puts : A.puts ≤ i + 1
  k : k ≤ 3 * i + 2
  I : Bnd (i + 1) I
  N : Bnd (i + 1) N
  D : Bnd i D
theorem perm_front4 {α : Type} (a b c d r k : α) : [a, b, c, d, r, k].Perm (r :: [a, b, c, d, k]) := List.perm_middle (l₁ := [a, b, c, d]) (l₂ := [k])
theorem perm_back4 {α : Type} (a b c d r k : α) : (r :: [a, b, c, d, k]).Perm ([a, b, c, d] ++ [r, k]) := (perm_front4 a b c d r k).symm
/-- an order of lists, told by numbers -/
theorem perm_told {α : Type} (a r t s l x b : α) : (a :: [r, t, s, l, x, b]).Perm (b :: s :: l :: [a, r, t, x]) :=
  (show [0, 1, 2, 3, 4, 5, 6].Perm [6, 3, 4, 0, 1, 2, 5] by decide).map (fun i => [a, r, t, s, l, x, b].getD i a)
theorem perm_told2 {α : Type} (b a r t x : α) : (b :: [a, r, t, x]).Perm (a :: ([t, x] ++ [r, b])) :=
  (show [0, 1, 2, 3, 4].Perm [1, 3, 4, 2, 0] by decide).map (fun i => [b, a, r, t, x].getD i a)
theorem perm_three {α : Type} (p s l r : α) (E : List α) : (p :: s :: l :: r :: E).Perm (r :: p :: s :: l :: E) := List.perm_middle (l₁ := [p, s, l]) (l₂ := E)
theorem perm_got {α : Type} (a r p s l t u v x b : α) : (a :: r :: p :: s :: l :: [t, u, v, x, b]).Perm (b :: s :: l :: [a, r, p, t, u, v, x]) :=
  (show [0, 1, 2, 3, 4, 5, 6, 7, 8, 9].Perm [9, 3, 4, 0, 1, 2, 5, 6, 7, 8] by decide).map (fun i => [a, r, p, s, l, t, u, v, x, b].getD i a)
theorem perm_got2 {α : Type} (b a r p t u v x : α) : (b :: [a, r, p, t, u, v, x]).Perm (a :: ([p, t, u, v, x] ++ [r, b])) :=
  (show [0, 1, 2, 3, 4, 5, 6, 7].Perm [1, 3, 4, 5, 6, 7, 2, 0] by decide).map (fun i => [b, a, r, p, t, u, v, x].getD i a)
theorem perm_ids {α : Type} (a l r b : α) : (a :: l :: [r, b]).Perm (b :: l :: [a, r]) :=
  (show [0, 1, 2, 3].Perm [3, 1, 0, 2] by decide).map (fun i => [a, l, r, b].getD i a)
theorem perm_ids2 {α : Type} (b a r : α) : (b :: [a, r]).Perm (a :: [r, b]) :=
  (show [0, 1, 2].Perm [1, 2, 0] by decide).map (fun i => [b, a, r].getD i a)
theorem apt_pre {w0 w : World} {E : List Part} {a : Option Addr} {vs us : List Value} (h : Apt w0 w E a (vs ++ us)) : Apt w0 w E a vs := ⟨rd_pre h.1, h.2⟩
theorem Sl.untwin3 {w0 w : World} {b : Part} {l : List Part} {T T' : TypeId} {a a' : Option Addr} {n c n' c' : Nat} {vs vs' : List Value} {v v' : Value} (h : Sl w0 w (b :: Part.sl T a (n + 1) c (vs ++ [v]) :: Part.sl T' a' (n' + 1) c' (vs' ++ [v']) :: l)) : Sl w0 w (b :: Part.sl T a n c vs :: Part.sl T' a' n' c' vs' :: l) := by
  have h1 := Sl.imp2 h (q := Part.sl T a n c vs) (fun A hA => sl_twin hA)
  have h2 := Sl.imp2 (h1.perm ((List.Perm.swap _ _ _).cons b)) (q := Part.sl T' a' n' c' vs') (fun A hA => sl_twin hA)
  exact h2.perm ((List.Perm.swap _ _ _).cons b)
theorem giveA_puts (A : Ar.Arena) (id : Nat) : (Ar.giveA A id).puts = A.puts := by
  unfold Ar.giveA
  split <;> rfl
theorem takeA_puts (A : Ar.Arena) (id : Nat) (z : Int) : (Ar.takeA A id z).puts ≤ A.puts + 1 := by
  unfold Ar.takeA
  split
  · exact Nat.le_refl _
  · exact Nat.le_succ _
theorem putA_puts (A : Ar.Arena) (id : Nat) (s l : List Int) : (Ar.putA A id s l).puts ≤ A.puts + 1 := by
  unfold Ar.putA
  split
  · exact Nat.le_succ _
  · split
    · exact Nat.le_succ _
    · split
      · exact Nat.le_succ _
      · exact Nat.le_refl _
set_option maxRecDepth 100000 in
set_option maxHeartbeats 16000000 in
theorem arenasPlay_walk (w : World) (room : Int) (hroom : -9223372036854775808 ≤ room ∧ room ≤ 9223372036854775807) (ad : Option Addr) (n cap : Nat) (acts : List ADeed) (hn : acts.length = n) (hs : apSum acts ≤ 1048576) (hd : IsADeeds w ad acts) :
    Calls Tryz.prog 4 #[.int .i64 room, .slice ad n cap] w (LawPost w) := by
  have HN := Lib.hid hn
  have HD := Lib.hid hd
  have HG := Lib.hid (great24_is w ad n cap acts hn hs hd)
  by_cases hbig : (apSum acts : Int) > 6000
  · rw [decide_eq_true hbig] at HG
    clear hn hd hbig
    go_enter Tryz.func4, Tryz.ntmps4
    go_wp2_with fail
    refine HG.out.mono ?_
    rintro e w1 ⟨rfl, t1⟩
    have T1 := Lib.hid t1
    clear t1 HG
    go_wp2_with fail
    refine (lives_is _).mono ?_
    rintro e wz ⟨rfl, tz⟩
    go_wp2
    go_ret
    exact ⟨rfl, T1.out.trans tz⟩
  rw [decide_eq_false hbig] at HG
  have hn15 : n ≤ 1500 := by have := apSum_len acts; omega
  have HEa : Hid (∀ x ∈ acts, x.t_s.length ≤ 6000 ∧ x.t_l.length ≤ 6000) := fun x hx => by have := apSum_each hx; omega
  clear hn hd hbig hs
  by_cases hbad : room < 0 ∨ 1048576 < room
  · go_enter Tryz.func4, Tryz.ntmps4
    go_wp2_with fail
    refine HG.out.mono ?_
    rintro e w1 ⟨rfl, t1⟩
    have T1 := Lib.hid t1
    clear t1 HG
    go_wp2_with fail
    refine (arNew_bad w1 room hbad).mono ?_
    rintro e w2 ⟨rfl, rfl⟩
    go_wp2_with fail
    refine (refANew_bad w1 room hbad).mono ?_
    rintro e w2 ⟨rfl, rfl⟩
    go_wp2_with fail
    refine (lives_is _).mono ?_
    rintro e wz ⟨rfl, tz⟩
    go_wp2
    go_ret
    exact ⟨rfl, T1.out.trans tz⟩
  obtain ⟨r, rfl⟩ : ∃ r : Nat, room = (r : Nat) := ⟨room.toNat, by omega⟩
  have hr : r ≤ 1048576 := by omega
  clear hbad
  go_enter Tryz.func4, Tryz.ntmps4
  go_wp2_with fail
  refine HG.out.mono ?_
  rintro e w1 ⟨rfl, t1⟩
  have T1 := Lib.hid t1
  clear t1 HG
  go_wp2_with fail
  refine (ars_newK w w1 T1.out r (r : Nat) rfl hr).mono ?_
  rintro e w2 ⟨g, rfl, q1⟩
  have H1 := Lib.hid q1
  clear q1 T1
  go_wp2_with fail
  refine (refANew_in w2 r hr).mono ?_
  rintro e w3 ⟨h, rfl, q2⟩
  have H2 := Lib.hid (H1.out.push q2)
  clear q2 H1
  go_wp2_with fail
  obtain ⟨bk, hbk⟩ : ∃ b, b = w3.heap.size := ⟨_, rfl⟩
  obtain ⟨w4, hw4⟩ : ∃ w4, w4 = w3.alloc (.cells #[.int .i64 0, .slice none 0 0, .slice none 0 0, .slice none 0 0, .slice none 0 0, .slice none 0 0, .slice none 0 0, .slice none 0 0, .slice none 0 0, .slice none 0 0, .slice none 0 0, .slice none 0 0, .slice none 0 0, .slice none 0 0, .slice none 0 0, .slice none 0 0] 71) := ⟨_, rfl⟩
  have H4 : Hid (Ars w w4 g (Ar.new r) [Part.ref24 h r 0 0 [], Part.book bk 0 [] [] [] []]) := by
    show Ars _ _ _ _ _
    rw [hw4, hbk]
    exact (H2.out.push (born_book w3 _ rfl)).perm (List.Perm.swap _ _ _)
  rw [← hw4, ← hbk]
  clear hw4 hbk H2
  go_loopg [10] n (fun gh s10 wr => ∃ (i : Nat) (A : Ar.Arena) (R : List Ar.REnt) (k : Nat) (I N D : List HE), i + gh = n ∧ s10 = .int .i64 ((i : Nat) : Int) ∧ Hid (ApInv i A R k I N D) ∧ Hid (Ars w wr g A [Part.ref24 h A.room A.used A.peak R, Part.book bk k [] I N D]))
  case atStart =>
    exact ⟨0, Ar.new r, [], 0, [], [], [], by omega, rfl, ⟨Ar.ok_new hr, rfl, Nat.le_refl _, Nat.le_refl _, Nat.le_refl _, Bnd.nil _, Bnd.nil _, Bnd.nil _⟩, H4.out⟩
  case round =>
    clear H4
    obtain ⟨i, A, R, k, I, N, D, hig, rfl, HI, HA⟩ := hrel
    cases gk with
    | zero =>
      obtain rfl : i = n := by omega
      have hk3 := HI.out.k
      go_wp2_with fail
      refine (Sl.apart4 (HA.out.perm (List.Perm.swap _ _ _) |>.perm (List.Perm.refl _) |> fun h => Sl.perm h (List.Perm.swap _ _ _)) bkOkB_nil (HI.out.I.bk (by omega)) (HI.out.N.bk (by omega)) (HI.out.D.bk (by omega))).mono ?_
      rintro e w5 ⟨rfl, t5⟩
      have T5 := Lib.hid t5
      clear t5
      go_wp2_with fail
      refine (lives_is _).mono ?_
      rintro e wz ⟨rfl, tz⟩
      go_wp2
      go_ret
      exact ⟨rfl, T5.out.trans tz⟩
    | succ g1 =>
      have hin : (i : Int) < (n : Nat) := by omega
      have hi15 : i < 1500 := by omega
      obtain ⟨x, hx⟩ : ∃ x, acts[i]? = some x := ⟨_, List.getElem?_eq_getElem (by have := HN.out; omega)⟩
      have hrs0 : Rd w x.t_s_a (ints .i64 x.t_s) := by obtain ⟨_, _, _, h⟩ := HD.out i x hx; exact h.t_s_rd
      have hrl0 : Rd w x.t_l_a (ints .i32 x.t_l) := by obtain ⟨_, _, _, h⟩ := HD.out i x hx; exact h.t_l_rd
      obtain ⟨c, o, rfl, ha⟩ := (HD.out.touch HA.out.end) i x hx
      have hxl := HEa.out x (List.mem_of_getElem? hx)
      obtain ⟨xk, xd, xb, ts, tsa, tsc, tl, tla, tlc⟩ := x
      obtain ⟨ns, hns⟩ : ∃ ns, ts.length = ns := ⟨_, rfl⟩
      obtain ⟨nl, hnl⟩ : ∃ nl, tl.length = nl := ⟨_, rfl⟩
      dsimp only at hxl
      rw [hns, hnl] at hxl
      have hns6 : (ns : Int) ≤ 6000 := by omega
      have hnl6 : (nl : Int) ≤ 6000 := by omega
      have Hns := Lib.hid hns
      have Hnl := Lib.hid hnl
      have c0 : wr.cell? ⟨c, o + i * 5, none⟩ = some (.int .u8 (xk : Nat)) := ha.cell 0 (by decide)
      have c1 : wr.cell? ⟨c, o + i * 5 + 1, none⟩ = some (.int .u32 (xd : Nat)) := ha.cell 1 (by decide)
      have c2 : wr.cell? ⟨c, o + i * 5 + 2, none⟩ = some (.int .i64 xb) := ha.cell 2 (by decide)
      have c3 : wr.cell? ⟨c, o + i * 5 + 3, none⟩ = some (.slice tsa ns tsc) := by rw [← hns]; exact ha.cell 3 (by decide)
      have c4 : wr.cell? ⟨c, o + i * 5 + 4, none⟩ = some (.slice tla nl tlc) := by rw [← hnl]; exact ha.cell 4 (by decide)
      have Hd4 : Hid (xd < 4294967296) := ha.id_lt
      have Hbi : Hid (-9223372036854775808 ≤ xb ∧ xb ≤ 9223372036854775807) := ha.bytes_in
      have Hrs : Hid (∀ w', Touch No w w' → Rd w' tsa (ints .i64 ts)) := fun w' t => hrs0.no t
      have Hrl : Hid (∀ w', Touch No w w' → Rd w' tla (ints .i32 tl)) := fun w' t => hrl0.no t
      have hk8 : xk < 256 := ha.kind_lt
      clear ha hrs0 hrl0 hns hnl hx hxl
      go_upto_region 14 with fail
      obtain ⟨X, hX⟩ : ∃ X, X = wr.heap.size := ⟨_, rfl⟩
      obtain ⟨w3, hw3⟩ : ∃ w3, w3 = wr.alloc (.cells #[.int .u8 (xk : Nat), .int .u32 (xd : Nat), .int .i64 xb, .slice tsa ns tsc, .slice tla nl tlc] 77) := ⟨_, rfl⟩
      have S2 : Hid (Ars w w3 g A [Part.row X 77 [.int .u8 (xk : Nat), .int .u32 (xd : Nat), .int .i64 xb, .slice tsa ns tsc, .slice tla nl tlc], Part.ref24 h A.room A.used A.peak R, Part.book bk k [] I N D]) := by
        show Ars _ _ _ _ _
        rw [hw3, hX]
        exact HA.out.push (Born.row wr 77 #[.int .u8 (xk : Nat), .int .u32 (xd : Nat), .int .i64 xb, .slice tsa ns tsc, .slice tla nl tlc])
      rw [← hw3, ← hX]
      clear hw3 hX HA c0 c1 c2 c3 c4
      have R3 := S2.out.row List.mem_cons_self
      have k3 : w3.cell? ⟨X, 3, none⟩ = some (.slice tsa ns tsc) := R3.cell 3
      have k4 : w3.cell? ⟨X, 4, none⟩ = some (.slice tla nl tlc) := R3.cell 4
      clear R3
      go_wp2_with fail
      refine (S2.out.twin tsa tla ns tsc nl tlc ts tl Hns.out (by omega) (Hrs.out _ S2.out.end) Hnl.out (by omega) (Hrl.out _ S2.out.end)).mono ?_
      rintro e w4 ⟨sa, sc, la, lc, rfl, hsc, hlc, s4⟩
      have S4 := Lib.hid s4
      have Hsc : Hid (ns < sc ∧ nl < lc) := ⟨hsc, hlc⟩
      clear s4 S2 k3 k4 hsc hlc
      go_upto_region 15 with fail
      obtain ⟨Tb, hTb⟩ : ∃ T, T = w4.heap.size := ⟨_, rfl⟩
      obtain ⟨w5, hw5⟩ : ∃ w5, w5 = w4.alloc (.cells #[.slice sa ns sc, .slice la nl lc] 75) := ⟨_, rfl⟩
      have S5 : Hid (Ars w w5 g A [Part.row Tb 75 [.slice sa ns sc, .slice la nl lc], Part.sl 3 sa (ns + 1) sc (ints .i64 ts ++ [.int .i64 77]), Part.sl 21 la (nl + 1) lc (ints .i32 tl ++ [.int .i32 77]), Part.row X 77 [.int .u8 (xk : Nat), .int .u32 (xd : Nat), .int .i64 xb, .slice tsa ns tsc, .slice tla nl tlc], Part.ref24 h A.room A.used A.peak R, Part.book bk k [] I N D]) := by
        show Ars _ _ _ _ _
        rw [hw5, hTb]
        exact S4.out.push (Born.row w4 75 #[.slice sa ns sc, .slice la nl lc])
      rw [← hw5, ← hTb]
      clear hw5 hTb S4
      have S6 : Hid (Ars w w5 g A (Part.ref24 h A.room A.used A.peak R :: [Part.row Tb 75 [.slice sa ns sc, .slice la nl lc], Part.sl 3 sa (ns + 1) sc (ints .i64 ts ++ [.int .i64 77]), Part.sl 21 la (nl + 1) lc (ints .i32 tl ++ [.int .i32 77]), Part.row X 77 [.int .u8 (xk : Nat), .int .u32 (xd : Nat), .int .i64 xb, .slice tsa ns tsc, .slice tla nl tlc], Part.book bk k [] I N D])) := S5.out.perm (perm_front4 _ _ _ _ _ _)
      clear S5
      have HX : Hid (∀ (w' : World) (A' : Ar.Arena) (p : Part), Ars w w' g A' (p :: [Part.row Tb 75 [.slice sa ns sc, .slice la nl lc], Part.sl 3 sa (ns + 1) sc (ints .i64 ts ++ [.int .i64 77]), Part.sl 21 la (nl + 1) lc (ints .i32 tl ++ [.int .i32 77]), Part.row X 77 [.int .u8 (xk : Nat), .int .u32 (xd : Nat), .int .i64 xb, .slice tsa ns tsc, .slice tla nl tlc], Part.book bk k [] I N D]) → (w'.cell? ⟨X, 1, none⟩ = some (.int .u32 (xd : Nat)) ∧ w'.cell? ⟨X, 2, none⟩ = some (.int .i64 xb)) ∧ (w'.cell? ⟨X, 3, none⟩ = some (.slice tsa ns tsc) ∧ w'.cell? ⟨X, 4, none⟩ = some (.slice tla nl tlc)) ∧ w'.cell? ⟨Tb, 0, none⟩ = some (.slice sa ns sc) ∧ w'.cell? ⟨Tb, 1, none⟩ = some (.slice la nl lc)) := fun w' A' p hh => by
        have r1 := hh.row (List.mem_cons_of_mem _ (List.mem_cons_of_mem _ (List.mem_cons_of_mem _ (List.mem_cons_of_mem _ List.mem_cons_self))) : Part.row X 77 [.int .u8 (xk : Nat), .int .u32 (xd : Nat), .int .i64 xb, .slice tsa ns tsc, .slice tla nl tlc] ∈ _)
        have r2 := hh.row (List.mem_cons_of_mem _ List.mem_cons_self : Part.row Tb 75 [.slice sa ns sc, .slice la nl lc] ∈ _)
        exact ⟨⟨r1.cell 1, r1.cell 2⟩, ⟨r1.cell 3, r1.cell 4⟩, r2.cell 0, r2.cell 1⟩
      have k0 : w5.cell? ⟨X, 0, none⟩ = some (.int .u8 (xk : Nat)) := (S6.out.row (List.mem_cons_of_mem _ (List.mem_cons_of_mem _ (List.mem_cons_of_mem _ (List.mem_cons_of_mem _ List.mem_cons_self))) : Part.row X 77 [.int .u8 (xk : Nat), .int .u32 (xd : Nat), .int .i64 xb, .slice tsa ns tsc, .slice tla nl tlc] ∈ _)).cell 0
      obtain ⟨q, hq⟩ : ∃ q, xk % 9 = q := ⟨_, rfl⟩
      have hq9 : q < 9 := by rw [← hq]; exact Nat.mod_lt _ (by decide)
      have hkq : ((xk : Nat) : Int) % 9 = (q : Nat) := by omega
      have Hpu : Hid (A.puts < 1000000000) := by show _ < _; have := HI.out.puts; omega
      have Hi15 : Hid (i < 1500) := hi15
      clear hq
      go_upto_block 2 with fail
      go_cut [13, 14, 15, 16, 56] (fun s13 s14 s15 s16 s56 wx => ∃ (A' : Ar.Arena) (R' : List Ar.REnt) (k' : Nat) (I' N' : List HE), Hid (ApMid i A' R' k' I' N' D) ∧ Hid (Ars w wx g A' [Part.ref24 h A'.room A'.used A'.peak R', Part.book bk k' [] I' N' D]))
      case first =>
        have hcases : q = 4 ∨ (q = 5 ∨ q = 6 ∨ q = 7) ∨ q = 8 ∨ (q = 0 ∨ q = 1 ∨ q = 2 ∨ q = 3) := by omega
        rcases hcases with h4 | h5 | h8 | h0
        · subst h4
          obtain ⟨wc, hwc⟩ : ∃ wc, wc = w5 := ⟨_, rfl⟩
          subst hwc
          go_wp2_with fail
          have S2d := Lib.hid (S6.out.no (Touch.refl No wc).drew)
          have k1 := (HX.out _ _ _ S6.out).1.1
          have k1d := (HX.out _ _ _ S2d.out).1.1
          obtain ⟨v, hv⟩ : ∃ v, Ar.giveE A xd = v := ⟨_, rfl⟩
          have HV := Lib.hid hv
          clear hv
          go_region_held3 (fun w' => w'.cell? ⟨X, 1, none⟩ = some (.int .u32 (xd : Nat))) (first | exact k1 | exact k1d | exact (HX.out _ _ _ q6).1.1 | exact (HX.out _ _ _ q7).1.1) (first
            | (go_at_call 20; refine (S2d.out.giveK (xd : Nat) xd rfl Hd4.out _ (by rw [HV.out]) _ rfl).mono ?_; rintro e w6 ⟨rfl, q6⟩)
            | (go_at_call 21; refine (q6.giveR HI.out.ok HI.out.map HI.out.len (by have := Hi15.out; omega) (xd : Nat) xd rfl Hd4.out _ (by rw [HV.out]) _ rfl).mono ?_; rintro e w7 ⟨rfl, R', m1, m2, q7⟩; have M7 := Lib.hid (And.intro m1 m2); have Q7 := Lib.hid q7; clear m1 m2))
          all_goals
            clear S2d k1 k1d
            go_wp2_with fail
            go_meet
            exact ⟨Ar.giveA A xd, R', k, I, N, ⟨Ar.ok_give HI.out.ok xd, M7.out.1, Nat.le_succ_of_le M7.out.2, Nat.le_succ_of_le (by rw [giveA_puts]; exact HI.out.puts), by have := HI.out.k; omega, HI.out.I.mono (Nat.le_succ _), HI.out.N.mono (Nat.le_succ _), HI.out.D⟩, Ars.sub (E' := [Part.row Tb 75 [.slice sa ns sc, .slice la nl lc], Part.sl 3 sa (ns + 1) sc (ints .i64 ts ++ [.int .i64 77]), Part.sl 21 la (nl + 1) lc (ints .i32 tl ++ [.int .i32 77]), Part.row X 77 [.int .u8 (xk : Nat), .int .u32 (xd : Nat), .int .i64 xb, .slice tsa ns tsc, .slice tla nl tlc]]) (Q7.out.perm (perm_back4 _ _ _ _ _ _))⟩
        · obtain ⟨wc, hwc⟩ : ∃ wc, wc = w5 := ⟨_, rfl⟩
          subst hwc
          obtain ⟨v, hv⟩ : ∃ v, Ar.putE A xd ts tl = v := ⟨_, rfl⟩
          have HV := Lib.hid hv
          have hvv : ((v : Int) != (v : Int)) = false := by simp
          clear hv
          rcases h5 with rfl | rfl | rfl
          all_goals
            go_wp2_with fail
            have S2d := Lib.hid (S6.out.no (Touch.refl No wc).drew)
            have k1 := (HX.out _ _ _ S6.out)
            have k1d := (HX.out _ _ _ S2d.out)
            have aS := Lib.hid (apt_pre (apt_sl S2d.out ((by simp only [List.mem_cons, true_or, or_true]) : Part.sl 3 sa (ns + 1) sc (ints .i64 ts ++ [.int .i64 77]) ∈ _) (by have := Hsc.out.1; omega)))
            have aL := Lib.hid (apt_pre (apt_sl S2d.out ((by simp only [List.mem_cons, true_or, or_true]) : Part.sl 21 la (nl + 1) lc (ints .i32 tl ++ [.int .i32 77]) ∈ _) (by have := Hsc.out.2; omega)))
            go_region_held3 (fun w' => (w'.cell? ⟨X, 1, none⟩ = some (.int .u32 (xd : Nat)) ∧ w'.cell? ⟨X, 2, none⟩ = some (.int .i64 xb)) ∧ (w'.cell? ⟨X, 3, none⟩ = some (.slice tsa ns tsc) ∧ w'.cell? ⟨X, 4, none⟩ = some (.slice tla nl tlc)) ∧ w'.cell? ⟨Tb, 0, none⟩ = some (.slice sa ns sc) ∧ w'.cell? ⟨Tb, 1, none⟩ = some (.slice la nl lc)) (first | exact k1 | exact k1d | exact (HX.out _ _ _ q6) | exact (HX.out _ _ _ q8) | exact (HX.out _ _ _ q7)) (first
              | (go_at_call 22; refine (S2d.out.putK (xd : Nat) xd rfl Hd4.out sa la ns sc nl lc ts tl _ _ rfl rfl Hns.out (by omega) aS.out Hnl.out (by omega) aL.out Hpu.out _ (by rw [HV.out]) _ rfl).mono ?_; rintro e w6 ⟨rfl, q6⟩)
              | (go_at_call 23; refine (q6.putR HI.out.ok HI.out.map HI.out.len (by have := Hi15.out; omega) (xd : Nat) xd rfl Hd4.out tsa tla ns tsc nl tlc ts tl Hns.out (by omega) (Hrs.out _ q6.end) Hnl.out (by omega) (Hrl.out _ q6.end) _ (by rw [HV.out]) _ rfl).mono ?_; rintro e w7 ⟨rfl, R', m1, m2, q7⟩; have M7 := Lib.hid (And.intro m1 m2); clear m1 m2)
              | (go_at_call 24; refine (leftT_any _ sa la tsa tla ns sc nl lc tsc tlc ts tl Hns.out (by omega) Hsc.out.1 (Sl.rd q7 ((by simp only [List.mem_cons, true_or, or_true]) : Part.sl 3 sa (ns + 1) sc (ints .i64 ts ++ [.int .i64 77]) ∈ _)) Hnl.out (by omega) Hsc.out.2 (Sl.rd q7 ((by simp only [List.mem_cons, true_or, or_true]) : Part.sl 21 la (nl + 1) lc (ints .i32 tl ++ [.int .i32 77]) ∈ _)) (Hrs.out _ q7.end) (Hrl.out _ q7.end)).mono ?_; rintro e w8 ⟨rfl, t8⟩; have q8 := q7.no t8; have Q8 := Lib.hid q8; clear t8))
            all_goals
              clear S2d k1 k1d aS aL
              have y0 := (HX.out _ _ _ Q8.out).2.2.1
              have y1 := (HX.out _ _ _ Q8.out).2.2.2
              have B8 : Hid (Sl w _ (Part.book bk k [] I N D :: Part.sl 3 sa ns sc (ints .i64 ts) :: Part.sl 21 la nl lc (ints .i32 tl) :: [Part.arena g (Ar.putA A xd ts tl), Part.ref24 h (Ar.putA A xd ts tl).room (Ar.putA A xd ts tl).used (Ar.putA A xd ts tl).peak R', Part.row Tb 75 [.slice sa ns sc, .slice la nl lc], Part.row X 77 [.int .u8 (xk : Nat), .int .u32 (xd : Nat), .int .i64 xb, .slice tsa ns tsc, .slice tla nl tlc]])) := Sl.untwin3 (Sl.perm Q8.out (perm_told _ _ _ _ _ _ _))
              go_wp2_with fail
              refine (Sl.tensor B8.out (by have := HI.out.I.1; have := Hi15.out; omega) (by have := HI.out.N.1; have := Hi15.out; omega) (by have := HI.out.k; have := Hi15.out; omega)).mono ?_
              rintro e w9 ⟨rfl, q9⟩
              have Q9 := Lib.hid q9
              clear q9 B8 Q8 q8 q7 q6
              go_wp2_with fail
              go_meet
              exact ⟨Ar.putA A xd ts tl, R', k + 2, _, _, ⟨Ar.ok_put HI.out.ok Hd4.out ts tl, M7.out.1, Nat.le_succ_of_le M7.out.2, Nat.le_trans (putA_puts _ _ _ _) (Nat.succ_le_succ HI.out.puts), by have := HI.out.k; omega, HI.out.I.snoc (by have := HI.out.k; have := Hi15.out; show k + 1 ≤ 1000000; omega) (by show ns ≤ 10000000; omega), HI.out.N.snoc (by have := HI.out.k; have := Hi15.out; show k + 2 ≤ 1000000; omega) (by show nl ≤ 10000000; omega), HI.out.D⟩, Ars.sub (E' := [Part.row Tb 75 [.slice sa ns sc, .slice la nl lc], Part.row X 77 [.int .u8 (xk : Nat), .int .u32 (xd : Nat), .int .i64 xb, .slice tsa ns tsc, .slice tla nl tlc]]) (Sl.perm Q9.out (perm_told2 _ _ _ _ _))⟩
        · subst h8
          obtain ⟨wc, hwc⟩ : ∃ wc, wc = w5 := ⟨_, rfl⟩
          subst hwc
          obtain ⟨v, hv⟩ : ∃ v, Ar.getE A xd = v := ⟨_, rfl⟩
          obtain ⟨s, hs⟩ : ∃ s, Ar.getS A xd = s := ⟨_, rfl⟩
          obtain ⟨l, hl⟩ : ∃ l, Ar.getL A xd = l := ⟨_, rfl⟩
          obtain ⟨n1, hn1⟩ : ∃ n, s.length = n := ⟨_, rfl⟩
          obtain ⟨n2, hn2⟩ : ∃ n, l.length = n := ⟨_, rfl⟩
          have hsm := S6.out.small xd Hd4.out
          rw [hs, hl, hn1, hn2] at hsm
          have h14 : (n1 : Int) ≤ 4 := by omega
          have h24 : (n2 : Int) ≤ 4096 := by omega
          have HV := Lib.hid hv
          have HS := Lib.hid hs
          have HL := Lib.hid hl
          have HN1 := Lib.hid hn1
          have HN2 := Lib.hid hn2
          have hvv : ((v : Int) != (v : Int)) = false := by simp
          have k1 := (HX.out _ _ _ S6.out).1.1
          clear hv hs hl hn1 hn2 hsm
          go_wp2_with fail
          refine (S6.out.get2K (xd : Nat) xd rfl Hd4.out (v : Nat) (by rw [HV.out]) s l HS.out HL.out n1 n2 HN1.out HN2.out).mono ?_
          rintro e w6 ⟨pa, pb, rfl, q6⟩
          have Q6 := Lib.hid q6
          clear q6 k1
          go_upto_region 29 with fail
          obtain ⟨Pb, hPb⟩ : ∃ T, T = w6.heap.size := ⟨_, rfl⟩
          obtain ⟨w7, hw7⟩ : ∃ w7, w7 = w6.alloc (.cells #[.slice pa n1 n1, .slice pb n2 n2] 75) := ⟨_, rfl⟩
          have S7 : Hid (Ars w w7 g A (Part.ref24 h A.room A.used A.peak R :: Part.row Pb 75 [.slice pa n1 n1, .slice pb n2 n2] :: Part.sl 3 pa n1 n1 (ints .i64 s) :: Part.sl 21 pb n2 n2 (ints .i32 l) :: [Part.row Tb 75 [.slice sa ns sc, .slice la nl lc], Part.sl 3 sa (ns + 1) sc (ints .i64 ts ++ [.int .i64 77]), Part.sl 21 la (nl + 1) lc (ints .i32 tl ++ [.int .i32 77]), Part.row X 77 [.int .u8 (xk : Nat), .int .u32 (xd : Nat), .int .i64 xb, .slice tsa ns tsc, .slice tla nl tlc], Part.book bk k [] I N D])) := by
            show Ars _ _ _ _ _
            rw [hw7, hPb]
            exact (Q6.out.push (Born.row w6 75 #[.slice pa n1 n1, .slice pb n2 n2])).perm (perm_three _ _ _ _ _)
          rw [← hw7, ← hPb]
          clear hw7 hPb Q6
          have k1 : w7.cell? ⟨X, 1, none⟩ = some (.int .u32 (xd : Nat)) := (S7.out.row ((by simp only [List.mem_cons, true_or, or_true]) : Part.row X 77 [.int .u8 (xk : Nat), .int .u32 (xd : Nat), .int .i64 xb, .slice tsa ns tsc, .slice tla nl tlc] ∈ _)).cell 1
          go_wp2_with fail
          refine (S7.out.getR HI.out.ok HI.out.map HI.out.len (by have := Hi15.out; omega) (xd : Nat) xd rfl Hd4.out (v : Nat) (by rw [HV.out]) s l HS.out HL.out n1 n2 HN1.out HN2.out).mono ?_
          rintro e w8 ⟨qa, qc, qb, qd, rfl, r1, r2, t8⟩
          have T8 := Lib.hid t8
          have R1 := Lib.hid r1
          have R2 := Lib.hid r2
          clear t8 r1 r2 k1
          go_upto_region 30 with fail
          obtain ⟨Qb, hQb⟩ : ∃ T, T = w8.heap.size := ⟨_, rfl⟩
          obtain ⟨w9, hw9⟩ : ∃ w9, w9 = w8.alloc (.cells #[.slice qa n1 qc, .slice qb n2 qd] 75) := ⟨_, rfl⟩
          have t9 : Touch No w8 w9 := by rw [hw9]; exact (Touch.refl No w8).alloc _
          have b0 : w9.cell? ⟨Qb, 0, none⟩ = some (.slice qa n1 qc) := by rw [hw9, hQb, cell_new]; rfl
          have b1 : w9.cell? ⟨Qb, 1, none⟩ = some (.slice qb n2 qd) := by rw [hw9, hQb, cell_new]; rfl
          rw [← hw9, ← hQb]
          have T9 := Lib.hid t9
          clear hw9 hQb t9
          have S9 := Lib.hid (S7.out.no (T8.out.trans T9.out))
          have rp := S9.out.row ((by simp only [List.mem_cons, true_or, or_true]) : Part.row Pb 75 [.slice pa n1 n1, .slice pb n2 n2] ∈ _)
          have p0 : w9.cell? ⟨Pb, 0, none⟩ = some (.slice pa n1 n1) := rp.cell 0
          have p1 : w9.cell? ⟨Pb, 1, none⟩ = some (.slice pb n2 n2) := rp.cell 1
          clear rp
          go_wp2_with fail
          refine (sameT_any w9 pa pb qa qb n1 n1 n2 n2 qc qd s l HN1.out (by omega) (Sl.rd S9.out ((by simp only [List.mem_cons, true_or, or_true]) : Part.sl 3 pa n1 n1 (ints .i64 s) ∈ _)) HN2.out (by omega) (Sl.rd S9.out ((by simp only [List.mem_cons, true_or, or_true]) : Part.sl 21 pb n2 n2 (ints .i32 l) ∈ _)) (R1.out.no T9.out) (R2.out.no T9.out)).mono ?_
          rintro e w10 ⟨rfl, t10⟩
          have S10 := Lib.hid (S9.out.no t10)
          clear t10 b0 b1 p0 p1
          have rp := S10.out.row ((by simp only [List.mem_cons, true_or, or_true]) : Part.row Pb 75 [.slice pa n1 n1, .slice pb n2 n2] ∈ _)
          have p0 : w10.cell? ⟨Pb, 0, none⟩ = some (.slice pa n1 n1) := rp.cell 0
          have p1 : w10.cell? ⟨Pb, 1, none⟩ = some (.slice pb n2 n2) := rp.cell 1
          clear rp
          have B10 := Lib.hid (Sl.perm S10.out (perm_got _ _ _ _ _ _ _ _ _ _))
          go_wp2_with fail
          refine (Sl.tensor B10.out (by have := HI.out.I.1; have := Hi15.out; omega) (by have := HI.out.N.1; have := Hi15.out; omega) (by have := HI.out.k; have := Hi15.out; omega)).mono ?_
          rintro e w11 ⟨rfl, q11⟩
          have Q11 := Lib.hid q11
          clear q11 p0 p1 B10 S10 S9 S7
          go_wp2_with fail
          go_meet
          exact ⟨A, R, k + 2, _, _, ⟨HI.out.ok, HI.out.map, Nat.le_succ_of_le HI.out.len, Nat.le_succ_of_le HI.out.puts, by have := HI.out.k; omega, HI.out.I.snoc (by have := HI.out.k; have := Hi15.out; show k + 1 ≤ 1000000; omega) (by show n1 ≤ 10000000; omega), HI.out.N.snoc (by have := HI.out.k; have := Hi15.out; show k + 2 ≤ 1000000; omega) (by show n2 ≤ 10000000; omega), HI.out.D⟩, Ars.sub (E' := [Part.row Pb 75 [.slice pa n1 n1, .slice pb n2 n2], Part.row Tb 75 [.slice sa ns sc, .slice la nl lc], Part.sl 3 sa (ns + 1) sc (ints .i64 ts ++ [.int .i64 77]), Part.sl 21 la (nl + 1) lc (ints .i32 tl ++ [.int .i32 77]), Part.row X 77 [.int .u8 (xk : Nat), .int .u32 (xd : Nat), .int .i64 xb, .slice tsa ns tsc, .slice tla nl tlc]]) (Sl.perm Q11.out (perm_got2 _ _ _ _ _ _ _ _))⟩
        · obtain ⟨wc, hwc⟩ : ∃ wc, wc = w5 := ⟨_, rfl⟩
          subst hwc
          have q4 : q < 4 := by omega
          have e4 : ((q : Int) == 4) = false := by simp; omega
          have e5 : ((q : Int) == 5) = false := by simp; omega
          have e6 : ((q : Int) == 6) = false := by simp; omega
          have e7 : ((q : Int) == 7) = false := by simp; omega
          have e8 : ((q : Int) == 8) = false := by simp; omega
          clear h0
          obtain ⟨v, hv⟩ : ∃ v, Ar.takeE A xd xb = v := ⟨_, rfl⟩
          have HV := Lib.hid hv
          clear hv
          go_wp2_with fail
          have S2d := Lib.hid (S6.out.no (Touch.refl No wc).drew)
          have k1 := (HX.out _ _ _ S6.out).1
          have k1d := (HX.out _ _ _ S2d.out).1
          go_region_held3 (fun w' => w'.cell? ⟨X, 1, none⟩ = some (.int .u32 (xd : Nat)) ∧ w'.cell? ⟨X, 2, none⟩ = some (.int .i64 xb)) (first | exact k1 | exact k1d | exact (HX.out _ _ _ q6).1 | exact (HX.out _ _ _ q7).1) (first
            | (go_at_call 29; refine (S2d.out.takeK (xd : Nat) xd rfl Hd4.out xb Hbi.out Hpu.out _ (by rw [HV.out]) _ rfl).mono ?_; rintro e w6 ⟨rfl, q6⟩)
            | (go_at_call 30; refine (q6.takeR HI.out.ok HI.out.map HI.out.len (by have := Hi15.out; omega) (xd : Nat) xd rfl Hd4.out xb Hbi.out _ (by rw [HV.out]) _ rfl).mono ?_; rintro e w7 ⟨rfl, R', m1, m2, q7⟩; have M7 := Lib.hid (And.intro m1 m2); have Q7 := Lib.hid q7; clear m1 m2))
          all_goals
            clear S2d k1 k1d
            go_wp2_with fail
            go_meet
            exact ⟨Ar.takeA A xd xb, R', k, I, N, ⟨Ar.ok_take HI.out.ok Hd4.out xb, M7.out.1, M7.out.2, Nat.le_trans (takeA_puts _ _ _) (Nat.succ_le_succ HI.out.puts), by have := HI.out.k; omega, HI.out.I.mono (Nat.le_succ _), HI.out.N.mono (Nat.le_succ _), HI.out.D⟩, Ars.sub (E' := [Part.row Tb 75 [.slice sa ns sc, .slice la nl lc], Part.sl 3 sa (ns + 1) sc (ints .i64 ts ++ [.int .i64 77]), Part.sl 21 la (nl + 1) lc (ints .i32 tl ++ [.int .i32 77]), Part.row X 77 [.int .u8 (xk : Nat), .int .u32 (xd : Nat), .int .i64 xb, .slice tsa ns tsc, .slice tla nl tlc]]) (Q7.out.perm (perm_back4 _ _ _ _ _ _))⟩
      case rest =>
        obtain ⟨A', R', k', I', N', HJ, HA⟩ := hcut
        clear HI HX S6 Hpu k0 hkq hq9 Hsc Hrs Hrl Hns Hnl Hd4 Hbi hk8
        obtain ⟨m, hm⟩ : ∃ m, A'.its.length = m := ⟨_, rfl⟩
        have hRm : R'.length = m := by rw [← hm, ← HJ.out.map, List.length_map]
        have hm15 : m ≤ 1501 := by have := HJ.out.len; have := Hi15.out; omega
        obtain ⟨xs, hxs⟩ : ∃ xs, Ar.ids A'.its = xs := ⟨_, rfl⟩
        have hxr : (R'.map fun e => (e.id : Int)) = xs := by
          rw [← hxs, Ar.ids, ← HJ.out.map, List.map_map]; rfl
        have hxl : xs.length = m := by rw [← hxs, Ar.ids, List.length_map, hm]
        have hids := HA.out.ids2 (by rw [hm]; omega)
        rw [hm, hxs] at hids
        have HI := Lib.hid hids
        have HR := Lib.hid (And.intro hRm (And.intro hxr hxl))
        clear hids hm hxs hRm hxr hxl
        obtain ⟨us, hus⟩ : ∃ u, A'.used = u := ⟨_, rfl⟩
        obtain ⟨pk, hpk⟩ : ∃ u, A'.peak = u := ⟨_, rfl⟩
        have HU := Lib.hid (And.intro hus hpk)
        have huu : ((us : Int) != (us : Int)) = false := by simp
        have hpp : ((pk : Int) != (pk : Int)) = false := by simp
        clear hus hpk
        go_wp2_with fail
        refine HI.out.mono ?_
        rintro e w6 ⟨la', rfl, q6⟩
        have Q6 := Lib.hid q6
        clear q6 HI HA
        go_wp2_with fail
        refine (Q6.out.usedK (us : Nat) (by rw [HU.out.1])).mono ?_
        rintro e w7 ⟨rfl, q7⟩
        have Q7 := Lib.hid q7
        clear q7 Q6
        go_wp2_with fail
        refine ((Q7.out.perm (List.Perm.swap _ _ _)).usedR (us : Nat) (by rw [HU.out.1])).mono ?_
        rintro e w8 ⟨rfl, rfl⟩
        go_wp2_with fail
        refine (Q7.out.peakK (pk : Nat) (by rw [HU.out.2])).mono ?_
        rintro e w8 ⟨rfl, rfl⟩
        go_wp2_with fail
        refine ((Q7.out.perm (List.Perm.swap _ _ _)).peakR (pk : Nat) (by rw [HU.out.2])).mono ?_
        rintro e w8 ⟨rfl, rfl⟩
        go_wp2_with fail
        refine ((Q7.out.perm (List.Perm.swap _ _ _)).idsR (by rw [HR.out.1]; omega) xs HR.out.2.1 m HR.out.1).mono ?_
        rintro e w8 ⟨ra, rc, rfl, r8, t8⟩
        have R8 := Lib.hid r8
        have Q8 := Lib.hid (Q7.out.no t8)
        clear r8 t8 Q7
        go_wp2_with fail
        refine (same3D_any w8 la' ra m m rc xs HR.out.2.2 (by omega) (Sl.rd Q8.out (by simp only [List.mem_cons, true_or, or_true] : Part.sl 38 la' m m (ints .u32 xs) ∈ _)) R8.out).mono ?_
        rintro e w9 ⟨rfl, t9⟩
        have Q9 := Lib.hid (Sl.perm (Q8.out.no t9) (perm_ids _ _ _ _))
        clear t9 Q8 R8
        go_wp2_with fail
        refine (Sl.ids Q9.out (by have := HJ.out.D.1; have := Hi15.out; omega) (by have := HJ.out.k; have := Hi15.out; omega)).mono ?_
        rintro e w10 ⟨rfl, q10⟩
        have Q10 : Hid (Ars w w10 g A' [Part.ref24 h A'.room A'.used A'.peak R', Part.book bk (k' + 1) [] I' N' (D ++ [⟨la', m, m, k' + 1⟩])]) := Sl.perm q10 (perm_ids2 _ _ _)
        have HF : Hid (ApInv (i + 1) A' R' (k' + 1) I' N' (D ++ [⟨la', m, m, k' + 1⟩])) := ⟨HJ.out.ok, HJ.out.map, HJ.out.len, HJ.out.puts, by have := HJ.out.k; omega, HJ.out.I, HJ.out.N, HJ.out.D.snoc (by have := HJ.out.k; have := Hi15.out; show k' + 1 ≤ 1000000; omega) (by show m ≤ 10000000; omega)⟩
        clear q10 Q9 HJ HR HU
        go_wp2
        go_roundg g1
        case measure => omega
        case rel => exact ⟨i + 1, A', R', k' + 1, I', N', _, by omega, by go_num, HF.out, Q10.out⟩
end Go.Proofs.YtnffigfafalocaaGreatDoor
