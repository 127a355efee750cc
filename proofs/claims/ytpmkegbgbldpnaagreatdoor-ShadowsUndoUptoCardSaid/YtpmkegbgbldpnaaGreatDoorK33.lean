/-
  A store in memory, turned: its cells, its maps, its lists.
  The library's sort at uint32, walked: Ground, Walk0.
  The keys of a map at uint32, plain: turned from the plain layer at int.
-/
import Derived.Test.YtpmkegbgbldpnaaGreatDoorK32
import Derived.Test.YtpmkegbgbldpnaaGreatDoorProg
import Derived.Sort.Walk0
import Derived.Lib.BitFns
import Derived.Lib.Small
import Derived.Lib.Slices
import Derived.Lib.SlKeysI
namespace Go.Proofs.YtpmkegbgbldpnaaGreatDoor
open Go Go.RowKit Go.Maps
set_option linter.unusedSimpArgs false
set_option linter.unusedVariables false

section
variable {w w' : World} {s : Nat} {d f : Option Addr} {m : Sm} {nb : Option Nat} {bk : Nat} {ta : Option Addr} {tc : Nat} {L : Nat → Prop}
theorem StoIn.sb (h : StoIn w s d f m nb bk ta tc L) : ∀ b, nb = some b → ¬ One s b := fun b e => (h.now b e).2.2.1
theorem StoIn.os (h : StoIn w s d f m nb bk ta tc L) (k : Nat) (hk : One s k) : stoO s nb bk L k := Or.inl hk
/-- a cell of the struct -/
theorem StoIn.cell (h : StoIn w s d f m nb bk ta tc L) (o : Nat) (v : Value) {d' f' : Option Addr} {m' : Sm} {ta' : Option Addr} {tc' : Nat}
    (hr : [Value.pointer d, .int .u32 (m.epoch : Nat), .map nb, .map (some bk), .slice ta m.table.length tc, .pointer f].set o v = [.pointer d', .int .u32 (m'.epoch : Nat), .map nb, .map (some bk), .slice ta' m'.table.length tc', .pointer f'])
    (h1 : m'.now = m.now) (h2 : m'.puts = m.puts) (h3 : m'.kept = m.kept) (ht : ListAt w L ta' tc' m'.table) : StoIn (w.setCell ⟨s, o, none⟩ v) s d' f' m' nb bk ta' tc' L ∧ Touch (One s) w (w.setCell ⟨s, o, none⟩ v) := by
  have t : Touch (One s) w (w.setCell ⟨s, o, none⟩ v) := (Touch.refl (One s) w).setCell (p := ⟨s, o, none⟩) (fun _ => rfl) _
  have hL : ∀ k, L k → ¬ One s k := fun k hk e => h.ls (by rw [← show k = s from e]; exact hk)
  have hrow := h.row.setCell o v
  rw [hr] at hrow
  refine ⟨⟨hrow, fun b e => ⟨?_, (h.now b e).2⟩, ?_, ht.touch t hL (fun _ h => h), h.ls, h.lk, h.sk, fun k hk => Nat.lt_of_lt_of_le (h.llt k hk) t.size⟩, t⟩
  · rw [h1, h2]; exact (h.now b e).1.touch t (h.now b e).2.2.1 hL (fun _ h => h)
  · rw [h3]; exact h.kept.touch t (fun e => h.sk (show bk = s from e).symm) hL (fun _ h => h)
theorem StoIn.setEpoch (h : StoIn w s d f m nb bk ta tc L) (e : Nat) : StoIn (w.setCell ⟨s, 1, none⟩ (.int .u32 (e : Nat))) s d f ⟨e, m.now, m.puts, m.kept, m.table⟩ nb bk ta tc L ∧ Touch (One s) w (w.setCell ⟨s, 1, none⟩ (.int .u32 (e : Nat))) :=
  h.cell 1 _ rfl rfl rfl rfl h.tab
theorem StoIn.setTable (h : StoIn w s d f m nb bk ta tc L) (a : Option Addr) (n c : Nat) (l : List Nat) (hn : l.length = n) (hl : ListAt w L a c l) : StoIn (w.setCell ⟨s, 4, none⟩ (.slice a n c)) s d f ⟨m.epoch, m.now, m.puts, m.kept, l⟩ nb bk a c L ∧ Touch (One s) w (w.setCell ⟨s, 4, none⟩ (.slice a n c)) := by
  subst hn; exact h.cell 4 _ rfl rfl rfl rfl hl
theorem StoIn.setFree (h : StoIn w s d f m nb bk ta tc L) (f' : Option Addr) : StoIn (w.setCell ⟨s, 5, none⟩ (.pointer f')) s d f' m nb bk ta tc L ∧ Touch (One s) w (w.setCell ⟨s, 5, none⟩ (.pointer f')) :=
  h.cell 5 _ rfl rfl rfl rfl h.tab
/-- another map of what there is now -/
theorem StoIn.setNow (h : StoIn w s d f m nb bk ta tc L) (b n : Nat) (its : List (Nat × Sh.Th)) (hm : MapAtT w L b n its) (hL : ¬ L b) (hs : b ≠ s) (hk : b ≠ bk) : StoIn (w.setCell ⟨s, 2, none⟩ (.map (some b))) s d f ⟨m.epoch, its, n, m.kept, m.table⟩ (some b) bk ta tc L ∧ Touch (One s) w (w.setCell ⟨s, 2, none⟩ (.map (some b))) := by
  have t : Touch (One s) w (w.setCell ⟨s, 2, none⟩ (.map (some b))) := (Touch.refl (One s) w).setCell (p := ⟨s, 2, none⟩) (fun _ => rfl) _
  have hL' : ∀ k, L k → ¬ One s k := fun k hk e => h.ls (by rw [← show k = s from e]; exact hk)
  refine ⟨⟨h.row.setCell 2 _, fun b' e => ?_, h.kept.touch t (fun e => h.sk (show bk = s from e).symm) hL' (fun _ h => h), h.tab.touch t hL' (fun _ h => h), h.ls, h.lk, h.sk, fun k hk => Nat.lt_of_lt_of_le (h.llt k hk) t.size⟩, t⟩
  obtain rfl : b = b' := by simpa using e
  exact ⟨hm.touch t hs hL' (fun _ h => h), hL, hs, hk⟩
/-- the map of what there is now, written -/
theorem StoIn.mapNow {b : Nat} (h : StoIn w s d f m (some b) bk ta tc L) {n : Nat} {D : DataW Value} {its : List (Nat × Sh.Th)} {p : Nat} (hg : w.grownBy w' (some b)) (hn : n ≤ p) (hD : w'.ownsMap Tryz.prog 24 asHeld b n D) (hM : MapT w L D its) : StoIn w' s d f ⟨m.epoch, its, p, m.kept, m.table⟩ (some b) bk ta tc L ∧ Touch (One b) w w' := by
  have t : Touch (One b) w w' := (Touch.refl (One b) w).grown hg (fun k e _ => (Option.some.inj e).symm)
  obtain ⟨h1, h2, h3, h4⟩ := h.now b rfl
  have hL' : ∀ k, L k → ¬ One b k := fun k hk e => h2 (by rw [← show k = b from e]; exact hk)
  refine ⟨⟨h.row.touch t (fun e => h3 (show s = b from e).symm), fun b' e => ?_, h.kept.touch t (fun e => h4 (show bk = b from e).symm) hL' (fun _ h => h), h.tab.touch t hL' (fun _ h => h), h.ls, h.lk, h.sk, fun k hk => Nat.lt_of_lt_of_le (h.llt k hk) t.size⟩, t⟩
  obtain rfl : b = b' := by simpa using e
  exact ⟨⟨n, D, hn, hD, hM.touch t hL' (fun _ h => h)⟩, h2, h3, h4⟩
theorem StoIn.mapKept (h : StoIn w s d f m nb bk ta tc L) {n : Nat} {D : DataW Value} {its : List (Nat × Sh.Th)} (hg : w.grownBy w' (some bk)) (hn : n ≤ 5000) (hD : w'.ownsMap Tryz.prog 24 asHeld bk n D) (hM : MapT w L D its) : StoIn w' s d f ⟨m.epoch, m.now, m.puts, its, m.table⟩ nb bk ta tc L ∧ Touch (One bk) w w' := by
  have t : Touch (One bk) w w' := (Touch.refl (One bk) w).grown hg (fun k e _ => (Option.some.inj e).symm)
  have hL' : ∀ k, L k → ¬ One bk k := fun k hk e => h.lk (by rw [← show k = bk from e]; exact hk)
  exact ⟨⟨h.row.touch t (fun e => h.sk (show s = bk from e)), fun b e => ⟨(h.now b e).1.touch t (h.now b e).2.2.2 hL' (fun _ h => h), (h.now b e).2⟩, ⟨n, D, hn, hD, hM.touch t hL' (fun _ h => h)⟩, h.tab.touch t hL' (fun _ h => h), h.ls, h.lk, h.sk, fun k hk => Nat.lt_of_lt_of_le (h.llt k hk) t.size⟩, t⟩
/-- more blocks for lists -/
theorem StoIn.more (h : StoIn w s d f m nb bk ta tc L) {L' : Nat → Prop} (hL : ∀ k, L k → L' k) (hn : ∀ k, L' k → ¬ L k → k ≠ s ∧ k ≠ bk ∧ nb ≠ some k ∧ k < w.heap.size) : StoIn w s d f m nb bk ta tc L' := by
  have key : ∀ k, ¬ L k → k = s ∨ k = bk ∨ nb = some k → ¬ L' k := fun k hk hc hl => by
    obtain ⟨h1, h2, h3, _⟩ := hn k hl hk
    rcases hc with e | e | e
    · exact h1 e
    · exact h2 e
    · exact h3 e
  refine ⟨h.row, fun b e => ⟨(h.now b e).1.touch (Touch.refl No w) (fun f => f) (fun _ _ f => f) hL, key b (h.now b e).2.1 (Or.inr (Or.inr e)), (h.now b e).2.2⟩, h.kept.touch (Touch.refl No w) (fun f => f) (fun _ _ f => f) hL, h.tab.touch (Touch.refl No w) (fun _ _ f => f) hL, key s h.ls (Or.inl rfl), key bk h.lk (Or.inr (Or.inl rfl)), h.sk, fun k hk => ?_⟩
  by_cases hl : L k
  · exact h.llt k hl
  · exact (hn k hk hl).2.2.2
end
section
variable {w0 w w' : World} {s d : Nat} {D : Dk.Disk} {dd ff : Option Addr} {u : Bool} {m : Sm} {X : List (Option Addr × Nat × List Nat)} {E : List Part}
/-- a store taken up, turned and laid down again -/
theorem Dd.stoX (h : Dd w0 w d D (Part.stoX s dd ff u m X :: E)) : ∃ nb bk ta tc L, StoIn w s dd ff m nb bk ta tc L ∧ nb.isSome = u ∧ (∀ x ∈ X, ListAt w L x.1 x.2.1 x.2.2) ∧ (∀ k, stoO s nb bk L k → w0.heap.size ≤ k ∧ k < w.heap.size) ∧ (∀ q ∈ Part.disk d D :: E, ∃ C, q.P w C ∧ ∀ k, stoO s nb bk L k → ¬ C k) ∧
    ∀ w' dd' ff' u' m' X' nb' bk' ta' tc' L', StoIn w' s dd' ff' m' nb' bk' ta' tc' L' → nb'.isSome = u' → (∀ x ∈ X', ListAt w' L' x.1 x.2.1 x.2.2) → Touch (stoO s nb bk L) w w' → (∀ k, stoO s nb' bk' L' k → stoO s nb bk L k ∨ w.heap.size ≤ k) → Dd w0 w' d D (Part.stoX s dd' ff' u' m' X' :: E) := by
  obtain ⟨A, ⟨nb, bk, ta, tc, L, h1, h2, hx, h3⟩, hA, hq, hf⟩ := h.with
  refine ⟨nb, bk, ta, tc, L, h1, h2, hx, fun k hk => hA k ((h3 k).2 hk), fun q hq' => ?_, fun w' dd' ff' u' m' X' nb' bk' ta' tc' L' h1' h2' hx' t hin => ?_⟩
  · obtain ⟨C, hC, hd⟩ := hq q hq'
    exact ⟨C, hC, fun k hk => hd k ((h3 k).2 hk)⟩
  · exact hf w' [_] ⟨t.mono (fun k _ hk => (h3 k).2 hk), stoO s nb' bk' L', ⟨stoO s nb' bk' L', fun _ => False, ⟨nb', bk', ta', tc', L', h1', h2', hx', fun k => Iff.rfl⟩, trivial, fun _ _ f => f, fun _ h => h, fun _ f => f.elim⟩, fun k hk => (hin k hk).imp (fun h => (h3 k).2 h) id⟩
/-- two parts beside each other, as one -/
theorem Sl.merge {p q r : Part} {l : List Part} (h : Sl w0 w (p :: q :: l)) (hm : ∀ A B, p.P w A → q.P w B → (∀ k, A k → ¬ B k) → r.P w (fun k => A k ∨ B k)) : Sl w0 w (r :: l) := by
  obtain ⟨O, ⟨A, B, ha, ⟨C, G, hc, hg, hd2, h3, h4⟩, hd, h1, h2⟩, hO, t⟩ := h
  exact ⟨O, ⟨fun k => A k ∨ C k, G, hm A C ha hc (fun k hk hc' => hd k hk (h3 k hc')), hg, fun k hk hG => by
    rcases hk with hk | hk
    · exact hd k hk (h4 k hG)
    · exact hd2 k hk hG, fun k hk => by
    rcases hk with hk | hk
    · exact h1 k hk
    · exact h2 k (h3 k hk), fun k hk => h2 k (h4 k hk)⟩, hO, t⟩
/-- a list comes into its blocks -/
theorem Dd.stoList {a : Option Addr} {n c : Nat} {l : List Nat} (h : Dd w0 w d D (Part.stoX s dd ff u m X :: Part.sl 24 a n c (nums .u32 l) :: E)) : Dd w0 w d D (Part.stoX s dd ff u m ((a, c, l) :: X) :: E) := by
  have h1 : Sl w0 w (Part.stoX s dd ff u m X :: Part.sl 24 a n c (nums .u32 l) :: Part.disk d D :: E) := Sl.perm h ((List.Perm.swap _ _ _).trans ((List.Perm.swap _ _ _).cons _))
  refine Sl.perm (Sl.merge h1 (r := Part.stoX s dd ff u m ((a, c, l) :: X)) ?_) (List.Perm.swap _ _ _)
  rintro A B ⟨nb, bk, ta, tc, L, h1, h2, hx, h3⟩ hs hd
  have hl := sl_len hs
  have hr := sl_rd hs
  have hlt := (Part.sl 24 a n c (nums .u32 l)).lt hs
  obtain ⟨e1, e2, e3, e4, e5⟩ := hs
  rw [nums_length] at hl
  have hB : ∀ k, B k → k ≠ s ∧ k ≠ bk ∧ nb ≠ some k ∧ k < w.heap.size := fun k hk =>
    ⟨fun e => hd k ((h3 k).2 (Or.inl e)) hk, fun e => hd k ((h3 k).2 (Or.inr (Or.inr (Or.inl e)))) hk, fun e => hd k ((h3 k).2 (Or.inr (Or.inl e))) hk, hlt k hk⟩
  have hLa : ListAt w (fun k => L k ∨ B k) a c l := ⟨by have := hl.1; have := hl.2.1; omega, hl.2.2, hr, fun g' o' e h0 => by
    rcases e5 with e5 | ⟨g, o, cs, ha, hg, hcs, hO, hv⟩
    · exact absurd (List.eq_nil_of_length_eq_zero (by have := hl.1; have := hl.2.1; omega)) h0
    · rw [ha] at e; cases e; exact Or.inr hO⟩
  refine ⟨nb, bk, ta, tc, fun k => L k ∨ B k, h1.more (fun k => Or.inl) (fun k hk hn => hB k (hk.resolve_left hn)), h2, fun x hX => ?_, fun k => ?_⟩
  · rcases List.mem_cons.1 hX with rfl | hX
    · exact hLa
    · exact (hx x hX).touch (Touch.refl No w) (fun _ _ f => f) (fun k => Or.inl)
  · show A k ∨ B k ↔ stoO s nb bk (fun k => L k ∨ B k) k
    rw [h3]
    unfold stoO
    constructor
    · rintro ((e | e | e | e) | e)
      · exact Or.inl e
      · exact Or.inr (Or.inl e)
      · exact Or.inr (Or.inr (Or.inl e))
      · exact Or.inr (Or.inr (Or.inr (Or.inl e)))
      · exact Or.inr (Or.inr (Or.inr (Or.inr e)))
    · rintro (e | e | e | (e | e))
      · exact Or.inl (Or.inl e)
      · exact Or.inl (Or.inr (Or.inl e))
      · exact Or.inl (Or.inr (Or.inr (Or.inl e)))
      · exact Or.inl (Or.inr (Or.inr (Or.inr e)))
      · exact Or.inr e
end
end Go.Proofs.YtpmkegbgbldpnaaGreatDoor
namespace Go.Proofs.YtpmkegbgbldpnaaGreatDoor
open Go.Sort
set_option linter.unusedSimpArgs false
set_option linter.unusedVariables false

abbrev encU : Int → Value := fun x => Value.int .u32 x
set_option maxHeartbeats 4000000 in
set_option maxRecDepth 100000 in
theorem Su.bits_Len64 (x : Int) (w : World) (h0 : 0 ≤ x) (h1 : x ≤ 18446744073709551615) :
    Calls Tryz.prog 258 #[.int .u64 x] w fun e w' => e = .returned (.int .i64 (Lib.bitLen x.toNat)) ∧ w' = w := by
  go_enter Tryz.func258, Tryz.ntmps258
  go_wp2
  all_goals (go_ret; refine ⟨congrArg Ending.returned (congrArg (Value.int IntKind.i64) ?_), rfl⟩)
  all_goals first
    | (rw [Lib.len8_of (x / 4294967296 / 65536 / 256 % 256) (by omega) (by omega)]
       have e : (x / 4294967296 / 65536 / 256 % 256).toNat = x.toNat / 72057594037927936 := by omega
       have l := Lib.bitLen_le8' (x / 4294967296 / 65536 / 256 % 256) (by omega) (by omega)
       have s := Lib.bitLen_shift56 x.toNat (by omega) (by omega)
       rw [e] at l ⊢
       omega)
    | (rw [Lib.len8_of (x / 4294967296 / 65536 % 256) (by omega) (by omega)]
       have e : (x / 4294967296 / 65536 % 256).toNat = x.toNat / 281474976710656 := by omega
       have l := Lib.bitLen_le8' (x / 4294967296 / 65536 % 256) (by omega) (by omega)
       have s := Lib.bitLen_shift48 x.toNat (by omega) (by omega)
       rw [e] at l ⊢
       omega)
    | (rw [Lib.len8_of (x / 4294967296 / 256 % 256) (by omega) (by omega)]
       have e : (x / 4294967296 / 256 % 256).toNat = x.toNat / 1099511627776 := by omega
       have l := Lib.bitLen_le8' (x / 4294967296 / 256 % 256) (by omega) (by omega)
       have s := Lib.bitLen_shift40 x.toNat (by omega) (by omega)
       rw [e] at l ⊢
       omega)
    | (rw [Lib.len8_of (x / 4294967296 % 256) (by omega) (by omega)]
       have e : (x / 4294967296 % 256).toNat = x.toNat / 4294967296 := by omega
       have l := Lib.bitLen_le8' (x / 4294967296 % 256) (by omega) (by omega)
       have s := Lib.bitLen_shift32 x.toNat (by omega) (by omega)
       rw [e] at l ⊢
       omega)
    | (rw [Lib.len8_of (x / 65536 / 256 % 256) (by omega) (by omega)]
       have e : (x / 65536 / 256 % 256).toNat = x.toNat / 16777216 := by omega
       have l := Lib.bitLen_le8' (x / 65536 / 256 % 256) (by omega) (by omega)
       have s := Lib.bitLen_shift24 x.toNat (by omega) (by omega)
       rw [e] at l ⊢
       omega)
    | (rw [Lib.len8_of (x / 65536 % 256) (by omega) (by omega)]
       have e : (x / 65536 % 256).toNat = x.toNat / 65536 := by omega
       have l := Lib.bitLen_le8' (x / 65536 % 256) (by omega) (by omega)
       have s := Lib.bitLen_shift16 x.toNat (by omega) (by omega)
       rw [e] at l ⊢
       omega)
    | (rw [Lib.len8_of (x / 256 % 256) (by omega) (by omega)]
       have e : (x / 256 % 256).toNat = x.toNat / 256 := by omega
       have l := Lib.bitLen_le8' (x / 256 % 256) (by omega) (by omega)
       have s := Lib.bitLen_shift8 x.toNat (by omega) (by omega)
       rw [e] at l ⊢
       omega)
    | (rw [Lib.len8_of (x % 256) (by omega) (by omega)]
       have e : (x % 256).toNat = x.toNat := by omega
       have l := Lib.bitLen_le8' (x % 256) (by omega) (by omega)
       rw [e] at l ⊢
       omega)

theorem Su.bits_Len (x : Int) (w : World) (h0 : 0 ≤ x) (h1 : x ≤ 18446744073709551615) :
    Calls Tryz.prog 227 #[.int .u64 x] w fun e w' => e = .returned (.int .i64 (Lib.bitLen x.toNat)) ∧ w' = w := by
  go_enter Tryz.func227, Tryz.ntmps227
  go_wp2_with (go_at_call 258; refine (Su.bits_Len64 x _ h0 h1).mono ?_; rintro e w' ⟨rfl, rfl⟩)
  go_ret
  exact ⟨rfl, rfl⟩

set_option maxHeartbeats 1000000 in
theorem Su.cmp_isNaN_u (x : Int) (w : World) : Calls Tryz.prog 281 #[.int .u32 x] w fun e w' => e = .returned (.bool false) ∧ w' = w := by
  go_enter Tryz.func281, Tryz.ntmps281
  go_wp2
  go_ret
  exact ⟨by simp, rfl⟩

set_option maxHeartbeats 1000000 in
theorem Su.cmp_Less_u (x y : Int) (w : World) : Calls Tryz.prog 254 #[.int .u32 x, .int .u32 y] w fun e w' => e = .returned (.bool (Sort.ltInt x y)) ∧ w' = w := by
  go_enter Tryz.func254, Tryz.ntmps254
  go_wp2_with (go_at_call 281; refine (Su.cmp_isNaN_u _ _).mono ?_; rintro e w' ⟨rfl, rfl⟩)
  go_ret
  exact ⟨rfl, rfl⟩

end Go.Proofs.YtpmkegbgbldpnaaGreatDoor
namespace Go.Proofs.YtpmkegbgbldpnaaGreatDoor
open Go Go.Maps Go.Sort Go.RowKit
set_option linter.unusedSimpArgs false
set_option linter.unusedVariables false

theorem encU_inj {x y : Int} (h : encU x = encU y) : x = y := by simpa [encU] using h

theorem Maps.keyOf_u32 {P : Program} {k : TypeId} (hk : P.underlying k = some (.int .u32)) {key : Value} {kl : Lit} (h : keyOf P k key = some kl) : ∃ x : Int, key = encU x ∧ kl = .int .u32 x ∧ (Lit.int .u32 x).wf = true := by
  cases key <;> simp [keyOf, hk, mapKey] at h
  rename_i q a
  obtain ⟨⟨rfl, hw⟩, rfl⟩ := h
  exact ⟨a, rfl, rfl, hw⟩

theorem perm_intKeys_u {H : Type} {es : List (Lit × DataW H)} (hp : es.Pairwise (fun p q => p.1 ≠ q.1)) (hk : ∀ p ∈ es, ∃ x, p.1 = .int .u32 x) {ss : List Int} (hnd : ss.Nodup) (hm : ∀ x, x ∈ ss ↔ has (.map es) (.int .u32 x) = true) :
    ss.Perm (intKeys (.map es)) := by
  refine (List.perm_ext_iff_of_nodup hnd ?_).2 fun x => ?_
  · show (es.map fun p => intOf p.1).Nodup
    refine List.pairwise_map.2 (hp.imp_of_mem fun {p q} hp' hq' hne e => hne ?_)
    obtain ⟨a, ha⟩ := hk p hp'
    obtain ⟨b, hb⟩ := hk q hq'
    rw [ha, hb] at e ⊢
    exact congrArg _ e
  · rw [hm x, has_eq, List.any_eq_true]
    show _ ↔ x ∈ es.map fun p => intOf p.1
    rw [List.mem_map]
    constructor
    · rintro ⟨p, hp', hs⟩
      obtain ⟨a, ha⟩ := hk p hp'
      rw [ha] at hs
      exact ⟨p, hp', by rw [ha]; simpa [Lit.sameKey, intOf] using hs⟩
    · rintro ⟨p, hp', rfl⟩
      obtain ⟨a, ha⟩ := hk p hp'
      exact ⟨p, hp', by rw [ha]; simp [Lit.sameKey, intOf]⟩

def CollectedU {H : Type} (D0 : DataW H) (left : Lit → Bool) (ss : List Int) : Prop := ss.Nodup ∧ ∀ x, x ∈ ss ↔ (has D0 (.int .u32 x) = true ∧ left (.int .u32 x) = false)

section
variable {H : Type} {D0 : DataW H} {left : Lit → Bool} {ss : List Int}

theorem CollectedU.start (D0 : DataW H) : CollectedU D0 (has D0) [] := ⟨List.nodup_nil, fun x => by cases has D0 (.int .u32 x) <;> simp⟩

theorem CollectedU.step (h : CollectedU D0 left ss) {x : Int} {y : DataW H} (hlk : left (.int .u32 x) = true) (hat : ∀ zd, D0.atKey (.int .u32 x) zd = y) : CollectedU D0 (fun z => left z && !z.sameKey (.int .u32 x)) (ss ++ [x]) := by
  have hhas : has D0 (.int .u32 x) = true := has_true_of_atKey hat
  have hnew : x ∉ ss := fun hx => by have := ((h.2 x).1 hx).2; rw [hlk] at this; cases this
  refine ⟨List.nodup_append.2 ⟨h.1, by simp, fun a ha b hb => by simp at hb; subst hb; exact fun e => hnew (e ▸ ha)⟩, fun y => ?_⟩
  by_cases hy : y = x
  · subst hy; simp [hhas, Lit.sameKey]
  · simp [h.2 y, hy, Lit.sameKey]

variable {P : Program} {k : TypeId} {R : Value → Option (DataW H × List MemPlace)} {w : World} {b n : Nat}

theorem CollectedU.perm (h : CollectedU D0 left ss) (hown : w.ownsMap P k R b n D0) (K : Keyed P k) (hk : P.underlying k = some (.int .u32)) (hl : ∀ kl, left kl = false) : ss.Perm (intKeys D0) := by
  obtain ⟨es, hD, hpw, _⟩ := hown.entries K
  obtain ⟨es', hD', hko⟩ := hown.keysOf
  obtain rfl : es = es' := by rw [hD] at hD'; simpa using hD'
  subst hD
  exact perm_intKeys_u hpw (fun p hp => by obtain ⟨v, hv⟩ := hko p hp; obtain ⟨x, _, hx, _⟩ := Maps.keyOf_u32 hk hv; exact ⟨x, hx⟩) h.1 (fun x => by rw [h.2 x, hl]; simp)


end


theorem holds_of_block_i_u {w : World} {g : Nat} {cur : Array Value} {e : TypeId} {ss : List Int} (hb : w.heap[g]? = some (.cells cur e (0, 0))) (ht : cur.toList.take ss.length = ss.map encU) : Holds encU w g 0 ss.toArray := by
  intro j hj
  have hj' : j < ss.length := by simpa using hj
  refine ⟨?_, by simp [World.frozen?, hb]⟩
  have h1 : (cur.toList.take ss.length)[j]? = (ss.map encU)[j]? := by rw [ht]
  rw [List.getElem?_take_of_lt hj'] at h1
  simp only [World.cell?, hb, Nat.zero_add]
  simp only [Option.isSome_none, Bool.false_eq_true, if_false]
  rw [← Array.getElem?_toList, h1]
  simp [hj']

theorem heap_sorted_i_u {w : World} {g n : Nat} {os : Array Obj} {cur : Array Value} {e : TypeId} {fr : Nat × Nat} (d : Array Int) (hb : w.heap[g]? = some (.cells cur e fr)) :
    (grow (putRow encU (Sort.ahead w n) g 0 d) os).heap[g]? = some (.cells (putCells encU 0 d cur) e fr) := by
  have hg : g < w.heap.size := (Array.getElem?_eq_some_iff.1 hb).1
  rw [heap_grow_old _ _ (by simpa using hg)]
  simp [putRow, mapBlock, Sort.ahead, Array.getElem?_modify, hb, onCells]

theorem grownBy_sorted_i_u {w : World} {g n : Nat} {os : Array Obj} (d : Array Int) : w.grownBy (grow (putRow encU (Sort.ahead w n) g 0 d) os) (some g) := by
  refine ⟨rfl, rfl, rfl, by simp, fun k hk hne => ?_⟩
  rw [heap_grow_old _ _ (by simpa using hk)]
  have : g ≠ k := fun e => hne (by rw [e])
  simp [putRow, mapBlock, Sort.ahead, Array.getElem?_modify, this]

theorem take_putCells_i_u (cur : Array Value) (ts : List Int) (h : ts.length ≤ cur.size) : (putCells encU 0 ts.toArray cur).toList.take ts.length = ts.map encU := by
  apply List.ext_getElem?
  intro j
  by_cases hj : j < ts.length
  · rw [List.getElem?_take_of_lt hj, Array.getElem?_toList]
    simp [putCells, hj, show j < cur.size by omega]
  · rw [List.getElem?_take_eq_none (by omega), List.getElem?_eq_none (by simp; omega)]

theorem ownsRow_sorted_i_u {w : World} {base g cap n : Nat} {e : TypeId} {os : Array Obj} {cur : Array Value} {ss ts : List Int} (hl : ts.length = ss.length) (hbase : base ≤ g) (hb : w.heap[g]? = some (.cells cur e (0, 0)))
    (h1 : ss.length ≤ cap) (h2 : cap ≤ maxLen) (h3 : cur.size = cap * 1) :
    (grow (putRow encU (Sort.ahead w n) g 0 ts.toArray) os).ownsRow base e 1 (.slice (some ⟨g, 0, none⟩) ss.length cap) ss.length (ts.map encU) :=
  ⟨by simp [hl], .inr ⟨g, cap, _, rfl, hbase, heap_sorted_i_u _ hb, h1, h2, by simp [putCells, h3], by rw [Nat.mul_one, ← hl]; exact take_putCells_i_u cur ts (by omega)⟩⟩


end Go.Proofs.YtpmkegbgbldpnaaGreatDoor
