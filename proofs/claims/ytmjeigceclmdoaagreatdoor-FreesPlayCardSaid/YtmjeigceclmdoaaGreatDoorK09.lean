/-
  Package frees by its own text, sixth part: Give.
-/
import Derived.Test.YtmjeigceclmdoaaGreatDoorK08
namespace Go.Proofs.YtmjeigceclmdoaaGreatDoor
open Go.RowKit

/-- each of these is not free yet when it is given, one behind the other -/
def fresh (S : Nat → Bool) : List Nat → Bool
  | [] => true
  | x :: xs => !S x && fresh (Fr.flip S x) xs
theorem fresh_true : ∀ {xs : List Nat} {S : Nat → Bool}, fresh S xs = true ↔ xs.Nodup ∧ ∀ x ∈ xs, S x = false
  | [], S => by simp [fresh]
  | x :: xs, S => by
    simp only [fresh, Bool.and_eq_true, Bool.not_eq_true', List.nodup_cons, List.mem_cons, forall_eq_or_imp]
    rw [fresh_true]
    constructor
    · rintro ⟨h1, h2, h3⟩
      have hx : x ∉ xs := by
        intro h
        have := h3 x h
        simp [Fr.flip, h1] at this
      refine ⟨⟨hx, h2⟩, h1, fun y hy => ?_⟩
      have := h3 y hy
      have hne : y ≠ x := fun e => hx (e ▸ hy)
      simpa [Fr.flip, hne] using this
    · rintro ⟨⟨hx, h2⟩, h1, h3⟩
      refine ⟨h1, h2, fun y hy => ?_⟩
      have hne : y ≠ x := fun e => hx (e ▸ hy)
      simpa [Fr.flip, hne] using h3 y hy
theorem fresh_take {S : Nat → Bool} {xs : List Nat} {k : Nat} (hk : k < xs.length) (h : fresh S (xs.take k) = true) (hy : Fr.add S (xs.take k) (xs.getD k 0) = false) : fresh S (xs.take (k + 1)) = true := by
  have e : xs.take (k + 1) = xs.take k ++ [xs.getD k 0] := by
    rw [List.take_add_one, List.getElem?_eq_getElem hk, List.getD_eq_getElem?_getD, List.getElem?_eq_getElem hk]; rfl
  obtain ⟨h1, h2⟩ := fresh_true.1 h
  have h3 : S (xs.getD k 0) = false ∧ xs.getD k 0 ∉ xs.take k := by simpa [Fr.add] using hy
  rw [e]
  refine fresh_true.2 ⟨?_, fun x hx => ?_⟩
  · rw [List.nodup_append]
    refine ⟨h1, by simp, fun a ha b hb => ?_⟩
    have : b = xs.getD k 0 := by simpa using hb
    subst this
    exact fun e => h3.2 (e ▸ ha)
  · rcases List.mem_append.1 hx with hx | hx
    · exact h2 x hx
    · have : x = xs.getD k 0 := by simpa using hx
      subst this; exact h3.1
theorem fresh_not {S : Nat → Bool} {xs : List Nat} {k : Nat} (hk : k < xs.length) (hy : Fr.add S (xs.take k) (xs.getD k 0) = true) : fresh S xs = false := by
  cases hf : fresh S xs
  · rfl
  · obtain ⟨h1, h2⟩ := fresh_true.1 hf
    have hg : xs.getD k 0 = xs[k] := by rw [List.getD_eq_getElem?_getD, List.getElem?_eq_getElem hk]; rfl
    rw [hg] at hy
    have hm : xs[k] ∈ xs := List.getElem_mem hk
    have h3 : xs[k] ∈ xs.take k := by
      have := h2 _ hm
      simpa [Fr.add, this] using hy
    obtain ⟨j, hj, e⟩ := List.mem_iff_getElem.1 h3
    rw [List.length_take] at hj
    have hj' : j < k := by omega
    have e2 : (xs.take k)[j]'(by rw [List.length_take]; exact hj) = xs[j] := by simp
    rw [e2] at e
    exact absurd ((List.getElem_inj h1).1 e) (by omega)

/-- what Give says -/
def giveSays (first last : Nat) (S : Nat → Bool) (xs : List Nat) : Nat := if xs.all (inMap first last) then (if fresh S xs then 0 else 9) else 1
def giveSet (first last : Nat) (S : Nat → Bool) (xs : List Nat) : Nat → Bool := if giveSays first last S xs = 0 then Fr.add S xs else S
def GivePost (w : World) (b first last : Nat) (S : Nat → Bool) (xs : List Nat) (e : Ending) (w' : World) : Prop :=
  e = .returned (.int .i64 (giveSays first last S xs : Nat)) ∧ Touch (One b) w w' ∧ MapAt w' b first last (giveSet first last S xs)

theorem give_arg {w wr : World} {b first last k : Nat} {S : Nat → Bool} {xs : List Nat} (h : MapAt w b first last S) (ht : wr = w) (hk : k < xs.length) (hy : inMap first last (xs.getD k 0) = false) :
    GivePost w b first last S xs (.returned (.int .i64 1)) wr := by
  subst ht
  have hall : xs.all (inMap first last) = false := by
    rw [List.all_eq_false]
    refine ⟨xs[k], List.getElem_mem hk, ?_⟩
    rw [List.getD_eq_getElem?_getD, List.getElem?_eq_getElem hk] at hy
    simpa using hy
  have h1 : giveSays first last S xs = 1 := by simp [giveSays, hall]
  refine ⟨by rw [h1]; rfl, Touch.refl _ _, ?_⟩
  rw [giveSet, h1]; exact h
theorem give_state {w wr : World} {b first last k : Nat} {S : Nat → Bool} {xs : List Nat} (hall : xs.all (inMap first last) = true) (h : MapAt wr b first last S) (ht : Touch (One b) w wr) (hk : k < xs.length)
    (hy : Fr.add S (xs.take k) (xs.getD k 0) = true) : GivePost w b first last S xs (.returned (.int .i64 9)) wr := by
  have h1 : giveSays first last S xs = 9 := by simp [giveSays, hall, fresh_not hk hy]
  refine ⟨by rw [h1]; rfl, ht, ?_⟩
  rw [giveSet, h1]; exact h
theorem give_ok {w wr : World} {b first last : Nat} {S : Nat → Bool} {xs : List Nat} (hall : xs.all (inMap first last) = true) (h : MapAt wr b first last (Fr.add S xs)) (ht : Touch (One b) w wr) (hf : fresh S xs = true) :
    GivePost w b first last S xs (.returned (.int .i64 0)) wr := by
  have h1 : giveSays first last S xs = 0 := by simp [giveSays, hall, hf]
  refine ⟨by rw [h1]; rfl, ht, ?_⟩
  rw [giveSet, h1]; exact h

theorem nums_lt {xs : List Nat} {k : Nat} (h : ∀ x ∈ xs, x < 4294967296) : xs.getD k 0 < 4294967296 := by
  rw [List.getD_eq_getElem?_getD]
  cases hx : xs[k]? with
  | none => simp
  | some x => exact h x (List.mem_of_getElem? hx)
theorem take_getD {xs : List Nat} {k : Nat} (hk : k < xs.length) : xs.take (k + 1) = xs.take k ++ [xs.getD k 0] := by
  rw [List.take_add_one, List.getElem?_eq_getElem hk, List.getD_eq_getElem?_getD, List.getElem?_eq_getElem hk]; rfl
theorem all_getD {f : Nat → Bool} {xs : List Nat} {k : Nat} (hk : k < xs.length) (h : xs.all f = true) : f (xs.getD k 0) = true := by
  rw [List.getD_eq_getElem?_getD, List.getElem?_eq_getElem hk]
  exact List.all_eq_true.1 h _ (List.getElem_mem hk)

/-- given, and turned back from the first on -/
theorem add_back {S : Nat → Bool} {xs : List Nat} {k j : Nat} (hk : k ≤ xs.length) (hj : j < k) (h : fresh S (xs.take k) = true) :
    Fr.flip (Fr.add S ((xs.take k).drop j)) (xs.getD j 0) = Fr.add S ((xs.take k).drop (j + 1)) ∧ True := by
  obtain ⟨h1, h2⟩ := fresh_true.1 h
  have hlen : j < (xs.take k).length := by rw [List.length_take]; omega
  have hg : (xs.take k)[j] = xs.getD j 0 := by
    rw [List.getElem_take, List.getD_eq_getElem?_getD, List.getElem?_eq_getElem (by omega)]; rfl
  have hd : (xs.take k).drop j = xs.getD j 0 :: (xs.take k).drop (j + 1) := by
    rw [List.drop_eq_getElem_cons hlen, hg]
  have hn : xs.getD j 0 ∉ (xs.take k).drop (j + 1) := by
    have : ((xs.take k).drop j).Nodup := h1.sublist (List.drop_sublist _ _)
    rw [hd] at this
    exact (List.nodup_cons.1 this).1
  have hS : S (xs.getD j 0) = false := h2 _ (hg ▸ List.getElem_mem hlen)
  refine ⟨?_, trivial⟩
  rw [hd]
  generalize xs.getD j 0 = y at *
  generalize (xs.take k).drop (j + 1) = l at *
  funext q
  simp only [Fr.flip, Fr.add, List.contains_eq_mem, List.mem_cons]
  by_cases e : q = y
  · subst e; simp [hn, hS]
  · simp [e]

/-- Take, whatever is asked for -/
def takeSet (S : Nat → Bool) (n : Int) : Nat → Bool := if n < 0 then S else if (Fr.lst S).length < n then S else Fr.sub S ((Fr.lst S).take n.toNat)
def TakeAny (w : World) (b first last : Nat) (S : Nat → Bool) (n : Int) (e : Ending) (w' : World) : Prop :=
  ∃ v, e = .returned (.tuple #[v, .int .i64 (takeSays S n : Nat)]) ∧ Touch (One b) w w' ∧ MapAt w' b first last (takeSet S n)
theorem take_any (w : World) (b first last : Nat) (S : Nat → Bool) (n : Int) (h : MapAt w b first last S) (hT : TabAt w) :
    Calls Tryz.prog 33 #[.pointer (some ⟨b, 0, none⟩), .int .i64 n] w (TakeAny w b first last S n) := by
  by_cases h1 : n < 0
  · refine (take_bad w b first last S n h h1).mono fun e w' ⟨he, hw⟩ => ?_
    subst hw
    have e1 : takeSays S n = 1 := by simp [takeSays, h1]
    exact ⟨.slice none 0 0, by rw [he, e1]; rfl, Touch.refl _ _, by simp only [takeSet, h1, if_true]; exact h⟩
  · by_cases h2 : ((Fr.lst S).length : Int) < n
    · refine (take_full w b first last S n h h2).mono fun e w' ⟨he, hw⟩ => ?_
      subst hw
      have e1 : takeSays S n = 6 := by simp [takeSays, h1, h2]
      exact ⟨.slice none 0 0, by rw [he, e1]; rfl, Touch.refl _ _, by simp only [takeSet, h1, h2, if_true, if_false]; exact h⟩
    · obtain ⟨k, rfl⟩ := Int.eq_ofNat_of_zero_le (Int.not_lt.1 h1)
      refine (take_ok w b first last S k h hT (by omega)).mono fun e w' ⟨v, he, _, ht, hm⟩ => ?_
      have e1 : takeSays S (k : Nat) = 0 := by rw [takeSays, if_neg h1, if_neg h2]
      exact ⟨v, by rw [he, e1]; rfl, ht, by simp only [takeSet, h1, h2, if_false, Int.toNat_natCast]; exact hm⟩

set_option maxRecDepth 100000 in
set_option maxHeartbeats 2000000 in
theorem give_any (w : World) (b first last : Nat) (S : Nat → Bool) (a : Option Addr) (n cap : Nat) (xs : List Nat) (h : MapAt w b first last S) (hn : xs.length = n) (hcap : n ≤ cap) (hmax : (cap : Int) ≤ 9223372036854775807)
    (hr : Rd w a (nums .u32 xs)) (hoff : ∀ c o, a = some ⟨c, o, none⟩ → 0 < n → c ≠ b) (hx32 : ∀ x ∈ xs, x < 4294967296) :
    Calls Tryz.prog 39 #[.pointer (some ⟨b, 0, none⟩), .slice a n cap] w (GivePost w b first last S xs) := by
  have H := Lib.hid h; clear h
  have HN := Lib.hid hn; clear hn
  have HR := Lib.hid hr; clear hr
  have HO := Lib.hid hoff; clear hoff
  have HX := Lib.hid hx32; clear hx32
  go_enter Tryz.func39, Tryz.ntmps39
  go_wp2_with (go_at_call 143; refine (there_map _ _ _ _ _ H.out).mono ?_; rintro e w' ⟨rfl, rfl⟩)
  go_loopg [16] n (fun g s16 wr => ∃ k, k + g = n ∧ s16 = .int .i64 ((k : Nat) : Int) ∧ Hid (wr = w) ∧ Hid ((xs.take k).all (inMap first last) = true))
  case atStart => exact ⟨0, by omega, rfl, rfl, rfl⟩
  case round =>
    obtain ⟨k, hkg, rfl, hwr, hall⟩ := hrel
    have hww : w = wr := hwr.out.symm
    clear hwr
    subst hww
    cases gk with
    | succ g =>
      have hlt : (k : Int) < n := by omega
      have hkl : k < xs.length := by have := HN.out; omega
      obtain ⟨c, o, rfl, hc⟩ := HR.out.num hkl
      have hy32 := nums_lt (k := k) HX.out
      have Hall : Hid (inMap first last (xs.getD k 0) = true → (xs.take (k + 1)).all (inMap first last) = true) := fun hy => by
        have := hall.out
        rw [take_getD hkl, List.all_append, this]; simp only [List.all_cons, hy]; rfl
      have HArg : Hid (inMap first last (xs.getD k 0) = false → GivePost w b first last S xs (.returned (.int .i64 1)) w) := fun hy => give_arg H.out rfl hkl hy
      generalize xs.getD k 0 = y at *
      cases hin : inMap first last y
      · go_wp2_with (go_at_call 146; refine (of_any _ _ _ _ _ _ H.out hy32).mono ?_; rintro e w' ⟨rfl, rfl⟩)
        go_ret
        exact HArg.out hin
      · go_wp2_with (go_at_call 146; refine (of_any _ _ _ _ _ _ H.out hy32).mono ?_; rintro e w' ⟨rfl, rfl⟩)
        go_roundg g
        case measure => omega
        case rel => exact ⟨k + 1, by omega, by go_num, rfl, Hall.out hin⟩
    | zero =>
      obtain rfl : k = n := by omega
      have Hall : Hid (xs.all (inMap first last) = true) := by
        have := hall.out
        rwa [List.take_of_length_le (by have := HN.out; omega)] at this
      clear hall
      go_wp2
      go_loopg [27] k (fun g s27 wr => ∃ j, j + g = k ∧ s27 = .int .i64 ((j : Nat) : Int) ∧ Hid (Touch (One b) w wr) ∧ Hid (MapAt wr b first last (Fr.add S (xs.take j))) ∧ Hid (fresh S (xs.take j) = true))
      case atStart => exact ⟨0, by omega, rfl, Touch.refl _ _, by rw [List.take_zero, Fr.add_nil]; exact H.out, rfl⟩
      case round =>
        obtain ⟨j, hjg, rfl, T, M, Fh⟩ := hrel
        cases gk with
        | zero =>
          obtain rfl : j = k := by omega
          have Fin : Hid (GivePost w b first last S xs (.returned (.int .i64 0)) wr) := by
            have e : xs.take j = xs := List.take_of_length_le (by have := HN.out; omega)
            have h1 := M.out
            have h2 := Fh.out
            rw [e] at h1 h2
            exact give_ok Hall.out h1 T.out h2
          go_wp2
          go_ret
          exact Fin.out
        | succ g =>
          have hlt : (j : Int) < k := by omega
          have hkl : j < xs.length := by have := HN.out; omega
          obtain ⟨c, o, rfl, hc0⟩ := HR.out.num hkl
          have hc := T.out.cell (HO.out c o rfl (by omega)) hc0
          clear hc0
          have hy32 := nums_lt (k := j) HX.out
          have Hin := Lib.hid (inMap_true.1 (all_getD hkl Hall.out))
          have HState : Hid (∀ wx, Fr.add S (xs.take j) (xs.getD j 0) = true → MapAt wx b first last S → Touch (One b) w wx → GivePost w b first last S xs (.returned (.int .i64 9)) wx) := fun wx hy hm ht => give_state Hall.out hm ht hkl hy
          have HNext : Hid (Fr.add S (xs.take j) (xs.getD j 0) = false → fresh S (xs.take (j + 1)) = true ∧ Fr.flip (Fr.add S (xs.take j)) (xs.getD j 0) = Fr.add S (xs.take (j + 1))) := fun hy =>
            ⟨fresh_take hkl Fh.out hy, by rw [Fr.flip_add hy, ← take_getD hkl]⟩
          generalize xs.getD j 0 = y at *
          cases hS : Fr.add S (xs.take j) y
          · have HS := Lib.hid hS
            go_wp2_with (first
              | (go_at_call 43; refine (is_any _ _ _ _ _ _ M.out hy32).mono ?_; rintro e w' ⟨rfl, rfl⟩)
              | (go_at_call 142; refine (turn_at _ _ _ _ _ _ _ M.out Hin.out rfl).mono ?_; rintro e w2 ⟨rfl, ht2, hm2⟩))
            go_roundg g
            case measure => omega
            case rel =>
              obtain ⟨n1, n2⟩ := HNext.out HS.out
              exact ⟨j + 1, by omega, by go_num, T.out.trans ht2, by rw [← n2]; exact hm2, n1⟩
          · have HS := Lib.hid hS
            have hjc : (j : Int) ≤ cap := by omega
            go_wp2_with (go_at_call 43; refine (is_any _ _ _ _ _ _ M.out hy32).mono ?_; rintro e w' ⟨rfl, rfl⟩)
            obtain ⟨w1, rfl⟩ : ∃ w1 : World, w1 = wr := ⟨_, rfl⟩
            go_loopg [39] j (fun g s39 wx => ∃ i, i + g = j ∧ s39 = .int .i64 ((i : Nat) : Int) ∧ Hid (Touch (One b) w wx) ∧ Hid (MapAt wx b first last (Fr.add S ((xs.take j).drop i))))
            case atStart => exact ⟨0, by omega, rfl, T, by rw [List.drop_zero]; exact M⟩
            case round =>
              clear T M hc
              obtain ⟨i, hig, rfl, T, M⟩ := hrel
              cases gk with
              | zero =>
                obtain rfl : i = j := by omega
                have Fin : Hid (GivePost w b first last S xs (.returned (.int .i64 9)) wr) := by
                  have h1 := M.out
                  rw [List.drop_of_length_le (by rw [List.length_take]; omega), Fr.add_nil] at h1
                  exact HState.out _ HS.out h1 T.out
                go_wp2
                go_ret
                exact Fin.out
              | succ g' =>
                have hlt2 : (i : Int) < j := by omega
                have hil : i < xs.length := by omega
                obtain ⟨c1, o1, e1, hc0⟩ := HR.out.num hil
                simp only [Option.some.injEq, Addr.mk.injEq, and_true] at e1
                obtain ⟨rfl, rfl⟩ := e1
                have hc := T.out.cell (HO.out _ _ rfl (by omega)) hc0
                clear hc0
                have Hin2 := Lib.hid (inMap_true.1 (all_getD hil Hall.out))
                have Hb := Lib.hid (add_back (S := S) (xs := xs) (k := j) (j := i) (by omega) (by omega) Fh.out).1
                generalize xs.getD i 0 = z at *
                go_wp2_with (go_at_call 142; refine (turn_at _ _ _ _ _ _ _ M.out Hin2.out rfl).mono ?_; rintro e w2 ⟨rfl, ht2, hm2⟩)
                go_roundg g'
                case measure => omega
                case rel => exact ⟨i + 1, by omega, by go_num, T.out.trans ht2, by rw [← Hb.out]; exact hm2⟩
end Go.Proofs.YtmjeigceclmdoaaGreatDoor
