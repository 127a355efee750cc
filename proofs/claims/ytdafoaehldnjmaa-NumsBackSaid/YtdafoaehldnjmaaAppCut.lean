/-
  append to what stands behind the first ones of a slice of the call's own. No program in sight.
-/
import Derived.Test.YtdafoaehldnjmaaNumA
import Derived.Deep.MidRow
import Derived.ArgAppend
namespace Go.Proofs.Ytdafoaehldnjmaa
open Go Go.RowKit
set_option linter.unusedSimpArgs false

theorem Touch.setCells {F : Nat → Prop} {a : World} (b : Nat) (hb : b < a.heap.size → F b) : ∀ (vs : List Value) (o : Nat) {w : World}, Touch F a w → Touch F a (w.setCells b o vs)
  | [], _, _, h => h
  | v :: r, o, _, h => Touch.setCells b hb r (o + 1) (h.setCell (p := ⟨b, o, none⟩) hb v)

def CutPost (w : World) (v : Value) (N : Nat) (vs : List Value) (v' : Value) (w' : World) : Prop :=
  ∃ a c, v' = .slice a N c ∧ N ≤ c ∧ (c : Int) ≤ 9223372036854775807 ∧ Rd w' a vs ∧ Touch (InBlock v) w w'

section
variable {P : Program} {w : World}
theorem run_append_cut (base : Nat) (t ty e : TypeId) (i : TypeInfo) (z : Value) (bytes : Nat) (ht : P.underlying t = some (.slice e)) (hi : P.info? e = some i) (hz : i.zero = some z) (hsize : i.size = 1) (hby : i.bytes = bytes) (hzs : z.cells.size = 1)
    (a : Option Addr) (n c : Nat) (vs : List Value) (hown : Own w base e (.slice a n c) vs) (k : Nat) (hk : k < n) (ad : Option Addr) (m cc : Nat) (us : List Value) (hl : us.length = m) (hr : Rd w ad us) (h1 : ∀ u ∈ us, u.oneCell' = true)
    (h63 : n + m ≤ maxLen) (hbytes : (n + m) * bytes ≤ 140737488355328) (N : Nat) (hN : n - k + m = N) :
    ∃ v' w', (Builtin.append_ #[t, t] ty #[.slice (cutAddr a c k) (n - k) (c - k), .slice ad m cc]).run P w = .ok v' w' ∧ CutPost w (.slice a n c) N (vs.drop k ++ us) v' w' := by
  subst hN
  obtain ⟨hnc, hcm, hvl⟩ := hown.room
  obtain ⟨hl0, h⟩ := hown
  rcases h with ⟨h1', h0⟩ | ⟨g, cap, cur, hv, hg, hh, hn1, hn2, hn3, hn4⟩
  · cases h1'; omega
  · simp only [Value.slice.injEq] at hv
    obtain ⟨rfl, _, rfl⟩ := hv
    have hck : ¬ c = k := by omega
    have haddr : cutAddr (some ⟨g, 0, none⟩) c k = some ⟨g, k, none⟩ := by
      rw [cutAddr, if_neg hck, Option.map_some, add_off, Nat.zero_add]
    rw [haddr]
    have hcur : ∀ j u, (vs.drop k)[j]? = some u → w.cell? ⟨g, k + j, none⟩ = some u := fun j u hj => by
      rw [List.getElem?_drop] at hj
      have hjl : k + j < vs.length := by
        rcases Nat.lt_or_ge (k + j) vs.length with h | h
        · exact h
        · rw [List.getElem?_eq_none h] at hj; cases hj
      rw [← hn4, List.getElem?_take_of_lt (by omega)] at hj
      simp only [World.cell?, hh]
      simpa using hj
    have hdl : (vs.drop k).length = n - k := by rw [List.length_drop]; omega
    cases ad with
    | none =>
      have hus : us = [] := by
        cases us with
        | nil => rfl
        | cons u r => obtain ⟨b, o, e1, _⟩ := hr 0 u rfl; cases e1
      subst hus
      obtain rfl : m = 0 := by simpa using hl.symm
      have hroom : n - k ≤ c - k := by omega
      refine ⟨.slice (some ⟨g, k, none⟩) (n - k) (c - k), w, ?_, some ⟨g, k, none⟩, c - k, rfl, by omega, by omega, ?_, Touch.refl _ _⟩
      · simp [Builtin.append_, run_underlying ht, sizeOf, typeInfo, hi, Builtin.lenOf, hroom, Builtin.firstCells, storeCells]
      · rw [List.append_nil]
        exact fun j u hj => ⟨g, k, rfl, hcur j u hj⟩
    | some ad =>
      have hnews : ∀ j u, us[j]? = some u → w.cell? (ad.add j) = some u := fun j u hj => by
        obtain ⟨b, o, e1, hc⟩ := hr j u hj
        cases e1
        rw [add_off]; exact hc
      by_cases hroom : (n - k) + m ≤ c - k
      · have hsome : ∀ j, j < us.length → (w.cell? ⟨g, k + (n - k) * i.size + j, none⟩).isSome = true := fun j hj => by
          simp only [World.cell?, hh, hsize]
          rw [Array.getElem?_eq_getElem (by omega)]
          simp
        have hsoft : ∀ j, j < us.length → w.frozen? ⟨g, k + (n - k) * i.size + j, none⟩ = false := fun j hj => by
          simp [World.frozen?, hh]
        have hrun := run_append_room_cells (P := P) w t ty e i ht hi g k (n - k) (c - k) ad m cc us (by rw [hsize]; omega) hnews h1 hroom hsome hsoft
        refine ⟨_, _, hrun, some ⟨g, k, none⟩, c - k, rfl, hroom, by omega, fun j u hj => ⟨g, k, rfl, ?_⟩, Touch.setCells (F := InBlock (.slice (some ⟨g, 0, none⟩) n c)) g (fun _ => rfl) us _ (Touch.refl _ _)⟩
        by_cases hjn : j < n - k
        · rw [List.getElem?_append_left (by omega)] at hj
          rw [World.cell?_setCells_out g us _ w ⟨g, k + j, none⟩ (fun _ _ => Or.inl (by rw [hsize]; show k + j < _; omega))]
          exact hcur j u hj
        · rw [List.getElem?_append_right (by omega), hdl] at hj
          have hjl : j - (n - k) < us.length := by
            rcases Nat.lt_or_ge (j - (n - k)) us.length with h | h
            · exact h
            · rw [List.getElem?_eq_none h] at hj; cases hj
          have := World.rangeAt_setCells_same w g (k + (n - k) * i.size) us (fun j hj => ⟨hsome j hj, hsoft j hj⟩) _ _ hj
          rw [hsize] at this ⊢
          rw [show k + (n - k) * 1 + (j - (n - k)) = k + j by omega] at this
          exact this
      · obtain ⟨v', w', hrun, ho, hgr⟩ := run_append_arg_grows (P := P) w t ty e i z 1 bytes ht hi hz hsize hby hzs (by decide) ⟨g, k, none⟩ (n - k) (c - k) (vs.drop k) (by omega) (fun j u hj => by rw [add_off]; exact hcur j u hj) ad m cc us (by omega) hnews (by omega) (by omega) (Nat.le_trans (Nat.mul_le_mul_right _ (by omega)) hbytes)
        have ho' : Own w' w.heap.size e v' (vs.drop k ++ us) := by
          rw [Own, List.length_append, hdl, hl]; exact ho
        obtain ⟨a', c', rfl, _⟩ := ho'.form' (n := n - k + m) (by rw [List.length_append, hdl, hl])
        obtain ⟨q1, q2, _⟩ := ho'.room
        exact ⟨_, _, hrun, a', c', rfl, q1, q2, ho'.rd, (Touch.refl _ _).grown hgr (fun _ e => by cases e)⟩

theorem step_append_cut {ops : Array Oper} {o : Oper} {a : Act} {K : Act → World → Prop} {Q : Exit → Act → World → Prop} {E : Prop} (hw : Region.wanted o (yielded ops a.tmps) = true) (s x : Operand) (t : TypeId) (ho : o.op = .call { callee := .builtin .append, args := #[s, x], argTypes := #[t, t] })
    (base : Nat) (e : TypeId) (i : TypeInfo) (z : Value) (bytes : Nat) (ht : P.underlying t = some (.slice e)) (hi : P.info? e = some i) (hz : i.zero = some z) (hsize : i.size = 1) (hby : i.bytes = bytes) (hzs : z.cells.size = 1)
    (av : Option Addr) (n c : Nat) (vs : List Value) (hown : Own w base e (.slice av n c) vs) (k l : Nat) (hk : k < n) (hnk : n - k = l) (hs : a.eval s = .slice (cutAddr av c k) l (c - k)) (ad : Option Addr) (m cc : Nat) (us : List Value) (hx : a.eval x = .slice ad m cc) (hl : us.length = m) (hr : Rd w ad us) (h1 : ∀ u ∈ us, u.oneCell' = true)
    (h63 : n + m ≤ maxLen) (hbytes : (n + m) * bytes ≤ 140737488355328) (N : Nat) (hN : n - k + m = N)
    (h : ∀ a' c' w', N ≤ c' → (c' : Int) ≤ 9223372036854775807 → Rd w' a' (vs.drop k ++ us) → Touch (InBlock (.slice av n c)) w w' → K (a.put o.dst (.slice a' N c')) w') : if Region.wanted o (yielded ops a.tmps) = true then Oper.wp P o a w K Q else E := by
  subst hnk
  rw [if_pos hw]
  exact wp_append_run s x t t ho _ _ hs hx (R := fun v' w' => CutPost w (.slice av n c) N (vs.drop k ++ us) v' w') (run_append_cut base t _ e i z bytes ht hi hz hsize hby hzs av n c vs hown k hk ad m cc us hl hr h1 h63 hbytes N hN) fun v' w' ⟨a', c', h1, h2, h3, h4, h5⟩ => by subst h1; exact h a' c' w' h2 h3 h4 h5
end
end Go.Proofs.Ytdafoaehldnjmaa
