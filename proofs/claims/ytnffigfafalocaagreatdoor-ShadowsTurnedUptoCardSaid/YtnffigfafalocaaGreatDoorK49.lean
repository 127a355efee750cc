/-
  One byte of a store's disk, turned: plain.
  Package drydocklaw18 by its own text: the walk of ShadowsSure.
-/
import Derived.Test.YtnffigfafalocaaGreatDoorK48
namespace Go.Proofs.YtnffigfafalocaaGreatDoor
set_option maxRecDepth 100000
open Go Go.RowKit
set_option linter.unusedSimpArgs false
set_option linter.unusedVariables false
namespace Rt
theorem mark_one {p x : Nat} : ((List.replicate 64 0).set p x).take 4 ≠ mark := by
  intro e
  have h : ∀ i, i < 4 → ((List.replicate 64 0).set p x).getD i 0 = mark.getD i 0 := fun i hi => by
    rw [← e, List.getD_eq_getElem?_getD, List.getD_eq_getElem?_getD, List.getElem?_take, if_pos hi]
  have h0 := h 0 (by decide)
  have h1 := h 1 (by decide)
  simp only [List.getD_eq_getElem?_getD, List.getElem?_set, mark, List.length_replicate] at h0 h1
  by_cases e0 : p = 0
  · subst e0; simp at h1
  · rw [if_neg e0] at h0; simp at h0
theorem find_say {D : Dk.Disk} (h8 : 8 ≤ D.seen.length) {s : Nat} (hs : s < 2) (er : Nat) (hne : er ≠ 0) (he : sayE (Dk.at_ D.seen s) = er) (ho : sayE (Dk.at_ D.seen (1 - s)) = 0) : findE D = er := by
  have : s = 0 ∨ s = 1 := by omega
  rcases this with rfl | rfl
  · rw [findE, if_neg (by omega), he, if_pos hne]
  · have ho : sayE (Dk.at_ D.seen 0) = 0 := ho
    rw [findE, if_neg (by omega), if_neg (fun h => h ho), he, if_pos hne]
theorem set_not (r : Root) (p v : Nat) : nought ((put r).set p v) = false := by
  match p with
  | 0 => simp [nought, put, head, mark]
  | p + 1 => simp [nought, put, head, mark]
/-- a root that stands in the first sector, the second one empty, and a byte of the two turned -/
theorem rot_first {D : Dk.Disk} {q : Root} {s p x : Nat} (h8 : 8 ≤ D.seen.length) (h0 : Dk.at_ D.seen 0 = ⟨put q, 0⟩) (h1 : Dk.at_ D.seen 1 = Dk.noughts) (hq : q.Ok) (hs : s < 2) (hp : p < 64) (hx : x < 256) (hx0 : x ≠ 0) : findE (Dk.rot D s p x) = 4 ∨ findE (Dk.rot D s p x) = 11 := by
  have hl : s < D.seen.length := by omega
  have hS : (Dk.rot D s p x).seen = D.seen.set s (Dk.turnS p x (Dk.at_ D.seen s)) := rfl
  have hlen : 8 ≤ (Dk.rot D s p x).seen.length := by rw [hS, List.length_set]; exact h8
  have hs2 : s = 0 ∨ s = 1 := by omega
  rcases hs2 with rfl | rfl
  · obtain ⟨v, hv⟩ : ∃ v, (put q).getD p 0 ^^^ x = v := ⟨_, rfl⟩
    have hg : (put q).getD p 0 < 256 := by
      rw [List.getD_eq_getElem?_getD, List.getElem?_eq_getElem (by rw [put_length]; exact hp)]
      exact put_lt _ _ (List.getElem_mem _)
    have hv256 : v < 256 := by rw [← hv]; exact Nat.xor_lt_two_pow (n := 8) hg hx
    have hne : v ≠ (put q).getD p 0 := by
      rw [← hv]
      intro e
      exact hx0 (xor_cancel (e.trans (Nat.xor_zero _).symm))
    have hsay : sayE (Dk.at_ (Dk.rot D 0 p x).seen 0) = errOf ((put q).set p v) := by
      rw [hS, at_set_same _ _ _ hl, sayE, h0]
      have e1 : (Dk.turnS p x ⟨put q, 0⟩).bad = 0 := rfl
      have e2 : (Dk.turnS p x ⟨put q, 0⟩).b = (put q).set p v := by
        show Dk.turnB (put q) p x = _
        rw [Dk.turnB, hv]
      rw [e1, e2, if_neg (by decide), set_not, if_neg (by decide)]
    have ho : sayE (Dk.at_ (Dk.rot D 0 p x).seen (1 - 0)) = 0 := by
      rw [hS, at_set_other _ _ _ _ (by omega)]
      show sayE (Dk.at_ D.seen 1) = 0
      rw [h1]; exact say_no.1
    rcases turned_err q hp hv256 hne with e | e
    · exact Or.inl (find_say hlen hs 4 (by decide) (hsay.trans e) ho)
    · exact Or.inr (find_say hlen hs 11 (by decide) (hsay.trans e) ho)
  · have hsay : sayE (Dk.at_ (Dk.rot D 1 p x).seen 1) = 4 := by
      rw [hS, at_set_same _ _ _ hl, sayE, h1]
      have e2 : (Dk.turnS p x Dk.noughts).b = (List.replicate 64 0).set p x := by
        show (List.replicate 64 0).set p ((List.replicate 64 0).getD p 0 ^^^ x) = _
        rw [List.getD_eq_getElem?_getD, List.getElem?_replicate]
        simp [hp]
      have e1 : (Dk.turnS p x Dk.noughts).bad = 0 := rfl
      rw [e1, e2, if_neg (by decide), nought_set (by rw [List.length_replicate]; exact hp) hx0, if_neg (by decide), errOf, if_neg (fun h => mark_one h.2.1)]
    have ho : sayE (Dk.at_ (Dk.rot D 1 p x).seen (1 - 1)) = 0 := by
      rw [hS, at_set_other _ _ _ _ (by omega)]
      show sayE (Dk.at_ D.seen 0) = 0
      rw [h0]; exact (say_put q hq).1
    exact Or.inl (find_say hlen hs 4 (by decide) hsay ho)
end Rt
namespace Ex
/-- pages that hold what is to stand on them, a byte of one turned -/
theorem rot_ext {D : Dk.Disk} {ep : Nat} {nums b : List Nat} (hM : may D nums b.length) (hn : ∀ x ∈ nums, x < 4294967296) (he : ep < 4294967296) (hb : ∀ y ∈ b, y < 256) (h : ∀ i, i < pages b.length → Holds D ep nums b i) {n p x : Nat} (hnum : n / 4 ∈ nums) (hp : p < 64) (hx : x < 256) (h0 : x ≠ 0) :
    rE (Dk.rot D n p x) ep nums b.length = 4 ∨ rE (Dk.rot D n p x) ep nums b.length = 11 := by
  obtain ⟨i, hi, hn4⟩ : ∃ i, i < pages b.length ∧ at' nums i = n / 4 := by
    obtain ⟨i, hi, e⟩ := List.getElem_of_mem hnum
    exact ⟨i, by rw [← hM.2.2]; exact hi, by rw [at', List.getD_eq_getElem?_getD, List.getElem?_eq_getElem hi]; exact e⟩
  have ho := hM.2.1 _ hnum
  have hl4 : 4 * (n / 4) + 4 ≤ D.seen.length := by
    unfold onD at ho; split at ho
    · assumption
    · cases ho
  have h1 := rot_one hM hn he hb hi (h i hi) (s := n % 4) (by omega) hp hx h0
  rw [show 4 * at' nums i + n % 4 = n by rw [hn4]; omega] at h1
  have hM' : may (Dk.rot D n p x) nums b.length := (may_len (rot_len _ _ _ _)).2 hM
  have hne : one (Dk.rot D n p x) ep (at' nums i) (plen b.length i) ≠ 0 := by rcases h1 with h1 | h1 <;> rw [h1] <;> decide
  rw [rE, if_pos hM', rdE_stops hi (fun j hj => ?_) hne]
  · exact h1
  · have hjp : j < pages b.length := by omega
    have hd := at_ne hM.1 (i := i) (j := j) (by rw [hM.2.2]; exact hi) (by rw [hM.2.2]; exact hjp) (by omega)
    exact (holds_one hM' hn he hjp (rot_holds (by omega) (h j hjp) (by omega))).2.2.2
/-- .. none of theirs turned -/
theorem rot_off {D : Dk.Disk} {ep : Nat} {nums b : List Nat} (hM : may D nums b.length) (hn : ∀ x ∈ nums, x < 4294967296) (he : ep < 4294967296) (h : ∀ i, i < pages b.length → Holds D ep nums b i) {n p x : Nat} (hnl : n < D.seen.length) (hnum : n / 4 ∉ nums) :
    rE (Dk.rot D n p x) ep nums b.length = 0 ∧ rB (Dk.rot D n p x) ep nums b.length = b := by
  have hM' : may (Dk.rot D n p x) nums b.length := (may_len (rot_len _ _ _ _)).2 hM
  refine read_all hM' hn he (fun i hi => rot_holds hnl (h i hi) (fun hc => hnum ?_))
  rw [show n / 4 = at' nums i by omega]
  exact at_mem (by rw [hM.2.2]; exact hi)
end Ex
namespace Pg
/-- a page, a byte of it turned -/
theorem rot_page {D : Dk.Disk} {num ep : Nat} {q : List Nat} (ho : onD D num = 0) (hnum : num < 4294967296) (hep : ep < 4294967296) (hq : q.length ≤ 240) (hlt : ∀ y ∈ q, y < 256) (h : ∀ j, j < 4 → Dk.at_ D.seen (4 * num + j) = ⟨chunk (put num ep q) j, 0⟩) {s p x : Nat} (hs : s < 4) (hp : p < 64) (hx : x < 256) (h0 : x ≠ 0) :
    rE (Dk.rot D (4 * num + s) p x) num = 4 ∨ rE (Dk.rot D (4 * num + s) p x) num = 11 ∨ (rE (Dk.rot D (4 * num + s) p x) num = 0 ∧ (rB (Dk.rot D (4 * num + s) p x) num).length ≠ q.length) := by
  have hlen := put_length (num := num) (epoch := ep) hq
  have hl4 : 4 * num + 4 ≤ D.seen.length := by
    unfold onD at ho; split at ho
    · assumption
    · cases ho
  obtain ⟨b', hb'⟩ : ∃ b', b' = (put num ep q).set (64 * s + p) ((put num ep q).getD (64 * s + p) 0 ^^^ x) := ⟨_, rfl⟩
  have h4 : ∀ j, j < 4 → Dk.at_ (Dk.rot D (4 * num + s) p x).seen (4 * num + j) = ⟨chunk b' j, 0⟩ := by
    intro j hj
    rw [Ex.rot_at _ _ _ _ (by omega), hb', Ex.chunk_turn hlen hs hp hj]
    by_cases e : j = s
    · subst e; rw [if_pos rfl, if_pos rfl, h j hj]; rfl
    · rw [if_neg (by omega), if_neg e, h j hj]
  obtain ⟨r1, r2⟩ := r_holds (by rw [hb', List.length_set]; exact hlen) h4
  have hE : rE (Dk.rot D (4 * num + s) p x) num = err num b' := by
    rw [rE, if_pos (by unfold onD; rw [Ex.rot_len, if_pos hl4]), r2, r1]; rfl
  rcases Ex.one_turned hnum hep hq hlt (p := 64 * s + p) (by omega) hx h0 b' hb' with h | h | ⟨h, hl⟩
  · left; rw [hE, h]
  · right; left; rw [hE, h]
  · right; right
    refine ⟨by rw [hE, h], ?_⟩
    rw [rB, if_pos (by rw [hE, h]), r1]; exact hl
end Pg
namespace Sh
/-- where a commit's parts stand -/
structure Parts (T : Sto) (D : Dk.Disk) : Prop where
  len : D.seen.length = T.D.seen.length
  rootE : Rt.findE D = 0
  rootR : Rt.findR D = comR T
  head : ∀ i, i < 4 → Dk.at_ D.seen (4 * comH T + i) = ⟨Pg.chunk (Pg.put (comH T) (nx T.epoch) (comB T)) i, 0⟩
  tab : Good D ⟨(tabB T.now).length, nx T.epoch, (comL T).tail, false⟩ (tabB T.now)
  one : Dk.at_ T.D.seen 0 = Dk.noughts → Dk.at_ T.D.seen 1 = Dk.noughts → Dk.at_ D.seen 0 = ⟨Rt.put (comR T), 0⟩ ∧ Dk.at_ D.seen 1 = Dk.noughts
theorem com_parts {T : Sto} {c k : List (Nat × List Nat)} (h : Has T c k) (hr : Rt.At T.D T.epoch) (hf : comF T) (he : T.epoch + 1 < 4294967296) : Parts T (comT T).D := by
  have hn : nx T.epoch = T.epoch + 1 := Nat.mod_eq_of_lt he
  have h2 := h.com2_root hr hf
  have hHm : comH T ∈ comL T := by rw [comL_cons hf]; exact List.mem_cons_self
  have hHf := h.ok.com_free hHm
  have hmax := many_le h.ok.hi
  have hH : comH T < 4294967296 := by omega
  have hL : ∀ x ∈ comL T, 1 ≤ x ∧ x ≤ many T.D := fun x hx => ⟨(h.ok.com_free hx).1, (h.ok.com_free hx).2.1⟩
  have ho : (comR T).Ok := ⟨nx_lt _, hH, by have := h.ok.tab_le; show (tabB T.now).length < _; omega⟩
  have hlt : T.epoch < (comR T).epoch := by show _ < nx _; omega
  have hw := h2.may hlt
  obtain ⟨r1, r2, _⟩ := h2.root hlt ho
  have e : comT T = settle (Rt.wD (comD2 T) (comR T)) (nx T.epoch) (comL T) T.now := by rw [comT, if_pos hf, if_pos hw]
  obtain ⟨D3, hD3⟩ : ∃ D3, D3 = Rt.wD (comD2 T) (comR T) := ⟨_, rfl⟩
  rw [← hD3] at e r1 r2
  have hlen : D3.seen.length = T.D.seen.length := by rw [hD3, wD_root_len, comD2_len]
  have hset : D3.seen = (comD2 T).seen.set (Rt.findN (comD2 T)) ⟨Rt.put (comR T), 0⟩ := by
    rw [hD3, Rt.wD, if_pos hw]
    show (Dk.sync (comD2 T)).seen.set _ ⟨Dk.pad _, 0⟩ = _
    rw [Rt.pad_put]; rfl
  have hroot : ∀ n, 2 ≤ n → Dk.at_ D3.seen n = Dk.at_ (comD2 T).seen n := fun n hn2 => by
    have := Rt.findN_le (comD2 T)
    rw [hset, Rt.at_set_other _ _ _ _ (by omega)]
  have hwE : Pg.wE T.D (comH T) (comB T) = 0 := h.ok.com_head hf
  have hnd := comL_nodup T
  rw [comL_cons hf] at hnd
  obtain ⟨hnd1, hnd2⟩ := List.nodup_cons.1 hnd
  have hD2 : ∀ m, (∀ p ∈ (comL T).tail, ¬ (4 * p ≤ m ∧ m < 4 * p + 4)) → Dk.at_ (comD2 T).seen m = Dk.at_ (comD1 T).seen m := fun m hm => by
    rw [comD2, Ex.wD]
    split
    · rename_i hM
      refine Ex.wr_other hM _ (Nat.le_refl _) _ (fun j hj hc => ?_)
      exact hm _ (Ex.at_mem (by rw [hM.2.2]; exact hj)) hc
    · rfl
  have hmay : Ex.may (comD1 T) (comL T).tail (tabB T.now).length := ⟨hnd2, fun x hx => by
    rw [Ex.onD_len (comD1_len T)]
    exact many_on h.ok.lo (hL x (List.mem_of_mem_tail hx)).2, comL_tail hf⟩
  have hgood : Good D3 ⟨(tabB T.now).length, nx T.epoch, (comL T).tail, false⟩ (tabB T.now) := by
    rw [hD3]
    exact (Good.new (nx T.epoch) false hmay).root (comL_tail hf) (fun y hy => (hL y (List.mem_of_mem_tail hy)).1) _
  rw [e]
  refine ⟨hlen, r1, r2, fun i hi => ?_, hgood, fun a0 a1 => ?_⟩
  · show Dk.at_ D3.seen _ = _
    rw [hroot _ (by have := hHf.1; omega), hD2 _ (fun p hp hc => hnd1 (by rw [show comH T = p by omega]; exact hp)), comD1, (Pg.wD_ok hwE).2.2, if_pos (by omega), Nat.add_sub_cancel_left]
  · have low : ∀ m, m < 2 → Dk.at_ (comD2 T).seen m = Dk.at_ T.D.seen m := fun m hm => by
      rw [hD2 _ (fun p hp hc => by have := (hL p (List.mem_of_mem_tail hp)).1; omega), comD1, (Pg.wD_ok hwE).2.2, if_neg (by have := hHf.1; omega)]
    have b0 := (low 0 (by decide)).trans a0
    have b1 := (low 1 (by decide)).trans a1
    have h8 : 8 ≤ (comD2 T).seen.length := by rw [comD2_len]; have := h.ok.lo; omega
    have hE : Rt.findE (comD2 T) = 7 := by rw [Rt.findE, if_neg (by omega), b0, b1, Rt.say_no.1, Rt.say_no.2]; rfl
    have hN : Rt.findN (comD2 T) = 0 := by rw [Rt.findN, hE]; rfl
    show Dk.at_ D3.seen 0 = _ ∧ Dk.at_ D3.seen 1 = _
    rw [hset, hN]
    exact ⟨Rt.at_set_same _ _ _ (by omega), by rw [Rt.at_set_other _ _ _ _ (by omega)]; exact b1⟩
theorem comB_lt (T : Sto) : ∀ y ∈ comB T, y < 256 := fun y hy => by
  obtain ⟨z, _, hz⟩ := List.mem_flatMap.1 hy
  exact Rt.four_lt _ _ hz
theorem reads_turned {T : Sto} {c k : List (Nat × List Nat)} (h : Has T c k) (hr : Rt.At T.D T.epoch) (hf : comF T) (he : T.epoch + 1 < 4294967296) (hep : Eps T) (a0 : Dk.at_ T.D.seen 0 = Dk.noughts) (a1 : Dk.at_ T.D.seen 1 = Dk.noughts) {n p x : Nat} (hnl : n < T.D.seen.length) (hp : p < 64) (hx : x < 256) (hx0 : x ≠ 0) :
    readsP (Dk.rot (comT T).D n p x) = .error 4 ∨ readsP (Dk.rot (comT T).D n p x) = .error 11 ∨ readsP (Dk.rot (comT T).D n p x) = .ok { comT T with D := Dk.rot (comT T).D n p x, now := [], puts := 0 } := by
  have P := com_parts h hr hf he
  have hrd := reads_com h hr hf he hep
  obtain ⟨c1, c2, c3, c4, c5, c6⟩ := h.com_yes hr hf he
  have hw : Rt.wE (comD2 T) (comR T) = 0 := by rw [comE, if_pos hf] at c1; exact c1
  have e : comT T = settle (Rt.wD (comD2 T) (comR T)) (nx T.epoch) (comL T) T.now := by rw [comT, if_pos hf, if_pos hw]
  have htb : (comT T).table = comL T := by rw [e]; rfl
  have hHm : comH T ∈ comL T := by rw [comL_cons hf]; exact List.mem_cons_self
  have hmax := many_le h.ok.hi
  have hL : ∀ x ∈ comL T, 1 ≤ x ∧ x ≤ many T.D := fun x hx => ⟨(h.ok.com_free hx).1, (h.ok.com_free hx).2.1⟩
  have hH : comH T < 4294967296 := by have := (hL _ hHm).2; omega
  have hL32 : ∀ x ∈ (comL T).tail, x < 4294967296 := fun x hx => by have := (hL x (List.mem_of_mem_tail hx)).2; omega
  have ho : (comR T).Ok := ⟨nx_lt _, hH, by have := h.ok.tab_le; show (tabB T.now).length < _; omega⟩
  have hnd := comL_nodup T
  rw [comL_cons hf] at hnd
  obtain ⟨hnd1, hnd2⟩ := List.nodup_cons.1 hnd
  have hmem : ∀ y, y ∈ comL T → y = comH T ∨ y ∈ (comL T).tail := fun y hy => by rw [comL_cons hf] at hy; exact List.mem_cons.1 hy
  clear e c1 c2 c3 c4 c5 c6 hw
  generalize hU : comT T = U at *
  have hl := P.len
  have hl' : (Dk.rot U.D n p x).seen.length = T.D.seen.length := by rw [Ex.rot_len]; exact hl
  have hlo := h.ok.lo
  have hm1 : many U.D = many T.D := many_eq hl
  have hm' : many (Dk.rot U.D n p x) = many T.D := many_eq hl'
  have hat : ∀ m, m ≠ n → Dk.at_ (Dk.rot U.D n p x).seen m = Dk.at_ U.D.seen m := fun m hm => by rw [Ex.rot_at _ _ _ _ (by rw [hl]; exact hnl), if_neg hm]
  by_cases hn2 : n < 2
  · have hF := Rt.rot_first (by rw [hl]; omega) (P.one a0 a1).1 (P.one a0 a1).2 ho hn2 hp hx hx0
    rcases hF with hF | hF
    · exact Or.inl (by unfold readsP; rw [hF, if_neg (by decide), if_pos (by decide)])
    · exact Or.inr (Or.inl (by unfold readsP; rw [hF, if_neg (by decide), if_pos (by decide)]))
  · obtain ⟨f1, f2, _⟩ := Rt.find_congr (D := U.D) (D' := Dk.rot U.D n p x) (by rw [hl', hl]) (hat 0 (by omega)) (hat 1 (by omega))
    rw [P.rootE] at f1
    rw [P.rootR] at f2
    have eR1 : (comR T).first = comH T := rfl
    have eR2 : (comR T).epoch = nx T.epoch := rfl
    have eR3 : (comR T).bytes = (tabB T.now).length := rfl
    have hHb := hL _ hHm
    have eB : (comB T).length = 4 * (comL T).tail.length := flat_four _
    by_cases hin : n / 4 ∈ comL T
    · rcases hmem _ hin with hq | hq
      · have hpg := Pg.rot_page (many_on (by rw [hl]; exact hlo) (by rw [hm1]; exact hHb.2)) hH (nx_lt _) (comB_length hf) (comB_lt T) P.head (s := n % 4) (by omega) hp hx hx0
        rw [show 4 * comH T + n % 4 = n by rw [← hq]; omega] at hpg
        rcases hpg with hE | hE | ⟨hE, hB⟩
        · left; unfold readsP
          rw [f1, f2, eR1, if_neg (by decide), if_neg (by decide), if_neg (by rw [hm']; omega), hE, if_pos (by decide)]
        · right; left; unfold readsP
          rw [f1, f2, eR1, if_neg (by decide), if_neg (by decide), if_neg (by rw [hm']; omega), hE, if_pos (by decide)]
        · left; unfold readsP
          rw [f1, f2, eR1, eR2, eR3, if_neg (by decide), if_neg (by decide), if_neg (by rw [hm']; omega), hE, if_neg (by decide), if_pos (Or.inr (by
            have ht : (comL T).tail.length = Ex.pages (tabB T.now).length := comL_tail hf
            rw [eB] at hB
            omega))]
      · have hmay : Ex.may U.D (comL T).tail (tabB T.now).length := ⟨hnd2, fun x hx => many_on (by rw [hl]; exact hlo) (by rw [hm1]; exact (hL x (List.mem_of_mem_tail hx)).2), comL_tail hf⟩
        have hx1 := Ex.rot_ext hmay hL32 (nx_lt T.epoch) (tabB_lt T.now) P.tab.holds hq hp hx hx0
        have hne : n / 4 ≠ comH T := fun e => hnd1 (e ▸ hq)
        obtain ⟨b1, b2, b3⟩ := Pg.r_same (D := U.D) (D' := Dk.rot U.D n p x) (p := comH T) (by rw [hl', hl]) (fun i hi => hat _ (by omega))
        obtain ⟨g1, g2, g3⟩ := Pg.r_put (many_on (by rw [hl]; exact hlo) (by rw [hm1]; exact hHb.2)) hH (nx_lt _) (comB_length hf) P.head
        have hnums : nums (comB T) ((comB T).length / 4) = (comL T).tail := by
          rw [eB, Nat.mul_div_cancel_left _ (by decide)]
          have := nums_put hL32 []
          rwa [List.append_nil] at this
        have hm : marks (upTo 1 (1 + many T.D)) (comH T :: (comL T).tail) = true := by
          rw [← comL_cons hf]
          exact marks_true.2 ⟨comL_nodup T, fun x hx => by have := hL x hx; simp only [upTo, Bool.and_eq_true, decide_eq_true_eq]; omega⟩
        have hR : readsP (Dk.rot U.D n p x) = .error (Ex.rE (Dk.rot U.D n p x) (nx T.epoch) (comL T).tail (tabB T.now).length) := by
          unfold readsP
          rw [f1, f2, eR1, eR2, eR3, b1, b2, b3, g1, g2, g3, hnums, hm', if_neg (by decide), if_neg (by decide), if_neg (by omega), if_neg (by decide),
            if_neg (by rw [eB, comL_tail hf]; rintro (h | h | h); exact h rfl; omega; exact h (by rw [Nat.mul_div_cancel_left _ (by decide)]; rfl)), hm, if_neg (by decide), if_pos (by rcases hx1 with e | e <;> rw [e] <;> decide)]
        rw [hR]
        rcases hx1 with e | e
        · left; rw [e]
        · right; left; rw [e]
    · right; right
      exact reads_same hrd P.rootE (by rw [hl', hl]) (fun m hm => hat m (by omega)) (fun q hq i hi => hat _ (fun e => hin (by rw [show n / 4 = q by omega, ← htb]; exact hq)))
/-- .. and what is there then: all but, perhaps, one thing that says that it can't be read -/
theorem turned_has {T : Sto} {c k : List (Nat × List Nat)} (h : Has T c k) (hr : Rt.At T.D T.epoch) (hf : comF T) (he : T.epoch + 1 < 4294967296) {n p x : Nat} (hnl : n < T.D.seen.length) (hp : p < 64) (hx : x < 256) (hx0 : x ≠ 0) :
    ∃ β : Nat, Ok { comT T with D := Dk.rot (comT T).D n p x, now := (comT T).kept, puts := 64 } ∧ ∀ id b, Mp.look c id = some b → (∀ y ∈ b, y < 256) →
      (getE { comT T with D := Dk.rot (comT T).D n p x, now := (comT T).kept, puts := 64 } id = 0 ∧ getB { comT T with D := Dk.rot (comT T).D n p x, now := (comT T).kept, puts := 64 } id = b) ∨
      (id = β ∧ (getE { comT T with D := Dk.rot (comT T).D n p x, now := (comT T).kept, puts := 64 } id = 4 ∨ getE { comT T with D := Dk.rot (comT T).D n p x, now := (comT T).kept, puts := 64 } id = 11)) := by
  have P := com_parts h hr hf he
  obtain ⟨c1, c2, c3, c4, c5, c6⟩ := h.com_yes hr hf he
  have hc := h.com c1
  have hw : Rt.wE (comD2 T) (comR T) = 0 := by rw [comE, if_pos hf] at c1; exact c1
  have e : comT T = settle (Rt.wD (comD2 T) (comR T)) (nx T.epoch) (comL T) T.now := by rw [comT, if_pos hf, if_pos hw]
  have hnk : (comT T).now = (comT T).kept := by rw [e]; rfl
  have hl := P.len
  rw [← hl] at hnl
  have hok := hc.ok.swapD (D' := Dk.rot (comT T).D n p x) (Ex.rot_len _ _ _ _)
  clear e P c1 c2 c3 c4 c5 hl hw
  generalize comT T = U at *
  obtain ⟨D2, S2, ep2, now2, kept2, table2, puts2⟩ := U
  simp only at hnk c6 hok hc hnl ⊢
  subst hnk c6
  have main : ∀ id b y, Mp.look c id = some b → Mp.look now2 id = some y → (∀ z ∈ b, z < 256) → (n / 4 ∉ y.pages → Ex.rE (Dk.rot D2 n p x) y.epoch y.pages y.bytes = 0 ∧ Ex.rB (Dk.rot D2 n p x) y.epoch y.pages y.bytes = b) ∧ (n / 4 ∈ y.pages → Ex.rE (Dk.rot D2 n p x) y.epoch y.pages y.bytes = 4 ∨ Ex.rE (Dk.rot D2 n p x) y.epoch y.pages y.bytes = 11) := fun id b y hb hy hz => by
    have hpm := Mp.mem_of_look hy
    have ht := hc.ok.thn _ hpm
    have hlk := hc.ok.look hy
    have hg := hc.now.good id y b hy hb
    have hM : Ex.may D2 y.pages b.length := ⟨ht.nod, fun z hz => many_on hc.ok.lo (hc.ok.nrng hpm hz).2, by rw [← hg.bytes]; exact ht.len⟩
    rw [hg.bytes]
    exact ⟨fun hno => Ex.rot_off hM hlk.2.2.2.2 hlk.2.1 hg.holds hnl hno, fun hin => Ex.rot_ext hM hlk.2.2.2.2 hlk.2.1 hz hg.holds hin hp hx hx0⟩
  have hsome : ∀ id b, Mp.look c id = some b → ∃ y, Mp.look now2 id = some y := fun id b hb => by
    have h1 := hc.now.ids id
    rw [hb] at h1
    exact Option.isSome_iff_exists.1 h1
  by_cases hq : ∃ q ∈ now2, n / 4 ∈ q.2.pages
  · obtain ⟨q, hq, hqp⟩ := hq
    refine ⟨q.1, hok, fun id b hb hz => ?_⟩
    obtain ⟨y, hy⟩ := hsome id b hb
    obtain ⟨m1, m2⟩ := main id b y hb hy hz
    rw [getE, getB]
    simp only [hy]
    by_cases hin : n / 4 ∈ y.pages
    · refine Or.inr ⟨?_, m2 hin⟩
      refine Classical.byContradiction (fun hne => ?_)
      exact hc.ok.nn _ (Mp.mem_of_look hy) q hq hne _ hin hqp
    · exact Or.inl (m1 hin)
  · refine ⟨0, hok, fun id b hb hz => ?_⟩
    obtain ⟨y, hy⟩ := hsome id b hb
    obtain ⟨m1, m2⟩ := main id b y hb hy hz
    rw [getE, getB]
    simp only [hy]
    exact Or.inl (m1 (fun hin => hq ⟨_, Mp.mem_of_look hy, hin⟩))
end Sh
end Go.Proofs.YtnffigfafalocaaGreatDoor
namespace Go.Proofs.YtnffigfafalocaaGreatDoor
open Go Go.RowKit
set_option linter.unusedSimpArgs false
set_option linter.unusedVariables false
namespace Sh
theorem comE_full {T : Sto} (h : comE T = 0) : comF T := by
  by_cases hf : comF T
  · exact hf
  · rw [comE, if_neg hf] at h; cases h
end Sh
end Go.Proofs.YtnffigfafalocaaGreatDoor
