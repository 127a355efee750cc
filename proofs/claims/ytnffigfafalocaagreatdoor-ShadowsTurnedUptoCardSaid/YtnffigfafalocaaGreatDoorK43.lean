/-
  What a disk's store says when it is opened: plain.
  What a store's things hold: plain content. No program in sight.
-/
import Derived.Test.YtnffigfafalocaaGreatDoorK42
namespace Go.Proofs.YtnffigfafalocaaGreatDoor
set_option maxRecDepth 100000
open Go Go.RowKit
set_option linter.unusedSimpArgs false
set_option linter.unusedVariables false
namespace Pg
theorem rB_le (D : Dk.Disk) (p : Nat) : (rB D p).length ≤ 240 := by
  unfold rB bodyOf
  split
  · split
    · rename_i h
      have hf : form (rd D p 4) := by
        unfold err at h
        by_cases hf : form (rd D p 4)
        · exact hf
        · rw [if_neg hf] at h; cases h
      rw [body, List.length_take]
      exact Nat.le_trans (Nat.min_le_left _ _) hf.2.1
    · exact Nat.zero_le _
  · exact Nat.zero_le _
theorem rd_lt {D : Dk.Disk} (h : Dk.Ok D) (p : Nat) : ∀ k, ∀ x ∈ rd D p k, x < 256
  | 0, x, hx => by cases hx
  | k + 1, x, hx => by
    rcases List.mem_append.1 hx with hx | hx
    · exact rd_lt h p k x hx
    · unfold Dk.bytesOf at hx
      split at hx
      · cases hx
      · unfold Dk.at_ at hx
        rw [List.getD_eq_getElem?_getD] at hx
        by_cases hl : 4 * p + k < D.seen.length
        · rw [List.getElem?_eq_getElem hl] at hx
          exact (h.seen _ (List.getElem_mem hl)).b.lt x hx
        · rw [List.getElem?_eq_none (by omega)] at hx
          have h0 : x ∈ (Dk.noughts).b := hx
          simp only [Dk.noughts] at h0
          rw [List.eq_of_mem_replicate h0]; decide
theorem rB_lt {D : Dk.Disk} (h : Dk.Ok D) (p : Nat) : ∀ x ∈ rB D p, x < 256 := fun x hx => by
  unfold rB bodyOf at hx
  split at hx
  · split at hx
    · exact rd_lt h p 4 x (List.mem_of_mem_drop (List.mem_of_mem_take hx))
    · cases hx
  · cases hx
end Pg
theorem Dk.at_lt {D : Dk.Disk} (h : Dk.Ok D) (n : Nat) : ∀ x ∈ (Dk.at_ D.seen n).b, x < 256 := fun x hx => by
  unfold Dk.at_ at hx
  rw [List.getD_eq_getElem?_getD] at hx
  by_cases hl : n < D.seen.length
  · rw [List.getElem?_eq_getElem hl] at hx
    exact (h.seen _ (List.getElem_mem hl)).b.lt x hx
  · rw [List.getElem?_eq_none (by omega)] at hx
    have h0 : x ∈ (Dk.noughts).b := hx
    simp only [Dk.noughts] at h0
    rw [List.eq_of_mem_replicate h0]; decide
theorem Rt.find_ok {D : Dk.Disk} (h : Dk.Ok D) : (Rt.findR D).Ok := by
  unfold Rt.findR
  split
  · split
    · exact Rt.say_ok (Dk.at_lt h 1)
    · exact Rt.say_ok (Dk.at_lt h 0)
  · exact ⟨by decide, by decide, by decide⟩
namespace Ex
theorem rdB_lt {D : Dk.Disk} (h : Dk.Ok D) (nums : List Nat) : ∀ k, ∀ x ∈ rdB D nums k, x < 256
  | 0, x, hx => by cases hx
  | k + 1, x, hx => by
    rcases List.mem_append.1 hx with hx | hx
    · exact rdB_lt h nums k x hx
    · exact Pg.rB_lt h _ x hx
theorem rB_lt {D : Dk.Disk} (h : Dk.Ok D) (ep : Nat) (nums : List Nat) (n : Nat) : ∀ x ∈ rB D ep nums n, x < 256 := fun x hx => by
  unfold rB at hx
  split at hx
  · exact rdB_lt h nums _ x hx
  · cases hx
theorem rdB_le (D : Dk.Disk) (nums : List Nat) : ∀ k, (rdB D nums k).length ≤ 240 * k
  | 0 => Nat.le_refl _
  | k + 1 => by
    rw [rdB, List.length_append]
    have := rdB_le D nums k
    have := Pg.rB_le D (at' nums k)
    omega
theorem rB_le {D : Dk.Disk} {ep : Nat} {nums : List Nat} {n : Nat} (h : nums.length ≤ 60) : (rB D ep nums n).length ≤ 14400 := by
  unfold rB
  split
  · rename_i h0
    have hM : may D nums n := by
      unfold rE at h0
      by_cases hM : may D nums n
      · exact hM
      · rw [if_neg hM] at h0; cases h0
    have := rdB_le D nums (pages n)
    have := hM.2.2
    omega
  · exact Nat.zero_le _
end Ex
namespace Sh
/-- so it is read: an error, or a store (what there is now is not made yet) -/
def readsP (D : Dk.Disk) : Except Nat Sto :=
  if Rt.findE D = 7 then .ok ⟨D, upTo 1 (1 + many D), 0, [], [], [], 0⟩
  else if Rt.findE D ≠ 0 then .error (Rt.findE D)
  else if (Rt.findR D).first < 1 ∨ many D < (Rt.findR D).first then .error 4
  else if Pg.rE D (Rt.findR D).first ≠ 0 then .error (Pg.rE D (Rt.findR D).first)
  else if Pg.rN D (Rt.findR D).first ≠ (Rt.findR D).epoch ∨ (Pg.rB D (Rt.findR D).first).length % 4 ≠ 0 ∨ (Pg.rB D (Rt.findR D).first).length / 4 ≠ Ex.pages (Rt.findR D).bytes then .error 4
  else if marks (upTo 1 (1 + many D)) ((Rt.findR D).first :: nums (Pg.rB D (Rt.findR D).first) ((Pg.rB D (Rt.findR D).first).length / 4)) = false then .error 4
  else if Ex.rE D (Rt.findR D).epoch (nums (Pg.rB D (Rt.findR D).first) ((Pg.rB D (Rt.findR D).first).length / 4)) (Rt.findR D).bytes ≠ 0 then .error (Ex.rE D (Rt.findR D).epoch (nums (Pg.rB D (Rt.findR D).first) ((Pg.rB D (Rt.findR D).first).length / 4)) (Rt.findR D).bytes)
  else match rowsP (Rt.findR D).epoch (Ex.rB D (Rt.findR D).epoch (nums (Pg.rB D (Rt.findR D).first) ((Pg.rB D (Rt.findR D).first).length / 4)) (Rt.findR D).bytes) (-1) (Fr.sub (upTo 1 (1 + many D)) ((Rt.findR D).first :: nums (Pg.rB D (Rt.findR D).first) ((Pg.rB D (Rt.findR D).first).length / 4))) [] with
    | none => .error 4
    | some (S, k) => if 64 < k.length then .error 4 else .ok ⟨D, S, (Rt.findR D).epoch, [], k, (Rt.findR D).first :: nums (Pg.rB D (Rt.findR D).first) ((Pg.rB D (Rt.findR D).first).length / 4), 0⟩
end Sh
end Go.Proofs.YtnffigfafalocaaGreatDoor
namespace Go.Proofs.YtnffigfafalocaaGreatDoor
set_option maxRecDepth 100000
open Go Go.RowKit
set_option linter.unusedSimpArgs false
set_option linter.unusedVariables false
namespace Mp
section
variable {α β : Type}
theorem look_fst (l : List (Nat × α)) (id : Nat) : (look (l.map fun p => (p.1, ())) id).isSome = (look l id).isSome := by
  induction l with
  | nil => rfl
  | cons p r ih =>
    obtain ⟨k, x⟩ := p
    simp only [List.map_cons, look]
    split
    · rfl
    · exact ih
/-- two rising lists of the same numbers -/
theorem same_len {l : List (Nat × α)} {m : List (Nat × β)} (hl : Up l) (hm : Up m) (h : ∀ id, (look l id).isSome = (look m id).isSome) : l.length = m.length := by
  have e : (l.map fun p => (p.1, ())) = (m.map fun p => (p.1, ())) := by
    refine ext (map_up hl _) (map_up hm _) (fun id => ?_)
    have := h id
    rw [← look_fst l, ← look_fst m] at this
    cases h1 : look (l.map fun p => (p.1, ())) id <;> cases h2 : look (m.map fun p => (p.1, ())) id <;> rw [h1, h2] at this <;> simp_all
  have := congrArg List.length e
  simpa using this
theorem look_some_put (l : List (Nat × α)) (id id' : Nat) (x : α) : (look (put l id x) id').isSome = (decide (id' = id) || (look l id').isSome) := by
  by_cases e : id' = id
  · subst e; rw [look_put_same]; simp
  · rw [look_put_other l e]; simp [e]
end
end Mp
namespace Sh
theorem look_old' (l : List (Nat × Th)) (id : Nat) : Mp.look (l.map old) id = (Mp.look l id).map fun x => ⟨x.bytes, x.epoch, x.pages, false⟩ := by
  induction l with
  | nil => rfl
  | cons p r ih =>
    obtain ⟨k, x⟩ := p
    simp only [List.map_cons, old, Mp.look]
    split
    · rfl
    · exact ih
/-- what lies on a thing's pages -/
structure Good (D : Dk.Disk) (x : Th) (b : List Nat) : Prop where
  bytes : x.bytes = b.length
  holds : ∀ i, i < Ex.pages b.length → Ex.Holds D x.epoch x.pages b i
section
variable {D : Dk.Disk} {x : Th} {b : List Nat}
theorem Good.fresh (h : Good D x b) (f : Bool) : Good D ⟨x.bytes, x.epoch, x.pages, f⟩ b := ⟨h.bytes, h.holds⟩
theorem Good.wr (h : Good D x b) (hl : x.pages.length = Ex.pages x.bytes) {l : List Nat} (ep : Nat) (b' : List Nat) (hb : l.length = Ex.pages b'.length) (hd : Dj l x.pages) : Good (Ex.wD D ep l b') x b :=
  ⟨h.bytes, fun i hi => Ex.wD_other (h.holds i hi) (fun j hj e => hd _ (Ex.at_mem (nums := l) (i := j) (by omega)) (by rw [← e]; exact Ex.at_mem (by rw [hl, h.bytes]; exact hi)))⟩
theorem Good.page (h : Good D x b) (hl : x.pages.length = Ex.pages x.bytes) {p : Nat} (ep : Nat) (q : List Nat) (hd : p ∉ x.pages) : Good (Pg.wD D p ep q) x b := by
  refine ⟨h.bytes, fun i hi j hj => ?_⟩
  have hm : Ex.at' x.pages i ∈ x.pages := Ex.at_mem (by rw [hl, h.bytes]; exact hi)
  have hne : Ex.at' x.pages i ≠ p := fun e => hd (by rw [← e]; exact hm)
  by_cases e : Pg.wE D p q = 0
  · rw [(Pg.wD_ok e).2.2, if_neg (by omega)]
    exact h.holds i hi j hj
  · rw [Pg.wD, if_neg e]
    exact h.holds i hi j hj
theorem Good.root (h : Good D x b) (hl : x.pages.length = Ex.pages x.bytes) (h1 : ∀ y ∈ x.pages, 1 ≤ y) (r : Rt.Root) : Good (Rt.wD D r) x b := by
  refine ⟨h.bytes, fun i hi j hj => ?_⟩
  have hm : 1 ≤ Ex.at' x.pages i := h1 _ (Ex.at_mem (by rw [hl, h.bytes]; exact hi))
  have hn := Rt.findN_le D
  rw [← h.holds i hi j hj]
  unfold Rt.wD
  split
  · show ((Dk.sync D).seen.set _ _).getD _ _ = D.seen.getD _ _
    rw [List.getD_eq_getElem?_getD, List.getD_eq_getElem?_getD, List.getElem?_set_ne (by omega)]
    rfl
  · rfl
theorem Good.new {l : List Nat} (ep : Nat) (f : Bool) (h : Ex.may D l b.length) : Good (Ex.wD D ep l b) ⟨b.length, ep, l, f⟩ b := ⟨rfl, (Ex.wD_read h).1⟩
theorem Good.read (h : Good D x b) (hM : Ex.may D x.pages x.bytes) (hn : ∀ y ∈ x.pages, y < 4294967296) (he : x.epoch < 4294967296) : Ex.rE D x.epoch x.pages x.bytes = 0 ∧ Ex.rB D x.epoch x.pages x.bytes = b := by
  rw [h.bytes] at hM ⊢
  exact Ex.read_all hM hn he h.holds
end
/-- what things hold -/
structure Con (D : Dk.Disk) (l : List (Nat × Th)) (c : List (Nat × List Nat)) : Prop where
  up : Mp.Up c
  ids : ∀ id, (Mp.look l id).isSome = (Mp.look c id).isSome
  good : ∀ id x b, Mp.look l id = some x → Mp.look c id = some b → Good D x b
section
variable {D D' : Dk.Disk} {l : List (Nat × Th)} {c : List (Nat × List Nat)}
theorem Con.nil (D : Dk.Disk) : Con D [] [] := ⟨List.Pairwise.nil, fun _ => rfl, fun id x b h => by cases h⟩
theorem Con.len (h : Con D l c) (hl : Mp.Up l) : l.length = c.length := Mp.same_len hl h.up h.ids
theorem Con.mono (h : Con D l c) (hg : ∀ p ∈ l, ∀ b, Good D p.2 b → Good D' p.2 b) : Con D' l c := ⟨h.up, h.ids, fun id x b h1 h2 => hg _ (Mp.mem_of_look h1) b (h.good id x b h1 h2)⟩
theorem Con.old (h : Con D l c) : Con D (l.map Sh.old) c := by
  refine ⟨h.up, fun id => ?_, fun id x b h1 h2 => ?_⟩
  · rw [look_old', Option.isSome_map]; exact h.ids id
  · rw [look_old'] at h1
    obtain ⟨y, hy, e⟩ := Option.map_eq_some_iff.1 h1
    subst e
    exact (h.good id y b hy h2).fresh false
theorem Con.put (h : Con D l c) (id : Nat) (x : Th) (b : List Nat) (hx : Good D' x b) (hg : ∀ p ∈ l, p.1 ≠ id → ∀ b, Good D p.2 b → Good D' p.2 b) : Con D' (Mp.put l id x) (Mp.put c id b) := by
  refine ⟨Mp.up_put h.up id b, fun id' => ?_, fun id' y b' h1 h2 => ?_⟩
  · rw [Mp.look_some_put, Mp.look_some_put, h.ids]
  · by_cases e : id' = id
    · subst e
      rw [Mp.look_put_same] at h1 h2
      cases h1; cases h2
      exact hx
    · rw [Mp.look_put_other _ e] at h1 h2
      exact hg _ (Mp.mem_of_look h1) e b' (h.good id' y b' h1 h2)
end
/-- a store: what it has now, and what is committed -/
structure Has (T : Sto) (c k : List (Nat × List Nat)) : Prop where
  ok : Ok T
  now : Con T.D T.now c
  kept : Con T.D T.kept k
section
variable {T : Sto} {c k : List (Nat × List Nat)}
theorem Has.new {D : Dk.Disk} (lo : 32 ≤ D.seen.length) (hi : D.seen.length ≤ 16384) : Has (newS D) [] [] := ⟨newS_ok lo hi, Con.nil _, Con.nil _⟩
theorem Has.put (h : Has T c k) {id : Nat} (hid : id < 4294967296) {b : List Nat} (he : putE T id b.length = 0) : Has (putT T id b) (Mp.put c id b) k := by
  have ho := h.ok.put hid b
  have hnew := fun x hx => h.ok.put_new (id := id) (n := b.length) (x := x) hx
  have e : putT T id b = ⟨Ex.wD T.D (nx T.epoch) (putL T id b.length) b, Fr.sub (dropS T (Mp.look T.now id)) (putL T id b.length), T.epoch, Mp.put T.now id ⟨b.length, nx T.epoch, putL T id b.length, true⟩, T.kept, T.table, T.puts + 1⟩ := by rw [putT, if_pos he]
  rw [e] at ho ⊢
  refine ⟨ho, h.now.put id _ b (Good.new _ _ (h.ok.put_may he)) (fun p hp hne b' hg => hg.wr (h.ok.thn p hp).len _ _ (putL_length he) (fun x hx hy => ?_)), h.kept.mono (fun p hp b' hg => hg.wr (h.ok.thk p hp).len _ _ (putL_length he) (fun x hx hy => (hnew x hx).2.2 (Or.inr (Or.inl ⟨p, hp, hy⟩))))⟩
  refine (hnew x hx).2.2 ?_
  cases hf : p.2.fresh with
  | true => exact Or.inr (Or.inr ⟨p, hp, hne, hf, hy⟩)
  | false => exact Or.inr (Or.inl ⟨p, h.ok.nk p hp hf, hy⟩)
theorem Has.undo (h : Has T c k) : Has (undoT T) k k := ⟨h.ok.undo, h.kept.old, h.kept.old⟩
theorem Has.com2 (h : Has T c k) (hf : comF T) {l : List (Nat × Th)} {c' : List (Nat × List Nat)} (hc : Con T.D l c') (ht : ∀ p ∈ l, ThOk p) (hd : ∀ p ∈ l, Dj (comL T) p.2.pages) : Con (comD2 T) l c' :=
  (hc.mono (fun p hp b hg => (hg.page (ht p hp).len (nx T.epoch) (comB T) (fun hm => hd p hp _ (by rw [comL_cons hf]; exact List.mem_cons_self) hm)).wr (ht p hp).len (nx T.epoch) (tabB T.now) (comL_tail hf) (fun x hx hy => hd p hp x (List.mem_of_mem_tail hx) hy)))
theorem Ok.com_now (h : Ok T) : ∀ p ∈ T.now, Dj (comL T) p.2.pages := fun p hp x hx hy => (h.com_free hx).2.2 (by
  cases hfr : p.2.fresh with
  | true => exact Or.inr (Or.inr ⟨p, hp, hfr, hy⟩)
  | false => exact Or.inr (Or.inl ⟨p, h.nk p hp hfr, hy⟩))
/-- a commit -/
theorem Has.com (h : Has T c k) (he : comE T = 0) : Has (comT T) c c := by
  have ho := h.ok.com
  have hf : comF T := by
    by_cases hf : comF T
    · exact hf
    · rw [comE, if_neg hf] at he; cases he
  have hr : Rt.wE (comD2 T) (comR T) = 0 := by rw [comE, if_pos hf] at he; exact he
  have e : comT T = settle (Rt.wD (comD2 T) (comR T)) (nx T.epoch) (comL T) T.now := by rw [comT, if_pos hf, if_pos hr]
  have hc := (h.com2 hf h.now h.ok.thn h.ok.com_now).mono (D' := Rt.wD (comD2 T) (comR T)) (fun p hp b hg => hg.root (h.ok.thn p hp).len (fun y hy => (h.ok.nrng hp hy).1) _)
  rw [e] at ho ⊢
  exact ⟨ho, hc.old, hc.old⟩
/-- what is asked for -/
theorem Has.get (h : Has T c k) {id : Nat} {b : List Nat} (hb : Mp.look c id = some b) : getE T id = 0 ∧ getB T id = b := by
  have h1 := h.now.ids id
  rw [hb] at h1
  obtain ⟨x, hx⟩ := Option.isSome_iff_exists.1 h1
  have hp := Mp.mem_of_look hx
  have ht := h.ok.thn _ hp
  have hl := h.ok.look hx
  rw [getE, getB, hx]
  exact (h.now.good id x b hx hb).read ⟨ht.nod, fun y hy => many_on h.ok.lo (h.ok.nrng hp hy).2, ht.len⟩ hl.2.2.2.2 hl.2.1
theorem Has.get_no (h : Has T c k) {id : Nat} (hb : Mp.look c id = none) : getE T id = 7 ∧ getB T id = [] := by
  have h1 := h.now.ids id
  rw [hb] at h1
  have hx : Mp.look T.now id = none := by
    cases hx : Mp.look T.now id with
    | none => rfl
    | some x => rw [hx] at h1; cases h1
  rw [getE, getB, hx]
  exact ⟨rfl, rfl⟩
theorem Has.len (h : Has T c k) : T.now.length = c.length := h.now.len h.ok.upn
end
end Sh
end Go.Proofs.YtnffigfafalocaaGreatDoor
