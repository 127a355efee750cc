/-
  The map of things: how many it holds, its keys sorted.
  Package shadows by its own text: Epoch, Free, Get, Del.
  Package shadows by its own text: Del.
  A store beside others: Take of its free pages; lists that it does not touch; its disk written.
-/
import Derived.Test.YtnffigfafalocaaGreatDoorK22
import Derived.Test.YtnffigfafalocaaGreatDoorK36
namespace Go.Proofs.YtnffigfafalocaaGreatDoor
open Go Go.RowKit Go.Maps Go.Sort
set_option linter.unusedSimpArgs false
set_option linter.unusedVariables false

/-- the ids, rising -/
def Sh.ids (l : List (Nat × Sh.Th)) : List Int := l.map fun p => (p.1 : Int)
theorem Sh.ids_sorted {l : List (Nat × Sh.Th)} (hu : Mp.Up l) : (Sh.ids l).Pairwise (fun x y => leI x y = true) :=
  List.pairwise_map.2 (hu.imp fun {p q} h => by simp only [leI, decide_eq_true_eq]; omega)
theorem Sh.sort_ids {l : List (Nat × Sh.Th)} (hu : Mp.Up l) {ss : List Int} (h : ss.Perm (Sh.ids l)) : ss.mergeSort (fun x y => decide (x ≤ y)) = Sh.ids l := by
  have tr : ∀ a b c : Int, leI a b = true → leI b c = true → leI a c = true := fun a b c h1 h2 => by simp only [leI, decide_eq_true_eq] at *; exact Int.le_trans h1 h2
  have tot : ∀ a b : Int, (leI a b || leI b a) = true := fun a b => by simp only [leI, Bool.or_eq_true, decide_eq_true_eq]; exact Int.le_total a b
  refine List.Perm.eq_of_pairwise (le := fun a b => leI a b = true) (fun a b _ _ h1 h2 => ?_) (List.pairwise_mergeSort tr tot ss) (Sh.ids_sorted hu) ((List.mergeSort_perm ss leI).trans h)
  simp only [leI, decide_eq_true_eq] at h1 h2
  exact Int.le_antisymm h1 h2
theorem sh_perm {w w' : World} {b n : Nat} {D : DataW Value} {L : Nat → Prop} {its : List (Nat × Sh.Th)} (hown : w.ownsMap Tryz.prog 38 asHeld b n D) (hM : MapT w' L D its) (hu : Mp.Up its) (hlt : ∀ p ∈ its, p.1 < 4294967296) : (Sh.ids its).Perm (intKeys D) := by
  obtain ⟨es, hD, hpw, _⟩ := hown.entries keyU32
  obtain ⟨es', hD', hko⟩ := hown.keysOf
  obtain rfl : es = es' := by rw [hD] at hD'; simpa using hD'
  subst hD
  refine perm_intKeys_u hpw (fun p hp => by obtain ⟨v, hv⟩ := hko p hp; obtain ⟨x, _, hx, _⟩ := Maps.keyOf_u32 Tryz.underlying38 hv; exact ⟨x, hx⟩) (List.pairwise_map.2 (hu.imp fun {p q} h e => by omega)) (fun x => ⟨fun hx => ?_, fun hx => ?_⟩)
  · obtain ⟨p, hp, rfl⟩ := List.mem_map.1 hx
    rw [(hM.2 p.1 (hlt p hp)).1, Mp.look_mem hu hp]; rfl
  · have hx2 := hx
    rw [has_eq, List.any_eq_true] at hx2
    obtain ⟨p, hp, hs⟩ := hx2
    obtain ⟨v, hv⟩ := hko p hp
    obtain ⟨y, _, hy, hw⟩ := Maps.keyOf_u32 Tryz.underlying38 hv
    rw [hy] at hs
    obtain rfl : y = x := by simpa [Lit.sameKey] using hs
    have hb := bounds_u32 hw
    obtain ⟨id, rfl⟩ : ∃ id : Nat, y = (id : Nat) := ⟨y.toNat, by omega⟩
    have hid : id < 4294967296 := by omega
    rw [(hM.2 id hid).1] at hx
    obtain ⟨y, hy⟩ := Option.isSome_iff_exists.1 hx
    exact List.mem_map.2 ⟨_, Mp.mem_of_look hy, rfl⟩
theorem sh_size {w w' : World} {b n : Nat} {D : DataW Value} {L : Nat → Prop} {its : List (Nat × Sh.Th)} (hown : w.ownsMap Tryz.prog 38 asHeld b n D) (hM : MapT w' L D its) (hu : Mp.Up its) (hlt : ∀ p ∈ its, p.1 < 4294967296) : Maps.size D = its.length := by
  have hp := sh_perm hown hM hu hlt
  obtain ⟨es, rfl, _⟩ := hown.keysOf
  have := hp.length_eq
  simp only [Sh.ids, intKeys, List.length_map] at this
  show es.length = _
  omega
/-- 'len(m)' -/
theorem sh_len {w : World} {b p : Nat} {L : Nat → Prop} {its : List (Nat × Sh.Th)} (h : MapAtT w L b p its) (hu : Mp.Up its) (hlt : ∀ p ∈ its, p.1 < 4294967296) (ty : TypeId) : (Builtin.len_ #[99] ty #[.map (some b)]).run Tryz.prog w = .ok (.int .i64 (its.length : Nat)) w := by
  obtain ⟨cnt, D, h1, h2, h3⟩ := h
  have := h2.len Tryz.underlying99 ty
  rw [sh_size h2 h3 hu hlt] at this
  exact this
/-- 'v, ok := m[id]' -/
theorem sh_look {w : World} {b p : Nat} {L : Nat → Prop} {its : List (Nat × Sh.Th)} (h : MapAtT w L b p its) {id : Nat} (hid : id < 4294967296) : ∃ v, (Instr.lookup 99 (.map (some b)) (.int .u32 (id : Nat)) true).run Tryz.prog w = .ok (.tuple #[v, .bool (Mp.look its id).isSome]) w ∧ (Instr.lookup 99 (.map (some b)) (.int .u32 (id : Nat)) false).run Tryz.prog w = .ok v w ∧ (Mp.look its id = none → v = noTh) ∧ ∀ x, Mp.look its id = some x → ThAt w L x v := by
  obtain ⟨cnt, D, h1, h2, h3⟩ := h
  obtain ⟨v, ps, hrun, hv⟩ := h2.look_ok keyU32 Tryz.underlying99 (zeroTh w) (zd := .held noTh) (zp := []) rfl (keyOf_id hid)
  obtain ⟨v', ps', hrun', hv'⟩ := h2.lookup keyU32 Tryz.underlying99 (zeroTh w) (zd := .held noTh) (zp := []) rfl (keyOf_id hid)
  have e1 : DataW.held v = D.atKey (.int .u32 (id : Nat)) (.held noTh) := congrArg Prod.fst (Option.some.inj hv)
  have e2 : DataW.held v' = D.atKey (.int .u32 (id : Nat)) (.held noTh) := congrArg Prod.fst (Option.some.inj hv')
  have e3 : v' = v := by
    have := e2.trans e1.symm
    injection this
  subst e3
  have hh := (h3.2 id hid).1
  refine ⟨v', by rw [hrun, hh], hrun', fun hl => ?_, fun x hx => ?_⟩
  · rw [hl] at hh
    have := e1.trans (atKey_of_not_has hh _)
    injection this
  · obtain ⟨v0, hv0, ha⟩ := (h3.2 id hid).2 x hx
    have := e1.trans ha
    injection this with this
    rw [this]; exact hv0
/-- 'm[id] = v' -/
theorem sh_set {w : World} {b p : Nat} {L : Nat → Prop} {its : List (Nat × Sh.Th)} (h : MapAtT w L b p its) (hp : p ≤ 1000000) {id : Nat} (hid : id < 4294967296) {x : Sh.Th} {v : Value} (hx : ThAt w L x v) : ∃ w', (Instr.mapUpdate 99 (.map (some b)) (.int .u32 (id : Nat)) v).run Tryz.prog w = .ok () w' ∧ w.grownBy w' (some b) ∧ ∃ cnt D, cnt ≤ p + 1 ∧ w'.ownsMap Tryz.prog 38 asHeld b cnt D ∧ MapT w L D (Mp.put its id x) := by
  obtain ⟨cnt, D, h1, h2, h3⟩ := h
  obtain ⟨w', hrun, ho, hg⟩ := h2.update keyU32 Tryz.underlying99 (by unfold maxLen; omega) (val := v) (d := .held v) (ps := []) (keyOf_id hid) rfl
  exact ⟨w', hrun, hg, cnt + 1, _, by omega, ho, h3.put id x v hx⟩
section
variable {w : World} {s : Nat} {d f : Option Addr} {m : Sm} {nb : Option Nat} {bk : Nat} {ta : Option Addr} {tc : Nat} {L : Nat → Prop}
theorem StoIn.putNow {b : Nat} (h : StoIn w s d f m (some b) bk ta tc L) (hp : m.puts ≤ 1000000) {id : Nat} (hid : id < 4294967296) {x : Sh.Th} {v : Value} (hx : ThAt w L x v) : ∃ w', (Instr.mapUpdate 99 (.map (some b)) (.int .u32 (id : Nat)) v).run Tryz.prog w = .ok () w' ∧ StoIn w' s d f ⟨m.epoch, Mp.put m.now id x, m.puts + 1, m.kept, m.table⟩ (some b) bk ta tc L ∧ Touch (One b) w w' := by
  obtain ⟨w', hrun, hg, cnt, D, h1, h2, h3⟩ := sh_set (h.now b rfl).1 hp hid hx
  exact ⟨w', hrun, h.mapNow hg h1 h2 h3⟩
theorem StoIn.putKept (h : StoIn w s d f m nb bk ta tc L) {p : Nat} (hk : MapAtT w L bk p m.kept) (hp : p < 5000) {id : Nat} (hid : id < 4294967296) {x : Sh.Th} {v : Value} (hx : ThAt w L x v) : ∃ w', (Instr.mapUpdate 99 (.map (some bk)) (.int .u32 (id : Nat)) v).run Tryz.prog w = .ok () w' ∧ StoIn w' s d f ⟨m.epoch, m.now, m.puts, Mp.put m.kept id x, m.table⟩ nb bk ta tc L ∧ Touch (One bk) w w' ∧ MapAtT w' L bk (p + 1) (Mp.put m.kept id x) := by
  obtain ⟨w', hrun, hg, cnt, D, h1, h2, h3⟩ := sh_set hk (by omega) hid hx
  have hL' : ∀ k, L k → ¬ One bk k := fun k hk e => h.lk (by rw [← show k = bk from e]; exact hk)
  obtain ⟨h4, h5⟩ := h.mapKept hg (by omega) h2 h3
  exact ⟨w', hrun, h4, h5, cnt, D, h1, h2, h3.touch h5 hL' (fun _ h => h)⟩
end
end Go.Proofs.YtnffigfafalocaaGreatDoor
namespace Go.Proofs.YtnffigfafalocaaGreatDoor
open Go Go.RowKit Go.Maps
set_option linter.unusedSimpArgs false
set_option linter.unusedVariables false

namespace Sh
def getE (T : Sto) (id : Nat) : Nat := match Mp.look T.now id with
  | some x => Ex.rE T.D x.epoch x.pages x.bytes
  | none => 7
def getB (T : Sto) (id : Nat) : List Nat := match Mp.look T.now id with
  | some x => Ex.rB T.D x.epoch x.pages x.bytes
  | none => []
theorem Ok.look {T : Sto} (h : Ok T) {id : Nat} {x : Th} (hl : Mp.look T.now id = some x) : x.bytes ≤ 65536 ∧ x.epoch < 4294967296 ∧ x.pages.length ≤ 274 ∧ x.pages.length = Ex.pages x.bytes ∧ (∀ y ∈ x.pages, y < 4294967296) := by
  have hm := Mp.mem_of_look hl
  have ht := h.thn _ hm
  refine ⟨ht.bytes, ht.epoch, by rw [ht.len]; exact pages_max ht.bytes, ht.len, fun y hy => ?_⟩
  have := (h.nrng hm hy).2
  have := many_le h.hi
  omega
end Sh
section
variable {w0 w w' : World} {s d f : Nat} {T : Sh.Sto} {E : List Part}
/-- a full store's blocks -/
theorem Ss.in (h : Sg true w0 w s d f T E) : ∃ bn bk ta tc L, StoIn w s (some ⟨d, 0, none⟩) (some ⟨f, 0, none⟩) T.m (some bn) bk ta tc L ∧ (∀ k, stoO s (some bn) bk L k → w0.heap.size ≤ k ∧ k < w.heap.size) ∧ (∀ k, L k → k ≠ f) ∧
    ∀ w' d' S' m' nb' bk' ta' tc' L', StoIn w' s (some ⟨d, 0, none⟩) (some ⟨f, 0, none⟩) m' (some nb') bk' ta' tc' L' → Touch (stoO s (some bn) bk L) w w' → (∀ k, stoO s (some nb') bk' L' k → stoO s (some bn) bk L k ∨ w.heap.size ≤ k) → d' = T.D → S' = T.S → Sg true w0 w' s d f ⟨d', S', m'.epoch, m'.now, m'.kept, m'.table, m'.puts⟩ E := by
  obtain ⟨nb, bk, ta, tc, L, h1, h2, h3, h4, h5, h6⟩ := Dd.stoX h
  cases nb with
  | none => cases h2
  | some bn =>
    refine ⟨bn, bk, ta, tc, L, h1, h4, fun k hk e => ?_, fun w' d' S' m' nb' bk' ta' tc' L' h1' t hin e1 e2 => ?_⟩
    · obtain ⟨C, ⟨_, hC, _⟩, hd⟩ := h5 _ (List.mem_cons_of_mem _ List.mem_cons_self)
      exact hd k (Or.inr (Or.inr (Or.inr hk))) (by rw [e]; exact hC)
    · subst e1 e2
      exact h6 w' _ _ true m' [] (some nb') bk' ta' tc' L' h1' rfl (fun x hx => by cases hx) t hin
theorem Ss.epochC (h : Sg true w0 w s d f T E) : Calls Tryz.prog 14 #[.pointer (some ⟨s, 0, none⟩)] w fun e w' => e = .returned (.int .u32 (T.epoch : Nat)) ∧ w = w' := by
  have c0 := h.c0
  have c1 := h.c1
  go_enter Tryz.func14, Tryz.ntmps14
  go_wp2_with fail
  refine (shThere_at w s d c0).mono ?_
  rintro e w' ⟨rfl, rfl⟩
  go_wp2
  go_ret
  exact ⟨rfl, rfl⟩
theorem Ss.freeC (h : Sg true w0 w s d f T E) : Calls Tryz.prog 41 #[.pointer (some ⟨s, 0, none⟩)] w fun e w' => e = .returned (.int .i64 ((Fr.lst T.S).length : Nat)) ∧ w = w' := by
  have c0 := h.c0
  have c5 := h.c5
  have hm := Lib.hid h.map.1
  clear h
  go_enter Tryz.func41, Tryz.ntmps41
  go_wp2_with fail
  refine (shThere_at w s d c0).mono ?_
  rintro e w' ⟨rfl, rfl⟩
  go_wp2_with fail
  refine (free_any w f 1 (1 + Sh.many T.D) T.S hm.out).mono ?_
  rintro e w' ⟨rfl, rfl⟩
  go_wp2
  go_ret
  exact ⟨rfl, rfl⟩
set_option maxRecDepth 100000 in
set_option maxHeartbeats 4000000 in
theorem Ss.get (h : Sg true w0 w s d f T E) (hT : Sh.Ok T) (id : Nat) (hid : id < 4294967296) :
    Calls Tryz.prog 12 #[.pointer (some ⟨s, 0, none⟩), .int .u32 (id : Nat)] w fun e w' => ∃ b k, e = .returned (.tuple #[.slice b k k, .int .i64 (Sh.getE T id : Nat)]) ∧ (Sh.getB T id).length = k ∧ Sg true w0 w' s d f T (Part.sl 5 b k k (nums .u8 (Sh.getB T id)) :: E) := by
  have H := Lib.hid h
  have HT := Lib.hid hT
  obtain ⟨bn, bk, ta, tc, L, hin, hO, hLf, hk⟩ := Ss.in h
  have c0 := h.c0
  have c2 : w.cell? ⟨s, 2, none⟩ = some (.map (some bn)) := hin.row.cell 2
  obtain ⟨v, hl1, hl2, hn, hs⟩ := sh_look (hin.now bn rfl).1 hid
  cases hlk : Mp.look T.now id with
  | none =>
    obtain rfl := hn hlk
    have e1 : Sh.getE T id = 7 := by rw [Sh.getE, hlk]
    have e2 : Sh.getB T id = [] := by rw [Sh.getB, hlk]
    rw [show Mp.look T.m.now id = none from hlk, Option.isSome_none] at hl1
    unfold noTh at hl1
    rw [e1, e2]
    clear h hT hin hO hLf hk hn hs hlk e1 e2
    go_enter Tryz.func12, Tryz.ntmps12
    go_wp2_with fail
    refine (shThere_at w s d c0).mono ?_
    rintro e w' ⟨rfl, rfl⟩
    go_wp2
    go_ret2
    exact ⟨none, 0, rfl, rfl, (H.out.no ((Touch.refl No w).alloc _)).push (born_own (Touch.refl No _) (Own.nil _ _ _))⟩
  | some x =>
    obtain ⟨a, c, rfl, hA⟩ := hs x hlk
    obtain ⟨x1, x2, x3, x4, x5⟩ := hT.look hlk
    have e1 : Sh.getE T id = Ex.rE T.D x.epoch x.pages x.bytes := by rw [Sh.getE, hlk]
    have e2 : Sh.getB T id = Ex.rB T.D x.epoch x.pages x.bytes := by rw [Sh.getB, hlk]
    rw [show Mp.look T.m.now id = some x from hlk, Option.isSome_some] at hl1
    rw [e1, e2]
    obtain ⟨er, her⟩ : ∃ er, Ex.rE T.D x.epoch x.pages x.bytes = er := ⟨_, rfl⟩
    obtain ⟨bs, hbs⟩ : ∃ bs, Ex.rB T.D x.epoch x.pages x.bytes = bs := ⟨_, rfl⟩
    rw [her, hbs]
    obtain ⟨xb, xe, xp, xf⟩ := x
    obtain ⟨n, hn'⟩ : ∃ n, xp.length = n := ⟨_, rfl⟩
    unfold thV at hl1
    dsimp only at *
    rw [hn'] at hl1
    have HN := Lib.hid hn'
    have Her := Lib.hid her
    have Hbs := Lib.hid hbs
    have Hn3 : Hid (n ≤ 274) := by show _ ≤ _; rw [← hn']; exact x3
    have HX := Lib.hid x5
    have HR : Hid (Rd w a (nums .u32 xp)) := hA.2.2.1
    have Hxe := Lib.hid x2
    have Hxb := Lib.hid x1
    clear h hT hin hO hLf hk hn hs hlk e1 e2 hA hn' x1 x2 x3 x4 x5 hl2 her hbs
    go_enter Tryz.func12, Tryz.ntmps12
    go_wp2_with fail
    refine (shThere_at w s d c0).mono ?_
    rintro e w' ⟨rfl, rfl⟩
    go_upto_region 4 with fail
    obtain ⟨X, hX⟩ : ∃ X, X = w.heap.size := ⟨_, rfl⟩
    obtain ⟨w2, hw2⟩ : ∃ w2, w2 = w.alloc (.cells #[.int .u32 (xb : Nat), .int .u32 (xe : Nat), .slice a n c, .bool xf] 103) := ⟨_, rfl⟩
    have S2 : Hid (Sg true w0 w2 s d f T (Part.row X 103 [.int .u32 (xb : Nat), .int .u32 (xe : Nat), .slice a n c, .bool xf] :: E)) := by
      show Sg _ _ _ _ _ _ _ _
      rw [hw2, hX]
      exact H.out.push (Born.row w 103 #[.int .u32 (xb : Nat), .int .u32 (xe : Nat), .slice a n c, .bool xf])
    have HR2 : Hid (Rd w2.drew a (nums .u32 xp)) := by show Rd _ _ _; rw [hw2]; exact HR.out.no (((Touch.refl No w).alloc _).drew)
    rw [← hw2, ← hX]
    clear hw2 hX HR c0 c2 hl1
    have S2D := Lib.hid (S2.out.no (Touch.refl No w2).drew)
    have hS : w2.cell? ⟨s, 0, none⟩ = some (.pointer (some ⟨d, 0, none⟩)) ∧ w2.cell? ⟨X, 0, none⟩ = some (.int .u32 (xb : Nat)) ∧ w2.cell? ⟨X, 1, none⟩ = some (.int .u32 (xe : Nat)) ∧ w2.cell? ⟨X, 2, none⟩ = some (.slice a n c) := ⟨S2.out.c0, (S2.out.row List.mem_cons_self).cell 0, (S2.out.row List.mem_cons_self).cell 1, (S2.out.row List.mem_cons_self).cell 2⟩
    have C : Hid (Calls Tryz.prog 62 #[.pointer (some ⟨d, 0, none⟩), .int .u32 (xe : Nat), .slice a n c, .int .i64 (xb : Nat)] w2.drew fun e w' => ∃ b k, e = .returned (.tuple #[.slice b k k, .int .i64 (er : Nat)]) ∧ (bs).length = k ∧ Dd w0 w' d T.D (Part.sl 5 b k k (nums .u8 bs) :: Part.sto s (some ⟨d, 0, none⟩) (some ⟨f, 0, none⟩) true T.m :: Part.map f 1 (1 + Sh.many T.D) T.S :: Part.row X 103 [.int .u32 (xb : Nat), .int .u32 (xe : Nat), .slice a n c, .bool xf] :: E)) := by
      rw [← Her.out, ← Hbs.out]
      exact Dd.exRead S2D.out xe Hxe.out a n c xp HN.out (by have := Hn3.out; omega) HR2.out HX.out xb (by have := Hxb.out; omega)
    have HS0 : Hid (∀ w' b k, Dd w0 w' d T.D (Part.sl 5 b k k (nums .u8 (bs)) :: Part.sto s (some ⟨d, 0, none⟩) (some ⟨f, 0, none⟩) true T.m :: Part.map f 1 (1 + Sh.many T.D) T.S :: Part.row X 103 [.int .u32 (xb : Nat), .int .u32 (xe : Nat), .slice a n c, .bool xf] :: E) → Sg true w0 w' s d f T (Part.sl 5 b k k (nums .u8 (bs)) :: Part.row X 103 [.int .u32 (xb : Nat), .int .u32 (xe : Nat), .slice a n c, .bool xf] :: E)) :=
      fun w' b k h => Dd.perm h ((List.Perm.swap _ _ _).trans ((List.Perm.swap _ _ _).cons _))
    have hwb : IntKind.i64.wrap (xb : Int) = (xb : Int) := IntWalk.i64_in _ (by have := Hxb.out; omega)
    go_wp2_with fail
    go_region_held3 (fun w' => w'.cell? ⟨s, 0, none⟩ = some (.pointer (some ⟨d, 0, none⟩)) ∧ w'.cell? ⟨X, 0, none⟩ = some (.int .u32 (xb : Nat)) ∧ w'.cell? ⟨X, 1, none⟩ = some (.int .u32 (xe : Nat)) ∧ w'.cell? ⟨X, 2, none⟩ = some (.slice a n c)) (first | exact hS | exact ⟨s9.c0, (s9.row (List.mem_cons_of_mem _ List.mem_cons_self)).cell 0, (s9.row (List.mem_cons_of_mem _ List.mem_cons_self)).cell 1, (s9.row (List.mem_cons_of_mem _ List.mem_cons_self)).cell 2⟩ | exact ⟨S2D.out.c0, (S2D.out.row List.mem_cons_self).cell 0, (S2D.out.row List.mem_cons_self).cell 1, (S2D.out.row List.mem_cons_self).cell 2⟩) (first
      | (go_at_call 62; refine C.out.mono ?_; rintro e w9 ⟨b9, k9, rfl, h9, q9⟩; have s9 := HS0.out _ _ _ q9; clear q9))
    all_goals
      go_wp2
      go_ret2
      exact ⟨b9, k9, rfl, h9, (s9.perm (List.Perm.swap _ _ _)).drop⟩
end
end Go.Proofs.YtnffigfafalocaaGreatDoor
namespace Go.Proofs.YtnffigfafalocaaGreatDoor
open Go Go.RowKit Go.Maps
set_option linter.unusedSimpArgs false
set_option linter.unusedVariables false

theorem Sh.Ok.dropped {T : Sh.Sto} (h : Sh.Ok T) {id : Nat} {x : Sh.Th} (hl : Mp.look T.now id = some x) : Sh.dropped T x = Sh.dropS T (Mp.look T.now id) := by
  rw [hl, Sh.dropped, Sh.dropS]
  by_cases hf : x.fresh = true
  · rw [if_pos hf, if_pos hf, (h.give hl hf).2]
  · rw [if_neg hf, if_neg hf]
section
variable {w0 w w' : World} {s d f : Nat} {T : Sh.Sto} {E : List Part}
end
end Go.Proofs.YtnffigfafalocaaGreatDoor
namespace Go.Proofs.YtnffigfafalocaaGreatDoor
open Go Go.RowKit Go.Maps
set_option linter.unusedSimpArgs false
set_option linter.unusedVariables false

/-- a list that came in, or that stands among these, from its second cell on, too -/
def Off (w0 : World) (E : List Part) (a : Option Addr) (vs : List Value) : Prop := Rd w0 a vs ∨ (∃ Ty n c us, Part.sl Ty a n c (vs ++ us) ∈ E) ∨ (∃ x Ty, a = some ⟨x, 0, none⟩ ∧ Part.row x Ty vs ∈ E) ∨ ∃ Ty a0 n c v, a = cutAddr a0 c 1 ∧ Part.sl Ty a0 n c (v :: vs) ∈ E
theorem Off.mono {w0 : World} {E E' : List Part} {a : Option Addr} {vs : List Value} (h : Off w0 E a vs) (hE : ∀ q ∈ E, q ∈ E') : Off w0 E' a vs := by
  rcases h with h | ⟨Ty, n, c, us, h⟩ | ⟨x, Ty, e, h⟩ | ⟨Ty, a0, n, c, v, e, h⟩
  · exact Or.inl h
  · exact Or.inr (Or.inl ⟨Ty, n, c, us, hE _ h⟩)
  · exact Or.inr (Or.inr (Or.inl ⟨x, Ty, e, hE _ h⟩))
  · exact Or.inr (Or.inr (Or.inr ⟨Ty, a0, n, c, v, e, hE _ h⟩))
theorem sl_off {w : World} {Ty : TypeId} {a : Option Addr} {n c : Nat} {us : List Value} {C : Nat → Prop} (h : (Part.sl Ty a n c us).P w C) (hv : us ≠ []) : ∃ g o, a = some ⟨g, o, none⟩ ∧ C g := by
  obtain ⟨h1, h2, h3, h4, h5⟩ := h
  have hpos : 0 < us.length := List.length_pos_iff.2 hv
  rcases h5 with h5 | ⟨g', o', cs, ha, hg, hc, hO, _⟩
  · omega
  · exact ⟨g', o', ha, hO⟩
theorem Off.keep {w0 w : World} {E : List Part} {a : Option Addr} {vs : List Value} {A : Nat → Prop} (h : Off w0 E a vs) (t : Touch No w0 w) (hA : ∀ k, A k → w0.heap.size ≤ k ∧ k < w.heap.size) (hq : ∀ q ∈ E, ∃ C, q.P w C ∧ ∀ k, A k → ¬ C k) : Keep w A a vs := by
  rcases h with h | ⟨Ty, n, c, us, h⟩ | ⟨x, Ty, e, h⟩ | ⟨Ty, a0, n, c, v, e, h⟩
  · exact keep_old h t hA
  · obtain ⟨C, hC, hd⟩ := hq _ h
    refine ⟨by
      have h1 := (sl_rd hC).take vs.length
      rwa [List.take_left] at h1, fun g o e hv ho => ?_⟩
    obtain ⟨g', o', ha, hO⟩ := sl_off hC (fun e => hv (List.append_eq_nil_iff.1 e).1)
    rw [ha] at e; cases e; exact hd _ ho hO
  · obtain ⟨C, ⟨hr, hx, _⟩, hd⟩ := hq _ h
    refine ⟨fun i v hi => ⟨x, 0, e, by rw [Nat.zero_add, hr.cell]; exact hi⟩, fun g o e' hv ho => ?_⟩
    rw [e] at e'; cases e'
    exact hd _ ho hx
  · obtain ⟨C, hC, hd⟩ := hq _ h
    obtain ⟨g', o', ha, hO⟩ := sl_off hC (List.cons_ne_nil _ _)
    subst e
    refine ⟨(sl_rd hC).cut (cap := c) (l := 1) (by have := sl_len hC; omega), fun g o e' hv ho => ?_⟩
    obtain ⟨ad, e1, e2⟩ := cut_block e'
    rw [ha] at e1; cases e1
    exact hd g ho (by rw [← show g' = g from e2]; exact hO)
section
variable {u : Bool} {w0 w w' : World} {s d f : Nat} {T : Sh.Sto} {E : List Part}
theorem Sg.rdFar (h : Sg u w0 w s d f T E) {a : Option Addr} {vs : List Value} (hf : Off w0 E a vs) : Rd w a vs := by
  obtain ⟨A, h1, hA, hq, _⟩ := Dd.with0 h
  exact (hf.keep h.end hA (fun q hq' => hq q (List.mem_cons_of_mem _ (List.mem_cons_of_mem _ hq')))).1
theorem tab_after (hT : TabAt w0) (t : Touch No w0 w) : TabAt w := hT.touch t (fun f => f)
/-- Take: the least that are free -/
theorem Sg.take (h : Sg u w0 w s d f T E) (hT : TabAt w0) (n : Nat) (hn : n ≤ (Fr.lst T.S).length) :
    Calls Tryz.prog 50 #[.pointer (some ⟨f, 0, none⟩), .int .i64 (n : Nat)] w fun e w' => ∃ a c, e = .returned (.tuple #[.slice a n c, .int .i64 0]) ∧ Sg u w0 w' s d f { T with S := Fr.sub T.S ((Fr.lst T.S).take n) } (Part.sl 38 a n c (nums .u32 ((Fr.lst T.S).take n)) :: E) := by
  have h1 : Sl w0 w ([Part.map f 1 (1 + Sh.many T.D) T.S] ++ (Part.disk d T.D :: Part.sto s (some ⟨d, 0, none⟩) (some ⟨f, 0, none⟩) u T.m :: E)) := Sl.perm h (((List.Perm.swap _ _ _).cons _).trans (List.Perm.swap _ _ _))
  obtain ⟨F, hF, _, hf⟩ := Sl.frame h1
  refine (take_ok w f 1 (1 + Sh.many T.D) T.S n (al_map hF) (tab_after hT h.end) hn).mono fun e w' ⟨v, he, ho, t, hm⟩ => ?_
  obtain ⟨a, c, rfl, ht⟩ := map_take (n := n) hF (by rw [nums_length, List.length_take]; exact Nat.min_eq_left hn) ho t hm
  exact ⟨a, c, he, Sl.perm (hf w' _ ht) (List.Perm.append_right E (List.perm_append_comm (l₁ := [_, _]) (l₂ := [_, _])))⟩
theorem Sg.takeFull (h : Sg u w0 w s d f T E) (n : Nat) (hn : (Fr.lst T.S).length < n) :
    Calls Tryz.prog 50 #[.pointer (some ⟨f, 0, none⟩), .int .i64 (n : Nat)] w fun e w' => e = .returned (.tuple #[.slice none 0 0, .int .i64 6]) ∧ w = w' :=
  take_full w f 1 (1 + Sh.many T.D) T.S n h.map.1 (by omega)
end
end Go.Proofs.YtnffigfafalocaaGreatDoor
