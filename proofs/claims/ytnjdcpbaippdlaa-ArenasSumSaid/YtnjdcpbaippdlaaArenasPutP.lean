/-
  ArenasPut, the plain law.
-/
import Derived.Test.YtnjdcpbaippdlaaArP
namespace Go.Proofs.Ytnjdcpbaippdlaa
open Go Go.RowKit
namespace Ar
theorem take_facts {A : Arena} {id b : Nat} (h : look A.its id = none) (hr : b + A.used ≤ A.room) :
    takeE A id (b : Nat) = 0 ∧ (takeA A id (b : Nat)).room = A.room ∧ (takeA A id (b : Nat)).used = A.used + b ∧ (takeA A id (b : Nat)).puts = A.puts + 1 ∧ look (takeA A id (b : Nat)).its id = some ⟨b, none⟩ ∧ ∀ id', id' ≠ id → look (takeA A id (b : Nat)).its id' = look A.its id' := by
  have e : takeE A id (b : Nat) = 0 := by
    unfold takeE
    rw [if_neg (by omega), h, if_neg (by simp), if_neg (by omega)]
  unfold takeA
  rw [e, if_pos rfl]
  exact ⟨rfl, rfl, rfl, rfl, look_put_same _ _ _, fun id' hne => look_put_other _ hne _⟩
theorem put_facts {A : Arena} {id : Nat} {x : It} {s l : List Int} (h : look A.its id = some x) (hc : check s l = true) (hl : 4 * l.length ≤ x.bytes) :
    putE A id s l = 0 ∧ (putA A id s l).room = A.room ∧ (putA A id s l).used = A.used ∧ (putA A id s l).puts = A.puts + 1 ∧ look (putA A id s l).its id = some ⟨x.bytes, some (s, l)⟩ ∧ ∀ id', id' ≠ id → look (putA A id s l).its id' = look A.its id' := by
  unfold putE putA
  rw [h]
  simp only
  rw [if_neg (by rw [hc]; decide), if_neg (by omega), if_neg (by rw [hc]; decide), if_neg (by omega)]
  exact ⟨rfl, rfl, rfl, rfl, look_put_same _ _ _, fun id' hne => look_put_other _ hne _⟩
theorem give_facts {A : Arena} {id : Nat} {x : It} (h : look A.its id = some x) :
    giveE A id = 0 ∧ (giveA A id).room = A.room ∧ (giveA A id).used = A.used - x.bytes ∧ (giveA A id).puts = A.puts ∧ look (giveA A id).its id = none ∧ ∀ id', id' ≠ id → look (giveA A id).its id' = look A.its id' := by
  unfold giveE giveA
  rw [h]
  exact ⟨rfl, rfl, rfl, rfl, look_del_same _ _, fun id' hne => look_del_other _ hne⟩
theorem get_facts {A : Arena} {id b : Nat} {s l : List Int} (h : look A.its id = some ⟨b, some (s, l)⟩) : getE A id = 0 ∧ getS A id = s ∧ getL A id = l := by
  unfold getE getS getL
  rw [h]
  exact ⟨rfl, rfl, rfl⟩
theorem get_none {A : Arena} {id b : Nat} (h : look A.its id = some ⟨b, none⟩) : getE A id = 9 ∧ getS A id = [] ∧ getL A id = [] := by
  unfold getE getS getL
  rw [h]
  exact ⟨rfl, rfl, rfl⟩
theorem check_one {n : Nat} {l : List Int} (h : l.length = n) (h1 : 1 ≤ n) (h2 : n ≤ 64) : check [(n : Int)] l = true := by
  have hs : size [(n : Int)] = n := by
    unfold size
    rw [if_neg (by simp), times, if_neg (by omega), if_neg (by omega), times]
    omega
  unfold check
  rw [hs, h]
  simp
  omega
/-- what the law does, one act behind the other -/
structure Puts (id id2 n m : Nat) (L M : List Int) (A1 A2 A3 A4 A5 A6 A7 : Arena) : Prop where
  e1 : takeE (new 1000) id ((4 * n : Nat) : Int) = 0
  a1 : takeA (new 1000) id ((4 * n : Nat) : Int) = A1
  p1 : A1.puts < 100
  e2 : takeE A1 id2 ((4 * n : Nat) : Int) = 0
  a2 : takeA A1 id2 ((4 * n : Nat) : Int) = A2
  p2 : A2.puts < 100
  e3 : putE A2 id [(n : Int)] L = 0
  a3 : putA A2 id [(n : Int)] L = A3
  p3 : A3.puts < 100
  e4 : putE A3 id2 [(m : Int)] M = 0
  a4 : putA A3 id2 [(m : Int)] M = A4
  p4 : A4.puts < 100
  e5 : putE A4 id [(m : Int)] M = 0
  a5 : putA A4 id [(m : Int)] M = A5
  p5 : A5.puts < 100
  g5 : getE A5 id = 0 ∧ getS A5 id = [(m : Int)] ∧ getL A5 id = M
  k5 : getE A5 id2 = 0 ∧ getS A5 id2 = [(m : Int)] ∧ getL A5 id2 = M
  e6 : giveE A5 id = 0
  a6 : giveA A5 id = A6
  p6 : A6.puts < 100
  e7 : takeE A6 id ((4 : Nat) : Int) = 0
  a7 : takeA A6 id ((4 : Nat) : Int) = A7
  g7 : getE A7 id = 9 ∧ getS A7 id = [] ∧ getL A7 id = []
  k7 : getE A7 id2 = 0 ∧ getS A7 id2 = [(m : Int)] ∧ getL A7 id2 = M
theorem puts_all {id id2 n m : Nat} {L M : List Int} (hne : id2 ≠ id) (hL : L.length = n) (hM : M.length = m) (h1 : 1 ≤ n) (h2 : n ≤ 64) (h3 : 1 ≤ m) (h4 : m ≤ n) : ∃ A1 A2 A3 A4 A5 A6 A7, Puts id id2 n m L M A1 A2 A3 A4 A5 A6 A7 := by
  obtain ⟨e1, r1, u1, q1, l1, o1⟩ := take_facts (A := new 1000) (id := id) (b := 4 * n) rfl (by show 4 * n + 0 ≤ 1000; omega)
  obtain ⟨A1, hA1⟩ : ∃ A1, takeA (new 1000) id ((4 * n : Nat) : Int) = A1 := ⟨_, rfl⟩
  rw [hA1] at r1 u1 q1 l1 o1
  replace r1 : A1.room = 1000 := r1
  replace u1 : A1.used = 0 + 4 * n := u1
  replace q1 : A1.puts = 0 + 1 := q1
  obtain ⟨e2, r2, u2, q2, l2, o2⟩ := take_facts (A := A1) (id := id2) (b := 4 * n) (by rw [o1 _ hne]; rfl) (by omega)
  obtain ⟨A2, hA2⟩ : ∃ A2, takeA A1 id2 ((4 * n : Nat) : Int) = A2 := ⟨_, rfl⟩
  rw [hA2] at r2 u2 q2 l2 o2
  have j2 : look A2.its id = some ⟨4 * n, none⟩ := by rw [o2 _ hne.symm]; exact l1
  obtain ⟨e3, r3, u3, q3, l3, o3⟩ := put_facts (s := [(n : Int)]) (l := L) j2 (check_one hL h1 h2) (by rw [hL]; exact Nat.le_refl _)
  obtain ⟨A3, hA3⟩ : ∃ A3, putA A2 id [(n : Int)] L = A3 := ⟨_, rfl⟩
  rw [hA3] at r3 u3 q3 l3 o3
  have j3 : look A3.its id2 = some ⟨4 * n, none⟩ := by rw [o3 _ hne]; exact l2
  obtain ⟨e4, r4, u4, q4, l4, o4⟩ := put_facts (s := [(m : Int)]) (l := M) j3 (check_one hM h3 (by omega)) (by rw [hM]; show 4 * m ≤ 4 * n; omega)
  obtain ⟨A4, hA4⟩ : ∃ A4, putA A3 id2 [(m : Int)] M = A4 := ⟨_, rfl⟩
  rw [hA4] at r4 u4 q4 l4 o4
  have j4 : look A4.its id = some ⟨4 * n, some ([(n : Int)], L)⟩ := by rw [o4 _ hne.symm]; exact l3
  obtain ⟨e5, r5, u5, q5, l5, o5⟩ := put_facts (s := [(m : Int)]) (l := M) j4 (check_one hM h3 (by omega)) (by rw [hM]; show 4 * m ≤ 4 * n; omega)
  obtain ⟨A5, hA5⟩ : ∃ A5, putA A4 id [(m : Int)] M = A5 := ⟨_, rfl⟩
  rw [hA5] at r5 u5 q5 l5 o5
  have j5 : look A5.its id2 = some ⟨4 * n, some ([(m : Int)], M)⟩ := by rw [o5 _ hne]; exact l4
  obtain ⟨e6, r6, u6, q6, l6, o6⟩ := give_facts l5
  obtain ⟨A6, hA6⟩ : ∃ A6, giveA A5 id = A6 := ⟨_, rfl⟩
  rw [hA6] at r6 u6 q6 l6 o6
  replace u6 : A6.used = A5.used - 4 * n := u6
  have j6 : look A6.its id2 = some ⟨4 * n, some ([(m : Int)], M)⟩ := by rw [o6 _ hne]; exact j5
  obtain ⟨e7, r7, u7, q7, l7, o7⟩ := take_facts (A := A6) (id := id) (b := 4) l6 (by omega)
  obtain ⟨A7, hA7⟩ : ∃ A7, takeA A6 id ((4 : Nat) : Int) = A7 := ⟨_, rfl⟩
  rw [hA7] at r7 u7 q7 l7 o7
  have j7 : look A7.its id2 = some ⟨4 * n, some ([(m : Int)], M)⟩ := by rw [o7 _ hne]; exact j6
  exact ⟨A1, A2, A3, A4, A5, A6, A7, e1, hA1, by omega, e2, hA2, by omega, e3, hA3, by omega, e4, hA4, by omega, e5, hA5, by omega, get_facts l5, get_facts j5, e6, hA6, by omega, e7, hA7, get_none l7, get_facts j7⟩
end Ar
end Go.Proofs.Ytnjdcpbaippdlaa
