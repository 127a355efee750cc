/-
  The plain mathematics of a page of which four neighbours turn. No program in sight.
-/
import Derived.Test.YtpmkegbgbldpnaaGreatDoorK21
namespace Go.Proofs.YtpmkegbgbldpnaaGreatDoor
open Go Go.RowKit
namespace Rt
theorem on_neg (sum : Nat) (a b : List Nat) : on sum (a ++ b) = neg (run (run (neg sum) a) b) := by rw [on, run_append]
theorem run_of_on {sum : Nat} {a b : List Nat} (ha : ∀ x ∈ a, x < 256) (hb : ∀ x ∈ b, x < 256) (h : on sum a = on sum b) : run (neg sum) a = run (neg sum) b :=
  neg_inj (run_lt _ (neg_lt sum) ha) (run_lt _ (neg_lt sum) hb) h
theorem unfour_inj {x y : List Nat} (hx : x.length = 4) (hy : y.length = 4) (lx : ∀ c ∈ x, c < 256) (ly : ∀ c ∈ y, c < 256) (r s : List Nat) (h : unfour (x ++ r) = unfour (y ++ s)) : x = y := by
  obtain ⟨a, b, c, d, rfl⟩ := list4 hx
  obtain ⟨a', b', c', d', rfl⟩ := list4 hy
  have l1 := lx a (by simp)
  have l2 := lx b (by simp)
  have l3 := lx c (by simp)
  have l4 := lx d (by simp)
  have m1 := ly a' (by simp)
  have m2 := ly b' (by simp)
  have m3 := ly c' (by simp)
  have m4 := ly d' (by simp)
  have h' : a + 256 * b + 65536 * c + 16777216 * d = a' + 256 * b' + 65536 * c' + 16777216 * d' := by
    simpa [unfour] using h
  have e1 : a = a' := by omega
  have e2 : b = b' := by omega
  have e3 : c = c' := by omega
  have e4 : d = d' := by omega
  rw [e1, e2, e3, e4]
end Rt
namespace Pg
/-- in the part that is summed first -/
theorem turn_head {num : Nat} {A X Y B : List Nat} (hX : X.length = 4) (hY : Y.length = 4) (lu : ∀ x ∈ A ++ X ++ B, x < 256) (lv : ∀ x ∈ A ++ Y ++ B, x < 256) (hk : A.length + 4 ≤ 12) (hm : many (A ++ X ++ B) = many (A ++ Y ++ B))
    (hu : err num (A ++ X ++ B) = 0) {num' : Nat} (hv : err num' (A ++ Y ++ B) = 0) : X = Y := by
  have drops : ∀ (Z : List Nat), Z.length = 4 → ∀ n, A.length + 4 ≤ n → (A ++ Z ++ B).drop n = B.drop (n - (A.length + 4)) := fun Z hZ n hn => by
    rw [List.drop_append, List.length_append, hZ, List.drop_of_length_le (by simp; omega), List.nil_append]
  have takes : ∀ (Z : List Nat), Z.length = 4 → (A ++ Z ++ B).take 12 = A ++ Z ++ B.take (12 - (A.length + 4)) := fun Z hZ => by
    rw [List.take_append, List.length_append, hZ, List.take_of_length_le (by simp; omega)]
  have r : ∀ {n : Nat} {b : List Nat}, err n b = 0 → right b = told b := fun {n b} h => by
    unfold err at h
    split at h
    · split at h
      · cases h
      · rename_i h1; exact Classical.not_not.1 h1
    · cases h
  have ru := r hu
  have rv := r hv
  have ht : told (A ++ X ++ B) = told (A ++ Y ++ B) := by rw [told, told, drops X hX 12 hk, drops Y hY 12 hk]
  have hb : body (A ++ X ++ B) = body (A ++ Y ++ B) := by rw [body, body, drops X hX 16 (by omega), drops Y hY 16 (by omega), hm]
  rw [ht, ← rv, right, right, hb, takes X hX, takes Y hY, Rt.of, Rt.of] at ru
  have hA : ∀ x ∈ A, x < 256 := fun x hx => lu x (by simp [hx])
  have hXl : ∀ x ∈ X, x < 256 := fun x hx => lu x (by simp [hx])
  have hYl : ∀ x ∈ Y, x < 256 := fun x hx => lv x (by simp [hx])
  have hB : ∀ x ∈ B, x < 256 := fun x hx => lu x (by simp [hx])
  have hbd : ∀ x ∈ body (A ++ Y ++ B), x < 256 := fun x hx => lv x (List.mem_of_mem_drop (List.mem_of_mem_take hx))
  have j : ∀ Z : List Nat, (∀ x ∈ Z, x < 256) → Rt.on (Rt.on 0 (A ++ Z ++ B.take (12 - (A.length + 4)))) (body (A ++ Y ++ B)) = Rt.on 0 (A ++ Z ++ (B.take (12 - (A.length + 4)) ++ body (A ++ Y ++ B))) := fun Z hZ => by
    rw [Rt.on_append _ _ _ (by decide) (fun x hx => by
      rcases List.mem_append.1 hx with h | h
      · rcases List.mem_append.1 h with h | h
        · exact hA x h
        · exact hZ x h
      · exact hB x (List.mem_of_mem_take h)), List.append_assoc (A ++ Z)]
  rw [j X hXl, j Y hYl] at ru
  exact Rt.on_few (by omega) (by omega) hA hXl hYl (fun x hx => by
    rcases List.mem_append.1 hx with h | h
    · exact hB x (List.mem_of_mem_take h)
    · exact hbd x h) ru
theorem err_ok {num : Nat} {b : List Nat} (h : err num b = 0) : form b ∧ right b = told b := by
  unfold err at h
  split at h
  · rename_i hf
    split at h
    · cases h
    · rename_i h1; exact ⟨hf, Classical.not_not.1 h1⟩
  · cases h
/-- the sum itself -/
theorem turn_told {A X Y B : List Nat} (hA : A.length = 12) (hX : X.length = 4) (hY : Y.length = 4) (lu : ∀ x ∈ A ++ X ++ B, x < 256) (lv : ∀ x ∈ A ++ Y ++ B, x < 256) {num num' : Nat}
    (hu : err num (A ++ X ++ B) = 0) (hv : err num' (A ++ Y ++ B) = 0) : X = Y := by
  have d12 : ∀ Z : List Nat, (A ++ Z ++ B).drop 12 = Z ++ B := fun Z => by rw [List.append_assoc, ← hA, List.drop_left]
  have t12 : ∀ Z : List Nat, (A ++ Z ++ B).take 12 = A := fun Z => by rw [List.append_assoc, ← hA, List.take_left]
  have d16 : ∀ Z : List Nat, Z.length = 4 → (A ++ Z ++ B).drop 16 = B := fun Z hZ => by
    rw [show 16 = 12 + 4 from rfl, ← List.drop_drop, d12, ← hZ, List.drop_left]
  have d8 : ∀ Z : List Nat, many (A ++ Z ++ B) = Rt.unfour (A.drop 8 ++ (Z ++ B)) := fun Z => by
    rw [many, List.append_assoc, List.drop_append_of_le_length (by omega)]
  have m : many (A ++ X ++ B) = many (A ++ Y ++ B) := by
    obtain ⟨a, b, c, d, h4⟩ := Rt.list4 (l := A.drop 8) (by rw [List.length_drop]; omega)
    rw [d8, d8, h4]; rfl
  have ru := (err_ok hu).2
  have rv := (err_ok hv).2
  have hb : body (A ++ X ++ B) = body (A ++ Y ++ B) := by rw [body, body, d16 X hX, d16 Y hY, m]
  rw [right, t12, hb] at ru
  rw [right, t12] at rv
  have ht : told (A ++ X ++ B) = told (A ++ Y ++ B) := by rw [← ru, ← rv]
  rw [told, told, d12, d12] at ht
  exact Rt.unfour_inj hX hY (fun x hx => lu x (by simp [hx])) (fun x hx => lv x (by simp [hx])) B B ht
theorem nought_all {l : List Nat} (h : Rt.nought l = true) : l = List.replicate l.length 0 := by
  refine List.eq_replicate_iff.2 ⟨rfl, fun x hx => ?_⟩
  have := List.all_eq_true.1 h x hx
  simpa using this
/-- behind the sum -/
theorem turn_body {A X Y B : List Nat} (hA : 16 ≤ A.length) (hX : X.length = 4) (hY : Y.length = 4) (lu : ∀ x ∈ A ++ X ++ B, x < 256) (lv : ∀ x ∈ A ++ Y ++ B, x < 256) {num num' : Nat}
    (hu : err num (A ++ X ++ B) = 0) (hv : err num' (A ++ Y ++ B) = 0) : X = Y := by
  obtain ⟨fu, ru⟩ := err_ok hu
  obtain ⟨fv, rv⟩ := err_ok hv
  have d : ∀ (Z : List Nat) (n : Nat), n ≤ 16 → (A ++ Z ++ B).drop n = A.drop n ++ (Z ++ B) := fun Z n hn => by
    rw [List.append_assoc, List.drop_append_of_le_length (by omega)]
  have t : ∀ (Z : List Nat), (A ++ Z ++ B).take 12 = A.take 12 := fun Z => by rw [List.append_assoc, List.take_append_of_le_length (by omega)]
  have un : ∀ (n : Nat), n ≤ 12 → ∀ Z : List Nat, Rt.unfour ((A ++ Z ++ B).drop n) = Rt.unfour (A.drop n) := fun n hn Z => by
    rw [d Z n (by omega)]
    obtain ⟨a, b, c, e, h4⟩ := Rt.list4 (l := (A.drop n).take 4) (by rw [List.length_take, List.length_drop]; omega)
    rw [← List.take_append_drop 4 (A.drop n), h4]; rfl
  have m : many (A ++ X ++ B) = many (A ++ Y ++ B) := by rw [many, many, un 8 (by omega), un 8 (by omega)]
  have tl : told (A ++ X ++ B) = told (A ++ Y ++ B) := by rw [told, told, un 12 (by omega), un 12 (by omega)]
  have full : ∀ {b : List Nat}, form b → b.drop 16 = body b ++ List.replicate (240 - many b) 0 := fun {b} h => by
    conv => lhs; rw [← List.take_append_drop (many b) (b.drop 16)]
    rw [List.drop_drop, nought_all h.2.2, List.length_drop, h.1]
    rw [body, show 256 - (16 + many b) = 240 - many b by omega]
  have e1 := full fu
  have e2 := full fv
  rw [d X 16 (Nat.le_refl _)] at e1
  rw [d Y 16 (Nat.le_refl _)] at e2
  rw [right, t, tl, ← rv, right, t, Rt.of] at ru
  have lbu : ∀ x ∈ body (A ++ X ++ B), x < 256 := fun x hx => lu x (List.mem_of_mem_drop (List.mem_of_mem_take hx))
  have lbv : ∀ x ∈ body (A ++ Y ++ B), x < 256 := fun x hx => lv x (List.mem_of_mem_drop (List.mem_of_mem_take hx))
  have hr := Rt.run_of_on lbu lbv ru
  have hA16 : ∀ x ∈ A.drop 16, x < 256 := fun x hx => lu x (by simp [List.mem_of_mem_drop hx])
  have hXl : ∀ x ∈ X, x < 256 := fun x hx => lu x (by simp [hx])
  have hYl : ∀ x ∈ Y, x < 256 := fun x hx => lv x (by simp [hx])
  have hB : ∀ x ∈ B, x < 256 := fun x hx => lu x (by simp [hx])
  have all : Rt.on (Rt.on 0 (A.take 12)) (A.drop 16 ++ X ++ B) = Rt.on (Rt.on 0 (A.take 12)) (A.drop 16 ++ Y ++ B) := by
    have a1 : A.drop 16 ++ X ++ B = body (A ++ X ++ B) ++ List.replicate (240 - many (A ++ X ++ B)) 0 := (List.append_assoc _ _ _).trans e1
    have a2 : A.drop 16 ++ Y ++ B = body (A ++ Y ++ B) ++ List.replicate (240 - many (A ++ Y ++ B)) 0 := (List.append_assoc _ _ _).trans e2
    rw [a1, a2, Rt.on_neg, Rt.on_neg, hr, m]
  exact Rt.on_few (by omega) (by omega) hA16 hXl hYl hB all

/-- four bytes turned -/
def xor4 (X : List Nat) (z : Nat) : List Nat := (List.range 4).map fun i => X.getD i 0 ^^^ (z >>> (8 * i)) % 256
def turn (b : List Nat) (k z : Nat) : List Nat := b.take k ++ xor4 ((b.drop k).take 4) z ++ b.drop (k + 4)
theorem xor4_length (X : List Nat) (z : Nat) : (xor4 X z).length = 4 := by simp [xor4]
theorem xor4_lt {X : List Nat} (h : ∀ x ∈ X, x < 256) (z : Nat) : ∀ x ∈ xor4 X z, x < 256 := by
  intro x hx
  obtain ⟨i, _, rfl⟩ := List.mem_map.1 hx
  refine Nat.xor_lt_two_pow (n := 8) ?_ (Nat.mod_lt _ (by decide))
  rw [List.getD_eq_getElem?_getD]
  cases hq : X[i]? with
  | none => simp
  | some y => exact h y (List.mem_of_getElem? hq)
theorem xor4_same {X : List Nat} (h4 : X.length = 4) {z : Nat} (hz : z < 4294967296) (h : xor4 X z = X) : z = 0 := by
  obtain ⟨a, b, c, d, rfl⟩ := Rt.list4 h4
  have h' : [a ^^^ z >>> 0 % 256, b ^^^ z >>> 8 % 256, c ^^^ z >>> 16 % 256, d ^^^ z >>> 24 % 256] = [a, b, c, d] := h
  simp only [List.cons.injEq, and_true] at h'
  obtain ⟨e0, e1, e2, e3⟩ := h'
  have c0 : z >>> 0 % 256 = 0 := Rt.xor_cancel (a := a) (by rw [Nat.xor_zero]; exact e0)
  have c1 : z >>> 8 % 256 = 0 := Rt.xor_cancel (a := b) (by rw [Nat.xor_zero]; exact e1)
  have c2 : z >>> 16 % 256 = 0 := Rt.xor_cancel (a := c) (by rw [Nat.xor_zero]; exact e2)
  have c3 : z >>> 24 % 256 = 0 := Rt.xor_cancel (a := d) (by rw [Nat.xor_zero]; exact e3)
  simp only [Nat.shiftRight_eq_div_pow] at c0 c1 c2 c3
  omega
theorem split3 {b : List Nat} {k : Nat} : b = b.take k ++ (b.drop k).take 4 ++ b.drop (k + 4) := by
  rw [List.append_assoc, ← List.drop_drop, List.take_append_drop, List.take_append_drop]
theorem turn_lt {b : List Nat} (h : ∀ x ∈ b, x < 256) (k z : Nat) : ∀ x ∈ turn b k z, x < 256 := by
  intro x hx
  simp only [turn, List.mem_append] at hx
  rcases hx with (hx | hx) | hx
  · exact h x (List.mem_of_mem_take hx)
  · exact xor4_lt (fun y hy => h y (List.mem_of_mem_drop (List.mem_of_mem_take hy))) z x hx
  · exact h x (List.mem_of_mem_drop hx)
/-- the law: four neighbours turned -/
theorem turned {b : List Nat} (hb : b.length = 256) (lt : ∀ x ∈ b, x < 256) {num num' k z : Nat} (hk : k ≤ 252) (hz : z < 4294967296) (h0 : z ≠ 0) (hok : err num b = 0) (hk' : ¬ (8 < k ∧ k < 12) ∧ ¬ (12 < k ∧ k < 16)) (h : err num' (turn b k z) = 0) (hm : 4 < k → k < 12 → many (turn b k z) = many b) : False := by
  have h4 : ((b.drop k).take 4).length = 4 := by rw [List.length_take, List.length_drop]; omega
  have hne : (b.drop k).take 4 ≠ xor4 ((b.drop k).take 4) z := fun e => h0 (xor4_same h4 hz e.symm)
  have lt' := turn_lt lt k z
  have hl : (b.take k).length = k := by rw [List.length_take]; omega
  have hok' := hok
  have lt0 := lt
  rw [split3 (b := b) (k := k)] at hok' lt0
  rw [turn] at h lt'
  apply hne
  by_cases c1 : k ≤ 8
  · refine turn_head h4 (xor4_length _ _) lt0 lt' (by omega) ?_ hok' h
    by_cases c2 : 4 < k
    · rw [← split3]; exact (hm c2 (by omega)).symm
    · have d8 : ∀ Z : List Nat, Z.length = 4 → (b.take k ++ Z ++ b.drop (k + 4)).drop 8 = b.drop 8 := fun Z hZ => by
        rw [List.drop_append, List.length_append, hl, hZ, List.drop_of_length_le (by rw [List.length_append, hl, hZ]; omega), List.nil_append, List.drop_drop]
        congr 1; omega
      rw [many, many, d8 _ h4, d8 _ (xor4_length _ _)]
  · by_cases c2 : k = 12
    · subst c2
      exact turn_told hl h4 (xor4_length _ _) lt0 lt' hok' h
    · exact turn_body (by omega) h4 (xor4_length _ _) lt0 lt' hok' h
end Pg
end Go.Proofs.YtpmkegbgbldpnaaGreatDoor
