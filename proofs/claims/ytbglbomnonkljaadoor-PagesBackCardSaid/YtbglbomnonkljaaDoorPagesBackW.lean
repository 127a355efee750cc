/-
  Package drydocklaw14 by its own text: the walk of PagesBack.
-/
import Derived.Test.YtbglbomnonkljaaDoorPgTop
import Derived.Test.YtbglbomnonkljaaDoorIn
namespace Go.Proofs.YtbglbomnonkljaaDoor
open Go Go.RowKit
set_option linter.unusedSimpArgs false

theorem snoc_lt {bs : List Nat} (h : ∀ x ∈ bs, x < 256) : ∀ x ∈ bs ++ [0], x < 256 := fun x hx => by
  rcases List.mem_append.1 hx with h' | h'
  · exact h x h'
  · have : x = 0 := by simpa using h'
    rw [this]; decide
set_option maxRecDepth 100000 in
set_option maxHeartbeats 8000000 in
theorem pagesBack_walk (w : World) (num ep : Nat) (hnum : num < 4294967296) (hep : ep < 4294967296) (pa : Option Addr) (n c : Nat) (q : List Nat) (hQ : Bytes w pa n c q) (other : Nat) :
    Calls Tryd.prog 3 #[.agg #[.int .u32 (num : Nat), .int .u32 (ep : Nat), .slice pa n c], .int .u32 (other : Nat)] w (LawPost w) := by
  have HQ := Lib.hid hQ
  have Hnum := Lib.hid hnum
  have Hep := Lib.hid hep
  have hmx := hQ.nmax
  clear hQ hnum hep
  have HR0 := Lib.hid (Row.new w 25 #[.int .u32 (num : Nat), .int .u32 (ep : Nat), .slice pa n c])
  by_cases hlen : 1000 < n
  · have h1 : (1000 : Int) < (n : Nat) := by omega
    clear hlen
    go_enter Tryd.func3, Tryd.ntmps3
    go_wp2_with fail
    refine (alive_is _).mono ?_
    rintro e w1 ⟨rfl, t1⟩
    have T1 := Lib.hid (((Touch.refl No w).alloc (.cells #[.int .u32 (num : Nat), .int .u32 (ep : Nat), .slice pa n c] 25)).trans t1)
    clear t1
    go_wp2_with fail
    refine (alive_is _).mono ?_
    rintro e w2 ⟨rfl, t2⟩
    have T2 := Lib.hid (T1.out.trans t2)
    clear t2
    go_wp2
    go_ret
    exact ⟨rfl, T2.out⟩
  · have h1 : ¬ (1000 : Int) < (n : Nat) := by omega
    clear hlen
    by_cases h240 : 240 < n
    · have h240' : (240 : Int) < (n : Nat) := by omega
      go_enter Tryd.func3, Tryd.ntmps3
      go_wp2_with fail
      refine (alive_is _).mono ?_
      rintro e w1 ⟨rfl, t1⟩
      have T1 := Lib.hid (((Touch.refl No w).alloc (.cells #[.int .u32 (num : Nat), .int .u32 (ep : Nat), .slice pa n c] 25)).trans t1)
      clear t1
      go_wp2_with fail
      refine (pagePut_no _ num ep pa n c h240).mono ?_
      rintro e w2 ⟨rfl, rfl⟩
      go_wp2
      go_ret
      exact ⟨rfl, T1.out⟩
    · have h240' : ¬ (240 : Int) < (n : Nat) := by omega
      obtain ⟨bs, hbs⟩ : ∃ bs, Pg.put num ep q = bs := ⟨_, rfl⟩
      have hn240 : q.length ≤ 240 := by rw [HQ.out.len]; omega
      have hlb : bs.length = 256 := by rw [← hbs]; exact Pg.put_length hn240
      have hltb : ∀ x ∈ bs, x < 256 := by rw [← hbs]; exact Pg.put_lt HQ.out.lt
      have he0 : Pg.err num bs = 0 ∧ Pg.epochOf num bs = ep ∧ Pg.bodyOf num bs = q := by
        rw [← hbs]
        exact ⟨by rw [Pg.put_err Hnum.out Hep.out hn240, if_pos rfl], (Pg.put_get Hnum.out Hep.out hn240).1, (Pg.put_get Hnum.out Hep.out hn240).2⟩
      have heo : other ≠ num → Pg.err other bs = 4 := fun h => by rw [← hbs, Pg.put_err Hnum.out Hep.out hn240, if_neg h]
      have Hbs := Lib.hid hbs
      have Hlb := Lib.hid hlb
      have Hltb := Lib.hid hltb
      have He0 := Lib.hid he0
      have Heo := Lib.hid heo
      have Hn240 := Lib.hid (show n ≤ 240 by omega)
      obtain ⟨I, hi0, hi1, hi2, hi3⟩ := u8_info
      have HI := Lib.hid (And.intro hi0 (And.intro hi1 (And.intro hi2 hi3)))
      clear hbs hlb hltb he0 heo hn240 h240 hi0 hi1 hi2 hi3
      go_enter Tryd.func3, Tryd.ntmps3
      go_wp2_with fail
      refine (alive_is _).mono ?_
      rintro e w1 ⟨rfl, t1⟩
      have T1 := Lib.hid (((Touch.refl No w).alloc (.cells #[.int .u32 (num : Nat), .int .u32 (ep : Nat), .slice pa n c] 25)).trans t1)
      clear t1
      go_wp2_with fail
      refine (pagePut_any _ num ep Hnum.out Hep.out pa n c q HQ.out.len Hn240.out (HQ.out.rd.no T1.out) HQ.out.lt).mono ?_
      rintro e w2 ⟨a2, c2, rfl, o2, t2⟩
      rw [Hbs.out] at o2
      obtain ⟨hc2, hm2, -⟩ := o2.room
      have O2 := Lib.hid (o2.mono (base' := w.heap.size) T1.out.size)
      have T2 := Lib.hid (T1.out.trans t2)
      clear o2 t2 T1
      go_wp2_with fail
      refine (page_at _ num a2 256 c2 bs Hlb.out hc2 hm2 O2.out.rd Hltb.out 0 ep q He0.out.1 He0.out.2.1 He0.out.2.2 n HQ.out.len).mono ?_
      rintro e w3 ⟨a3, rfl, r3, t3⟩
      have R3 := Lib.hid r3
      have O3 := Lib.hid (O2.out.touch t3 (fun _ _ _ f => f))
      have T3 := Lib.hid (T2.out.trans t3)
      have hcq := conv_str w3 pa n c q HQ.out.len (HQ.out.rd.no T3.out)
      clear r3 t3 O2 T2
      go_wp2_with fail
      refine (got_yes _ ep a3 n n q HQ.out.len R3.out).mono ?_
      rintro e w' ⟨rfl, rfl⟩
      clear hcq R3
      go_wp2_with fail
      have fin : ∀ (wx : World), Touch No w3 wx → True := fun _ _ => trivial
      clear fin
      have HOr : Hid (Pg.err num (bs.take 255) = 4) := Pg.err_length (by rw [List.length_take, Hlb.out]; decide)
      have HOs : Hid (Pg.err num (bs ++ [0]) = 4) := Pg.err_length (by rw [List.length_append, Hlb.out]; decide)
      have hh : ∀ wx : World, (Instr.slice 23 (.slice a2 256 c2) none (some (.int .i64 255)) none).run Tryd.prog wx = .ok (.slice a2 255 c2) wx := fun wx => run_head Tryd.underlying23 HI.out.1 HI.out.2.2.1 a2 256 c2 255 .i64 (by omega) wx
      have h255 : (255 : Int) ≤ (c2 : Nat) := by omega
      have hc2' : Hid (255 ≤ c2) := by show _ ≤ _; omega
      by_cases ho : other = num
      · subst ho
        refine (page_at _ other a2 256 c2 bs Hlb.out hc2 hm2 O3.out.rd Hltb.out 0 ep q He0.out.1 He0.out.2.1 He0.out.2.2 n HQ.out.len).mono ?_
        rintro e w4 ⟨a4, rfl, -, t4⟩
        have O4 := Lib.hid (O3.out.touch t4 (fun _ _ _ f => f))
        have T4 := Lib.hid (T3.out.trans t4)
        clear t4 O3 T3
        go_wp2_with fail
        refine (refused_any _ other a2 255 c2 (bs.take 255) (by rw [List.length_take, Hlb.out]; decide) hc2'.out hm2 (by have := O4.out.rd.take 255; rw [nums, ← List.map_take] at this; exact this) (fun x hx => Hltb.out x (List.mem_of_mem_take hx)) 4 HOr.out).mono ?_
        rintro e w5 ⟨rfl, t5⟩
        have O5 := Lib.hid (O4.out.touch t5 (fun _ _ _ f => f))
        have T5 := Lib.hid (T4.out.trans t5)
        clear t5 O4 T4 hh
        go_wp2_with fail
        refine wp_append_run (.tmp 113) (.tmp 114) 23 23 rfl (.slice a2 256 c2) (.slice (some ⟨w5.heap.size, 0, none⟩) 1 1) rfl rfl (R := fun v' w' => Own w' w.heap.size 5 v' (nums .u8 bs ++ nums .u8 [0]) ∧ Touch (InBlock (.slice a2 256 c2)) (w5.alloc (.cells #[.int .u8 0] 5)) w') (run_append_rd w.heap.size 23 _ 5 I (.int .u8 0) 1 Tryd.underlying23 HI.out.1 HI.out.2.1 HI.out.2.2.1 HI.out.2.2.2 rfl (.slice a2 256 c2) (nums .u8 bs) (O5.out.touch ((Touch.refl No w5).alloc _) (fun _ _ _ f => f)) (some ⟨w5.heap.size, 0, none⟩) 1 1 (nums .u8 [0]) rfl (rd_new w5 5 #[.int .u8 0] (0, 0)) (nums_one _ _) (by rw [nums_length, Hlb.out]; decide) (by rw [nums_length, Hlb.out]; decide) (Nat.le_trans T5.out.size (by simp))) ?_
        rintro v6 w6 ⟨o6, t6⟩
        rw [← nums_append] at o6
        obtain ⟨a6, c6, rfl, hc6, -⟩ := o6.form' (n := 257) (by rw [nums_length, List.length_append, Hlb.out]; rfl)
        have m6 := o6.room.2.1
        have O6 := Lib.hid o6
        have T6 := Lib.hid ((T5.out.alloc (.cells #[.int .u8 0] 5)).then t6 (fun i hi h => absurd ((O5.out.touch ((Touch.refl No w5).alloc (.cells #[.int .u8 0] 5)) (fun _ _ _ f => f)).block h).1 (Nat.not_le.2 hi)))
        have HC6 := Lib.hid hc6
        clear o6 t6 hc6 T5 O5
        go_wp2_with fail
        refine (refused_any _ other a6 257 c6 (bs ++ [0]) (by rw [List.length_append, Hlb.out]; rfl) HC6.out m6 O6.out.rd (snoc_lt Hltb.out) 4 HOs.out).mono ?_
        rintro e w7 ⟨rfl, t7⟩
        have T7 := Lib.hid (T6.out.trans t7)
        clear t7
        go_wp2
        go_ret
        exact ⟨rfl, T7.out⟩
      · have ho' : ((other : Int) == (num : Nat)) = false := by simp; omega
        refine (page_at _ other a2 256 c2 bs Hlb.out hc2 hm2 O3.out.rd Hltb.out 4 0 [] (Heo.out ho) (Pg.err_no (by rw [Heo.out ho]; decide)).1 (Pg.err_no (by rw [Heo.out ho]; decide)).2 0 rfl).mono ?_
        rintro e w4 ⟨a4, rfl, -, t4⟩
        have O4 := Lib.hid (O3.out.touch t4 (fun _ _ _ f => f))
        have T4 := Lib.hid (T3.out.trans t4)
        clear t4 O3 T3 ho
        go_wp2_with fail
        refine (refused_any _ num a2 255 c2 (bs.take 255) (by rw [List.length_take, Hlb.out]; decide) hc2'.out hm2 (by have := O4.out.rd.take 255; rw [nums, ← List.map_take] at this; exact this) (fun x hx => Hltb.out x (List.mem_of_mem_take hx)) 4 HOr.out).mono ?_
        rintro e w5 ⟨rfl, t5⟩
        have O5 := Lib.hid (O4.out.touch t5 (fun _ _ _ f => f))
        have T5 := Lib.hid (T4.out.trans t5)
        clear t5 O4 T4 hh
        go_wp2_with fail
        refine wp_append_run (.tmp 113) (.tmp 114) 23 23 rfl (.slice a2 256 c2) (.slice (some ⟨w5.heap.size, 0, none⟩) 1 1) rfl rfl (R := fun v' w' => Own w' w.heap.size 5 v' (nums .u8 bs ++ nums .u8 [0]) ∧ Touch (InBlock (.slice a2 256 c2)) (w5.alloc (.cells #[.int .u8 0] 5)) w') (run_append_rd w.heap.size 23 _ 5 I (.int .u8 0) 1 Tryd.underlying23 HI.out.1 HI.out.2.1 HI.out.2.2.1 HI.out.2.2.2 rfl (.slice a2 256 c2) (nums .u8 bs) (O5.out.touch ((Touch.refl No w5).alloc _) (fun _ _ _ f => f)) (some ⟨w5.heap.size, 0, none⟩) 1 1 (nums .u8 [0]) rfl (rd_new w5 5 #[.int .u8 0] (0, 0)) (nums_one _ _) (by rw [nums_length, Hlb.out]; decide) (by rw [nums_length, Hlb.out]; decide) (Nat.le_trans T5.out.size (by simp))) ?_
        rintro v6 w6 ⟨o6, t6⟩
        rw [← nums_append] at o6
        obtain ⟨a6, c6, rfl, hc6, -⟩ := o6.form' (n := 257) (by rw [nums_length, List.length_append, Hlb.out]; rfl)
        have m6 := o6.room.2.1
        have O6 := Lib.hid o6
        have T6 := Lib.hid ((T5.out.alloc (.cells #[.int .u8 0] 5)).then t6 (fun i hi h => absurd ((O5.out.touch ((Touch.refl No w5).alloc (.cells #[.int .u8 0] 5)) (fun _ _ _ f => f)).block h).1 (Nat.not_le.2 hi)))
        have HC6 := Lib.hid hc6
        clear o6 t6 hc6 T5 O5
        go_wp2_with fail
        refine (refused_any _ num a6 257 c6 (bs ++ [0]) (by rw [List.length_append, Hlb.out]; rfl) HC6.out m6 O6.out.rd (snoc_lt Hltb.out) 4 HOs.out).mono ?_
        rintro e w7 ⟨rfl, t7⟩
        have T7 := Lib.hid (T6.out.trans t7)
        clear t7
        go_wp2
        go_ret
        exact ⟨rfl, T7.out⟩
end Go.Proofs.YtbglbomnonkljaaDoor
