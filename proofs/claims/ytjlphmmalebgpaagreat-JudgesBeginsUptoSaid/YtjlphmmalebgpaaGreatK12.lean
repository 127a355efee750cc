/-
  A part of the proof.
-/
import Derived.Test.YtjlphmmalebgpaaGreatK11
set_option linter.unusedSimpArgs false
set_option linter.unusedVariables false
set_option maxHeartbeats 2000000
set_option maxRecDepth 100000
namespace Go.Proofs.YtjlphmmalebgpaaGreat
section
open Go Go.RowKit
theorem TIn.ne (w:World){sa la:Option Addr}{n c m d:Nat}{S:List Nat}{L:List Int}(h:TIn w sa n c la m d S L):sa≠none∧la≠none:=by
 have h1:=h.n1;have h2:=h.m1;obtain⟨_,_,e,_⟩:=h.dir (k:=0) (by omega);obtain⟨_,_,e2,_⟩:=h.num (k:=0) (by omega);exact⟨by rw[e];simp,by rw[e2];simp⟩
theorem TIn.of_own {w1 w3 w5 wx w:World}{X:Nat}{a3 a5:Option Addr}{n c3 m c5:Nat}{S:List Nat}{A:List Int}{d3 d5:Nat}(t0:Touch No w w1)(hX:w.heap.size≤X)(hX1:X<w1.heap.size)(o3:Own w3 w1.heap.size 3 (.slice a3 n c3) (nums .i64 S))(t3:Touch No w1 w3)(t5:Touch No w3 w5)(o5:Own w5 w3.heap.size 21 (.slice a5 m c5) (ints .i32 A))
  (t:Touch (One X) w5 wx) (ok:Me.Ok S) (hn:S.length=n) (hm:Me.pr S=m) (hl:A.length=m) (hA:∀y∈A,-2147483648≤y∧y≤2147483647) (hd3:n≤d3) (hd5:m≤d5):TIn wx a3 n d3 a5 m d5 S A∧Touch No w wx∧NewA w a3∧NewA w a5:=by
 have b3:∀ad,a3=some ad→w1.heap.size≤ad.block∧ad.block<w3.heap.size:=fun ad e=>o3.block (by rw[e];rfl)
 have b5:∀ad,a5=some ad→w3.heap.size≤ad.block∧ad.block<w5.heap.size:=fun ad e=>o5.block (by rw[e];rfl)
 have h13:=t3.size;have h01:=t0.size
 exact⟨{sr:=(o3.rd.no t5).keepR t (fun ad e=>by have:=b3 ad e;omega),sn:=hn,sc:=hd3,lr:=o5.rd.keepR t (fun ad e=>by have:=b5 ad e;omega),lm:=hl,lc:=hd5,ok:=ok,len:=hm,rng:=hA},
  ((t0.trans t3).trans t5).oneNo t hX,fun ad e=>by have:=b3 ad e;omega,fun ad e=>by have:=b5 ad e;omega⟩
theorem movesShape_in (w:World)(sa la pa:Option Addr)(n c m d n' c':Nat)(S P:List Nat)(A:List Int)(hA:TIn w sa n c la m d S A)(hP:Me.Ok P)(hn':P.length=n')(hpm:Me.pr P=m)(hc':n'≤c')(hpr:Rd w pa (nums .i64 P)) :
  Calls Tryz.prog 150 #[.agg #[.slice sa n c,.slice la m d],.slice pa n' c'] w (TOut w P A):=by
 have hla:=Lib.hid (TIn.ne w hA).2
 have hpa:Hid (pa≠none):=by
  obtain⟨_,_,e,_⟩:=hpr.num (i:=0) (by have:=hP.one;omega);rw[e];intro h;cases h
 have hn4:n'≤4:=by rw[← hn'];exact hP.four
 have hm4:=hA.m4;have HA:=Lib.hid hA;have HP:=Lib.hid hP;have HPr:=Lib.hid hpr;have Hn':=Lib.hid hn';have Hpm:=Lib.hid hpm;have hmm:((m:Int) != (m:Int))=false:=by simp
 clear hA hP hpr hn' hpm;go_enter Tryz.func150,Tryz.ntmps150;go_wp2_with fail;obtain⟨w0,hw0,t0,b2,b3,hsz⟩:=two_rows w 51 #[.slice sa n c,.slice la m d] #[.slice none 0 0,.slice none 0 0];rw[← hw0];have H0:=Lib.hid (aI t0 (aI b2 b3));clear hw0 t0 b2 b3;refine(tenCheck_ok (HA.out.no H0.out.1)).mono ?_;rintro e w1 ⟨rfl,t1⟩;have HBx:=Lib.hid (H0.out.2.1.touch t1 id);have HBy:=Lib.hid (H0.out.2.2.touch t1 id);have T1:=Lib.hid (H0.out.1.trans t1);clear t1 H0 hsz;obtain⟨X,hX⟩:∃X,X=w.heap.size:=⟨_,rfl⟩;rw[← hX]at HBx HBy ⊢;have HXX:=Lib.hid hX;clear hX;have k1:=HBx.out.c1;go_wp2_with fail;refine(shapeCheck_ok (c:=c') (HPr.out.no T1.out) Hn'.out HP.out).mono ?_;rintro e w' ⟨rfl,rfl⟩;go_wp2_with fail;have CS:=Lib.hid (fun j=>size_ok (c:=c') (HPr.out.no (T1.out.drewN j)) Hn'.out HP.out Hpm.out);refine wp_region_quiet_lit (by kernel_rfl) (by kernel_rfl) ?_;repeat (first|go_big_quiet_step ((go_at_call 160;exact Calls.quiet_of_same ((CS.out _).mono (fun _ _ h=>⟨h.1,h.2.symm⟩))))|quiet_step ((go_at_call 160;exact Calls.quiet_of_same ((CS.out _).mono (fun _ _ h=>⟨h.1,h.2.symm⟩)))))
 refine wpQuiet_nil ?_;intro _ hw';obtain⟨nq,hw''⟩:=hw';subst hw'';clear CS k1;go_wp2_with fail;obtain⟨w2,hw2⟩:∃w2,w2=w1.drewN nq:=⟨_,rfl⟩;have HBx:=Lib.hid (show Row w2 X 51 [.slice sa n c,.slice la m d] by rw[hw2];exact HBx.out.touch ((Touch.refl No w1).drewN nq) id);have HBy:=Lib.hid (show Row w2 (X+1) 51 [.slice none 0 0,.slice none 0 0] by rw[hw2];exact HBy.out.touch ((Touch.refl No w1).drewN nq) id);have T1:=Lib.hid (show Touch No w w2 by rw[hw2];exact T1.out.drewN nq);rw[← hw2];clear hw2;have T1d:=T1.out.drew;have C1:=Lib.hid (fun(wx:World) (t:Touch No w wx)=>cloneI_own wx pa n' c' (Me.zs P) hpa.out (by rw[Me.ints_zs];exact HPr.out.no t) (by rw[Me.zs_length,Hn'.out]) (by omega));have C2:=Lib.hid (fun(wx:World) (t:Touch No w wx)=>cloneL_own wx la m d A hla.out (HA.out.no t).lr HA.out.lm (by omega));have Q:Hid (∀wx,Touch (One (X+1)) w2 wx→wx.cell? ⟨X,1,none⟩=some (.slice la m d)):=fun wx t=>(HBx.out.keep t (by omega)).c1
 have Q0:=Q.out w2 (Touch.refl _ w2)
 go_region_held3 (fun w'=>w'.cell? ⟨X,1,none⟩=some (.slice la m d)) (first|exact Q0|exact Q.out _ ((((q5.no:Touch (One (X+1)) w2 w5).setCell (p:=⟨X+1,0,none⟩) (fun _=>rfl) _).setCell (p:=⟨X+1,1,none⟩) (fun _=>rfl) _).drew)|exact Q.out _ (((q5.no:Touch (One (X+1)) w2 w5).setCell (p:=⟨X+1,0,none⟩) (fun _=>rfl) _).setCell (p:=⟨X+1,1,none⟩) (fun _=>rfl) _)|exact Q.out _ q5.no|exact Q.out _ q3.no|exact Q.out _ ((Touch.refl _ w2).drew)) (first
  | (go_at_call 91;refine(C1.out _ T1d).mono ?_;rintro e w3 ⟨a3,c3,rfl,o3,hc3,t3⟩;have q3:=((Touch.refl No w2).drew).trans t3)
  | (go_at_call 87;refine(clipI_any _ a3 n' c3 hc3).mono ?_;rintro e w' ⟨rfl,rfl⟩)
  | (go_at_call 93;refine(C2.out _ (T1d.trans t3)).mono ?_;rintro e w5 ⟨a5,c5,rfl,o5,hc5,t5⟩;have q5:=q3.trans t5;have y0:w5.cell? ⟨X+1,0,none⟩=some (.slice none 0 0):=(HBy.out.touch q5 id).cell 0;have y1:w5.cell? ⟨X+1,1,none⟩=some (.slice none 0 0):=(HBy.out.touch q5 id).cell 1;have z0:=(HBy.out.touch q5 id).soft 0;have z1:=(HBy.out.touch q5 id).soft 1)
  | (go_at_call 92;refine(clipL_any _ a5 m c5 hc5).mono ?_;rintro e w' ⟨rfl,rfl⟩))
 have hy:X+1<w2.heap.size:=HBy.out.lt
 have HE:Hid (∀wx,Touch (One (X+1)) w5 wx→TOut w P A (.returned (.tuple #[.agg #[.slice a3 n' n',.slice a5 m m],.int .i64 0])) wx):=fun wx t=>by
  have hXX:=HXX.out;rw[Me.ints_zs]at o3;have:=TIn.of_own (d3:=n') (d5:=m) (T1.out.drew) (X:=X+1) (by omega) (show X+1<w2.drew.heap.size from hy) o3 t3 t5 o5 t HP.out Hn'.out Hpm.out HA.out.lm HA.out.rng (Nat.le_refl _) (Nat.le_refl _);exact⟨a3,n',n',a5,m,m,rfl,this.1,this.2⟩
 clear o3 o5 hc3 hc5 t3 t5 q3 q5 Q Q0 T1d hy;go_wp2;refine bodyPost_ret (v:=.tuple #[.agg #[.slice a3 n' n',.slice a5 m m],.int .i64 0]) (by simp[results,Tryz.results150,go_sem,y0,y1]) rfl ?_;exact HE.out _ (((Touch.refl (One (X+1)) w5).setCell (p:=⟨X+1,0,none⟩) (fun _=>rfl) _).setCell (p:=⟨X+1,1,none⟩) (fun _=>rfl) _)
theorem refMovesShape_in (w:World)(sa la pa:Option Addr)(n c m d n' c':Nat)(S P:List Nat)(A:List Int)(hA:TIn w sa n c la m d S A)(hP:Me.Ok P)(hn':P.length=n')(hpm:Me.pr P=m)(hc':n'≤c')(hpr:Rd w pa (nums .i64 P)) :
  Calls Tryz.prog 105 #[.agg #[.slice sa n c,.slice la m d],.slice pa n' c'] w (TOut w P A):=by
 have hn4:n'≤4:=by rw[← hn'];exact hP.four
 have hm4:=hA.m4;obtain⟨I,hi0,hi1,hi2,hi3⟩:=info_I;have HI:=Lib.hid (aI hi0 (aI hi1 (aI hi2 hi3)));obtain⟨J,hj0,hj1,hj2,hj3⟩:=info_L;have HJ:=Lib.hid (aI hj0 (aI hj1 (aI hj2 hj3)));have HA:=Lib.hid hA;have HP:=Lib.hid hP;have HPr:=Lib.hid hpr;have Hn':=Lib.hid hn';have Hpm:=Lib.hid hpm;have Hnl:=Lib.hid (show(nums .i64 P).length=n' by rw[nums_length,hn']);have Hml:=Lib.hid (show(ints .i32 A).length=m by rw[ints_length,hA.lm]);have hmm:((m:Int) != (m:Int))=false:=by simp
 clear hA hP hpr hn' hpm hi0 hi1 hi2 hi3 hj0 hj1 hj2 hj3;go_enter Tryz.func105,Tryz.ntmps105;go_wp2_with fail;obtain⟨w0,hw0,t0,b2,b3,hsz⟩:=two_rows w 51 #[.slice sa n c,.slice la m d] #[.slice none 0 0,.slice none 0 0];rw[← hw0];have H0:=Lib.hid (aI t0 (aI b2 b3));clear hw0 t0 b2 b3;refine(refCheck_ok (HA.out.no H0.out.1)).mono ?_;rintro e w1 ⟨rfl,t1⟩;have HBx:=Lib.hid (H0.out.2.1.touch t1 id);have HBy:=Lib.hid (H0.out.2.2.touch t1 id);have T1:=Lib.hid (H0.out.1.trans t1);clear t1 H0 hsz;obtain⟨X,hX⟩:∃X,X=w.heap.size:=⟨_,rfl⟩;rw[← hX]at HBx HBy ⊢;have HXX:=Lib.hid hX;clear hX;have k1:=HBx.out.c1;go_wp2_with fail;refine(refShape_ok (c:=c') (HPr.out.no T1.out) Hn'.out HP.out).mono ?_;rintro e w' ⟨rfl,rfl⟩;go_wp2_with fail;have CS:=Lib.hid (fun j=>refSize_ok (c:=c') (HPr.out.no (T1.out.drewN j)) Hn'.out HP.out Hpm.out);refine wp_region_quiet_lit (by kernel_rfl) (by kernel_rfl) ?_;repeat (first|go_big_quiet_step ((go_at_call 35;exact Calls.quiet_of_same ((CS.out _).mono (fun _ _ h=>⟨h.1,h.2.symm⟩))))|quiet_step ((go_at_call 35;exact Calls.quiet_of_same ((CS.out _).mono (fun _ _ h=>⟨h.1,h.2.symm⟩)))))
 refine wpQuiet_nil ?_;intro _ hw';obtain⟨nq,hw''⟩:=hw';subst hw'';clear CS k1;go_wp2_with fail;obtain⟨w2,hw2⟩:∃w2,w2=w1.drewN nq:=⟨_,rfl⟩;have HBx:=Lib.hid (show Row w2 X 51 [.slice sa n c,.slice la m d] by rw[hw2];exact HBx.out.touch ((Touch.refl No w1).drewN nq) id);have HBy:=Lib.hid (show Row w2 (X+1) 51 [.slice none 0 0,.slice none 0 0] by rw[hw2];exact HBy.out.touch ((Touch.refl No w1).drewN nq) id);have T1:=Lib.hid (show Touch No w w2 by rw[hw2];exact T1.out.drewN nq);rw[← hw2];clear hw2;have T1d:=T1.out.drew;have Q:Hid (∀wx,Touch (One (X+1)) w2 wx→wx.cell? ⟨X,1,none⟩=some (.slice la m d)):=fun wx t=>(HBx.out.keep t (by omega)).c1
 have Q0:=Q.out w2 (Touch.refl _ w2);have tok1:True:=trivial;have tok2:True:=trivial
 go_region_held3 (fun w'=>w'.cell? ⟨X,1,none⟩=some (.slice la m d)) (first|exact Q0|exact Q.out _ ((((q5.no:Touch (One (X+1)) w2 w5).setCell (p:=⟨X+1,0,none⟩) (fun _=>rfl) _).setCell (p:=⟨X+1,1,none⟩) (fun _=>rfl) _).drew)|exact Q.out _ (((q5.no:Touch (One (X+1)) w2 w5).setCell (p:=⟨X+1,0,none⟩) (fun _=>rfl) _).setCell (p:=⟨X+1,1,none⟩) (fun _=>rfl) _)|exact Q.out _ q5.no|exact Q.out _ q3.no|exact Q.out _ ((Touch.refl _ w2).drew)) (first
  | (have _t:=tok1;refine step_append_rds ?_ (.const (.slice none 0 0)) (.tmp 22) 48 rfl w2.drew.heap.size 3 I (.int .i64 0) 8 Tryz.underlying48 HI.out.1 HI.out.2.1 HI.out.2.2.1 HI.out.2.2.2 rfl _ [] (Own.nil _ _ _) rfl pa n' c' n' (nums .i64 P) rfl Hnl.out (HPr.out.no T1d) (nums_one _ _) (by simp) (by unfold maxLen;omega) (by omega) (Nat.le_refl _) ?_;rfl;intro a3 c3 w3 o3 t30;have hc3:=(Own.form' o3 (n:=n') (by simp[Hnl.out]));have t3:Touch No w2.drew w3:=t30.mono (fun k _ e=>by cases e);have q3:=((Touch.refl No w2).drew).trans t3;clear tok1 _t)
  | (have _t:=tok2;refine step_append_rds ?_ (.const (.slice none 0 0)) (.tmp 25) 49 rfl w3.heap.size 21 J (.int .i32 0) 4 Tryz.underlying49 HJ.out.1 HJ.out.2.1 HJ.out.2.2.1 HJ.out.2.2.2 rfl _ [] (Own.nil _ _ _) rfl la m d m (ints .i32 A) rfl Hml.out (HA.out.no (T1d.trans t3)).lr (ints_one _ _) (by simp) (by unfold maxLen;omega) (by omega) (Nat.le_refl _) ?_;rfl;intro a5 c5 w5 o5 t50;have hc5:=(Own.form' o5 (n:=m) (by simp[Hml.out]));have t5:Touch No w3 w5:=t50.mono (fun k _ e=>by cases e);have q5:=q3.trans t5;have y0:w5.cell? ⟨X+1,0,none⟩=some (.slice none 0 0):=(HBy.out.touch q5 id).cell 0;have y1:w5.cell? ⟨X+1,1,none⟩=some (.slice none 0 0):=(HBy.out.touch q5 id).cell 1;have z0:=(HBy.out.touch q5 id).soft 0;have z1:=(HBy.out.touch q5 id).soft 1;clear tok2 _t))
 have hy:X+1<w2.heap.size:=HBy.out.lt
 have HE:Hid (∀wx,Touch (One (X+1)) w5 wx→TOut w P A (.returned (.tuple #[.agg #[.slice a3 n' c3,.slice a5 m c5],.int .i64 0])) wx):=fun wx t=>by
  have hXX:=HXX.out;rw[List.nil_append]at o3 o5;have h3:n'≤c3:=by obtain⟨_,_,e,h,_⟩:=hc3;cases e;exact h
  have h5:m≤c5:=by obtain⟨_,_,e,h,_⟩:=hc5;cases e;exact h
  have:=TIn.of_own (d3:=c3) (d5:=c5) (T1.out.drew) (X:=X+1) (by omega) (show X+1<w2.drew.heap.size from hy) o3 t3 t5 o5 t HP.out Hn'.out Hpm.out HA.out.lm HA.out.rng h3 h5;exact⟨a3,n',c3,a5,m,c5,rfl,this.1,this.2⟩
 clear o3 o5 hc3 hc5 t3 t5 q3 q5 Q Q0 T1d hy;go_wp2;refine bodyPost_ret (v:=.tuple #[.agg #[.slice a3 n' c3,.slice a5 m c5],.int .i64 0]) (by simp[results,Tryz.results105,go_sem,y0,y1]) rfl ?_;exact HE.out _ (((Touch.refl (One (X+1)) w5).setCell (p:=⟨X+1,0,none⟩) (fun _=>rfl) _).setCell (p:=⟨X+1,1,none⟩) (fun _=>rfl) _)
end
section
open Go Go.RowKit
namespace Me
def woA (S:List Nat)(al:Nat):List Nat:=S.take al++S.drop (al+1)
def wo (S:List Nat)(al:Nat):List Nat:=if (woA S al).length=0 then [1] else woA S al
theorem woA_nil (al:Nat):woA [] al=[]:=by simp[woA]
theorem woA_snoc_ne (T:List Nat)(x al:Nat)(h:T.length≠al):woA (T ++ [x]) al=woA T al ++ [x]:=by
 unfold woA;rcases Nat.lt_or_ge T.length al with h1|h1
 ·rw[List.take_of_length_le (by simp;omega),List.take_of_length_le (by omega),List.drop_eq_nil_of_le (by simp;omega),List.drop_eq_nil_of_le (by omega),List.append_nil,List.append_nil]
 ·rw[List.take_append_of_le_length (by omega),List.drop_append_of_le_length (by omega),List.append_assoc]
theorem woA_snoc_eq (T:List Nat)(x al:Nat)(h:T.length=al):woA (T ++ [x]) al=woA T al:=by
 unfold woA;rw[List.take_append_of_le_length (by omega),List.drop_eq_nil_of_le (by simp;omega),List.drop_eq_nil_of_le (by omega)]
theorem wo_is {S:List Nat}{al:Nat}(h:al<S.length):wo S al=without S al:=by
 have hl:(woA S al).length=S.length-1:=by simp[woA];omega
 unfold wo without
 by_cases h1:S.length≤1
 ·rw[if_pos (by omega),if_pos h1]
 ·rw[if_neg (by omega),if_neg h1];rfl
end Me
theorem refWithout_in (w:World)(a:Option Addr)(n c al:Nat)(S:List Nat)(hn:S.length=n)(hn4:n≤1000000)(hal:al≤1000000)(hr:Rd w a (nums .i64 S)) :
  Calls Tryz.prog 117 #[.slice a n c,.int .i64 ((al:Nat):Int)] w fun e w'=>∃a' c',e = .returned (.slice a' (Me.wo S al).length c')∧(Me.wo S al).length≤c'∧Rd w' a' (nums .i64 (Me.wo S al))∧NewA w a'∧Touch No w w':=by
 obtain⟨I,hi0,hi1,hi2,hi3⟩:=info_I;have HI:=Lib.hid (aI hi0 (aI hi1 (aI hi2 hi3)));have Hr:=Lib.hid hr;have Hn:=Lib.hid hn;clear hr hn hi0 hi1 hi2 hi3;go_enter Tryz.func117,Tryz.ntmps117;go_wp2
 go_loopg [5,6] n (fun gh s5 s6 wr=>∃(k:Nat) (v:Value),k+gh=n∧s6 = .int .i64 ((k:Nat):Int)∧v=s5∧Hid (Own wr w.heap.size 3 v (nums .i64 (Me.woA (S.take k) al)))∧Hid (Touch No w wr))
 case atStart=>exact⟨0,_,by omega,rfl,rfl,(by show Own _ _ _ _ _;simp only[List.take_zero,Me.woA_nil];exact Own.nil w w.heap.size _),Touch.refl _ _⟩
 case round =>
  obtain⟨k,v,hkg,rfl,rfl,OW,T⟩:=hrel;cases gk with
  | zero =>
    obtain rfl:k=n:=by omega
    have hO:=OW.out;rw[List.take_of_length_le (by rw[Hn.out];exact Nat.le_refl _)]at hO;obtain⟨q,hq⟩:∃q,(Me.woA S al).length=q:=⟨_,rfl⟩;obtain⟨a',c',rfl,hc,_⟩:=hO.form' (n:=q) (by rw[nums_length,hq])
    by_cases h0:q=0
    ·have hw:Me.wo S al=[1]:=by rw[Me.wo,if_pos (by omega)]
     have HW:=Lib.hid hw;have hb:((q:Int)==0)=true:=by simp;omega
     clear hO hc OW hq hw h0;go_wp2;go_ret;refine⟨some ⟨wr.heap.size,0,none⟩,1,?_,?_,?_,(fun ad e=>by cases e;exact T.out.size),T.out.alloc _⟩
     ·rw[HW.out];rfl
     ·rw[HW.out];exact Nat.le_refl _
     ·rw[HW.out];exact rd_row (Row.new _ _ _)
    ·have hw:Me.wo S al=Me.woA S al:=by rw[Me.wo,if_neg (by omega)]
     have hb:((q:Int)==0)=false:=by simp;omega
     have HN:Hid ((Me.wo S al).length=q∧q≤c'∧Rd wr a' (nums .i64 (Me.wo S al))∧NewA w a'∧Touch No w wr):=by
      rw[hw];exact⟨hq,hc,hO.rd,fun ad e=>(hO.block (k:=ad.block) (by rw[e];rfl)).1,T.out⟩
     clear hO hc OW hq hw h0;go_wp2;go_ret;exact⟨a',c',by rw[HN.out.1];rfl,by rw[HN.out.1];exact HN.out.2.1,HN.out.2.2⟩
  | succ g' =>
    have hki:(k:Int)<(n:Nat):=by omega
    have hlt:(S.take k).length=k:=by rw[List.length_take,Hn.out];omega
    obtain⟨x,hx⟩:∃x,S.getD k 0=x:=⟨_,rfl⟩
    have ht:S.take (k+1)=S.take k ++ [x]:=by
     rw[List.take_add_one,Lge (by rw[Hn.out];omega)];rw[Lgd,Lge (by rw[Hn.out];omega)]at hx;simp only[Option.getD_some]at hx;rw[hx];rfl
    by_cases h1:k=al
    ·have hb:((k:Int) != (al:Int))=false:=by simp;omega
     have HN:Hid (Own wr w.heap.size 3 v (nums .i64 (Me.woA (S.take (k+1)) al))):=by
      show Own _ _ _ _ _
      rw[ht,Me.woA_snoc_eq _ _ _ (by omega)];exact OW.out
     clear hlt hx ht h1 OW;go_wp2
     go_roundg g'
     case measure=>omega
     case rel=>exact⟨k+1,v,by omega,by go_num,rfl,HN,T⟩
    ·have hb:((k:Int) != (al:Int))=true:=by simp;omega
     obtain⟨b,o,rfl,cx⟩:=(Hr.out.no T.out).num (i:=k) (by rw[Hn.out];omega);rw[hx]at cx
     have HT:Hid (nums .i64 (Me.woA (S.take (k+1)) al)=nums .i64 (Me.woA (S.take k) al) ++ [.int .i64 ((x:Nat):Int)]):=by
      show _=_
      rw[ht,Me.woA_snoc_ne _ _ _ (by omega),nums_append];rfl
     have hll:(nums .i64 (Me.woA (S.take k) al)).length≤k:=by
      rw[nums_length];simp[Me.woA];omega
     have Hll:=Lib.hid hll;clear hlt hx ht h1 hll;go_wp2_with (at_builtin;refine wpList_append1 rfl _ _ _ rfl w.heap.size _ I _ 8 Tryz.underlying48 HI.out.1 HI.out.2.1 HI.out.2.2.1 HI.out.2.2.2 rfl _ _ _ OW.out rfl rfl rfl (by have:=Hll.out;unfold maxLen;omega) (by have:=Hll.out;omega) T.out.size ?_;intro v' w3 hown3 ht3)
     go_roundg g'
     case measure=>omega
     case rel=>exact⟨k+1,v',by omega,by go_num,rfl,by rw[HT.out];exact hown3,T.out.then ht3 (fun i hi e=>absurd ((OW.out.block e).1) (by omega))⟩
theorem refSum_in (w:World)(sa la:Option Addr)(n c m d al:Nat)(S:List Nat)(A:List Int)(hA:TIn w sa n c la m d S A)(hal:al<n) :
  Calls Tryz.prog 108 #[.agg #[.slice sa n c,.slice la m d],.int .i64 ((al:Nat):Int)] w (TOut w (Me.without S al) (Me.sumL S al A)):=by
 have hn4:=hA.n4;have hm4:=hA.m4;have halS:al<S.length:=by rw[hA.sn];exact hal
 have hT:=Me.ok_without hA.ok halS
 have hSET:Hid (Me.adds (fun i=>i / Me.behind S al / S.getD al 0*Me.behind S al+i%Me.behind S al) (fun i=>Me.at_ A i) (List.replicate (Me.pr (Me.without S al)) 0) m=Me.sumL S al A):=by
  have:=Me.sum_is hA.ok halS A;rw[hA.len]at this;exact this
 obtain⟨n2,hn2⟩:∃n2,(Me.without S al).length=n2:=⟨_,rfl⟩;obtain⟨m2,hm2⟩:∃m2,Me.pr (Me.without S al)=m2:=⟨_,rfl⟩;have hm24:m2≤4096:=by rw[← hm2];exact hT.most
 rw[hm2]at hSET;have HTl:Hid ((Me.sumL S al A).length=m2):=by show _=_;rw[Me.sumL,List.length_map,List.length_range,hm2]
 have hap:1≤Me.behind S al:=Me.pr_pos fun x hx=>hA.ok.each x (List.mem_of_mem_drop hx)
 have HA:=Lib.hid hA;have HT:=Lib.hid (aI hT (aI hn2 hm2));have HAL:=Lib.hid halS;have hno:n≤1∨1<n:=by omega
 have f1:decide (((al:Nat):Int)<0)=false:=by simp
 have f2:decide (((n:Nat):Int)≤((al:Nat):Int))=false:=by simpa using hal
 clear hA hT hn2 hm2 halS;go_enter Tryz.func108,Tryz.ntmps108;go_wp2_with fail;obtain⟨w1,hw1,t1,b2,b3,hsz⟩:=two_rows w 51 #[.slice sa n c,.slice la m d] #[.slice none 0 0,.slice none 0 0];rw[← hw1];have H1:=Lib.hid (aI t1 (aI b2 b3));clear hw1 t1 b2 b3;refine(refCheck_ok (HA.out.no H1.out.1)).mono ?_;rintro e w2 ⟨rfl,t2⟩;have H2:=Lib.hid (aI (H1.out.1.trans t2) (aI (H1.out.2.1.touch t2 id) (H1.out.2.2.touch t2 id)));clear t2 H1 hsz;have k0:=H2.out.2.1.c0;go_wp2_with fail;have CW:=refWithout_in w2 sa n c al S HA.out.sn (by omega) (by omega) (HA.out.no H2.out.1).sr;rw[Me.wo_is HAL.out,HT.out.2.1]at CW;refine CW.mono ?_;clear CW;rintro e w3 ⟨ta,tc,rfl,htc,trd,tnew,t3⟩;have H3:=Lib.hid (aI (H2.out.1.trans t3) (aI (H2.out.2.1.touch t3 id) (aI (H2.out.2.2.touch t3 id) trd)));clear t3 trd htc tnew H2 k0;go_wp2_with fail;refine(refNew_in w3 ta n2 tc (Me.without S al) H3.out.2.2.2 HT.out.2.1 HT.out.1).mono ?_;rintro e w4 ⟨sc,n3,d3,g,m3,rfl,hn3,hm3,hd3,hsr,hsc,hg,hrow,t3⟩;obtain rfl:n3=n2:=by rw[← hn3,HT.out.2.1]
 obtain rfl:m3=m2:=by rw[← hm3,HT.out.2.2]
 obtain⟨Y,hY⟩:∃Y,Y=w4.heap.size:=⟨_,rfl⟩;obtain⟨w5,hw5⟩:∃w5,w5=w4.alloc (.cells #[.slice sc n3 d3,.slice (some ⟨g,0,none⟩) m3 m3] 51):=⟨_,rfl⟩;have FH:Hid (Fld w w5 (w.heap.size+1) g Y sc n3 d3 m3 (Me.without S al)):=by rw[hw5,hY];exact Fld.make H3.out.1 H3.out.2.2.1.lt (by omega) HT.out.1 HT.out.2.1 HT.out.2.2 hd3 hsr hsc hg hrow t3
 have HB5:Hid (Row w5 w.heap.size 51 [.slice sa n c,.slice la m d]∧Row w5 (w.heap.size+1) 51 [.slice none 0 0,.slice none 0 0]):=by
  have t3:Touch No w3 w5:=by rw[hw5];exact t3.alloc _
  exact⟨H3.out.2.1.touch t3 id,H3.out.2.2.1.touch t3 id⟩
 clear hn3 hm3 hd3 hsr hsc hg hrow t3 H3;go_wp2_with fail;rw[← hw5,← hY];clear hw5 hY;have hXg:w.heap.size+1<g:=FH.out.Xg;have hgY:g<Y:=FH.out.gY;obtain⟨D,hDef⟩:∃D:Nat→Nat,D=(fun i=>i / Me.behind S al / S.getD al 0*Me.behind S al+i%Me.behind S al):=⟨_,rfl⟩;rw[← hDef]at hSET;have HDef:=Lib.hid hDef;clear hDef
 go_loopg [8] m (fun gh s8 wr=>∃k:Nat,k+gh=m∧s8 = .int .i64 ((k:Nat):Int)∧Hid (Touch (One g) w5 wr)∧Hid (Row wr g 21 (ints .i32 (Me.adds D (fun i=>Me.at_ A i) (List.replicate m3 0) k))))
 case atStart=>exact⟨0,by omega,rfl,Touch.refl _ _,by show Row _ _ _ _;rw[Me.adds,← ints_zero];exact FH.out.rowG⟩
 case round =>
  obtain⟨k,hkg,rfl,T,R⟩:=hrel;have k2:=(HB5.out.1.keep T.out (by omega)).c1;cases gk with
  | zero =>
    obtain rfl:k=m:=by omega
    have ky:=FH.out.cell T.out;have kx:=HB5.out.2.keep T.out (by omega);have ky0:=FH.out.cell0 T.out;have R:=Lib.hid (show Row wr g 21 (ints .i32 (Me.sumL S al A)) by have:=R.out;rw[hSET.out]at this;exact this);go_wp2_with (refine wpList_store_mid rfl 51 _ _ rfl (w.heap.size+1) 0 51 [.slice none 0 0,.slice none 0 0] kx rfl [.slice sc n3 d3,.slice (some ⟨g,0,none⟩) m3 m3] rfl (by kernel_rfl) (by simp) (by intro v hv;simp at hv;rcases hv with rfl|rfl <;> rfl) ?_);obtain⟨w9,hw9⟩:∃w9,w9=wr.setRow (w.heap.size+1) (splice [.slice none 0 0,.slice none 0 0] 0 [.slice sc n3 d3,.slice (some ⟨g,0,none⟩) m3 m3]).toArray:=⟨_,rfl⟩;have R9:Row w9 (w.heap.size+1) 51 [.slice sc n3 d3,.slice (some ⟨g,0,none⟩) m3 m3]:=by rw[hw9];exact kx.setRow _
    have HN:=Lib.hid (FH.out.done T.out R.out HTl.out (Me.sumL_in S al A) (show Touch (One (w.heap.size+1)) wr w9 by rw[hw9];exact Touch.setOne _ _ _));have y0:=R9.c0;have y1:=R9.c1;rw[← hw9];clear hw9 kx R9;go_wp2;refine bodyPost_ret (v:=.tuple #[.agg #[.slice sc n3 d3,.slice (some ⟨g,0,none⟩) m3 m3],.int .i64 0]) (by simp[results,Tryz.results108,go_sem,y0,y1]) rfl ?_;exact⟨sc,n3,d3,_,m3,m3,rfl,HN.out.1,HN.out.2⟩
  | succ g' =>
    have hki:(k:Int)<(m:Nat):=by omega
    have k20:=(HB5.out.1.keep T.out (by omega)).c0;have hwr:Touch No w wr:=FH.out.t.oneNo T.out (by omega);go_wp2_with fail;refine(refAt_in wr sa n c k S HA.out.ok HA.out.sn (HA.out.no hwr).sr (by rw[HA.out.len];omega)).mono ?_;rintro e w6 ⟨h,rfl,hrow,hhg,t6⟩;obtain⟨dk,hD⟩:∃dk,D k=dk:=⟨_,rfl⟩;have hbx:=Me.unrank_box HA.out.ok.each k;have hrk:=Me.rank_without HAL.out hbx;rw[Me.rank_unrank (by rw[HA.out.len];omega)]at hrk;have hrk2:Me.rank (S.take al++S.drop (al+1)) ((Me.unrank S k).take al++(Me.unrank S k).drop (al+1))=dk:=by rw[hrk,← hD,HDef.out]
    have hwbox:Me.Box (S.take al++S.drop (al+1)) ((Me.unrank S k).take al++(Me.unrank S k).drop (al+1)):=by
     have hul:=Me.unrank_length S k;refine⟨by simp[hul],fun j hj=>?_⟩;have hal:=HAL.out;have hj2:j<S.length-1:=by simp at hj;omega
     rcases Nat.lt_or_ge j al with h1|h1
     ·have:=hbx.2 j (by omega)
      rw[Lgd,Lgd,List.getElem?_append_left (by simp;omega),List.getElem?_append_left (by simp;omega),List.getElem?_take_of_lt h1,List.getElem?_take_of_lt h1,← Lgd,← Lgd];exact this
     ·have:=hbx.2 (j+1) (by omega)
      rw[Lgd,Lgd,List.getElem?_append_right (by simp;omega),List.getElem?_append_right (by simp;omega),List.getElem?_drop,List.getElem?_drop];rw[Lgd,Lgd]at this;have e1:al+1+(j-(List.take al (Me.unrank S k)).length)=j+1:=by simp[hul];omega
      have e2:al+1+(j-(List.take al S).length)=j+1:=by simp;omega
      rw[e1,e2];exact this
    have hdm:dk<m3:=by
     have:=Me.rank_lt hwbox;rw[hrk2,Me.pr_append,← Me.pr_without HAL.out,HT.out.2.2]at this;exact this
    have T6:Hid (Touch (One g) w5 w6):=T.out.trans t6.no;have R6:=Lib.hid (R.out.touch t6 id);have hw6:=Lib.hid (hwr.trans t6);have ky0:=FH.out.cell0 T6.out;have Q:Hid (∀W:World,Touch No w6 W→W.cell? ⟨Y,0,none⟩=some (.slice sc n3 d3)):=fun W t=>FH.out.cell0 (T6.out.trans t.no)
    have hul:=Me.unrank_length S k
    have CW:Hid (∀j,Calls Tryz.prog 117 #[.slice (some ⟨h,0,none⟩) n n,.int .i64 ((al:Nat):Int)] (w6.drewN j) fun e w'=>∃a' c',e = .returned (.slice a' (Me.wo (Me.unrank S k) al).length c')∧Rd w' a' (nums .i64 (Me.wo (Me.unrank S k) al))∧Touch No (w6.drewN j) w'):=fun j =>
     (refWithout_in (w6.drewN j) (some ⟨h,0,none⟩) n n al (Me.unrank S k) (by rw[hul,HA.out.sn]) (by omega) (by omega) (rd_row (hrow.touch ((Touch.refl No w6).drewN j) id))).mono fun _ _ ⟨a',c',h1,_,h2,_,h4⟩=>⟨a',c',h1,h2,h4⟩
    have HNN:Hid (1<n→Me.wo (Me.unrank S k) al=(Me.unrank S k).take al++(Me.unrank S k).drop (al+1)∧(Me.wo (Me.unrank S k) al).length=n3∧Me.Box (Me.without S al) (Me.wo (Me.unrank S k) al)∧Me.rank (Me.without S al) (Me.wo (Me.unrank S k) al)=dk):=fun h1=>by
     have e1:Me.wo (Me.unrank S k) al=(Me.unrank S k).take al++(Me.unrank S k).drop (al+1):=by
      rw[Me.wo_is (by rw[hul];exact HAL.out),Me.without,if_neg (by rw[hul,HA.out.sn];omega)]
     have e2:Me.without S al=S.take al++S.drop (al+1):=by rw[Me.without,if_neg (by rw[HA.out.sn];omega)]
     refine⟨e1,?_,?_,?_⟩
     ·rw[e1,hwbox.1,← e2,HT.out.2.1]
     ·rw[e1,e2];exact hwbox
     ·rw[e1,e2];exact hrk2
    have H01:Hid (n≤1→dk=0):=fun h1=>by
     have e2:Me.without S al=[1]:=by rw[Me.without,if_pos (by rw[HA.out.sn];omega)]
     have:=HT.out.2.2;rw[e2]at this;have h3:Me.pr [1]=1:=rfl;omega
    have CI:Hid (∀(W:World) (a':Option Addr) (c':Nat),1<n→Touch No w6 W→Rd W a' (nums .i64 (Me.wo (Me.unrank S k) al))→Calls Tryz.prog 167 #[.slice sc n3 d3,.slice a' (Me.wo (Me.unrank S k) al).length c'] W fun e w'=>e = .returned (.tuple #[.int .i64 ((dk:Nat):Int),.int .i64 0])∧Touch No W w'):=fun W a' c' h1 t hr'=>by
     obtain⟨_,z2,z3,z4⟩:=HNN.out h1;have:=refIndex_in W sc a' n3 d3 c' (Me.without S al) (Me.wo (Me.unrank S k) al) HT.out.1 HT.out.2.1 z3 ((FH.out.rd.keepR T6.out (fun ad e=>by have:=FH.out.blk ad e;omega)).no t) hr';rw[z4]at this;rw[z2];exact this
    have HD:=Lib.hid hD;clear k2 k20 hwr hrow hhg t6 hbx hrk hrk2 hwbox hD R T hul;obtain⟨nu,hnu⟩:∃nu,(Me.wo (Me.unrank S k) al).length=nu:=⟨_,rfl⟩;rw[hnu]at CW CI;clear hnu
    go_upto_if 51 with fail
    go_cut [11] (fun s11 wx=>s11 = .int .i64 ((dk:Nat):Int)∧Hid (Touch No w6 wx))
    case first =>
     rcases hno with h1|h1
     ·have hb:decide ((1:Int)<(n:Nat))=false:=by simp;omega
      have h0:=H01.out h1;clear h1;rw[hb];go_wp2_with fail;go_meet;exact⟨by rw[h0];rfl,Touch.refl _ _⟩
     ·have hb:decide ((1:Int)<(n:Nat))=true:=by simp;omega
      have h1:=Lib.hid h1;rw[hb];go_wp2_with fail
      go_region_held3 (fun w'=>w'.cell? ⟨Y,0,none⟩=some (.slice sc n3 d3)) (first|exact ky0|exact Q.out _ tq.out|exact Q.out _ tr.out) (first
       | (go_at_call 117;refine(CW.out 1).mono ?_;rintro e wq ⟨a',c',rfl,hra,tq0⟩;have tq:=Lib.hid ((Touch.refl No w6).drew.trans tq0);have Hra:=Lib.hid hra;clear tq0 hra)
       | (go_at_call 167;refine(CI.out _ _ _ h1.out tq.out Hra.out).mono ?_;rintro e wr2 ⟨rfl,tr0⟩;have tr:=Lib.hid (tq.out.trans tr0);clear tr0))
      all_goals
       go_wp2_with fail;go_meet;exact⟨rfl,tr.out⟩
    case rest =>
    obtain⟨rfl,hwc⟩:=hcut;have T8:Hid (Touch (One g) w5 wc):=T6.out.trans hwc.out.no;have R8:=Lib.hid (R6.out.touch hwc.out id);have k2:=(HB5.out.1.keep T8.out (by omega)).c1;have ky:=FH.out.cell T8.out;obtain⟨ga,oa',rfl,ca⟩:=(HA.out.keep FH.out.t T8.out (by omega)).num (k:=k) (by omega);obtain⟨x,hx⟩:∃x,Me.at_ A k=x:=⟨_,rfl⟩;rw[hx]at ca;obtain⟨L,hL⟩:∃L,Me.adds D (fun i=>Me.at_ A i) (List.replicate m3 0) k=L:=⟨_,rfl⟩;have hsl:L.length=m3:=by rw[← hL,Me.adds_length,List.length_replicate]
    rw[hL]at R8;obtain⟨y,hy⟩:∃y,Me.at_ L dk=y:=⟨_,rfl⟩
    have cg:wc.cell? ⟨g,dk,none⟩=some (.int .i32 y):=by
     rw[R8.out.cell,← hy,Me.at_];exact ints_get (by omega)
    have cz:wc.frozen? ⟨g,dk,none⟩=false:=R8.out.soft dk
    have HN:Hid (Touch (One g) w5 (wc.setCell ⟨g,dk,none⟩ (.int .i32 (wrap32 (y+x)))).drew∧Row (wc.setCell ⟨g,dk,none⟩ (.int .i32 (wrap32 (y+x)))).drew g 21 (ints .i32 (Me.adds D (fun i=>Me.at_ A i) (List.replicate m3 0) (k+1)))):=by
     refine⟨(T8.out.setCell (p:=⟨g,dk,none⟩) (fun _=>rfl) _).drew,?_⟩;have:=(R8.out.setCell dk (.int .i32 (wrap32 (y+x)))).touch (F:=No) (Touch.refl No _).drew id;rw[ints_set]at this;rw[Me.adds,HD.out,hL,hx,hy];exact this
    have hDi:(dk:Int)<(m3:Nat):=by omega
    clear hx hL hy hsl ky0 Q CI CW R6 T6 hw6 HD HNN H01 hwc R8 T8;go_wp2
    go_still_tail 15,(by kernel_rfl)
    go_wp2
    go_roundg g'
    case measure=>omega
    case rel=>exact⟨k+1,by omega,by go_num,HN.out.1,HN.out.2⟩
end
end Go.Proofs.YtjlphmmalebgpaaGreat
