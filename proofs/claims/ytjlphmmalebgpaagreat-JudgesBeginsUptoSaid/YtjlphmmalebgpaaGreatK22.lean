/-
  A part of the proof.
-/
import Derived.Test.YtjlphmmalebgpaaGreatK21
set_option linter.unusedSimpArgs false
set_option linter.unusedVariables false
set_option maxHeartbeats 2000000
set_option maxRecDepth 100000
namespace Go.Proofs.YtjlphmmalebgpaaGreat
section
open Go Go.RowKit
structure Grown (w6 wr:World) (Z:Nat) (a:Option Addr) (n c:Nat) (L:List Int):Prop where
 t:Touch (One Z) w6 wr
 own:∃v,Row wr Z 51 [.slice a n c,v]∧Own wr w6.heap.size 21 v (ints .i32 L)
theorem Grown.no {w6 wr w':World}{Z:Nat}{a:Option Addr}{n c:Nat}{L:List Int}(h:Grown w6 wr Z a n c L)(t:Touch No wr w'):Grown w6 w' Z a n c L :=
 ⟨h.t.trans t.no,by obtain⟨v,h1,h2⟩:=h.own;exact⟨v,h1.touch t id,h2.touch t (fun _ _ _ f=>f)⟩⟩
theorem Me.ints_snoc' (L:List Int)(x:Int):ints .i32 (L ++ [x])=ints .i32 L ++ [.int .i32 x]:=by simp[ints]
namespace Me
structure WinG (S T U:List Nat) (s p:Nat):Prop where
 step:1≤s∧s≤8
 pad:p≤8
 ls:S.length=3
 lt:T.length=4
 deep:S.getD 0 0=T.getD 1 0
 lu:U.length=3
 u0:U.getD 0 0=T.getD 0 0
 ok:Ok U
theorem winG {S T U:List Nat}{st pd:Int}(h:winS S T st pd=some U):∃s p:Nat,st=s∧pd=p∧WinG S T U s p:=by
 by_cases hw:WinOk S T st pd
 ·rw[winS_some hw]at h
  injection h with h
  obtain⟨⟨h1,h2,h3,h4⟩,⟨h5,h6⟩,h7,h8⟩:=hw;rw[h]at h8;exact⟨st.toNat,pd.toNat,by omega,by omega,{step:=by omega,pad:=by omega,ls:=h5,lt:=h6,deep:=h7,lu:=by rw[← h];rfl,u0:=by rw[← h];rfl,ok:=h8}⟩
 ·rw[winS_none hw]at h;cases h
end Me
theorem refWinOf_in (w:World)(sa la sb lb:Option Addr)(n c m d n' c' m' d' s p:Nat)(S T U:List Nat)(A B:List Int)(hA:TIn w sa n c la m d S A)(hB:TIn w sb n' c' lb m' d' T B)(hG:Me.WinG S T U s p)(hU:Me.winS S T s p=some U) :
  Calls Tryz.prog 103 #[.agg #[.slice sa n c,.slice la m d],.agg #[.slice sb n' c',.slice lb m' d'],.int .i64 ((s:Nat):Int),.int .i64 ((p:Nat):Int)] w
   (TOut w U (Me.winL A B (S.getD 1 0) (S.getD 2 0) (T.getD 2 0) (T.getD 3 0) (T.getD 1 0*T.getD 2 0*T.getD 3 0) s p (U.getD 0 0) (U.getD 1 0) (U.getD 2 0))):=by
 have HSh:Hid (∀wx:World,Touch No w wx→Calls Tryz.prog 113 #[.slice sa n c,.slice sb n' c',.int .i64 ((s:Nat):Int),.int .i64 ((p:Nat):Int)] wx fun e w'=>∃a5 c5,e = .returned (.tuple #[.slice a5 3 c5,.int .i64 0])∧3≤c5∧Rd w' a5 (nums .i64 U)∧Touch No wx w'∧NewA wx a5):=fun wx t=>by
  have:=refWinShape_in wx sa sb n c n' c' s p S T hA.ok hB.ok (hA.no t).sr hA.sn (hB.no t).sr hB.sn;rw[hU]at this;exact this.mono fun e w' ⟨a5,c5,h1,h2,h3,h4,h5⟩=>⟨a5,c5,by rw[h1,hG.lu],by rw[← hG.lu];exact h2,h3,h4,h5⟩
 obtain⟨OUT,hOUT⟩:∃OUT,Me.winL A B (S.getD 1 0) (S.getD 2 0) (T.getD 2 0) (T.getD 3 0) (T.getD 1 0*T.getD 2 0*T.getD 3 0) s p (U.getD 0 0) (U.getD 1 0) (U.getD 2 0)=OUT:=⟨_,rfl⟩;rw[hOUT];have HA:=Lib.hid hA;have HB:=Lib.hid hB;have HG:=Lib.hid hG;have HOUT:=Lib.hid hOUT;clear hA hB hG hU hOUT;go_enter Tryz.func103,Tryz.ntmps103;go_wp2_with fail;obtain⟨w1,hw1,t1,b2,b3,b4,hsz⟩:=three_rows w 51 #[.slice sa n c,.slice la m d] #[.slice sb n' c',.slice lb m' d'] #[.slice none 0 0,.slice none 0 0];rw[← hw1];have H1:=Lib.hid (aI t1 (aI b2 (aI b3 b4)));clear hw1 t1 b2 b3 b4 hsz;refine(refCheck_ok (HA.out.no H1.out.1)).mono ?_;rintro e w2 ⟨rfl,t2⟩;have H2:=Lib.hid (aI (H1.out.1.trans t2) (aI (H1.out.2.1.touch t2 id) (aI (H1.out.2.2.1.touch t2 id) (H1.out.2.2.2.touch t2 id))));have k0:=H2.out.2.2.1.c0;have k1:=H2.out.2.2.1.c1;clear t2 H1;go_wp2_with fail;refine(refCheck_ok (HB.out.no H2.out.1)).mono ?_;rintro e w3 ⟨rfl,t2⟩;have H3:=Lib.hid (aI (H2.out.1.trans t2) (aI (H2.out.2.1.touch t2 id) (aI (H2.out.2.2.1.touch t2 id) (H2.out.2.2.2.touch t2 id))));clear t2 H2 k0 k1;have k0:=H3.out.2.1.c0;have k1:=H3.out.2.2.1.c0;go_wp2_with fail;refine(HSh.out w3 H3.out.1).mono ?_;clear HSh;rintro e w4 ⟨a5,c5,rfl,hc5,hrd5,t4,hnew⟩;have H4:=Lib.hid (aI (H3.out.1.trans t4) (aI (H3.out.2.1.touch t4 id) (aI (H3.out.2.2.1.touch t4 id) (aI (H3.out.2.2.2.touch t4 id) (aI hrd5 (aI hc5 (show NewA w a5∧∀ad,a5=some ad→w.heap.size+1+1<ad.block from⟨fun ad e=>Nat.le_trans H3.out.1.size (hnew ad e),fun ad e=>Nat.lt_of_lt_of_le H3.out.2.2.2.lt (hnew ad e)⟩)))))));clear t4 hrd5 hc5 hnew H3 k0 k1;go_wp2_with fail;obtain⟨Z,hZ⟩:∃Z,Z=w4.heap.size:=⟨_,rfl⟩;obtain⟨w6,hw6⟩:∃w6,w6=w4.alloc (.cells #[.slice a5 3 c5,.slice none 0 0] 51):=⟨_,rfl⟩
 have HQ:Hid (∀W,Touch (One Z) w6 W→Touch No w4 W):=fun W t=>by
  have t46:Touch No w4 w6:=by rw[hw6];exact(Touch.refl No w4).alloc _
  exact t46.oneNo t (by omega)
 have hG0:Hid (Grown w6 w6 Z a5 3 c5 []):=⟨Touch.refl _ _,.slice none 0 0,by rw[hw6,hZ];exact Row.new _ _ _,Own.nil _ _ _⟩;have hZ6:Z<w6.heap.size:=by obtain⟨v,h1,_⟩:=hG0.out.own;exact h1.lt
 have hZX:w.heap.size+1+1<Z:=by rw[hZ];exact H4.out.2.2.2.1.lt
 rw[← hw6,← hZ];have H4z:=Lib.hid hZ;clear hw6 hZ;have gg:=HG.out;have okU:=gg.ok;obtain⟨u0,hu0⟩:∃v,U.getD 0 0=v:=⟨_,rfl⟩;obtain⟨t1,ht1⟩:∃v,U.getD 1 0=v:=⟨_,rfl⟩;obtain⟨t2,ht2⟩:∃v,U.getD 2 0=v:=⟨_,rfl⟩;obtain⟨e1,he1⟩:∃v,T.getD 1 0=v:=⟨_,rfl⟩;obtain⟨e2,he2⟩:∃v,T.getD 2 0=v:=⟨_,rfl⟩;obtain⟨e3,he3⟩:∃v,T.getD 3 0=v:=⟨_,rfl⟩;obtain⟨rows,hrows⟩:∃v,S.getD 1 0=v:=⟨_,rfl⟩;obtain⟨wide,hwide⟩:∃v,S.getD 2 0=v:=⟨_,rfl⟩;have bu0:=okU.get (k:=0) (by rw[gg.lu];omega);have bt1:=okU.get (k:=1) (by rw[gg.lu];omega);have bt2:=okU.get (k:=2) (by rw[gg.lu];omega);have be1:=HB.out.ok.get (k:=1) (by rw[gg.lt];omega);have be2:=HB.out.ok.get (k:=2) (by rw[gg.lt];omega);have be3:=HB.out.ok.get (k:=3) (by rw[gg.lt];omega);have hn3:n=3:=by rw[← HA.out.sn];exact gg.ls
 have hn4:n'=4:=by rw[← HB.out.sn];exact gg.lt
 have hprU:Hid (Me.pr U=u0*t1*t2):=by
  show _=_
  have hl:=gg.lu;clear okU gg
  match U,hl with
  | [a,b,c],_=>simp at hu0 ht1 ht2;subst hu0 ht1 ht2;simp[Me.pr,Nat.mul_assoc]
 have hprT:m'=u0*(e1*e2*e3):=by
  rw[← HB.out.len,← hu0,gg.u0];have hl:=gg.lt;clear okU gg HB HG H4 bu0 be1 be2 be3 hn4
  match T,hl with
  | [a,b,c,d],_=>simp at he1 he2 he3;subst he1 he2 he3;simp[Me.pr,Nat.mul_assoc]
 have hm4':=HB.out.m4;obtain⟨one,hone⟩:∃x,e1*e2*e3=x:=⟨_,rfl⟩
 have hO:Hid ((List.range (u0*t1*t2)).map (fun i=>Me.go (Me.win A B rows wide e2 e3 one s p (i / (t1*t2)) (i / t2%t1) (i%t2)) 0 one)=OUT):=by
  have:=HOUT.out;rw[he1,he2,he3,hrows,hwide,hu0,ht1,ht2,hone]at this;exact this
 rw[hone]at hprT;rw[hu0]at bu0;rw[ht1]at bt1;rw[ht2]at bt2;rw[he1]at be1;rw[he2]at be2;rw[he3]at be3;have hlen:Hid (OUT.length=u0*t1*t2):=by show _=_;rw[← hO.out,List.length_map,List.length_range]
 have hL4:u0*t1*t2≤4096:=by rw[← hprU.out];exact okU.most
 have honeb:one≤4096:=by
  have h:1*one≤u0*one:=Nat.mul_le_mul_right _ bu0.1;omega
 obtain⟨b5,o5,rfl,y0⟩:=H4.out.2.2.2.2.1.num (i:=0) (by rw[gg.lu];omega);obtain⟨_,_,he,y1⟩:=H4.out.2.2.2.2.1.num (i:=1) (by rw[gg.lu];omega);injection he with he;injection he with q1 q2;subst q1 q2
 obtain⟨_,_,he,y2⟩:=H4.out.2.2.2.2.1.num (i:=2) (by rw[gg.lu];omega);injection he with he;injection he with q1 q2;subst q1 q2
 obtain⟨b2,o2,rfl,x1⟩:=(HB.out.no H4.out.1).dir (k:=1) (by omega);obtain⟨_,_,he,x2⟩:=(HB.out.no H4.out.1).dir (k:=2) (by omega);injection he with he;injection he with q1 q2;subst q1 q2
 obtain⟨_,_,he,x3⟩:=(HB.out.no H4.out.1).dir (k:=3) (by omega);injection he with he;injection he with q1 q2;subst q1 q2
 rw[Nat.add_zero,hu0]at y0;rw[ht1]at y1;rw[ht2]at y2;rw[he1]at x1;rw[he2]at x2;rw[he3]at x3
 have HC:Hid (∀W,Touch (One Z) w6 W→(W.cell? ⟨b5,o5,none⟩=some (.int .i64 ((u0:Nat):Int))∧W.cell? ⟨b5,o5+1,none⟩=some (.int .i64 ((t1:Nat):Int))∧W.cell? ⟨b5,o5+2,none⟩=some (.int .i64 ((t2:Nat):Int)))
   ∧(W.cell? ⟨b2,o2+1,none⟩=some (.int .i64 ((e1:Nat):Int))∧W.cell? ⟨b2,o2+2,none⟩=some (.int .i64 ((e2:Nat):Int))∧W.cell? ⟨b2,o2+3,none⟩=some (.int .i64 ((e3:Nat):Int)))
   ∧(W.cell? ⟨w.heap.size,0,none⟩=some (.slice sa n c)∧W.cell? ⟨w.heap.size,1,none⟩=some (.slice la m d))
   ∧(W.cell? ⟨w.heap.size+1,0,none⟩=some (.slice (some ⟨b2,o2,none⟩) n' c')∧W.cell? ⟨w.heap.size+1,1,none⟩=some (.slice lb m' d'))):=fun W t=>by
  have t4:=HQ.out W t;exact⟨⟨t4.cell id y0,t4.cell id y1,t4.cell id y2⟩,⟨t4.cell id x1,t4.cell id x2,t4.cell id x3⟩,⟨(H4.out.2.1.touch t4 id).c0,(H4.out.2.1.touch t4 id).c1⟩,(H4.out.2.2.1.touch t4 id).c0,(H4.out.2.2.1.touch t4 id).c1⟩
 have q3:(0:Int)<(n:Nat):=by omega
 have i1:(1:Int)<(n':Nat):=by omega
 have i2:(2:Int)<(n':Nat):=by omega
 have i3:(3:Int)<(n':Nat):=by omega
 have HN3:=Lib.hid (aI hn3 hn4);replace hprT:=Lib.hid hprT;replace hone:=Lib.hid hone;have HE:=Lib.hid (aI hrows (aI hwide (aI he1 (aI he2 he3))));have HU:=Lib.hid (aI hu0 (aI ht1 ht2));clear y0 y1 y2 x1 x2 x3 gg okU hu0 ht1 ht2 he1 he2 he3 hrows hwide hn3 hn4 HOUT
 go_loopg [13] u0 (fun gh s13 wr=>∃o:Nat,o+gh=u0∧s13 = .int .i64 ((o:Nat):Int)∧Hid (Grown w6 wr Z (some ⟨b5,o5,none⟩) 3 c5 (OUT.take (o*t1*t2))))
 case atStart=>exact⟨0,by omega,rfl,by show Grown _ _ _ _ _ _ _;rw[Nat.zero_mul,Nat.zero_mul,List.take_zero];exact hG0.out⟩
 case round =>
  obtain⟨o,hog,rfl,G⟩:=hrel;obtain⟨⟨y0,y1,y2⟩,_⟩:=HC.out wr G.out.t;cases gk with
  | zero =>
    obtain rfl:u0=o:=by omega
    have GF:=G.out;rw[List.take_of_length_le (by rw[hlen.out];exact Nat.le_refl _)]at GF;obtain⟨v,hRZ,hown⟩:=GF.own;obtain⟨av,cv,rfl,hcv,_⟩:=hown.form' (n:=u0*t1*t2) (by rw[ints_length,hlen.out]);obtain⟨mU,hmU⟩:∃mU,u0*t1*t2=mU:=⟨_,rfl⟩;rw[hmU]at hown hcv hRZ;have t4:=HQ.out wr GF.t;have k1:=hRZ.c0;have k2:=hRZ.c1;have kx:=H4.out.2.2.2.1.touch t4 id;have HF:=Lib.hid (aI GF (aI hown (aI hcv (aI t4 hmU))));clear hown hcv hRZ t4 hmU GF G;go_wp2_with (refine wpList_store_mid rfl 51 _ _ rfl (w.heap.size+1+1) 0 51 [.slice none 0 0,.slice none 0 0] kx rfl [.slice (some ⟨b5,o5,none⟩) 3 c5,.slice av mU cv] rfl (by kernel_rfl) (by simp) (by intro v hv;simp at hv;rcases hv with rfl|rfl <;> rfl) ?_);obtain⟨w9,hw9⟩:∃w9,w9=wr.setRow (w.heap.size+1+1) (splice [.slice none 0 0,.slice none 0 0] 0 [.slice (some ⟨b5,o5,none⟩) 3 c5,.slice av mU cv]).toArray:=⟨_,rfl⟩;have R9:Row w9 (w.heap.size+1+1) 51 [.slice (some ⟨b5,o5,none⟩) 3 c5,.slice av mU cv]:=by rw[hw9];exact kx.setRow _
    have tX:Touch (One (w.heap.size+1+1)) wr w9:=by rw[hw9];exact Touch.setOne _ _ _
    have HN:Hid (TIn w9 (some ⟨b5,o5,none⟩) 3 c5 av mU cv U OUT∧Touch No w w9∧NewA w (some ⟨b5,o5,none⟩)∧NewA w av):=by
     refine⟨?_,(H4.out.1.trans HF.out.2.2.2.1).oneNo tX (by omega),H4.out.2.2.2.2.2.2.1,fun ad e=>?_⟩
     ·have hr5:Rd wr (some ⟨b5,o5,none⟩) (nums .i64 U):=H4.out.2.2.2.2.1.no HF.out.2.2.2.1
      refine {sr:=hr5.keepR tX (fun ad e=>by have:=H4.out.2.2.2.2.2.2.2 ad e;omega),sn:=HG.out.lu,sc:=H4.out.2.2.2.2.2.1,lr:=HF.out.2.1.rd.keepR tX (fun ad e=>by have:=(HF.out.2.1.block (k:=ad.block) (by rw[e];rfl)).1;omega),lm:=by rw[hlen.out,HF.out.2.2.2.2],lc:=HF.out.2.2.1,ok:=HG.out.ok,len:=by rw[hprU.out,HF.out.2.2.2.2],rng:=?_};rw[← hO.out];exact Me.map_in fun _ _=>Me.go_in (by omega) (fun _ _=>Me.w32_in _) _
     ·have:=(HF.out.2.1.block (k:=ad.block) (by rw[e];rfl)).1
      omega
    have y0:=R9.c0;have y1:=R9.c1;rw[← hw9];clear hw9 kx R9 tX;go_wp2;refine bodyPost_ret (v:=.tuple #[.agg #[.slice (some ⟨b5,o5,none⟩) 3 c5,.slice av mU cv],.int .i64 0]) (by simp[results,Tryz.results103,go_sem,y0,y1]) rfl ?_;exact⟨_,3,c5,av,mU,cv,rfl,HN.out⟩
  | succ g0 =>
    have ho:(o:Int)<(u0:Nat):=by omega
    clear y1 y2;go_wp2_with fail;clear y0
    go_loopg [14] t1 (fun gh s14 wr=>∃y:Nat,y+gh=t1∧s14 = .int .i64 ((y:Nat):Int)∧Hid (Grown w6 wr Z (some ⟨b5,o5,none⟩) 3 c5 (OUT.take ((o*t1+y)*t2))))
    case atStart=>exact⟨0,by omega,rfl,G⟩
    case round =>
     obtain⟨y,hyg,rfl,Gy⟩:=hrel;obtain⟨⟨y0,y1,y2⟩,_⟩:=HC.out wr Gy.out.t;cases gk with
     | zero =>
       obtain rfl:t1=y:=by omega
       have HN:Hid (Grown w6 wr Z (some ⟨b5,o5,none⟩) 3 c5 (OUT.take ((o+1)*t1*t2))):=by
        have:=Gy.out;rw[← Nat.succ_mul]at this;exact this
       clear Gy G;go_wp2_with fail
       go_roundg g0
       case measure=>omega
       case rel=>exact⟨o+1,by omega,by go_num,HN⟩
     | succ g1 =>
       have hy:(y:Int)<(t1:Nat):=by omega
       clear y0 y2;go_wp2_with fail;clear y1
       go_loopg [15] t2 (fun gh s15 wr=>∃x:Nat,x+gh=t2∧s15 = .int .i64 ((x:Nat):Int)∧Hid (Grown w6 wr Z (some ⟨b5,o5,none⟩) 3 c5 (OUT.take ((o*t1+y)*t2+x))))
       case atStart=>exact⟨0,by omega,rfl,Gy⟩
       case round =>
        obtain⟨x,hxg,rfl,Gx⟩:=hrel;obtain⟨⟨y0,y1,y2⟩,_⟩:=HC.out wr Gx.out.t;cases gk with
        | zero =>
          obtain rfl:t2=x:=by omega
          have HN:Hid (Grown w6 wr Z (some ⟨b5,o5,none⟩) 3 c5 (OUT.take ((o*t1+(y+1))*t2))):=by
           have:=Gx.out;rw[← Nat.succ_mul]at this;exact this
          clear Gx Gy G;go_wp2_with fail
          go_roundg g1
          case measure=>omega
          case rel=>exact⟨y+1,by omega,by go_num,HN⟩
        | succ g2 =>
          have hx:(x:Int)<(t2:Nat):=by omega
          clear y0 y1 G Gy;go_wp2_with fail;clear y2;obtain⟨wo,hwo⟩:∃wo:World,wo=wr:=⟨_,rfl⟩;subst hwo
          go_loopg [16,17] one (fun gh s16 s17 wr=>∃(acc:Int) (q:Nat),q+gh=one∧s17 = .int .i64 ((q:Nat):Int)∧s16 = .int .i32 acc∧Hid (acc=Me.go (Me.win A B rows wide e2 e3 one s p o y x) 0 q)∧Hid (Touch No wo wr))
          case atStart=>exact⟨0,0,by omega,rfl,rfl,rfl,Touch.refl _ _⟩
          case round =>
           obtain⟨acc,q,hqg,rfl,rfl,HAcc,Tq⟩:=hrel;have Gq:=Gx.out.no Tq.out;have TQ:=Lib.hid Gq.t;obtain⟨p12,hp12⟩:∃z,e1*e2=z:=⟨_,rfl⟩;have hpo:p12*e3=one:=by rw[← hp12];exact hone.out
           have hp12b:p12≤one:=by rw[← hpo];exact Nat.le_mul_of_pos_right _ (by omega)
           have r1:IntKind.i64.wrap ((e1:Int)*(e2:Int))=((p12:Nat):Int):=by rw[← Int.natCast_mul,hp12];exact IntWalk.i64_in _ (by omega)
           have r2:IntKind.i64.wrap ((p12:Int)*(e3:Int))=((one:Nat):Int):=by rw[← Int.natCast_mul,hpo];exact IntWalk.i64_in _ (by omega)
           obtain⟨_,⟨x1,x2,x3⟩,⟨ka0,ka1⟩,kb0,kb1⟩:=HC.out wr (TQ.out);have z1:=KW.cell x1;have z2:=KW.cell x2;have z3:=KW.cell x3;have z4:=KW.cell ka0;have z5:=KW.cell ka1;have z6:=KW.cell kb0;have z7:=KW.cell kb1;clear x1 x2 x3 ka0 ka1 kb0 kb1;have Hp:=Lib.hid (aI hp12 hpo);clear hp12 hpo Gq;cases gk with
           | zero =>
             obtain rfl:one=q:=by omega
             have c1:decide (one<one)=false:=by simp
             have c2:decide ((one:Int)<(one:Nat))=false:=by simp
             go_wp2_with fail;refine wp_region_kept (by kernel_rfl) (by kernel_rfl) ?_;repeat (first|go_big_quiet_step (fail)|quiet_step (fail))
             refine wpQuiet_nil ?_;intro _ hw';obtain⟨kw,hw''⟩:=hw';subst hw'';obtain⟨wk,tk⟩:=kw;have tk:=Lib.hid tk;dsimp only;clear z1 z2 z3 z4 z5 z6 z7;have Gk:=(Gx.out.no Tq.out).no tk.out;obtain⟨v,hRZ,hown⟩:=Gk.own;have hij:(o*t1+y)*t2+x<u0*t1*t2:=Me.lex_lt (Me.lex_lt (by omega) (by omega)) (by omega)
             have hval:Hid (Me.at_ OUT ((o*t1+y)*t2+x)=acc):=by
              show _=_
              rw[← hO.out,Me.at_map _ hij,HAcc.out]
              have d1:((o*t1+y)*t2+x) / (t1*t2)=o:=by
               rw[Nat.mul_comm t1 t2,← Nat.div_div_eq_div_mul,Nat.mul_comm (o*t1+y) t2,Nat.mul_add_div (by omega),Nat.div_eq_of_lt (show x<t2 by omega),Nat.add_zero,Nat.mul_comm o t1,Nat.mul_add_div (by omega),Nat.div_eq_of_lt (show y<t1 by omega),Nat.add_zero]
              have d2:((o*t1+y)*t2+x) / t2%t1=y:=by
               rw[Nat.mul_comm (o*t1+y) t2,Nat.mul_add_div (by omega),Nat.div_eq_of_lt (show x<t2 by omega),Nat.add_zero,Nat.mul_comm o t1,Nat.mul_add_mod,Nat.mod_eq_of_lt (by omega)]
              have d3:((o*t1+y)*t2+x)%t2=x:=by
               rw[Nat.mul_comm (o*t1+y) t2,Nat.mul_add_mod,Nat.mod_eq_of_lt (by omega)]
              rw[d1,d2,d3]
             obtain⟨ix,hix⟩:∃ix,(o*t1+y)*t2+x=ix:=⟨_,rfl⟩;rw[hix]at hown hij hval;have HIX:Hid ((o*t1+y)*t2+(x+1)=ix+1):=by show _=_;rw[← hix];rfl
             have Hown:=Lib.hid hown;have HRZ:=Lib.hid hRZ;have TK:=Lib.hid Gk.t
             have hll:Hid ((ints .i32 (OUT.take ix)).length=ix∧OUT.take (ix+1)=OUT.take ix ++ [acc]):=by
              refine⟨by rw[ints_length,List.length_take,hlen.out];omega,?_⟩;rw[List.take_add_one,Lge (by rw[hlen.out];exact hij),← hval.out,Me.at_lt (by rw[hlen.out];exact hij)];rfl
             have hixb:ix≤4096:=by omega
             obtain⟨J,hj0,hj1,hj2,hj3⟩:∃i,Tryz.prog.info? 21=some i∧i.zero=some (.int .i32 0)∧i.size=1∧i.bytes=4:=one_info (by kernel_rfl);have HJ:=Lib.hid (aI hj0 (aI hj1 (aI hj2 hj3)));have kz1:=hRZ.c1;have hsz:=Gk.t.size;clear Gk hown hRZ hix hij hval tk Tq Gx HAcc hj0 hj1 hj2 hj3 Hp TQ;go_wp2_with (at_builtin;refine wpList_append1 rfl _ _ _ rfl w6.heap.size _ J _ 4 Tryz.underlying49 HJ.out.1 HJ.out.2.1 HJ.out.2.2.1 HJ.out.2.2.2 rfl _ _ _ Hown.out rfl rfl rfl (by have:=hll.out.1;unfold maxLen;omega) (by have:=hll.out.1;omega) hsz ?_;intro v'' w8 hown8 ht8;obtain⟨av',cv',rfl,_,_⟩:=hown8.form' (n:=ix+1) (by rw[List.length_append,hll.out.1];rfl);have hR8:=HRZ.out.touch ht8 (fun e=>by have:=(Hown.out.block e).1;omega);have kz2:=hR8.c1;have kz3:=hR8.soft 1;have H8:=Lib.hid (aI hR8 (aI hown8 ht8));clear hR8 hown8 ht8)
             have HN:Hid (Grown w6 (w8.setCell ⟨Z,1,none⟩ (.slice av' (ix+1) cv')) Z (some ⟨b5,o5,none⟩) 3 c5 (OUT.take ((o*t1+y)*t2+(x+1)))):=by
              have ts:Touch (One Z) w8 (w8.setCell ⟨Z,1,none⟩ (.slice av' (ix+1) cv')):=(Touch.refl (One Z) w8).setCell (p:=⟨Z,1,none⟩) (fun _=>rfl) _;refine⟨(TK.out.then H8.out.2.2 (fun i hi e=>absurd ((Hown.out.block e).1) (by omega))).trans ts,.slice av' (ix+1) cv',?_,?_⟩
              ·exact H8.out.1.setCell 1 _
              ·rw[HIX.out,hll.out.2,Me.ints_snoc']
               exact H8.out.2.1.touch ts (fun b hb hb' e=>by unfold One at e;omega)
             go_roundg g2
             case measure=>omega
             case rel=>exact⟨x+1,by omega,by go_num,HN⟩
           | succ g3 =>
             have hqo:q<one:=by omega
             have c1:decide (q<one)=true:=by simp;omega
             have c2:decide ((q:Int)<(one:Nat))=true:=by simp;omega
             go_wp2_with fail;refine wp_region_kept (by kernel_rfl) (by kernel_rfl) ?_;repeat (first|go_big_quiet_step (fail)|quiet_step (fail))
             refine wpQuiet_nil ?_;intro _ hw';obtain⟨kw,hw''⟩:=hw';subst hw'';obtain⟨wk,tk⟩:=kw;have tk:=Lib.hid tk;dsimp only;clear z1 z2 z3 z4 z5 z6 z7;obtain⟨wa,hwa⟩:∃wa,wa=wk:=⟨_,rfl⟩;subst hwa;have Ta:Hid (Touch (One Z) w6 wa):=TQ.out.trans tk.out.no;have Sa:Hid (Touch No wo wa):=Tq.out.trans tk.out;clear tk TQ Tq;obtain⟨p23,hp23⟩:∃z,e2*e3=z:=⟨_,rfl⟩;have hp23b:p23≤one:=by rw[← Hp.out.2,← Hp.out.1,Nat.mul_assoc,hp23];exact Nat.le_mul_of_pos_left _ (by omega)
             have hp231:1≤p23:=by rw[← hp23];exact Nat.mul_pos (by omega) (by omega)
             have r3:IntKind.i64.wrap ((e2:Int)*(e3:Int))=((p23:Nat):Int):=by rw[← Int.natCast_mul,hp23];exact IntWalk.i64_in _ (by omega)
             obtain⟨ch,hch⟩:∃z,q / p23=z:=⟨_,rfl⟩;obtain⟨q3',hq3'⟩:∃z,q / e3=z:=⟨_,rfl⟩;obtain⟨ky,hky⟩:∃z,q3'%e2=z:=⟨_,rfl⟩;obtain⟨kx,hkx⟩:∃z,q%e3=z:=⟨_,rfl⟩;have bch:ch<e1:=by rw[← hch,Nat.div_lt_iff_lt_mul (by omega),← hp23,← Nat.mul_assoc,Hp.out.1,Hp.out.2];exact hqo
             have bky:ky<e2:=by rw[← hky];exact Nat.mod_lt _ (by omega)
             have bkx:kx<e3:=by rw[← hkx];exact Nat.mod_lt _ (by omega)
             have bq3:q3'≤q:=by rw[← hq3'];exact Nat.div_le_self _ _
             have s1:(q:Int).tdiv (p23:Int)=((ch:Nat):Int):=by rw[Int.tdiv_eq_ediv_of_nonneg (by omega),← hch];omega
             have s1':(q:Int) / (p23:Int)=((ch:Nat):Int):=by rw[← hch];omega
             have s2:(q:Int).tdiv (e3:Int)=((q3':Nat):Int):=by rw[Int.tdiv_eq_ediv_of_nonneg (by omega),← hq3'];omega
             have s2':(q:Int) / (e3:Int)=((q3':Nat):Int):=by rw[← hq3'];omega
             have s3:(q3':Int).tmod (e2:Int)=((ky:Nat):Int):=by rw[Int.tmod_eq_emod_of_nonneg (by omega),← hky];omega
             have s3':(q3':Int)%(e2:Int)=((ky:Nat):Int):=by rw[← hky];omega
             have s4:(q:Int).tmod (e3:Int)=((kx:Nat):Int):=by rw[Int.tmod_eq_emod_of_nonneg (by omega),← hkx];omega
             have s4':(q:Int)%(e3:Int)=((kx:Nat):Int):=by rw[← hkx];omega
             have s5:IntKind.i64.wrap ((ch:Nat):Int)=((ch:Nat):Int):=IntWalk.i64_in _ (by omega);have s6:IntKind.i64.wrap ((q3':Nat):Int)=((q3':Nat):Int):=IntWalk.i64_in _ (by omega);have z00:¬(p23:Int)=0:=by omega
             have z01:¬p23=0:=by omega
             have z02:¬(e3:Int)=0:=by omega
             have z03:¬e3=0:=by omega
             have z04:¬(e2:Int)=0:=by omega
             have z05:¬e2=0:=by omega
             obtain⟨_,⟨x1,x2,x3⟩,⟨ka0,ka1⟩,kb0,kb1⟩:=HC.out wa (Ta.out);have z1:=KW.cell x1;have z2:=KW.cell x2;have z3:=KW.cell x3;have z4:=KW.cell ka0;have z5:=KW.cell ka1;have z6:=KW.cell kb0;have z7:=KW.cell kb1;clear x1 x2 x3 ka0 ka1 kb0 kb1;go_wp2_with fail;refine wp_region_kept (by kernel_rfl) (by kernel_rfl) ?_;repeat (first|go_big_quiet_step (fail)|quiet_step (fail))
             refine wpQuiet_nil ?_;intro _ hw';obtain⟨kw,hw''⟩:=hw';subst hw'';obtain⟨wk,tk⟩:=kw;have tk:=Lib.hid tk;dsimp only;clear z1 z2 z3 z4 z5 z6 z7;obtain⟨wb,hwb⟩:∃wb,wb=wk:=⟨_,rfl⟩;subst hwb;have Tb:Hid (Touch (One Z) w6 wb):=Ta.out.trans tk.out.no;have Sb:Hid (Touch No wo wb):=Sa.out.trans tk.out;clear tk Ta Sa;obtain⟨_,⟨x1,x2,x3⟩,⟨ka0,ka1⟩,kb0,kb1⟩:=HC.out wb (Tb.out);have z1:=KW.cell x1;have z2:=KW.cell x2;have z3:=KW.cell x3;have z4:=KW.cell ka0;have z5:=KW.cell ka1;have z6:=KW.cell kb0;have z7:=KW.cell kb1;clear x1 x2 x3 ka0 ka1 kb0 kb1;go_wp2_with fail;refine wp_region_kept (by kernel_rfl) (by kernel_rfl) ?_;repeat (first|go_big_quiet_step (fail)|quiet_step (fail))
             refine wpQuiet_nil ?_;intro _ hw';obtain⟨kw,hw''⟩:=hw';subst hw'';obtain⟨wk,tk⟩:=kw;have tk:=Lib.hid tk;dsimp only;clear z1 z2 z3 z4 z5 z6 z7;obtain⟨wd,hwd⟩:∃wd,wd=wk:=⟨_,rfl⟩;subst hwd;have Td:Hid (Touch (One Z) w6 wd):=Tb.out.trans tk.out.no;have Sd:Hid (Touch No wo wd):=Sb.out.trans tk.out;clear tk Tb Sb;obtain⟨_,⟨x1,x2,x3⟩,⟨ka0,ka1⟩,kb0,kb1⟩:=HC.out wd (Td.out);have z1:=KW.cell x1;have z2:=KW.cell x2;have z3:=KW.cell x3;have z4:=KW.cell ka0;have z5:=KW.cell ka1;have z6:=KW.cell kb0;have z7:=KW.cell kb1;clear x1 x2 x3 ka0 ka1 kb0 kb1;have kb0:=z6 ⟨wd,Touch.refl _ _⟩;have x3:=z3 ⟨wd,Touch.refl _ _⟩;dsimp only at kb0 x3;go_wp2_with fail;clear kb0 x3 r3 s1 s1' s2 s2' s3 s3' s4 s4' s5 s6 z00 z01;obtain⟨ys,hys⟩:∃z,y*s=z:=⟨_,rfl⟩;obtain⟨xs,hxs⟩:∃z,x*s=z:=⟨_,rfl⟩;have bs:=HG.out.step;have bp:=HG.out.pad;have bys:ys≤512:=by rw[← hys];exact Nat.le_trans (Nat.mul_le_mul (show y≤64 by omega) bs.2) (by omega)
             have bxs:xs≤512:=by rw[← hxs];exact Nat.le_trans (Nat.mul_le_mul (show x≤64 by omega) bs.2) (by omega)
             obtain⟨Y1,hY1⟩:∃z:Int,(ys:Int)-(p:Int)=z:=⟨_,rfl⟩;obtain⟨X1,hX1⟩:∃z:Int,(xs:Int)-(p:Int)=z:=⟨_,rfl⟩;obtain⟨Y2,hY2⟩:∃z:Int,Y1+(ky:Int)=z:=⟨_,rfl⟩;obtain⟨X2,hX2⟩:∃z:Int,X1+(kx:Int)=z:=⟨_,rfl⟩;have m1:IntKind.i64.wrap ((y:Int)*(s:Int))=((ys:Nat):Int):=by rw[← Int.natCast_mul,hys];exact IntWalk.i64_in _ (by omega)
             have m2:IntKind.i64.wrap ((x:Int)*(s:Int))=((xs:Nat):Int):=by rw[← Int.natCast_mul,hxs];exact IntWalk.i64_in _ (by omega)
             have m3:IntKind.i64.wrap ((ys:Int)-(p:Int))=Y1:=by rw[hY1];exact IntWalk.i64_in _ (by omega)
             have m4:IntKind.i64.wrap ((xs:Int)-(p:Int))=X1:=by rw[hX1];exact IntWalk.i64_in _ (by omega)
             have m5:IntKind.i64.wrap (Y1+(ky:Int))=Y2:=by rw[hY2];exact IntWalk.i64_in _ (by omega)
             have m6:IntKind.i64.wrap (X1+(kx:Int))=X2:=by rw[hX2];exact IntWalk.i64_in _ (by omega)
             have bY2:-10000≤Y2∧Y2≤10000:=by omega
             have bX2:-10000≤X2∧X2≤10000:=by omega
             obtain⟨oe1,hoe1⟩:∃z,o*e1=z:=⟨_,rfl⟩;obtain⟨oe2,hoe2⟩:∃z,oe1*e2=z:=⟨_,rfl⟩;obtain⟨oo,hoo⟩:∃z,oe2*e3=z:=⟨_,rfl⟩;obtain⟨bi,hbi⟩:∃z,oo+q=z:=⟨_,rfl⟩;have hoo':o*one=oo:=by rw[← hoo,← hoe2,← hoe1,← Hp.out.2,← Hp.out.1,Nat.mul_assoc,Nat.mul_assoc,Nat.mul_assoc]
             have hbm:bi<m':=by rw[← hbi,← hoo',hprT.out];exact Me.lex_lt (by omega) hqo
             have boe2:oe2≤oo:=by rw[← hoo];exact Nat.le_mul_of_pos_right _ (by omega)
             have boe1:oe1≤oe2:=by rw[← hoe2];exact Nat.le_mul_of_pos_right _ (by omega)
             have n1:IntKind.i64.wrap ((o:Int)*(e1:Int))=((oe1:Nat):Int):=by rw[← Int.natCast_mul,hoe1];exact IntWalk.i64_in _ (by omega)
             have n2:IntKind.i64.wrap ((oe1:Int)*(e2:Int))=((oe2:Nat):Int):=by rw[← Int.natCast_mul,hoe2];exact IntWalk.i64_in _ (by omega)
             have n3:IntKind.i64.wrap ((oe2:Int)*(e3:Int))=((oo:Nat):Int):=by rw[← Int.natCast_mul,hoo];exact IntWalk.i64_in _ (by omega)
             have n4:IntKind.i64.wrap ((oo:Int)+(q:Int))=((bi:Nat):Int):=by rw[← Int.natCast_add,hbi];exact IntWalk.i64_in _ (by omega)
             have hwd:Touch No w wd:=H4.out.1.trans (HQ.out wd Td.out);obtain⟨gb,ob,rfl,cb⟩:=(HB.out.no hwd).num (k:=bi) hbm;obtain⟨bv,hbv⟩:∃z,Me.at_ B bi=z:=⟨_,rfl⟩;rw[hbv]at cb;have z8:=KW.cell cb;obtain⟨lk,hlk⟩:∃z,Me.look A rows wide ch Y2 X2=z:=⟨_,rfl⟩
             have CL:Hid (∀p:KW wd,Calls Tryz.prog 165 #[.agg #[.slice sa n c,.slice la m d],.int .i64 ((ch:Nat):Int),.int .i64 Y2,.int .i64 X2] p.wd fun e w'=>e = .returned (.int .i32 lk)∧Touch No p.wd w'):=fun p=>by
              have:=refLook_in p.wd sa la n c m d S A (HA.out.no (hwd.trans p.no)) HN3.out.1 ch Y2 X2 (by rw[HG.out.deep,HE.out.2.2.1];exact bch) bY2 bX2;rw[HE.out.1,HE.out.2.1,hlk]at this;exact this
             have hbii:(bi:Int)<(m':Nat):=by omega
             have HAC:Hid (wrap32 (acc+wrap32 (lk*bv))=Me.go (Me.win A B rows wide e2 e3 one s p o y x) 0 (q+1)):=by
              show _=_
              rw[Me.go_succ,← HAcc.out,Me.win,hp23,hch,hq3',hky,hkx,hoo',hbi,hbv];rw[show((y:Int)*(s:Int)-(p:Int)+((ky:Nat):Int))=Y2 by rw[← hY2,← hY1,← hys,Int.natCast_mul]];rw[show((x:Int)*(s:Int)-(p:Int)+((kx:Nat):Int))=X2 by rw[← hX2,← hX1,← hxs,Int.natCast_mul],hlk]
             clear hys hxs hY1 hX1 hY2 hX2 hoe1 hoe2 hoo hbi hoo' hbm hbv cb hlk hp23 hch hq3' hky hkx hwd;refine wp_region_kept (by kernel_rfl) (by kernel_rfl) ?_;repeat (first|go_big_quiet_step (with_reducible exact Calls.kept_of (CL.out _))|quiet_step (with_reducible exact Calls.kept_of (CL.out _)))
             refine wpQuiet_nil ?_;intro _ hw';obtain⟨kw,hw''⟩:=hw';subst hw'';obtain⟨wk,tk⟩:=kw;have tk:=Lib.hid tk;dsimp only;have Sk:Hid (Touch No wo wk):=Sd.out.trans tk.out;clear z1 z2 z3 z4 z5 z6 z7;clear z8 CL m1 m2 m3 m4 m5 m6 n1 n2 n3 n4;go_wp2
             go_roundg g3
             case measure=>omega
             case rel=>exact⟨_,q+1,by omega,by go_num,rfl,HAC,Sk⟩
end
end Go.Proofs.YtjlphmmalebgpaaGreat
