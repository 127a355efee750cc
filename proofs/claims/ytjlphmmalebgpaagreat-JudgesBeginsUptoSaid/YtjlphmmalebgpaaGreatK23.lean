/-
  A part of the proof.
-/
import Derived.Test.YtjlphmmalebgpaaGreatK22
set_option linter.unusedSimpArgs false
set_option linter.unusedVariables false
set_option maxHeartbeats 2000000
set_option maxRecDepth 100000
namespace Go.Proofs.YtjlphmmalebgpaaGreat
section
open Go Go.RowKit
theorem w64_in (n:Int)(h:-9223372036854775808≤n∧n≤9223372036854775807):wrap64 n=n:=by unfold wrap64;omega
namespace Me
theorem go_in2 {f:Int→Nat→Int}{a:Int}(ha:-2147483648≤a∧a≤2147483647)(h:∀s k,(-2147483648≤s∧s≤2147483647)→ -2147483648≤f s k∧f s k≤2147483647):∀n,-2147483648≤go f a n∧go f a n≤2147483647
 | 0=>ha
 | n+1=>h _ _ (go_in2 ha h n)
theorem max_in {x y:Int}(hx:-2147483648≤x∧x≤2147483647)(hy:-2147483648≤y∧y≤2147483647):-2147483648≤max x y∧max x y≤2147483647:=by omega
structure PoolG (S U:List Nat) (s:Nat):Prop where
 step:1≤s∧s≤64
 ls:S.length=3
 lu:U.length=3
 u0:U.getD 0 0=S.getD 0 0
 ok:Ok U
theorem poolG {S U:List Nat}{st:Int}(ok:Ok S)(h:poolS S st=some U):∃s:Nat,st=s∧PoolG S U s:=by
 by_cases hw:PoolOk S st
 ·rw[poolS_some hw]at h
  injection h with h
  have h8:=pool_ok ok hw;obtain⟨⟨h1,h2⟩,h5,_⟩:=hw;rw[h]at h8;exact⟨st.toNat,by omega,{step:=by omega,ls:=h5,lu:=by rw[← h];rfl,u0:=by rw[← h];rfl,ok:=h8}⟩
 ·rw[poolS_none hw]at h;cases h
end Me
theorem refPoolOf_in (w:World)(sa la:Option Addr)(n c m d s:Nat)(S U:List Nat)(A:List Int)(hA:TIn w sa n c la m d S A)(hG:Me.PoolG S U s)(hU:Me.poolS S s=some U) :
  Calls Tryz.prog 104 #[.agg #[.slice sa n c,.slice la m d],.int .i64 ((s:Nat):Int)] w
   (TOut w U (Me.poolL A (S.getD 1 0) (S.getD 2 0) s (U.getD 0 0) (U.getD 1 0) (U.getD 2 0))):=by
 have HSh:Hid (∀wx:World,Touch No w wx→Calls Tryz.prog 114 #[.slice sa n c,.int .i64 ((s:Nat):Int)] wx fun e w'=>∃a5 c5,e = .returned (.tuple #[.slice a5 3 c5,.int .i64 0])∧3≤c5∧Rd w' a5 (nums .i64 U)∧Touch No wx w'∧NewA wx a5):=fun wx t=>by
  have:=refPoolShape_in wx sa n c s S hA.ok (hA.no t).sr hA.sn;rw[hU]at this;exact this.mono fun e w' ⟨a5,c5,h1,h2,h3,h4,h5⟩=>⟨a5,c5,by rw[h1,hG.lu],by rw[← hG.lu];exact h2,h3,h4,h5⟩
 obtain⟨OUT,hOUT⟩:∃OUT,Me.poolL A (S.getD 1 0) (S.getD 2 0) s (U.getD 0 0) (U.getD 1 0) (U.getD 2 0)=OUT:=⟨_,rfl⟩;rw[hOUT];have HA:=Lib.hid hA;have HG:=Lib.hid hG;have HOUT:=Lib.hid hOUT;clear hA hG hU hOUT;go_enter Tryz.func104,Tryz.ntmps104;go_wp2_with fail;obtain⟨w1,hw1,t1,b2,b3,hsz⟩:=two_rows w 51 #[.slice sa n c,.slice la m d] #[.slice none 0 0,.slice none 0 0];rw[← hw1];have H1:=Lib.hid (aI t1 (aI b2 b3));clear hw1 t1 b2 b3 hsz;refine(refCheck_ok (HA.out.no H1.out.1)).mono ?_;rintro e w3 ⟨rfl,t2⟩;have H3:=Lib.hid (aI (H1.out.1.trans t2) (aI (H1.out.2.1.touch t2 id) (H1.out.2.2.touch t2 id)));clear t2 H1;have k0:=H3.out.2.1.c0;go_wp2_with fail;refine(HSh.out w3 H3.out.1).mono ?_;clear HSh;rintro e w4 ⟨a5,c5,rfl,hc5,hrd5,t4,hnew⟩;have H4:=Lib.hid (aI (H3.out.1.trans t4) (aI (H3.out.2.1.touch t4 id) (aI trivial (aI (H3.out.2.2.touch t4 id) (aI hrd5 (aI hc5 (show NewA w a5∧∀ad,a5=some ad→w.heap.size+1<ad.block from⟨fun ad e=>Nat.le_trans H3.out.1.size (hnew ad e),fun ad e=>Nat.lt_of_lt_of_le H3.out.2.2.lt (hnew ad e)⟩)))))));clear t4 hrd5 hc5 hnew H3 k0;go_wp2_with fail;obtain⟨Z,hZ⟩:∃Z,Z=w4.heap.size:=⟨_,rfl⟩;obtain⟨w6,hw6⟩:∃w6,w6=w4.alloc (.cells #[.slice a5 3 c5,.slice none 0 0] 51):=⟨_,rfl⟩
 have HQ:Hid (∀W,Touch (One Z) w6 W→Touch No w4 W):=fun W t=>by
  have t46:Touch No w4 w6:=by rw[hw6];exact(Touch.refl No w4).alloc _
  exact t46.oneNo t (by omega)
 have hG0:Hid (Grown w6 w6 Z a5 3 c5 []):=⟨Touch.refl _ _,.slice none 0 0,by rw[hw6,hZ];exact Row.new _ _ _,Own.nil _ _ _⟩;have hZ6:Z<w6.heap.size:=by obtain⟨v,h1,_⟩:=hG0.out.own;exact h1.lt
 have hZX:w.heap.size+1<Z:=by rw[hZ];exact H4.out.2.2.2.1.lt
 rw[← hw6,← hZ];have H4z:=Lib.hid hZ;clear hw6 hZ;have gg:=HG.out;have okU:=gg.ok;obtain⟨u0,hu0⟩:∃v,U.getD 0 0=v:=⟨_,rfl⟩;obtain⟨t1,ht1⟩:∃v,U.getD 1 0=v:=⟨_,rfl⟩;obtain⟨t2,ht2⟩:∃v,U.getD 2 0=v:=⟨_,rfl⟩;obtain⟨rows,hrows⟩:∃v,S.getD 1 0=v:=⟨_,rfl⟩;obtain⟨wide,hwide⟩:∃v,S.getD 2 0=v:=⟨_,rfl⟩;have bu0:=okU.get (k:=0) (by rw[gg.lu];omega);have bt1:=okU.get (k:=1) (by rw[gg.lu];omega);have bt2:=okU.get (k:=2) (by rw[gg.lu];omega);have hn3:n=3:=by rw[← HA.out.sn];exact gg.ls
 have hprU:Hid (Me.pr U=u0*t1*t2):=by
  show _=_
  have hl:=gg.lu;clear okU gg
  match U,hl with
  | [a,b,c],_=>simp at hu0 ht1 ht2;subst hu0 ht1 ht2;simp[Me.pr,Nat.mul_assoc]
 obtain⟨one,hone⟩:∃x,s*s=x:=⟨_,rfl⟩
 have hO:Hid ((List.range (u0*t1*t2)).map (fun i=>Me.go (Me.pool A rows wide s (i / (t1*t2)) (i / t2%t1) (i%t2)) (Me.look A rows wide (i / (t1*t2)) ((i / t2%t1*s:Nat):Int) ((i%t2*s:Nat):Int)) one)=OUT):=by
  have:=HOUT.out;rw[hrows,hwide,hu0,ht1,ht2]at this;rw[← hone];exact this
 rw[hu0]at bu0;rw[ht1]at bt1;rw[ht2]at bt2;have hlen:Hid (OUT.length=u0*t1*t2):=by show _=_;rw[← hO.out,List.length_map,List.length_range]
 have hL4:u0*t1*t2≤4096:=by rw[← hprU.out];exact okU.most
 have bs:=gg.step
 have honeb:one≤4096:=by
  have h:s*s≤64*64:=Nat.mul_le_mul bs.2 bs.2;omega
 have hone1:s≤one:=by rw[← hone];exact Nat.le_mul_of_pos_right _ (by omega)
 obtain⟨b5,o5,rfl,y0⟩:=H4.out.2.2.2.2.1.num (i:=0) (by rw[gg.lu];omega);obtain⟨_,_,he,y1⟩:=H4.out.2.2.2.2.1.num (i:=1) (by rw[gg.lu];omega);injection he with he;injection he with q1 q2;subst q1 q2
 obtain⟨_,_,he,y2⟩:=H4.out.2.2.2.2.1.num (i:=2) (by rw[gg.lu];omega);injection he with he;injection he with q1 q2;subst q1 q2
 rw[Nat.add_zero,hu0]at y0;rw[ht1]at y1;rw[ht2]at y2
 have HC:Hid (∀W,Touch (One Z) w6 W→(W.cell? ⟨b5,o5,none⟩=some (.int .i64 ((u0:Nat):Int))∧W.cell? ⟨b5,o5+1,none⟩=some (.int .i64 ((t1:Nat):Int))∧W.cell? ⟨b5,o5+2,none⟩=some (.int .i64 ((t2:Nat):Int)))
   ∧(W.cell? ⟨w.heap.size,0,none⟩=some (.slice sa n c)∧W.cell? ⟨w.heap.size,1,none⟩=some (.slice la m d))):=fun W t=>by
  have t4:=HQ.out W t;exact⟨⟨t4.cell id y0,t4.cell id y1,t4.cell id y2⟩,(H4.out.2.1.touch t4 id).c0,(H4.out.2.1.touch t4 id).c1⟩
 have r2:IntKind.i64.wrap ((s:Int)*(s:Int))=((one:Nat):Int):=by rw[← Int.natCast_mul,hone];exact IntWalk.i64_in _ (by omega)
 have r2':wrap64 ((s:Int)*(s:Int))=((one:Nat):Int):=by rw[← Int.natCast_mul,hone];exact w64_in _ (by omega)
 have HR2:=Lib.hid (aI r2 r2');clear r2 r2';have HN3:=Lib.hid hn3;replace hone:=Lib.hid hone;have HE:=Lib.hid (aI hrows (aI hwide gg.u0));have HU:=Lib.hid (aI hu0 (aI ht1 ht2));clear y0 y1 y2 gg okU hu0 ht1 ht2 hrows hwide hn3 HOUT
 go_loopg [9] u0 (fun gh s9 wr=>∃o:Nat,o+gh=u0∧s9 = .int .i64 ((o:Nat):Int)∧Hid (Grown w6 wr Z (some ⟨b5,o5,none⟩) 3 c5 (OUT.take (o*t1*t2))))
 case atStart=>exact⟨0,by omega,rfl,by show Grown _ _ _ _ _ _ _;rw[Nat.zero_mul,Nat.zero_mul,List.take_zero];exact hG0.out⟩
 case round =>
  obtain⟨o,hog,rfl,G⟩:=hrel;obtain⟨⟨y0,y1,y2⟩,_⟩:=HC.out wr G.out.t;cases gk with
  | zero =>
    obtain rfl:u0=o:=by omega
    have GF:=G.out;rw[List.take_of_length_le (by rw[hlen.out];exact Nat.le_refl _)]at GF;obtain⟨v,hRZ,hown⟩:=GF.own;obtain⟨av,cv,rfl,hcv,_⟩:=hown.form' (n:=u0*t1*t2) (by rw[ints_length,hlen.out]);obtain⟨mU,hmU⟩:∃mU,u0*t1*t2=mU:=⟨_,rfl⟩;rw[hmU]at hown hcv hRZ;have t4:=HQ.out wr GF.t;have k1:=hRZ.c0;have k2:=hRZ.c1;have kx:=H4.out.2.2.2.1.touch t4 id;have HF:=Lib.hid (aI GF (aI hown (aI hcv (aI t4 hmU))));clear hown hcv hRZ t4 hmU GF G;go_wp2_with (refine wpList_store_mid rfl 51 _ _ rfl (w.heap.size+1) 0 51 [.slice none 0 0,.slice none 0 0] kx rfl [.slice (some ⟨b5,o5,none⟩) 3 c5,.slice av mU cv] rfl (by kernel_rfl) (by simp) (by intro v hv;simp at hv;rcases hv with rfl|rfl <;> rfl) ?_);obtain⟨w9,hw9⟩:∃w9,w9=wr.setRow (w.heap.size+1) (splice [.slice none 0 0,.slice none 0 0] 0 [.slice (some ⟨b5,o5,none⟩) 3 c5,.slice av mU cv]).toArray:=⟨_,rfl⟩;have R9:Row w9 (w.heap.size+1) 51 [.slice (some ⟨b5,o5,none⟩) 3 c5,.slice av mU cv]:=by rw[hw9];exact kx.setRow _
    have tX:Touch (One (w.heap.size+1)) wr w9:=by rw[hw9];exact Touch.setOne _ _ _
    have HN:Hid (TIn w9 (some ⟨b5,o5,none⟩) 3 c5 av mU cv U OUT∧Touch No w w9∧NewA w (some ⟨b5,o5,none⟩)∧NewA w av):=by
     refine⟨?_,(H4.out.1.trans HF.out.2.2.2.1).oneNo tX (by omega),H4.out.2.2.2.2.2.2.1,fun ad e=>?_⟩
     ·have hr5:Rd wr (some ⟨b5,o5,none⟩) (nums .i64 U):=H4.out.2.2.2.2.1.no HF.out.2.2.2.1
      refine {sr:=hr5.keepR tX (fun ad e=>by have:=H4.out.2.2.2.2.2.2.2 ad e;omega),sn:=HG.out.lu,sc:=H4.out.2.2.2.2.2.1,lr:=HF.out.2.1.rd.keepR tX (fun ad e=>by have:=(HF.out.2.1.block (k:=ad.block) (by rw[e];rfl)).1;omega),lm:=by rw[hlen.out,HF.out.2.2.2.2],lc:=HF.out.2.2.1,ok:=HG.out.ok,len:=by rw[hprU.out,HF.out.2.2.2.2],rng:=?_};rw[← hO.out];exact Me.map_in fun _ _=>Me.go_in2 (Me.look_in HA.out.rng) (fun s _ hs=>by unfold Me.pool;exact Me.max_in hs (Me.look_in HA.out.rng)) _
     ·have:=(HF.out.2.1.block (k:=ad.block) (by rw[e];rfl)).1
      omega
    have y0:=R9.c0;have y1:=R9.c1;rw[← hw9];clear hw9 kx R9 tX;go_wp2;refine bodyPost_ret (v:=.tuple #[.agg #[.slice (some ⟨b5,o5,none⟩) 3 c5,.slice av mU cv],.int .i64 0]) (by simp[results,Tryz.results104,go_sem,y0,y1]) rfl ?_;exact⟨_,3,c5,av,mU,cv,rfl,HN.out⟩
  | succ g0 =>
    have ho:(o:Int)<(u0:Nat):=by omega
    clear y1 y2;go_wp2_with fail;clear y0
    go_loopg [10] t1 (fun gh s10 wr=>∃y:Nat,y+gh=t1∧s10 = .int .i64 ((y:Nat):Int)∧Hid (Grown w6 wr Z (some ⟨b5,o5,none⟩) 3 c5 (OUT.take ((o*t1+y)*t2))))
    case atStart=>exact⟨0,by omega,rfl,G⟩
    case round =>
     obtain⟨y,hyg,rfl,Gy⟩:=hrel;obtain⟨⟨y0,y1,y2⟩,_⟩:=HC.out wr Gy.out.t;cases gk with
     | zero =>
       obtain rfl:t1=y:=by omega
       have HN:Hid (Grown w6 wr Z (some ⟨b5,o5,none⟩) 3 c5 (OUT.take ((o+1)*t1*t2))):=by
        have:=Gy.out;rw[← Nat.succ_mul]at this;exact this
       clear Gy G;go_wp2_with fail
       go_roundg g0
       case measure=>omega
       case rel=>exact⟨o+1,by omega,by go_num,HN⟩
     | succ g1 =>
       have hy:(y:Int)<(t1:Nat):=by omega
       clear y0 y2;go_wp2_with fail;clear y1
       go_loopg [11] t2 (fun gh s11 wr=>∃x:Nat,x+gh=t2∧s11 = .int .i64 ((x:Nat):Int)∧Hid (Grown w6 wr Z (some ⟨b5,o5,none⟩) 3 c5 (OUT.take ((o*t1+y)*t2+x))))
       case atStart=>exact⟨0,by omega,rfl,Gy⟩
       case round =>
        obtain⟨x,hxg,rfl,Gx⟩:=hrel;obtain⟨⟨y0,y1,y2⟩,_⟩:=HC.out wr Gx.out.t;cases gk with
        | zero =>
          obtain rfl:t2=x:=by omega
          have HN:Hid (Grown w6 wr Z (some ⟨b5,o5,none⟩) 3 c5 (OUT.take ((o*t1+(y+1))*t2))):=by
           have:=Gx.out;rw[← Nat.succ_mul]at this;exact this
          clear Gx Gy G;go_wp2_with fail
          go_roundg g1
          case measure=>omega
          case rel=>exact⟨y+1,by omega,by go_num,HN⟩
        | succ g2 =>
          have hx:(x:Int)<(t2:Nat):=by omega
          clear y0 y1 G Gy;go_wp2_with fail;clear y2;have TX:=Lib.hid Gx.out.t;obtain⟨ka0,ka1⟩:=(HC.out wr TX.out).2;obtain⟨ys,hys⟩:∃z,y*s=z:=⟨_,rfl⟩;obtain⟨xs,hxs⟩:∃z,x*s=z:=⟨_,rfl⟩;have bys:ys≤4096:=by rw[← hys];exact Nat.le_trans (Nat.mul_le_mul (show y≤64 by omega) bs.2) (by omega)
          have bxs:xs≤4096:=by rw[← hxs];exact Nat.le_trans (Nat.mul_le_mul (show x≤64 by omega) bs.2) (by omega)
          have m1:IntKind.i64.wrap ((y:Int)*(s:Int))=((ys:Nat):Int):=by rw[← Int.natCast_mul,hys];exact IntWalk.i64_in _ (by omega)
          have m2:IntKind.i64.wrap ((x:Int)*(s:Int))=((xs:Nat):Int):=by rw[← Int.natCast_mul,hxs];exact IntWalk.i64_in _ (by omega)
          obtain⟨first,hfirst⟩:∃z,Me.look A rows wide o ((ys:Nat):Int) ((xs:Nat):Int)=z:=⟨_,rfl⟩
          have CL:Hid (∀(W:World) (a b:Int),Touch No w W→(-10000≤a∧a≤10000)→(-10000≤b∧b≤10000)→Calls Tryz.prog 165 #[.agg #[.slice sa n c,.slice la m d],.int .i64 ((o:Nat):Int),.int .i64 a,.int .i64 b] W fun e w'=>e = .returned (.int .i32 (Me.look A rows wide o a b))∧Touch No W w'):=fun W a b t h1 h2=>by
           have:=refLook_in W sa la n c m d S A (HA.out.no t) HN3.out o a b (by rw[← HE.out.2.2,HU.out.1];omega) h1 h2;rw[HE.out.1,HE.out.2.1]at this;exact this
          have C0:=CL.out wr ys xs (H4.out.1.trans (HQ.out wr TX.out)) (by omega) (by omega);rw[hfirst]at C0;have HYS:=Lib.hid (aI hys (aI hxs hfirst));clear hys hxs hfirst;go_wp2_with fail;rw[show wrap64 ((y:Int)*(s:Int))=((ys:Nat):Int) from by rw[← Int.natCast_mul,HYS.out.1];exact w64_in _ (by omega),show wrap64 ((x:Int)*(s:Int))=((xs:Nat):Int) from by rw[← Int.natCast_mul,HYS.out.2.1];exact w64_in _ (by omega)];refine C0.mono ?_;clear C0 ka0 ka1;rintro e wz ⟨rfl,tz⟩;replace Gx:=Lib.hid (Gx.out.no tz);clear tz TX;go_wp2_with fail;obtain⟨wo,hwo⟩:∃wo:World,wo=wz:=⟨_,rfl⟩;subst hwo
          go_loopg [12,13] one (fun gh s12 s13 wr=>∃(acc:Int) (q:Nat),q+gh=one∧s13 = .int .i64 ((q:Nat):Int)∧s12 = .int .i32 acc∧Hid (acc=Me.go (Me.pool A rows wide s o y x) first q)∧Hid (Touch No wo wr))
          case atStart=>exact⟨first,0,by omega,rfl,rfl,rfl,Touch.refl _ _⟩
          case round =>
           obtain⟨acc,q,hqg,rfl,rfl,HAcc,Tq⟩:=hrel;have Gq:=Gx.out.no Tq.out;have TQ:=Lib.hid Gq.t;clear Gq;cases gk with
           | zero =>
             obtain rfl:one=q:=by omega
             have Gk:=Gx.out.no Tq.out;obtain⟨v,hRZ,hown⟩:=Gk.own;have hij:(o*t1+y)*t2+x<u0*t1*t2:=Me.lex_lt (Me.lex_lt (by omega) (by omega)) (by omega)
             have hval:Hid (Me.at_ OUT ((o*t1+y)*t2+x)=acc):=by
              show _=_
              rw[← hO.out,Me.at_map _ hij,HAcc.out]
              have d1:((o*t1+y)*t2+x) / (t1*t2)=o:=by
               rw[Nat.mul_comm t1 t2,← Nat.div_div_eq_div_mul,Nat.mul_comm (o*t1+y) t2,Nat.mul_add_div (by omega),Nat.div_eq_of_lt (show x<t2 by omega),Nat.add_zero,Nat.mul_comm o t1,Nat.mul_add_div (by omega),Nat.div_eq_of_lt (show y<t1 by omega),Nat.add_zero]
              have d2:((o*t1+y)*t2+x) / t2%t1=y:=by
               rw[Nat.mul_comm (o*t1+y) t2,Nat.mul_add_div (by omega),Nat.div_eq_of_lt (show x<t2 by omega),Nat.add_zero,Nat.mul_comm o t1,Nat.mul_add_mod,Nat.mod_eq_of_lt (by omega)]
              have d3:((o*t1+y)*t2+x)%t2=x:=by
               rw[Nat.mul_comm (o*t1+y) t2,Nat.mul_add_mod,Nat.mod_eq_of_lt (by omega)]
              rw[d1,d2,d3,HYS.out.1,HYS.out.2.1,HYS.out.2.2]
             obtain⟨ix,hix⟩:∃ix,(o*t1+y)*t2+x=ix:=⟨_,rfl⟩;rw[hix]at hown hij hval;have HIX:Hid ((o*t1+y)*t2+(x+1)=ix+1):=by show _=_;rw[← hix];rfl
             have Hown:=Lib.hid hown;have HRZ:=Lib.hid hRZ;have TK:=Lib.hid Gk.t
             have hll:Hid ((ints .i32 (OUT.take ix)).length=ix∧OUT.take (ix+1)=OUT.take ix ++ [acc]):=by
              refine⟨by rw[ints_length,List.length_take,hlen.out];omega,?_⟩;rw[List.take_add_one,Lge (by rw[hlen.out];exact hij),← hval.out,Me.at_lt (by rw[hlen.out];exact hij)];rfl
             have hixb:ix≤4096:=by omega
             obtain⟨J,hj0,hj1,hj2,hj3⟩:∃i,Tryz.prog.info? 21=some i∧i.zero=some (.int .i32 0)∧i.size=1∧i.bytes=4:=one_info (by kernel_rfl);have HJ:=Lib.hid (aI hj0 (aI hj1 (aI hj2 hj3)));have kz1:=hRZ.c1;have hsz:=Gk.t.size;clear Gk hown hRZ hix hij hval Tq Gx HAcc hj0 hj1 hj2 hj3 TQ m1 m2 CL;have r2:=HR2.out.1;have r2':=HR2.out.2;go_upto_region 22 with fail;clear r2 r2';go_wp2_with (at_builtin;refine wpList_append1 rfl _ _ _ rfl w6.heap.size _ J _ 4 Tryz.underlying49 HJ.out.1 HJ.out.2.1 HJ.out.2.2.1 HJ.out.2.2.2 rfl _ _ _ Hown.out rfl rfl rfl (by have:=hll.out.1;unfold maxLen;omega) (by have:=hll.out.1;omega) hsz ?_;intro v'' w8 hown8 ht8;obtain⟨av',cv',rfl,_,_⟩:=hown8.form' (n:=ix+1) (by rw[List.length_append,hll.out.1];rfl);have hR8:=HRZ.out.touch ht8 (fun e=>by have:=(Hown.out.block e).1;omega);have kz2:=hR8.c1;have kz3:=hR8.soft 1;have H8:=Lib.hid (aI hR8 (aI hown8 ht8));clear hR8 hown8 ht8)
             have HN:Hid (Grown w6 (w8.setCell ⟨Z,1,none⟩ (.slice av' (ix+1) cv')) Z (some ⟨b5,o5,none⟩) 3 c5 (OUT.take ((o*t1+y)*t2+(x+1)))):=by
              have ts:Touch (One Z) w8 (w8.setCell ⟨Z,1,none⟩ (.slice av' (ix+1) cv')):=(Touch.refl (One Z) w8).setCell (p:=⟨Z,1,none⟩) (fun _=>rfl) _;refine⟨(TK.out.then H8.out.2.2 (fun i hi e=>absurd ((Hown.out.block e).1) (by omega))).trans ts,.slice av' (ix+1) cv',?_,?_⟩
              ·exact H8.out.1.setCell 1 _
              ·rw[HIX.out,hll.out.2,Me.ints_snoc']
               exact H8.out.2.1.touch ts (fun b hb hb' e=>by unfold One at e;omega)
             go_roundg g2
             case measure=>omega
             case rel=>exact⟨x+1,by omega,by go_num,HN⟩
           | succ g3 =>
             have hqo:q<one:=by omega
             have c1:decide (q<one)=true:=by simp;omega
             have c2:decide ((q:Int)<(one:Nat))=true:=by simp;omega
             obtain⟨ky,hky⟩:∃z,q / s=z:=⟨_,rfl⟩;obtain⟨kx,hkx⟩:∃z,q%s=z:=⟨_,rfl⟩;have bky:ky≤q:=by rw[← hky];exact Nat.div_le_self _ _
             have bkx:kx≤q:=by rw[← hkx];exact Nat.mod_le _ _
             have s2:(q:Int).tdiv (s:Int)=((ky:Nat):Int):=by rw[Int.tdiv_eq_ediv_of_nonneg (by omega),← hky];omega
             have s2':(q:Int) / (s:Int)=((ky:Nat):Int):=by rw[← hky];omega
             have s4:(q:Int).tmod (s:Int)=((kx:Nat):Int):=by rw[Int.tmod_eq_emod_of_nonneg (by omega),← hkx];omega
             have s4':(q:Int)%(s:Int)=((kx:Nat):Int):=by rw[← hkx];omega
             have s5:IntKind.i64.wrap ((ky:Nat):Int)=((ky:Nat):Int):=IntWalk.i64_in _ (by omega);have z02:¬(s:Int)=0:=by omega
             have z03:¬s=0:=by omega
             obtain⟨Y2,hY2⟩:∃z,ys+ky=z:=⟨_,rfl⟩;obtain⟨X2,hX2⟩:∃z,xs+kx=z:=⟨_,rfl⟩;have m5:IntKind.i64.wrap ((ys:Int)+(ky:Int))=((Y2:Nat):Int):=by rw[← Int.natCast_add,hY2];exact IntWalk.i64_in _ (by omega)
             have m6:IntKind.i64.wrap ((xs:Int)+(kx:Int))=((X2:Nat):Int):=by rw[← Int.natCast_add,hX2];exact IntWalk.i64_in _ (by omega)
             obtain⟨lk,hlk⟩:∃z,Me.look A rows wide o ((Y2:Nat):Int) ((X2:Nat):Int)=z:=⟨_,rfl⟩
             have CK:Hid (∀p:KW wr,Calls Tryz.prog 165 #[.agg #[.slice sa n c,.slice la m d],.int .i64 ((o:Nat):Int),.int .i64 ((Y2:Nat):Int),.int .i64 ((X2:Nat):Int)] p.wd fun e w'=>e = .returned (.int .i32 lk)∧Touch No p.wd w'):=fun p=>by
              have:=CL.out p.wd Y2 X2 ((H4.out.1.trans (HQ.out wr TQ.out)).trans p.no) (by omega) (by omega);rw[hlk]at this;exact this
             have HAC:Hid (max acc lk=Me.go (Me.pool A rows wide s o y x) first (q+1)):=by
              show _=_
              rw[Me.go_succ,← HAcc.out,Me.pool,hky,hkx,HYS.out.1,HYS.out.2.1,hY2,hX2,hlk]
             clear hky hkx hY2 hX2 hlk;obtain⟨ka0,ka1⟩:=(HC.out wr (TQ.out)).2;have z4:=KW.cell ka0;have z5:=KW.cell ka1;clear ka0 ka1;have hmx:acc<lk∨¬acc<lk:=by omega
             rcases hmx with k3|k3
             all_goals
              have r2:=HR2.out.1;have r2':=HR2.out.2;go_wp2_with fail;clear r2 r2';refine wp_region_kept (by kernel_rfl) (by kernel_rfl) ?_;repeat (first|go_big_quiet_step (with_reducible exact Calls.kept_of (CK.out _))|quiet_step (with_reducible exact Calls.kept_of (CK.out _)))
              refine wpQuiet_nil ?_;intro _ hw';obtain⟨kw,hw''⟩:=hw';subst hw'';obtain⟨wk,tk⟩:=kw;have tk:=Lib.hid tk;dsimp only;have Sk:Hid (Touch No wo wk):=Tq.out.trans tk.out;clear z4 z5;clear CK m5 m6 s2 s2' s4 s4' s5;go_wp2
              go_roundg g3
              case measure=>omega
              case rel=>exact⟨_,q+1,by omega,by go_num,rfl,(by show _=_;rw[← HAC.out];omega),Sk⟩
end
end Go.Proofs.YtjlphmmalebgpaaGreat
