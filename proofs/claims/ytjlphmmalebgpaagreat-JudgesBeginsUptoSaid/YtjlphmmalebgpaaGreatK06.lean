/-
  A part of the proof.
-/
import Derived.Test.YtjlphmmalebgpaaGreatK05
set_option linter.unusedSimpArgs false
set_option linter.unusedVariables false
set_option maxHeartbeats 2000000
set_option maxRecDepth 100000
namespace Go.Proofs.YtjlphmmalebgpaaGreat
section
open Go Go.RowKit
theorem two_rows (w:World)(T:TypeId)(A B:Array Value):∃w1,w1=(w.alloc (.cells A T)).alloc (.cells B T)∧Touch No w w1∧Row w1 w.heap.size T A.toList∧Row w1 (w.heap.size+1) T B.toList∧w1.heap.size=w.heap.size+2:=by
 refine⟨_,rfl,((Touch.refl No w).alloc _).alloc _,(Row.new w _ _).touch ((Touch.refl No _).alloc _) id,?_,by simp⟩;have:=Row.new (w.alloc (.cells A T)) T B;rw[size_alloc]at this;exact this
namespace Me
theorem reluL_in {A:List Int}(h:∀y∈A,-2147483648≤y∧y≤2147483647):∀y∈reluL A,-2147483648≤y∧y≤2147483647:=map_in fun i hi=>by
 have:=h _ (show at_ A i∈A by rw[at_lt hi];exact List.getElem_mem hi);omega
theorem shiftL_in (n:Nat)(A:List Int):∀y∈shiftL n A,-2147483648≤y∧y≤2147483647:=map_in fun i _=>by unfold shift1;omega
end Me
theorem refRelu_in (w:World)(sa la:Option Addr)(n c m d:Nat)(S:List Nat)(A:List Int)(hA:TIn w sa n c la m d S A) :
  Calls Tryz.prog 100 #[.agg #[.slice sa n c,.slice la m d]] w (TOut w S (Me.reluL A)):=by
 have HA:=Lib.hid hA;clear hA;go_enter Tryz.func100,Tryz.ntmps100;go_wp2_with fail;obtain⟨w1,hw1,t1,b2,b3,hsz⟩:=two_rows w 51 #[.slice sa n c,.slice la m d] #[.slice none 0 0,.slice none 0 0];rw[← hw1];have HH:=Lib.hid (aI t1 (aI b2 b3));clear hw1 t1 b2 b3;refine(refCheck_ok (HA.out.no HH.out.1)).mono ?_;rintro e w2 ⟨rfl,t2⟩
 have HH2:Hid (Touch No w w2∧Row w2 w.heap.size 51 [.slice sa n c,.slice la m d]∧Row w2 (w.heap.size+1) 51 [.slice none 0 0,.slice none 0 0]) :=
  ⟨HH.out.1.trans t2,HH.out.2.1.touch t2 id,HH.out.2.2.touch t2 id⟩
 clear HH t2 hsz;have k0:=HH2.out.2.1.c0;go_wp2_with fail;refine(refNew_in w2 sa n c S (HA.out.no HH2.out.1).sr HA.out.sn HA.out.ok).mono ?_;rintro e w3 ⟨sc,n3,d3,g,m3,rfl,hn3,hm3,hd3,hsr,hsc,hg,hrow,t3⟩;obtain rfl:n3=n:=by rw[← hn3,HA.out.sn]
 obtain rfl:m3=m:=by rw[← hm3,HA.out.len]
 obtain⟨Y,hY⟩:∃Y,Y=w3.heap.size:=⟨_,rfl⟩;obtain⟨w5,hw5⟩:∃w5,w5=w3.alloc (.cells #[.slice sc n3 d3,.slice (some ⟨g,0,none⟩) m3 m3] 51):=⟨_,rfl⟩;have FH:Hid (Fld w w5 (w.heap.size+1) g Y sc n3 d3 m3 S):=by rw[hw5,hY];exact Fld.make HH2.out.1 HH2.out.2.2.lt (by omega) HA.out.ok HA.out.sn HA.out.len hd3 hsr hsc hg hrow t3
 have HB5:Hid (Row w5 w.heap.size 51 [.slice sa n3 c,.slice la m3 d]∧Row w5 (w.heap.size+1) 51 [.slice none 0 0,.slice none 0 0]):=by
  have t3:Touch No w2 w5:=by rw[hw5];exact t3.alloc _
  exact⟨HH2.out.2.1.touch t3 id,HH2.out.2.2.touch t3 id⟩
 clear hn3 hm3 hd3 hsr hsc hg hrow t3 k0 HH2;go_wp2_with fail;rw[← hw5,← hY];clear hw5 hY;have Hl:=Lib.hid (show(Me.reluL A).length=m3 by rw[Me.reluL,List.length_map,List.length_range,HA.out.lm]);have Hl':=Lib.hid (show(ints .i32 (Me.reluL A)).length=m3 by rw[ints_length];exact Hl.out);have hm4:m3≤4096:=HA.out.m4;have hXg:w.heap.size+1<g:=FH.out.Xg
 go_loopg [6] m3 (fun gh s9 wr=>∃k:Nat,k+gh=m3∧s9 = .int .i64 ((k:Nat):Int)∧Hid (Touch (One g) w5 wr)∧Hid (Row wr g 21 (fill (ints .i32 (Me.reluL A)) (.int .i32 0) k)))
 case atStart=>exact⟨0,by omega,rfl,Touch.refl _ _,FH.out.start Hl'.out⟩
 case round =>
  obtain⟨k,hkg,rfl,T,R⟩:=hrel;have ky:=FH.out.cell T.out;cases gk with
  | zero =>
    obtain rfl:k=m3:=by omega
    have kx:=HB5.out.2.keep T.out (by omega);have ky0:=FH.out.cell0 T.out;have R:=Lib.hid (show Row wr g 21 (ints .i32 (Me.reluL A)) by have:=R.out;rw[fill_all _ _ Hl'.out]at this;exact this);go_wp2_with (refine wpList_store_mid rfl 51 _ _ rfl (w.heap.size+1) 0 51 [.slice none 0 0,.slice none 0 0] kx rfl [.slice sc n3 d3,.slice (some ⟨g,0,none⟩) k k] rfl (by kernel_rfl) (by simp) (by intro v hv;simp at hv;rcases hv with rfl|rfl <;> rfl) ?_);obtain⟨w9,hw9⟩:∃w9,w9=wr.setRow (w.heap.size+1) (splice [.slice none 0 0,.slice none 0 0] 0 [.slice sc n3 d3,.slice (some ⟨g,0,none⟩) k k]).toArray:=⟨_,rfl⟩;have R9:Row w9 (w.heap.size+1) 51 [.slice sc n3 d3,.slice (some ⟨g,0,none⟩) k k]:=by rw[hw9];exact kx.setRow _
    have HN:=Lib.hid (FH.out.done T.out R.out Hl.out (Me.reluL_in HA.out.rng) (show Touch (One (w.heap.size+1)) wr w9 by rw[hw9];exact Touch.setOne _ _ _));have y0:=R9.c0;have y1:=R9.c1;rw[← hw9];clear hw9 kx R9;go_wp2;refine bodyPost_ret (v:=.tuple #[.agg #[.slice sc n3 d3,.slice (some ⟨g,0,none⟩) k k],.int .i64 0]) (by simp[results,Tryz.results100,go_sem,y0,y1]) rfl ?_;exact⟨sc,n3,d3,_,k,k,rfl,HN.out.1,HN.out.2⟩
  | succ g' =>
    have hki:(k:Int)<(m3:Nat):=by omega
    have k2:=(HB5.out.1.keep T.out (by omega)).c1;obtain⟨ga,oa,rfl,ca⟩:=(HA.out.keep FH.out.t T.out (by omega)).num (k:=k) (by omega);have cg:=Fld.slot R.out (by rw[Hl'.out];omega);have cz:wr.frozen? ⟨g,k,none⟩=false:=R.out.soft k
    have hv:(ints .i32 (Me.reluL A))[k]? = some (.int .i32 (max 0 (Me.at_ A k))):=by
     rw[ints_at (by rw[Hl.out];omega),Me.reluL,Me.at_map _ (by rw[HA.out.lm];omega)]
    by_cases h0:0≤Me.at_ A k
    ·rw[Int.max_eq_right h0]at hv
     have HN:=Lib.hid (row_step R.out hv);have HT:=Lib.hid (touch_step T.out k (.int .i32 (Me.at_ A k)));clear hv;have h0':0<Me.at_ A k∨Me.at_ A k=0:=by omega
     rcases h0' with h1|h1
     ·go_wp2
      go_still_tail 9,(by kernel_rfl)
      go_wp2
      go_roundg g'
      case measure=>omega
      case rel=>exact⟨k+1,by omega,by go_num,HT,HN⟩
     ·rw[h1]at HT HN ca
      go_wp2
      go_still_tail 9,(by kernel_rfl)
      go_wp2
      go_roundg g'
      case measure=>omega
      case rel=>exact⟨k+1,by omega,by go_num,HT,HN⟩
    ·rw[Int.max_eq_left (by omega)]at hv
     have HN:=Lib.hid (row_step R.out hv);have HT:=Lib.hid (touch_step T.out k (.int .i32 0));have h1:Me.at_ A k<0:=by omega
     clear hv;go_wp2
     go_still_tail 9,(by kernel_rfl)
     go_wp2
     go_roundg g'
     case measure=>omega
     case rel=>exact⟨k+1,by omega,by go_num,HT,HN⟩
theorem refDown_any (w:World)(x b:Int)(hx:-100000000000≤x∧x≤100000000000)(hb:1≤b∧b≤2147483648) :
  Calls Tryz.prog 164 #[.int .i64 x,.int .i64 b] w fun e w'=>e = .returned (.int .i64 (x / b))∧w=w':=by
 have hb0:¬b=0:=by omega
 have hq:x.tdiv b=if x.tmod b<0 then x / b+1 else x / b:=by
  rw[Int.tdiv_eq_ediv,Int.tmod_eq_emod];have h5:=Int.emod_lt_of_pos x (show 0<b by omega);have h4:=Int.emod_nonneg x hb0;have hs:b.sign=1:=Int.sign_eq_one_of_pos (by omega);have hn:(b.natAbs:Int)=b:=Int.natAbs_of_nonneg (by omega)
  by_cases h:0≤x∨b∣x
  ·rw[if_pos h,if_pos h,if_neg (by omega)];omega
  ·rw[if_neg h,if_neg h,if_pos (by omega)];omega
 have hqb:-100000000001≤x / b∧x / b≤100000000001:=by
  have h3:=Int.mul_ediv_add_emod x b;have h4:=Int.emod_nonneg x hb0;have h5:=Int.emod_lt_of_pos x (show 0<b by omega);obtain⟨q,hq⟩:∃q,x / b=q:=⟨_,rfl⟩;obtain⟨r,hr⟩:∃r,x%b=r:=⟨_,rfl⟩;rw[hq,hr]at h3;rw[hr]at h4 h5;rw[hq];rcases(by omega:q<0∨0≤q) with h|h
  ·have h7:b*(q+1)≤1*(q+1):=Int.mul_le_mul_of_nonpos_right hb.1 (by omega)
   rw[Int.mul_add]at h7;omega
  ·have h6:1*q≤b*q:=Int.mul_le_mul_of_nonneg_right hb.1 h
   omega
 go_enter Tryz.func164,Tryz.ntmps164
 by_cases h:x.tmod b<0
 ·rw[if_pos h]at hq
  go_wp2;go_ret;exact⟨rfl,rfl⟩
 ·rw[if_neg h]at hq
  go_wp2;go_ret;exact⟨rfl,rfl⟩
theorem refShift_in (w:World)(sa la:Option Addr)(n c m d:Nat)(S:List Nat)(A:List Int)(q:Nat)(hq:q≤31)(hA:TIn w sa n c la m d S A) :
  Calls Tryz.prog 101 #[.agg #[.slice sa n c,.slice la m d],.int .i64 (q:Nat)] w (TOut w S (Me.shiftL q A)):=by
 have HA:=Lib.hid hA;have hq0:¬(q:Int)<0:=by omega
 have hq1:¬(31:Int)<(q:Nat):=by omega
 clear hA;go_enter Tryz.func101,Tryz.ntmps101;go_wp2_with fail;obtain⟨w1,hw1,t1,b2,b3,hsz⟩:=two_rows w 51 #[.slice sa n c,.slice la m d] #[.slice none 0 0,.slice none 0 0];rw[← hw1];have HH:=Lib.hid (aI t1 (aI b2 b3));clear hw1 t1 b2 b3;refine(refCheck_ok (HA.out.no HH.out.1)).mono ?_;rintro e w2 ⟨rfl,t2⟩
 have HH2:Hid (Touch No w w2∧Row w2 w.heap.size 51 [.slice sa n c,.slice la m d]∧Row w2 (w.heap.size+1) 51 [.slice none 0 0,.slice none 0 0]) :=
  ⟨HH.out.1.trans t2,HH.out.2.1.touch t2 id,HH.out.2.2.touch t2 id⟩
 clear HH t2 hsz;have k0:=HH2.out.2.1.c0;go_wp2_with fail;have T2:=Lib.hid HH2.out;clear k0
 go_loopg [6,7] q (fun gh s6 s7 wr=>∃k p:Nat,k+gh=q∧s7 = .int .i64 ((k:Nat):Int)∧s6 = .int .i64 ((p:Nat):Int)∧Hid (p=2 ^ k)∧Hid (wr=w2))
 case atStart=>exact⟨0,1,by omega,rfl,rfl,rfl,rfl⟩
 case round =>
  obtain⟨k,p,hkg,rfl,rfl,HP,hwr⟩:=hrel;have hww:w2=wr:=hwr.out.symm;clear hwr;subst hww;cases gk with
  | succ g' =>
    have hki:(k:Int)<(q:Nat):=by omega
    have hp31:p≤2147483648:=by
     rw[HP.out];have:2 ^ k≤2 ^ 31:=Nat.pow_le_pow_right (by decide) (by omega);have e:(2:Nat) ^ 31=2147483648:=by decide
     omega
    have HN:Hid (2*p=2 ^ (k+1)):=by show _=_;rw[HP.out,Nat.pow_succ,Nat.mul_comm]
    have hpp:IntKind.i64.wrap (2*(p:Int))=((2*p:Nat):Int):=by
     rw[show 2*(p:Int)=((2*p:Nat):Int) by push_cast;rfl];exact IntWalk.i64_in _ (by omega)
    go_wp2
    go_roundg g'
    case measure=>omega
    case rel=>exact⟨k+1,2*p,by omega,by go_num,by push_cast;rfl,HN.out,rfl⟩
  | zero =>
    obtain rfl:q=k:=by omega
    have k0:=HH2.out.2.1.c0
    have hp31:p≤2147483648:=by
     rw[HP.out];have:2 ^ q≤2 ^ 31:=Nat.pow_le_pow_right (by decide) (by omega);have e:(2:Nat) ^ 31=2147483648:=by decide
     omega
    have hp1:1≤p:=by rw[HP.out];exact Nat.one_le_two_pow
    go_wp2_with fail;refine(refNew_in w2 sa n c S (HA.out.no HH2.out.1).sr HA.out.sn HA.out.ok).mono ?_;rintro e w3 ⟨sc,n3,d3,g,m3,rfl,hn3,hm3,hd3,hsr,hsc,hg,hrow,t3⟩;obtain rfl:n3=n:=by rw[← hn3,HA.out.sn]
    obtain rfl:m3=m:=by rw[← hm3,HA.out.len]
    obtain⟨Y,hY⟩:∃Y,Y=w3.heap.size:=⟨_,rfl⟩;obtain⟨w5,hw5⟩:∃w5,w5=w3.alloc (.cells #[.slice sc n3 d3,.slice (some ⟨g,0,none⟩) m3 m3] 51):=⟨_,rfl⟩;have FH:Hid (Fld w w5 (w.heap.size+1) g Y sc n3 d3 m3 S):=by rw[hw5,hY];exact Fld.make HH2.out.1 HH2.out.2.2.lt (by omega) HA.out.ok HA.out.sn HA.out.len hd3 hsr hsc hg hrow t3
    have HB5:Hid (Row w5 w.heap.size 51 [.slice sa n3 c,.slice la m3 d]∧Row w5 (w.heap.size+1) 51 [.slice none 0 0,.slice none 0 0]):=by
     have t3:Touch No w2 w5:=by rw[hw5];exact t3.alloc _
     exact⟨HH2.out.2.1.touch t3 id,HH2.out.2.2.touch t3 id⟩
    clear hn3 hm3 hd3 hsr hsc hg hrow t3 k0 HH2;go_wp2_with fail;rw[← hw5,← hY];clear hw5 hY;have Hl:=Lib.hid (show(Me.shiftL q A).length=m3 by rw[Me.shiftL,List.length_map,List.length_range,HA.out.lm]);have Hl':=Lib.hid (show(ints .i32 (Me.shiftL q A)).length=m3 by rw[ints_length];exact Hl.out);have hm4:m3≤4096:=HA.out.m4;have hXg:w.heap.size+1<g:=FH.out.Xg
    go_loopg [10] m3 (fun gh s9 wr=>∃k:Nat,k+gh=m3∧s9 = .int .i64 ((k:Nat):Int)∧Hid (Touch (One g) w5 wr)∧Hid (Row wr g 21 (fill (ints .i32 (Me.shiftL q A)) (.int .i32 0) k)))
    case atStart=>exact⟨0,by omega,rfl,Touch.refl _ _,FH.out.start Hl'.out⟩
    case round =>
     obtain⟨k,hkg,rfl,T,R⟩:=hrel;have ky:=FH.out.cell T.out;cases gk with
     | zero =>
       obtain rfl:k=m3:=by omega
       have kx:=HB5.out.2.keep T.out (by omega);have ky0:=FH.out.cell0 T.out;have R:=Lib.hid (show Row wr g 21 (ints .i32 (Me.shiftL q A)) by have:=R.out;rw[fill_all _ _ Hl'.out]at this;exact this);go_wp2_with (refine wpList_store_mid rfl 51 _ _ rfl (w.heap.size+1) 0 51 [.slice none 0 0,.slice none 0 0] kx rfl [.slice sc n3 d3,.slice (some ⟨g,0,none⟩) k k] rfl (by kernel_rfl) (by simp) (by intro v hv;simp at hv;rcases hv with rfl|rfl <;> rfl) ?_);obtain⟨w9,hw9⟩:∃w9,w9=wr.setRow (w.heap.size+1) (splice [.slice none 0 0,.slice none 0 0] 0 [.slice sc n3 d3,.slice (some ⟨g,0,none⟩) k k]).toArray:=⟨_,rfl⟩;have R9:Row w9 (w.heap.size+1) 51 [.slice sc n3 d3,.slice (some ⟨g,0,none⟩) k k]:=by rw[hw9];exact kx.setRow _
       have HN:=Lib.hid (FH.out.done T.out R.out Hl.out (Me.shiftL_in q A) (show Touch (One (w.heap.size+1)) wr w9 by rw[hw9];exact Touch.setOne _ _ _));have y0:=R9.c0;have y1:=R9.c1;rw[← hw9];clear hw9 kx R9;go_wp2;refine bodyPost_ret (v:=.tuple #[.agg #[.slice sc n3 d3,.slice (some ⟨g,0,none⟩) k k],.int .i64 0]) (by simp[results,Tryz.results101,go_sem,y0,y1]) rfl ?_;exact⟨sc,n3,d3,_,k,k,rfl,HN.out.1,HN.out.2⟩
     | succ g' =>
       have hki:(k:Int)<(m3:Nat):=by omega
       have k2:=(HB5.out.1.keep T.out (by omega)).c1;obtain⟨ga,oa,rfl,ca⟩:=(HA.out.keep FH.out.t T.out (by omega)).num (k:=k) (by omega);have cg:=Fld.slot R.out (by rw[Hl'.out];omega);have cz:wr.frozen? ⟨g,k,none⟩=false:=R.out.soft k;have hxr:=HA.out.rng _ (show Me.at_ A k∈A by rw[Me.at_lt (by rw[HA.out.lm];omega)];exact List.getElem_mem _);have hp2:(2:Int) ^ q=(p:Nat):=by rw[HP.out];push_cast;rfl
       have hv:(ints .i32 (Me.shiftL q A))[k]? = some (.int .i32 (min 127 (max (-128) ((Me.at_ A k+(p:Int) / 2) / (p:Int))))):=by
        rw[ints_at (by rw[Hl.out];omega),Me.shiftL,Me.at_map _ (by rw[HA.out.lm];omega),Me.shift1,hp2]
       obtain⟨x,hx⟩:∃x,Me.at_ A k=x:=⟨_,rfl⟩;rw[hx]at ca hxr hv;have hb1:1≤(p:Int)∧(p:Int)≤2147483648:=by omega
       obtain⟨h2p,hh2⟩:∃h:Int,(p:Int) / 2=h:=⟨_,rfl⟩;rw[hh2]at hv;have hh2b:0≤h2p∧h2p≤2147483648:=by omega
       obtain⟨z,hz⟩:∃z,(x+h2p) / (p:Int)=z:=⟨_,rfl⟩;rw[hz]at hv
       have C:Hid (∀wx:World,Calls Tryz.prog 164 #[.int .i64 (x+h2p),.int .i64 (p:Nat)] wx fun e w'=>e = .returned (.int .i64 z)∧w'=wx):=fun wx=>by
        have:=refDown_any wx (x+h2p) (p:Int) (by omega) hb1;rw[hz]at this;exact this.mono fun _ _ h=>⟨h.1,h.2.symm⟩
       obtain⟨y,hy⟩:∃y,min 127 (max (-128) z)=y:=⟨_,rfl⟩;rw[hy]at hv;have HN:=Lib.hid (row_step R.out hv);have HT:=Lib.hid (touch_step T.out k (.int .i32 y));have q1:IntKind.i64.wrap x=x:=IntWalk.i64_in _ (by omega);have q2:(p:Int).tdiv 2=h2p:=by rw[← hh2];exact Int.tdiv_eq_ediv_of_nonneg (by omega)
       have q2':(p:Int) / 2=h2p:=hh2;have q3:IntKind.i64.wrap h2p=h2p:=IntWalk.i64_in _ (by omega);have q4:IntKind.i64.wrap (x+h2p)=x+h2p:=IntWalk.i64_in _ (by omega);clear hv hz hp2 hx hh2;rcases(by omega:z≤ -128∧y = -128∨(-128<z∧z<127)∧y=z∨127≤z∧y=127) with⟨h1,h2⟩|⟨⟨h1,h1'⟩,h2⟩|⟨h1,h2⟩
       ·have q6:wrap32 y=y:=by unfold wrap32;omega
        have q5:IntKind.i32.wrap y=y:=IntWalk.i32_in _ (by omega);rw[h2]at HT HN;have h1':¬(-128<z):=by omega
        clear hy;go_wp2
        go_still_tail 17,(by kernel_rfl)
        still_call (show Calls _ _ _ _ (fun e w'=>e = .returned (.int .i64 z)∧w'=_) from C.out _)
        repeat still_step
        try refine wpStill_nil ?_
        go_wp2
        go_roundg g'
        case measure=>omega
        case rel=>exact⟨k+1,by omega,by go_num,HT,HN⟩
       ·have q6:wrap32 y=y:=by unfold wrap32;omega
        have q5:IntKind.i32.wrap y=y:=IntWalk.i32_in _ (by omega);rw[h2]at q5 q6 HT HN;clear hy;go_wp2
        go_still_tail 17,(by kernel_rfl)
        still_call (show Calls _ _ _ _ (fun e w'=>e = .returned (.int .i64 z)∧w'=_) from C.out _)
        repeat still_step
        try refine wpStill_nil ?_
        go_wp2
        go_roundg g'
        case measure=>omega
        case rel=>exact⟨k+1,by omega,by go_num,HT,HN⟩
       ·have q6:wrap32 y=y:=by unfold wrap32;omega
        have q5:IntKind.i32.wrap y=y:=IntWalk.i32_in _ (by omega);rw[h2]at HT HN;have h1':-128<z:=by omega
        have h1'':¬z<127:=by omega
        clear hy;go_wp2
        go_still_tail 17,(by kernel_rfl)
        still_call (show Calls _ _ _ _ (fun e w'=>e = .returned (.int .i64 z)∧w'=_) from C.out _)
        repeat still_step
        try refine wpStill_nil ?_
        go_wp2
        go_roundg g'
        case measure=>omega
        case rel=>exact⟨k+1,by omega,by go_num,HT,HN⟩
end
section
open Go Go.RowKit
section
variable {P:Program} {ops:Array Oper} {md:Region.Mode} {C:World→Prop}
def qHead (P:Program)(md:Region.Mode)(ops:Array Oper)(C:World→Prop)(n:Nat)(L:Array Bool→Act→Prop):Nat→Array Bool→Act→Prop
 | 0,listed,a=>L listed a
 | f+1,listed,a=>Region.ready md ops listed≠[]∧∀i∈Region.ready md ops listed,i<n∧qOp P ops C i (qHead P md ops C n L f (listed.setIfInBounds i true)) a
theorem wpAny_of_qHead {n g:Nat}{L:Array Bool→Act→Prop}{Q':Exit→Act→World→Prop}(hL:∀listed a w,C w→L listed a→wpAny P md ops Q' g listed a w) :
  ∀(f:Nat) (listed:Array Bool) (a:Act) (w:World),C w→qHead P md ops C n L f listed a→wpAny P md ops Q' (f+g) listed a w
 | 0,listed,a,w,hw,h=>by rw[Nat.zero_add];exact hL _ _ _ hw h
 | f+1,listed,a,w,hw,h=>by
   rw[show f+1+g=(f+g)+1 by omega];exact⟨fun h0=>absurd h0 h.1,fun i hi=>wpOp_of_qOp hw (fun a' w' hw' h'=>wpAny_of_qHead hL f _ a' w' hw' h') (h.2 i hi).2⟩
theorem qHead_first {n i:Nat}{oi:Oper}{v:Value}{L:Array Bool→Act→Prop}(hi:ops[i]? = some oi)(hsel:∀(j:Nat) (o:Oper) cs b,ops[j]? = some o→o.op≠.select cs b)
  (hs:Region.sinkB md ops n=true) (hc:Region.chainB md ops n=true) (hn:n<ops.size) (hin:i<n) (hdone:∀listed a,L listed a→∀j∈Region.ready md ops listed,n≤j) :
  ∀(f:Nat) (listed:Array Bool) (a:Act),HeadInv md ops n listed→
   (∀j oj,ops[j]? = some oj→j≠i→listed.getD j true=false→(∀e∈oj.after,Region.binds md e=true→e.on≠i)→oi.apart ops oj=true)→
   i∈Region.ready md ops listed→YieldsIn P ops C oi v a→
   qHead P md ops C n L f (listed.setIfInBounds i true) (a.put oi.dst v)→qHead P md ops C n L (f+1) listed a:=by
 intro f
 induction f with
 | zero =>
   intro listed a inv _ hr hy H;have hun:=(mem_ready.1 hr).1;refine⟨fun h=>(by rw[h]at hr;cases hr),fun j hj=>?_⟩;have hjn:j<n:=(Nat.lt_or_ge j n).elim id fun h=>absurd hj (tail_waits hs hc hn inv _ i rfl hin hun j h)
   refine⟨hjn,?_⟩
   by_cases hji:j=i
   ·subst hji;exact hy.qOp hi H
   ·have:=hdone _ _ H j (ready_mono hj hji)
    omega
 | succ f ih =>
   intro listed a inv hfree hr hy H;have hun:=(mem_ready.1 hr).1;refine⟨fun h=>(by rw[h]at hr;cases hr),fun j hj=>?_⟩;have hjn:j<n:=(Nat.lt_or_ge j n).elim id fun h=>absurd hj (tail_waits hs hc hn inv _ i rfl hin hun j h)
   refine⟨hjn,?_⟩
   by_cases hji:j=i
   ·subst hji;exact hy.qOp hi H
   ·have h1:=(H.2 j (ready_mono hj hji)).2
    obtain⟨hjun,oj,hoj,hall⟩:=mem_ready.1 hj
    have hnot:∀e∈oj.after,Region.binds md e=true→e.on≠i:=fun e he hb heq=>by
     have h1:=hall e he hb;rw[heq,getD_both hun]at h1;cases h1
    have h2:=qOp_put hoj (hfree j oj hoj hji hjun hnot) (fun cs b=>hsel i oi cs b hi) (fun cs b=>hsel j oj cs b hoj) hy h1
    have hfree':∀k ok,ops[k]? = some ok→k≠i→(listed.setIfInBounds j true).getD k true=false→
      (∀e∈ok.after,Region.binds md e=true→e.on≠i)→oi.apart ops ok=true:=fun k ok hk hki hun hno=>by
     refine hfree k ok hk hki ?_ hno
     by_cases hjk:j=k
     ·subst hjk;exact hjun
     ·rw[getD_set_ne true hjk]at hun;exact hun
    refine qOp_mono (fun a' h3=>ih (listed.setIfInBounds j true) a' (inv.set hj hjn) hfree' (ready_mono hr (Ne.symm hji)) h3.1 ?_) h2;rw[Array.setIfInBounds_comm _ _ hji];exact h3.2
theorem qHead_lex {n g:Nat}{Lq:Act→Prop}(hsel:Region.noSelect ops=true)(hs:Region.sinkB md ops n=true)(hc:Region.chainB md ops n=true)(hn:n<ops.size) :
  ∀(l:List Oper) (k:Nat) (listed:Array Bool) (a:Act),(∀j,j<l.length→l[j]? = ops[k+j]?)→k+l.length=n→HeadInv md ops n listed→
  Region.lexHead md ops g l.length k listed=true→wpQuiet P ops C Lq l a→
  qHead P md ops C n (fun listed' a'=>Region.seqB md ops g n listed'=true∧Lq a') l.length listed a
 | [],k,listed,a,_,hk,_,hB,h=>by
   have:k=n:=by simpa using hk
   subst this;exact⟨by simpa[Region.lexHead]using hB,h⟩
 | o::l,k,listed,a,hl,hk,inv,hB,h=>by
   have h0:ops[k]? = some o:=by simpa using (hl 0 (by simp)).symm
   simp only[List.length_cons,Region.lexHead,Bool.and_eq_true]at hB;obtain⟨⟨hr,hf⟩,hB'⟩:=hB;have hkn:k<n:=by simp only[List.length_cons]at hk;omega
   have hr':k∈Region.ready md ops listed:=by simpa using hr
   have hst:qOp P ops C k (wpQuiet P ops C Lq l) a:=by unfold qOp;simp only[h0];exact h
   obtain⟨v,hy,hK⟩:=yieldsIn_of_qOp h0 hst
   exact qHead_first h0 (Region.noSelect_spec hsel) hs hc hn hkn (fun listed' a' hL=>seqB_ready hL.1) l.length listed a inv (Region.free_spec h0 hf) hr' hy
    (qHead_lex hsel hs hc hn l (k+1) _ _ (fun j hj=>by have:=hl (j+1) (by simp;omega);simpa[Nat.add_assoc,Nat.add_comm 1 j]using this) (by simp only[List.length_cons]at hk;omega) (inv.set hr' hkn) hB' hK)
theorem wp_region_quiet_tail {id:Nat}{Q:Exit→Act→World→Prop}{a:Act}{w:World}{l:List Oper}(n:Nat)(hm:P.follows .mixedOrders=true)(hB:Region.lexTailB .any l.toArray n=true)
  (h:wpQuiet P l.toArray (fun w'=>∃n,w'=w.drewN n) (fun a'=>∀w',(∃n,w'=w.drewN n)→wpList P l.toArray Q (l.drop n) a' w') (l.take n) a):(Code.region id l.toArray true).wp P Q a w:=by
 simp only[Region.lexTailB,Bool.and_eq_true,decide_eq_true_eq]at hB;obtain⟨⟨⟨⟨hsel,hn⟩,hs⟩,hc⟩,hlex⟩:=hB;have hn':n<l.length:=by simpa using hn
 have htl:(l.take n).length=n:=by simp;omega
 have hdl:(l.drop n).length=l.toArray.size-n:=by simp
 have inv0:HeadInv .any l.toArray n (Array.replicate l.toArray.size false) :=
  ⟨by simp,fun j oj _ hl=>(by rw[getD_replicate_false]at hl;cases hl),fun t _ ht=>getD_in (by simpa using ht) (getD_replicate_false _ _)⟩
 have H:=qHead_lex (md:=.any) (g:=l.toArray.size-n) hsel hs hc hn (l.take n) 0 _ a (fun j hj=>by
  have hj':j<n:=by rw[htl]at hj;exact hj
  simp[hj']) (by simpa using htl) inv0 (by rw[htl];exact hlex) h
 refine wp_region_any hm ?_
 have:=wpAny_of_qHead (Q':=Q) (g:=l.toArray.size-n) (fun listed a' w' hw' hL=>by
  have:=wpAny_of_seq (md:=.any) (Q':=Q) (l.drop n) n listed a' w' (fun j=>by simp[List.getElem?_drop]) (by rw[hdl];exact hL.1) (hL.2 w' hw')
  rwa [hdl]at this) _ _ _ _ ⟨1,rfl⟩ H
 rw[htl,show n+(l.toArray.size-n)=l.toArray.size by omega]at this;exact this
end
end
end Go.Proofs.YtjlphmmalebgpaaGreat
