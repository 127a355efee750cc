/-
  A part of the proof.
-/
import Derived.Test.YtjlphmmalebgpaaGreatK16
set_option linter.unusedSimpArgs false
set_option linter.unusedVariables false
set_option maxHeartbeats 2000000
set_option maxRecDepth 100000
namespace Go.Proofs.YtjlphmmalebgpaaGreat
section
open Go Go.RowKit
theorem lt_of_rd {w:World}{a:Option Addr}{x:Nat}{l:List Nat}(h:Rd w a (nums .i64 (x::l))):∀ad,a=some ad→ad.block<w.heap.size:=fun ad e=>by
 obtain⟨b,o,e1,c⟩:=h.num (i:=0) (by simp);rw[e]at e1;cases e1;exact lt_of_cell c
theorem refProdOf_in (w:World)(sa la sb lb:Option Addr)(n c m d n' c' m' d':Nat)(S T:List Nat)(A B:List Int)(hA:TIn w sa n c la m d S A)(hB:TIn w sb n' c' lb m' d' T B)(hn2:n=2)(hn2':n'=2)(hd:S.getD 1 0=T.getD 0 0)(okO:Me.Ok [S.getD 0 0,T.getD 1 0]) :
  Calls Tryz.prog 102 #[.agg #[.slice sa n c,.slice la m d],.agg #[.slice sb n' c',.slice lb m' d']] w (TOut w [S.getD 0 0,T.getD 1 0] (Me.prodL A B (S.getD 0 0) (T.getD 0 0) (T.getD 1 0))):=by
 have hps:Me.prodS S T=some [S.getD 0 0,T.getD 1 0]:=by rw[Me.prodS,if_pos ⟨by rw[hA.sn,hn2],by rw[hB.sn,hn2'],hd⟩]
 have hmA:m=S.getD 0 0*T.getD 0 0:=by
  have h1:=hA.len;have h2:=hA.sn
  match S,h2 with
  | [x,y],_=>simp[Me.pr]at h1 hd ⊢;rw[← hd,h1]
  | [],h=>simp at h;omega
  | [_],h=>simp at h;omega
  | _::_::_::_,h=>simp at h;omega
 have hmB:m'=T.getD 0 0*T.getD 1 0:=by
  have h1:=hB.len;have h2:=hB.sn
  match T,h2 with
  | [x,y],_=>simp[Me.pr]at h1 ⊢;rw[h1]
  | [],h=>simp at h;omega
  | [_],h=>simp at h;omega
  | _::_::_::_,h=>simp at h;omega
 obtain⟨b2,o2,rfl,kd⟩:=hB.dir (k:=0) (by omega);rw[Nat.add_zero]at kd;have hd1:=hB.ok.get (k:=0) (by rw[hB.sn];omega);obtain⟨b1,o1,rfl,kA⟩:=hA.dir (k:=1) (by omega);rw[hd]at kA;obtain⟨r,hr⟩:∃r,S.getD 0 0=r:=⟨_,rfl⟩;obtain⟨dd,hdd⟩:∃dd,T.getD 0 0=dd:=⟨_,rfl⟩;obtain⟨cc,hcc⟩:∃cc,T.getD 1 0=cc:=⟨_,rfl⟩;have Hd:=Lib.hid hd;rw[hr,hdd]at hmA;rw[hdd,hcc]at hmB;rw[hdd]at kd hd1 kA;rw[hr,hcc]at okO hps;rw[hr,hdd,hcc];have hrc:=okO.most;simp only[Me.pr,Nat.mul_one]at hrc;have hc1:=okO.each cc (by simp);have HA:=Lib.hid hA;have HB:=Lib.hid hB;have HO:=Lib.hid okO;have HP:=Lib.hid hps;have HmA:=Lib.hid hmA;have HmB:=Lib.hid hmB;have hm4:m≤4096:=hA.m4;have hm4':m'≤4096:=hB.m4;have q5:(0:Int)<(n':Nat):=by omega
 have q6:(1:Int)<(n:Nat):=by omega
 clear hA hB hn2 hn2' hd okO hps hmA hmB hr hdd hcc;go_enter Tryz.func102,Tryz.ntmps102;go_wp2_with fail;obtain⟨w1,hw1,t1,b2',b3,b4,hsz⟩:=three_rows w 51 #[.slice (some ⟨b1,o1,none⟩) n c,.slice la m d] #[.slice (some ⟨b2,o2,none⟩) n' c',.slice lb m' d'] #[.slice none 0 0,.slice none 0 0];rw[← hw1];have H1:=Lib.hid (aI t1 (aI b2' (aI b3 b4)));clear hw1 t1 b2' b3 b4 hsz;refine(refCheck_ok (HA.out.no H1.out.1)).mono ?_;rintro e w2 ⟨rfl,t2⟩;have H2:=Lib.hid (aI (H1.out.1.trans t2) (aI (H1.out.2.1.touch t2 id) (aI (H1.out.2.2.1.touch t2 id) (H1.out.2.2.2.touch t2 id))));have k0:=H2.out.2.2.1.c0;have k1:=H2.out.2.2.1.c1;clear t2 H1;go_wp2_with fail;refine(refCheck_ok (HB.out.no H2.out.1)).mono ?_;rintro e w3 ⟨rfl,t2⟩;have H3:=Lib.hid (aI (H2.out.1.trans t2) (aI (H2.out.2.1.touch t2 id) (aI (H2.out.2.2.1.touch t2 id) (H2.out.2.2.2.touch t2 id))));clear t2 H2 k0 k1;have k0:=H3.out.2.1.c0;have k1:=H3.out.2.2.1.c0;go_wp2_with fail;have C:=refProdShape_in w3 (some ⟨b1,o1,none⟩) (some ⟨b2,o2,none⟩) n c n' c' S T HA.out.ok HB.out.ok (HA.out.no H3.out.1).sr HA.out.sn (HB.out.no H3.out.1).sr HB.out.sn;rw[HP.out]at C;refine C.mono ?_;clear C;rintro e w4 ⟨ss,ss_c,rfl,hssc,hss,t2,hnew⟩;have H4:=Lib.hid (aI (H3.out.1.trans t2) (aI (H3.out.2.1.touch t2 id) (aI (H3.out.2.2.1.touch t2 id) (H3.out.2.2.2.touch t2 id))));have HSS:=Lib.hid hss;have Hnew:=Lib.hid (aI hnew (lt_of_rd hss));clear t2 H3 k0 k1 hnew hssc hss;go_wp2_with fail;refine(refNew_in w4 ss 2 ss_c [r,cc] HSS.out rfl HO.out).mono ?_;rintro e w5 ⟨sc,n3,d3,g,m3,rfl,hn3,hm3,hd3,hsr,hsc,hg,hrow,t3⟩;obtain rfl:n3=2:=by rw[← hn3];rfl
 obtain⟨Y,hY⟩:∃Y,Y=w5.heap.size:=⟨_,rfl⟩;obtain⟨w6,hw6⟩:∃w6,w6=w5.alloc (.cells #[.slice sc 2 d3,.slice (some ⟨g,0,none⟩) m3 m3] 51):=⟨_,rfl⟩;have FH:Hid (Fld w w6 (w.heap.size+1+1) g Y sc 2 d3 m3 [r,cc]):=by rw[hw6,hY];exact Fld.make H4.out.1 H4.out.2.2.2.lt (by omega) HO.out rfl hm3 hd3 hsr hsc hg hrow t3
 have hm3':r*cc=m3:=by simpa[Me.pr]using hm3
 have H6:Hid (Row w6 w.heap.size 51 [.slice (some ⟨b1,o1,none⟩) n c,.slice la m d]∧Row w6 (w.heap.size+1) 51 [.slice (some ⟨b2,o2,none⟩) n' c',.slice lb m' d']∧Row w6 (w.heap.size+1+1) 51 [.slice none 0 0,.slice none 0 0]∧Rd w6 ss (nums .i64 [r,cc])):=by
  have t3:Touch No w4 w6:=by rw[hw6];exact t3.alloc _
  exact⟨H4.out.2.1.touch t3 id,H4.out.2.2.1.touch t3 id,H4.out.2.2.2.touch t3 id,HSS.out.no t3⟩
 have hssg:Hid (∀bs os,ss=some ⟨bs,os,none⟩→bs≠g):=fun bs os e=>by have:=Hnew.out.2 _ e;simp only at this;omega
 clear hn3 hm3 hd3 hsr hsc hg hrow t3 H4 HSS;go_wp2_with fail;rw[← hw6,← hY];clear hw6 hY;have kd6:=FH.out.t.cell id kd;have kA6:=FH.out.t.cell id kA;obtain⟨bs,os,rfl,ks1⟩:=H6.out.2.2.2.num (i:=1) (by simp);obtain⟨_,_,e1,ks0⟩:=H6.out.2.2.2.num (i:=0) (by simp);cases e1
 rw[Nat.add_zero]at ks0;have hb1:=lt_of_cell kA;have hb2:=lt_of_cell kd;have hbs:bs≠g:=hssg.out _ _ rfl;have KD:=Lib.hid kd6;have KA:=Lib.hid kA6;have KS0:=Lib.hid ks0;have KS1:=Lib.hid ks1;clear kd kA kd6 kA6 ks0 ks1;have Hl:=Lib.hid (show(Me.prodL A B r dd cc).length=m3 by rw[Me.prodL,List.length_map,List.length_range,hm3']);have Hl':=Lib.hid (show(ints .i32 (Me.prodL A B r dd cc)).length=m3 by rw[ints_length];exact Hl.out);have hm34:m3≤4096:=by omega
 have hXg:w.heap.size+1+1<g:=FH.out.Xg;have hgY:g<Y:=FH.out.gY;have hr1:=HO.out.each r (by simp)
 go_loopg [10] r (fun gh s10 wr=>∃i:Nat,i+gh=r∧s10 = .int .i64 ((i:Nat):Int)∧Hid (Touch (One g) w6 wr)∧Hid (Row wr g 21 (fill (ints .i32 (Me.prodL A B r dd cc)) (.int .i32 0) (i*cc))))
 case atStart=>exact⟨0,by omega,rfl,Touch.refl _ _,by rw[Nat.zero_mul];exact FH.out.start Hl'.out⟩
 case round =>
  obtain⟨i,hig,rfl,T',R⟩:=hrel;have ks0:=T'.out.cell (fun e=>hbs e) KS0.out;cases gk with
  | zero =>
    obtain rfl:i=r:=by omega
    have ky:=FH.out.cell T'.out;have kx:=H6.out.2.2.1.keep T'.out (by omega);have ky0:=FH.out.cell0 T'.out;have R:=Lib.hid (show Row wr g 21 (ints .i32 (Me.prodL A B i dd cc)) by have:=R.out;rw[hm3',fill_all _ _ Hl'.out]at this;exact this);go_wp2_with (refine wpList_store_mid rfl 51 _ _ rfl (w.heap.size+1+1) 0 51 [.slice none 0 0,.slice none 0 0] kx rfl [.slice sc 2 d3,.slice (some ⟨g,0,none⟩) m3 m3] rfl (by kernel_rfl) (by simp) (by intro v hv;simp at hv;rcases hv with rfl|rfl <;> rfl) ?_);obtain⟨w9,hw9⟩:∃w9,w9=wr.setRow (w.heap.size+1+1) (splice [.slice none 0 0,.slice none 0 0] 0 [.slice sc 2 d3,.slice (some ⟨g,0,none⟩) m3 m3]).toArray:=⟨_,rfl⟩;have R9:Row w9 (w.heap.size+1+1) 51 [.slice sc 2 d3,.slice (some ⟨g,0,none⟩) m3 m3]:=by rw[hw9];exact kx.setRow _
    have HN:=Lib.hid (FH.out.done T'.out R.out Hl.out (Me.prodL_in A B i dd cc) (show Touch (One (w.heap.size+1+1)) wr w9 by rw[hw9];exact Touch.setOne _ _ _));have y0:=R9.c0;have y1:=R9.c1;rw[← hw9];clear hw9 kx R9;go_wp2;refine bodyPost_ret (v:=.tuple #[.agg #[.slice sc 2 d3,.slice (some ⟨g,0,none⟩) m3 m3],.int .i64 0]) (by simp[results,Tryz.results102,go_sem,y0,y1]) rfl ?_;exact⟨sc,2,d3,_,m3,m3,rfl,HN.out.1,HN.out.2⟩
  | succ g' =>
    have hki:(i:Int)<(r:Nat):=by omega
    go_wp2_with fail;clear ks0;obtain⟨wo,rfl⟩:∃wo:World,wo=wr:=⟨_,rfl⟩
    go_loopg [11] cc (fun gh s11 wr=>∃j:Nat,j+gh=cc∧s11 = .int .i64 ((j:Nat):Int)∧Hid (Touch (One g) w6 wr)∧Hid (Row wr g 21 (fill (ints .i32 (Me.prodL A B r dd cc)) (.int .i32 0) (i*cc+j))))
    case atStart=>exact⟨0,by omega,rfl,T'.out,R.out⟩
    case round =>
     obtain⟨j,hjg,rfl,Ti,Ri⟩:=hrel;have ks1:=Ti.out.cell (fun e=>hbs e) KS1.out;cases gk with
     | zero =>
       obtain rfl:cc=j:=by omega
       have HN:Hid (Row wr g 21 (fill (ints .i32 (Me.prodL A B r dd cc)) (.int .i32 0) ((i+1)*cc))):=by
        show Row _ _ _ _
        rw[Nat.add_mul,Nat.one_mul];exact Ri.out
       go_wp2
       go_roundg g'
       case measure=>omega
       case rel=>exact⟨i+1,by omega,by go_num,Ti.out,HN.out⟩
     | succ g2 =>
       have hji:(j:Int)<(cc:Nat):=by omega
       go_wp2_with fail;clear ks1;obtain⟨wo,rfl⟩:∃wo:World,wo=wr:=⟨_,rfl⟩
       go_loopg [12,13] dd (fun gh s12 s13 wr=>∃p:Nat,p+gh=dd∧s13 = .int .i64 ((p:Nat):Int)∧s12 = .int .i32 (Me.go (Me.dot A B dd cc i j) 0 p)∧Hid (Touch (One g) w6 wr)∧Hid (Row wr g 21 (fill (ints .i32 (Me.prodL A B r dd cc)) (.int .i32 0) (i*cc+j))))
       case atStart=>exact⟨0,by omega,rfl,rfl,Ti.out,Ri.out⟩
       case round =>
        obtain⟨p,hpg,rfl,rfl,Tp,Rp⟩:=hrel;have kd:=Tp.out.cell (fun e=>by unfold One at e;have:=FH.out.wX;omega) KD.out;have kb:=(H6.out.2.1.keep Tp.out (by omega)).c0;cases gk with
        | zero =>
          obtain rfl:dd=p:=by omega
          obtain⟨k,hk⟩:∃k,i*cc+j=k:=⟨_,rfl⟩;obtain⟨ic,hic⟩:∃ic,i*cc=ic:=⟨_,rfl⟩;have hkm:k<m3:=by rw[← hk,← hm3'];exact Me.mul_lt (by omega) (by omega)
          have hdiv:k / cc=i:=by rw[← hk,Nat.mul_comm,Nat.mul_add_div (by omega),Nat.div_eq_of_lt (by omega),Nat.add_zero]
          have hmod:k%cc=j:=by rw[← hk,Nat.mul_comm,Nat.mul_add_mod,Nat.mod_eq_of_lt (by omega)]
          obtain⟨v,hv⟩:∃v,Me.go (Me.dot A B dd cc i j) 0 dd=v:=⟨_,rfl⟩
          have hv2:(ints .i32 (Me.prodL A B r dd cc))[k]? = some (.int .i32 v):=by
           rw[ints_at (by rw[Hl.out];omega),Me.prodL,Me.at_map _ (by omega),hdiv,hmod,hv]
          have e1:IntKind.i64.wrap ((i:Int)*(cc:Int))=((ic:Nat):Int):=by rw[← Int.natCast_mul,hic];exact IntWalk.i64_in _ (by omega)
          have e2:IntKind.i64.wrap (((ic:Nat):Int)+(j:Int))=((k:Nat):Int):=by rw[← hk,hic,← Int.natCast_add];exact IntWalk.i64_in _ (by omega)
          have hR:=Rp.out;rw[hk]at hR;have cg:=Fld.slot hR (by rw[Hl'.out];omega);have cz:wr.frozen? ⟨g,k,none⟩=false:=hR.soft k;have HN:=Lib.hid (row_step hR hv2);have HT:=Lib.hid (touch_step Tp.out k (.int .i32 v));have HK:=Lib.hid (show i*cc+(j+1)=k+1 by omega);have ky:=FH.out.cell Tp.out;have ks1:=Tp.out.cell (fun e=>hbs e) KS1.out;have hkk:(k:Int)<(m3:Nat):=by omega
          rw[hv];clear hv hv2 hR hk hic hdiv hmod;go_wp2
          go_still_tail 11,(by kernel_rfl)
          go_wp2
          go_roundg g2
          case measure=>omega
          case rel=>exact⟨j+1,by omega,by go_num,HT,by rw[HK.out];exact HN⟩
        | succ g3 =>
          have hpi:(p:Int)<(dd:Nat):=by omega
          obtain⟨ix,hi⟩:∃ix,i*dd+p=ix:=⟨_,rfl⟩;obtain⟨jx,hj⟩:∃jx,p*cc+j=jx:=⟨_,rfl⟩;have him:ix<m:=by rw[HmA.out,← hi];exact Me.mul_lt (by omega) (by omega)
          have hjm:jx<m':=by rw[HmB.out,← hj];exact Me.mul_lt (by omega) (by omega)
          obtain⟨rd,hrd⟩:∃rd,i*dd=rd:=⟨_,rfl⟩;obtain⟨pc,hpc⟩:∃pc,p*cc=pc:=⟨_,rfl⟩;have e1:IntKind.i64.wrap ((i:Int)*(dd:Int))=((rd:Nat):Int):=by rw[← Int.natCast_mul,hrd];exact IntWalk.i64_in _ (by omega)
          have e2:IntKind.i64.wrap (((rd:Nat):Int)+(p:Int))=((ix:Nat):Int):=by rw[← hi,hrd,← Int.natCast_add];exact IntWalk.i64_in _ (by omega)
          have e3:IntKind.i64.wrap ((p:Int)*(cc:Int))=((pc:Nat):Int):=by rw[← Int.natCast_mul,hpc];exact IntWalk.i64_in _ (by omega)
          have e4:IntKind.i64.wrap (((pc:Nat):Int)+(j:Int))=((jx:Nat):Int):=by rw[← hj,hpc,← Int.natCast_add];exact IntWalk.i64_in _ (by omega)
          have k2:=(H6.out.1.keep Tp.out (by omega)).c1;have k20:=(H6.out.1.keep Tp.out (by omega)).c0;have k3:=(H6.out.2.1.keep Tp.out (by omega)).c1;have kA:=Tp.out.cell (fun e=>by unfold One at e;have:=FH.out.wX;omega) KA.out;have ks1:=Tp.out.cell (fun e=>hbs e) KS1.out;obtain⟨ga,oa,rfl,ca⟩:=(HA.out.keep FH.out.t Tp.out (by omega)).num (k:=ix) (by omega);obtain⟨gb,ob,rfl,cb⟩:=(HB.out.keep FH.out.t Tp.out (by omega)).num (k:=jx) (by omega);obtain⟨s,hs⟩:∃s,Me.go (Me.dot A B dd cc i j) 0 p=s:=⟨_,rfl⟩;obtain⟨x,hx⟩:∃x,Me.at_ A ix=x:=⟨_,rfl⟩;obtain⟨y,hy⟩:∃y,Me.at_ B jx=y:=⟨_,rfl⟩
          have HS:Hid (Me.go (Me.dot A B dd cc i j) 0 (p+1)=wrap32 (s+wrap32 (x*y))):=by
           show _=_
           rw[Me.go_succ,hs,Me.dot,hi,hj,hx,hy]
          rw[hx]at ca;rw[hy]at cb;have hii:(ix:Int)<(m:Nat):=by omega
          have hjj:(jx:Int)<(m':Nat):=by omega
          rw[hs];clear hs hx hy hi hj hrd hpc;go_wp2;refine wp_region_quiet_lit (by kernel_rfl) (by kernel_rfl) ?_;repeat (first|go_big_quiet_step (fail)|quiet_step (fail))
          refine wpQuiet_nil ?_;intro _ hw';obtain⟨nq,hw''⟩:=hw';subst hw'';go_wp2;have HT:=Lib.hid (Tp.out.drewN nq);have HR:=Lib.hid (Rp.out.touch ((Touch.refl No wr).drewN nq) id)
          go_roundg g3
          case measure=>omega
          case rel=>exact⟨p+1,by omega,by go_num,by rw[HS.out],HT.out,HR.out⟩
end
section
open Go Go.RowKit
namespace Me
theorem order_ord:∀{xs:List Int},Order xs→∃O,xs=zs O∧Ord O xs.length
 | [],_=>⟨[],rfl,⟨rfl,fun k h=>absurd h (Nat.not_lt_zero k),List.nodup_nil⟩⟩
 | [a],h=>by
   have h0:=h.1 0 (by simp);simp at h0;subst h0;exact⟨[0],rfl,⟨rfl,by decide,by decide⟩⟩
 | [a,b],h=>by
   have h0:=h.1 0 (by simp);have h1:=h.1 1 (by simp);simp only[List.mem_cons,List.not_mem_nil,or_false]at h0 h1;refine⟨[a.toNat,b.toNat],?_,rfl,?_,?_⟩
   ·simp only[zs,List.map_cons,List.map_nil]
    rw[Int.toNat_of_nonneg (by omega),Int.toNat_of_nonneg (by omega)]
   ·intro k hk;match k,hk with
    | 0,_=>simp;omega
    | 1,_=>simp;omega
   ·simp;omega
 | [a,b,c],h=>by
   have h0:=h.1 0 (by simp);have h1:=h.1 1 (by simp);have h2:=h.1 2 (by simp);simp only[List.mem_cons,List.not_mem_nil,or_false]at h0 h1 h2;refine⟨[a.toNat,b.toNat,c.toNat],?_,rfl,?_,?_⟩
   ·simp only[zs,List.map_cons,List.map_nil]
    rw[Int.toNat_of_nonneg (by omega),Int.toNat_of_nonneg (by omega),Int.toNat_of_nonneg (by omega)]
   ·intro k hk;match k,hk with
    | 0,_=>simp;omega
    | 1,_=>simp;omega
    | 2,_=>simp;omega
   ·simp;omega
 | [a,b,c,d],h=>by
   have h0:=h.1 0 (by simp);have h1:=h.1 1 (by simp);have h2:=h.1 2 (by simp);have h3:=h.1 3 (by simp);simp only[List.mem_cons,List.not_mem_nil,or_false]at h0 h1 h2 h3;refine⟨[a.toNat,b.toNat,c.toNat,d.toNat],?_,rfl,?_,?_⟩
   ·simp only[zs,List.map_cons,List.map_nil]
    rw[Int.toNat_of_nonneg (by omega),Int.toNat_of_nonneg (by omega),Int.toNat_of_nonneg (by omega),Int.toNat_of_nonneg (by omega)]
   ·intro k hk;match k,hk with
    | 0,_=>simp;omega
    | 1,_=>simp;omega
    | 2,_=>simp;omega
    | 3,_=>simp;omega
   ·simp;omega
 | _::_::_::_::_::_,h=>absurd h.2 (by simp)
theorem order_ordB (xs:List Int):Order xs↔xs.length≤4∧ordB xs xs.length=true:=by
 refine⟨fun h=>⟨h.2,?_⟩,fun⟨h4,h⟩=>⟨fun i hi=>?_,h4⟩⟩
 ·obtain⟨O,e,hO⟩:=order_ord h
  obtain⟨n,hn⟩:∃n,xs.length=n:=⟨_,rfl⟩;have h4:=h.2;rw[hn]at hO h4 ⊢;rw[e];exact ordB_zs h4 hO
 ·rw[ordB,List.all_eq_true]at h
  have:=h i (List.mem_range.2 hi);rw[decide_eq_true_eq]at this;exact List.count_pos_iff.1 (by omega)
structure Node where
 kind:Nat
 inn:List Int
 shape:List Int
 n:Int
 pad:Int
structure Asks where
 least:Nat
 most:Nat
 low:Nat
 high:Nat
 around:Nat
 shaped:Nat
def asks (k:Nat):Option Asks :=
 if k=1∨k=2 then some ⟨0,0,0,0,0,1⟩
 else if k=3∨k=4∨k=7 then some ⟨2,2,0,0,0,0⟩
 else if k=5 then some ⟨1,1,0,0,0,0⟩
 else if k=6 then some ⟨1,1,0,31,0,0⟩
 else if k=8 then some ⟨2,2,1,8,8,0⟩
 else if k=9 then some ⟨1,1,1,64,0,0⟩
 else if k=10 then some ⟨1,1,0,0,0,1⟩
 else if k=11 then some ⟨1,1,0,0,0,2⟩
 else if k=12 then some ⟨1,4,0,3,0,0⟩
 else if k=13 then some ⟨1,1,0,3,0,0⟩
 else none
def ShapedOk (s:Nat)(l:List Int):Prop:=if s=0 then l.length=0 else if s=1 then Ar.shape l=true else Order l
structure KindOk (a:Asks) (x:Node):Prop where
 le:a.least≤x.inn.length
 me:x.inn.length≤a.most
 lo:(a.low:Int)≤x.n
 hi:x.n≤(a.high:Int)
 p0:0≤x.pad
 pa:x.pad≤(a.around:Int)
 sh:ShapedOk a.shaped x.shape
def NodeOk (x:Node):Prop:=∃a,asks x.kind=some a∧KindOk a x
theorem nodeOk_of {x:Node}{a:Asks}(h:asks x.kind=some a):NodeOk x↔KindOk a x :=
 ⟨fun⟨b,hb,k⟩=>by rw[h]at hb;cases hb;exact k,fun k=>⟨a,h,k⟩⟩
theorem nodeOk_no {x:Node}(h:asks x.kind=none):¬NodeOk x:=fun⟨b,hb,_⟩=>by rw[h]at hb;cases hb
theorem asks_none {k:Nat}(h:¬(1≤k∧k≤13)):asks k=none:=by
 unfold asks;rw[if_neg (by omega),if_neg (by omega),if_neg (by omega),if_neg (by omega),if_neg (by omega),if_neg (by omega),if_neg (by omega),if_neg (by omega),if_neg (by omega),if_neg (by omega)]
def nats (s:List Int):List Nat:=s.map Int.toNat
theorem nats_zs (S:List Nat):nats (zs S)=S:=by
 rw[nats,zs,List.map_map]
 conv=>rhs;rw[← List.map_id S]
 exact List.map_congr_left fun x _=>by simp
theorem nats_length (s:List Int):(nats s).length=s.length:=by simp[nats]
theorem ok_nats {s:List Int}(h:Ar.shape s=true):zs (nats s)=s∧Ok (nats s):=by
 obtain⟨S,rfl,ok⟩:=ok_of h;rw[nats_zs];exact⟨rfl,ok⟩
theorem ord_nats {s:List Int}(h:Order s):zs (nats s)=s∧Ord (nats s) s.length:=by
 obtain⟨O,e,hO⟩:=order_ord h;have e2:nats s=O:=by rw[e,nats_zs]
 rw[e2];exact⟨e.symm,hO⟩
theorem prod_ok {S T:List Nat}(hS:Ok S)(hT:Ok T){s:List Nat}(h:prodS S T=some s):Ok s∧s=[S.getD 0 0,T.getD 1 0]∧S.length=2∧T.length=2∧S.getD 1 0=T.getD 0 0:=by
 unfold prodS at h;split at h
 case isTrue hh =>
  cases h
  have a:=hS.get (k:=0) (by omega);have b:=hT.get (k:=1) (by omega);refine⟨⟨by simp,by simp,fun x hx=>?_,?_⟩,rfl,hh.1,hh.2.1,hh.2.2⟩
  ·simp only[List.mem_cons,List.not_mem_nil,or_false]at hx
   rcases hx with rfl|rfl
   ·exact a
   ·exact b
  ·show S.getD 0 0*(T.getD 1 0*1)≤4096
   rw[Nat.mul_one];exact Nat.mul_le_mul a.2 b.2
 case isFalse=>cases h
theorem win_ok {S T:List Nat}{st pd:Int}{s:List Nat}(h:winS S T st pd=some s):WinOk S T st pd∧s=winT S T st.toNat pd.toNat∧Ok s:=by
 unfold winS at h;split at h
 case isTrue hh=>cases h;exact⟨hh,rfl,hh.2.2.2⟩
 case isFalse=>cases h
theorem poolS_ok {S:List Nat}(ok:Ok S){st:Int}{s:List Nat}(h:poolS S st=some s):PoolOk S st∧s=poolT S st.toNat∧Ok s:=by
 unfold poolS at h;split at h
 case isTrue hh=>cases h;exact⟨hh,rfl,pool_ok ok hh⟩
 case isFalse=>cases h
theorem joinS_ok {Ss:List (List Nat)}{al:Nat}{s:List Nat}(h:joinS Ss al=some s):JoinOk Ss al∧s=joinT Ss al∧Ok s:=by
 unfold joinS at h;split at h
 case isTrue hh=>cases h;exact⟨hh,rfl,hh.2.2⟩
 case isFalse=>cases h
noncomputable def shapeOf (x:Node) (Ss:List (List Nat)):Option (List Nat) :=
 if x.kind=1∨x.kind=2 then some (nats x.shape)
 else if x.kind=3∨x.kind=4 then(if sh Ss 0=sh Ss 1 then some (sh Ss 0) else none)
 else if x.kind=5∨x.kind=6 then some (sh Ss 0)
 else if x.kind=7 then prodS (sh Ss 0) (sh Ss 1)
 else if x.kind=8 then winS (sh Ss 0) (sh Ss 1) x.n x.pad
 else if x.kind=9 then poolS (sh Ss 0) x.n
 else if x.kind=10 then(if pr (nats x.shape)=pr (sh Ss 0) then some (nats x.shape) else none)
 else if x.kind=11 then(if x.shape.length=(sh Ss 0).length then some (turnS (sh Ss 0) (nats x.shape)) else none)
 else if x.kind=12 then joinS Ss x.n.toNat
 else (if x.n.toNat<(sh Ss 0).length then some (without (sh Ss 0) x.n.toNat) else none)
theorem shapeOf_ok {x:Node}{Ss:List (List Nat)}(hx:NodeOk x)(hl:x.inn.length=Ss.length)(hS:∀j,j<Ss.length→Ok (sh Ss j)){s:List Nat}(h:shapeOf x Ss=some s):Ok s:=by
 obtain⟨a,ha,k⟩:=hx;have hle:=k.le;have hs:=k.sh;rw[hl]at hle
 by_cases hk:1≤x.kind∧x.kind≤13
 ·have hc:x.kind=1∨x.kind=2∨x.kind=3∨x.kind=4∨x.kind=5∨x.kind=6∨x.kind=7∨x.kind=8∨x.kind=9∨x.kind=10∨x.kind=11∨x.kind=12∨x.kind=13:=by omega
  rcases hc with e|e|e|e|e|e|e|e|e|e|e|e|e <;> rw[e]at ha <;> simp only[asks]at ha <;> simp at ha <;> subst ha <;> unfold shapeOf at h <;> rw[e]at h <;> simp at h <;> simp[ShapedOk]at hs hle
  ·rw[← h];exact(ok_nats hs).2
  ·rw[← h];exact(ok_nats hs).2
  ·rw[← h.2];exact hS 0 (by omega)
  ·rw[← h.2];exact hS 0 (by omega)
  ·rw[← h];exact hS 0 (by omega)
  ·rw[← h];exact hS 0 (by omega)
  ·exact(prod_ok (hS 0 (by omega)) (hS 1 (by omega)) h).1
  ·exact(win_ok h).2.2
  ·exact(poolS_ok (hS 0 (by omega)) h).2.2
  ·rw[← h.2];exact(ok_nats hs).2
  ·rw[← h.2];exact ok_turnS (hS 0 (by omega)) (by rw[← h.1];exact(ord_nats hs).2)
  ·exact(joinS_ok h).2.2
  ·rw[← h.2];exact ok_without (hS 0 (by omega)) h.1
 ·rw[asks_none hk]at ha;cases ha
def ins (acc:List (List Nat))(l:List Int):List (List Nat):=l.map fun k=>sh acc k.toNat
theorem ins_length (acc:List (List Nat))(l:List Int):(ins acc l).length=l.length:=by simp[ins]
theorem ins_get {acc:List (List Nat)}{l:List Int}{j:Nat}(h:j<l.length):sh (ins acc l) j=sh acc (l.getD j 0).toNat:=by
 simp[sh,ins,Lgd,h]
def Ahead (l:List Int)(n:Nat):Prop:=∀k∈l,0≤k∧k<(n:Int)
open Classical in
noncomputable def shapesGo:List Node→List (List Nat)→Option (List (List Nat))
 | [],acc=>some acc
 | x::r,acc=>if NodeOk x∧Ahead x.inn acc.length then(match shapeOf x (ins acc x.inn) with|some s=>shapesGo r (acc ++ [s])|none=>none) else none
theorem shapesGo_no {x:Node}{r:List Node}{acc:List (List Nat)}(h:¬(NodeOk x∧Ahead x.inn acc.length)):shapesGo (x::r) acc=none:=by
 rw[shapesGo,if_neg h]
theorem shapesGo_none {x:Node}{r:List Node}{acc:List (List Nat)}(h:shapeOf x (ins acc x.inn)=none):shapesGo (x::r) acc=none:=by
 rw[shapesGo,h];split <;> rfl
theorem shapesGo_some {x:Node}{r:List Node}{acc:List (List Nat)}(h:NodeOk x)(h2:Ahead x.inn acc.length){s:List Nat}(h3:shapeOf x (ins acc x.inn)=some s):shapesGo (x::r) acc=shapesGo r (acc ++ [s]):=by
 rw[shapesGo,if_pos ⟨h,h2⟩,h3]
def OkAll (acc:List (List Nat)):Prop:=∀j,j<acc.length→Ok (sh acc j)
theorem OkAll.ins {acc:List (List Nat)}(h:OkAll acc){l:List Int}(ha:Ahead l acc.length):OkAll (ins acc l):=fun j hj=>by
 rw[ins_length]at hj;rw[ins_get hj];have hm:l.getD j 0∈l:=by rw[Lgd,Lge hj];exact List.getElem_mem hj
 have:=ha _ hm;exact h _ (by omega)
theorem sh_append {acc:List (List Nat)}{s:List Nat}{j:Nat}(h:j<acc.length):sh (acc ++ [s]) j=sh acc j:=by
 rw[sh,sh,Lgd,Lgd,List.getElem?_append_left h]
theorem sh_last {acc:List (List Nat)}{s:List Nat}:sh (acc ++ [s]) acc.length=s:=by
 rw[sh,Lgd,List.getElem?_append_right (Nat.le_refl _)];simp
theorem OkAll.snoc {acc:List (List Nat)}(h:OkAll acc){s:List Nat}(hs:Ok s):OkAll (acc ++ [s]):=fun j hj=>by
 rw[List.length_append,List.length_singleton]at hj;rcases Nat.lt_or_ge j acc.length with h1|h1
 ·rw[sh_append h1];exact h j h1
 ·obtain rfl:j=acc.length:=by omega
  rw[sh_last];exact hs
theorem OkAll.nil:OkAll []:=fun j h=>absurd h (Nat.not_lt_zero j)
def inputs (g:List Node):Nat:=(g.filter fun x=>decide (x.kind=1)).length
def nodeAt (g:List Node)(i:Nat):Node:=g.getD i ⟨0,[],[],0,0⟩
theorem inputs_take {g:List Node}{i:Nat}(h:i<g.length):inputs (g.take (i+1))=inputs (g.take i)+(if (nodeAt g i).kind=1 then 1 else 0):=by
 unfold inputs nodeAt;rw[List.take_add_one,Lge h,Lgd,Lge h];simp only[Option.toList,Option.getD_some,List.filter_append,List.length_append]
 by_cases hk:g[i].kind=1
 ·rw[if_pos hk,List.filter_cons_of_pos (by simpa using hk)];rfl
 ·rw[if_neg hk,List.filter_cons_of_neg (by simpa using hk)];rfl
theorem drop_node {g:List Node}{i:Nat}(h:i<g.length):g.drop i=nodeAt g i::g.drop (i+1):=by
 unfold nodeAt;rw[Lgd,Lge h];exact List.drop_eq_getElem_cons h
def LastOk (g:List Node):Prop:=inputs g=1∧(nodeAt g (g.length-1)).kind≠1∧(nodeAt g (g.length-1)).kind≠2
open Classical in
noncomputable def shapes (g:List Node):Option (List (List Nat)) :=
 if (1≤g.length∧g.length≤32)∧LastOk g then shapesGo g [] else none
theorem shapes_len {g:List Node}(h:¬(1≤g.length∧g.length≤32)):shapes g=none:=if_neg fun k=>h k.1
theorem shapes_last {g:List Node}(h:¬LastOk g):shapes g=none:=if_neg fun k=>h k.2
theorem shapes_go {g:List Node}(h:(1≤g.length∧g.length≤32))(k:LastOk g):shapes g=shapesGo g []:=if_pos ⟨h,k⟩
theorem shapes_none {g:List Node}(h:shapesGo g []=none):shapes g=none:=by
 unfold shapes;split
 ·exact h
 ·rfl
theorem shapesGo_len:∀{r:List Node} {acc l:List (List Nat)},shapesGo r acc=some l→l.length=acc.length+r.length∧(OkAll acc→OkAll l)∧∀j,j<acc.length→sh l j=sh acc j
 | [],acc,l,h=>by rw[shapesGo]at h;cases h;exact⟨rfl,id,fun _ _=>rfl⟩
 | x::r,acc,l,h=>by
   by_cases hx:NodeOk x∧Ahead x.inn acc.length
   ·cases hs:shapeOf x (ins acc x.inn) with
    | none=>rw[shapesGo_none hs]at h;cases h
    | some s =>
      rw[shapesGo_some hx.1 hx.2 hs]at h;obtain⟨h1,h2,h3⟩:=shapesGo_len h;refine⟨by rw[h1];simp;omega,fun ok=>h2 (ok.snoc (shapeOf_ok hx.1 (ins_length _ _).symm (ok.ins hx.2) hs)),fun j hj=>?_⟩;rw[h3 j (by simp;omega),sh_append hj]
   ·rw[shapesGo_no hx]at h;cases h
end Me
end
end Go.Proofs.YtjlphmmalebgpaaGreat
