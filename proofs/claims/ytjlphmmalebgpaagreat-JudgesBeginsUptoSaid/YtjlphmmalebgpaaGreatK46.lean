/-
  A part of the proof.
-/
import Derived.Test.YtjlphmmalebgpaaGreatK45
set_option linter.unusedSimpArgs false
set_option linter.unusedVariables false
set_option maxHeartbeats 4000000
set_option maxRecDepth 100000
namespace Go.Proofs.YtjlphmmalebgpaaGreat
section
open Go Go.RowKit
theorem Rd.offInt {w:World}{a:Option Addr}{k:IntKind}{zs:List Int}{v:Value}{g:Nat}{T:TypeId}{l:List Value}(h:Rd w a (ints k zs ++ [v]))(hv:∃k z,v = .int k z)(r:Row w g T l)(hl:∀v∈l,∀k z,v≠.int k z):Off a g:=fun ad e he=>by
 obtain⟨b,o,e',hc⟩:=h (ints k zs).length v (by simp);rw[e]at e';cases e';have he':b=g:=he;rw[he',r.cell]at hc;obtain⟨k,z,rfl⟩:=hv;exact hl _ (List.mem_of_getElem? hc) _ _ rfl
theorem LIn.nOne {w w':World}{a:Option Addr}{n m g:Nat}{Ns:List Me.Node}{T:TypeId}{l:List Value}(h:LIn 5 (withMark n (NEl Ns) MarkN) w a m)(r:Row w g T l)(hl:∀v∈l,∀k z,v≠.int k z)(t:Touch (One g) w w'):LIn 5 (withMark n (NEl Ns) MarkN) w' a m:=fun j hj=>by
 obtain⟨b,o,e,ha,hlen,hc,hE⟩:=h j hj
 have hb:b≠g∧OffE e g:=by
  unfold withMark at hE;split at hE
  ·obtain⟨ia,n1,c1,sa,n2,c2,rfl,_,_,_,h4,h5⟩:=hE
   refine⟨fun eb=>?_,fun a' n' c' hm=>?_⟩
   ·have h0:=hc 0 _ rfl
    rw[eb,r.cell]at h0;exact hl _ (List.mem_of_getElem? h0) _ _ rfl
   ·simp at hm
    rcases hm with⟨rfl,_,_⟩|⟨rfl,_,_⟩
    ·exact h4.offInt ⟨_,_,rfl⟩ r hl
    ·exact h5.offInt ⟨_,_,rfl⟩ r hl
  ·have he:e=[.int .u8 0,.slice none 0 0,.slice none 0 0,.int .i64 77,.int .i64 0]:=hE
   subst he;refine⟨fun eb=>?_,fun a' n' c' hm ad ha=>?_⟩
   ·have h0:=hc 0 _ rfl
    rw[eb,r.cell]at h0;exact hl _ (List.mem_of_getElem? h0) _ _ rfl
   ·simp at hm
    obtain⟨rfl,_⟩:=hm;cases ha
 exact⟨b,o,e,ha,hlen,fun i v hi=>t.cell hb.1 (hc i v hi),(stays_mark (nEl_stays _) markN_stays).touch hE t (fun k hk=>by have e':k=g:=hk;rw[e'];exact hb.2)⟩
theorem twinGraph_in (w:World)(a:Option Addr)(n c:Nat)(Ns:List Me.Node)(hW:NsIn w a Ns)(hl:Ns.length=n)(hn:n≤2000000) :
  Calls Tryz.prog 7 #[.agg #[.slice a n c]] w fun e w'=>∃a' c',e = .returned (.agg #[.slice a' n c'])∧n<c'∧LIn 5 (withMark n (NEl Ns) MarkN) w' a' (n+1)∧Touch No w w':=by
 obtain⟨w1,hw1,t1,R1,R2,hs1⟩:=rows_2 w [.slice a n c] [.slice none 0 0] 24 24;obtain⟨X,hX⟩:∃X,X=w.heap.size:=⟨_,rfl⟩;rw[← hX]at R1 R2 hs1;have C:=Lib.hid (twinNs_in w1 a n c Ns (hW.no t1) hl hn);have y0:w1.cell? ⟨X,0,none⟩=some (.slice a n c):=R1.cell 0;have HT1:=Lib.hid t1;have HR2:=Lib.hid R2;have HX:=Lib.hid (aI hX hs1);clear hW hl hn t1 R1 R2 hs1;go_enter Tryz.func7,Tryz.ntmps7;go_upto_region 1 with fail;rw[← hw1,← hX];clear hw1 hX;go_wp2_with fail;refine C.out.mono ?_;rintro e w2 ⟨a',c',rfl,hc,hL,t2⟩;have r2:=HR2.out.touch t2 id;have y1:w2.cell? ⟨X+1,0,none⟩=some (.slice none 0 0):=r2.cell 0;have f1:=r2.soft 0;have HR:=Lib.hid r2;have HL:=Lib.hid (aI hc hL);have HT2:=Lib.hid (HT1.out.trans t2);clear C y0 t2 r2 hc hL;go_wp2;have y2:(w2.setCell ⟨X+1,0,none⟩ (.slice a' n c')).cell? ⟨X+1,0,none⟩=some (.slice a' n c'):=(HR.out.setCell 0 (.slice a' n c')).cell 0;refine bodyPost_ret (v:=.agg #[.slice a' n c']) (by simp[results,Tryz.results7,go_sem,y2]) rfl ?_;have TX:=(Touch.refl (One (X+1)) w2).setCell (p:=⟨X+1,0,none⟩) (fun _=>rfl) (.slice a' n c');refine⟨a',c',rfl,HL.out.1,HL.out.2.nOne HR.out (by intro v hv k z;simp at hv;rw[hv];simp) TX,HT2.out.then TX (fun i hi e=>by have e':i=X+1:=e;have:=HX.out.1;omega)⟩
theorem leftRec_in (w:World)(sa la sb lb:Option Addr)(n c m d c' d':Nat)(ix:Int)(s l:List Int)(hs:s.length=n)(hn:(n:Int)≤10000000)(hc:n<c)(hr:Rd w sa (ints .i64 s ++ [.int .i64 77]))(hl:l.length=m)(hm:(m:Int)≤10000000)(hd:m<d)(hr2:Rd w la (ints .i32 l ++ [.int .i32 77]))
  (hr':Rd w sb (ints .i64 s)) (hr2':Rd w lb (ints .i32 l)) :
  Calls Tryz.prog 32 #[.agg #[.int .u32 ix,.slice sa n c,.slice la m d],.agg #[.int .u32 ix,.slice sb n c',.slice lb m d']] w fun e w'=>e = .returned (.bool true)∧Touch No w w':=by
 obtain⟨w1,hw1,t1,R1,R2,hs1⟩:=rows_2 w [.int .u32 ix,.slice sa n c,.slice la m d] [.int .u32 ix,.slice sb n c',.slice lb m d'] 58 58;obtain⟨X,hX⟩:∃X,X=w.heap.size:=⟨_,rfl⟩;rw[← hX]at R1 R2 hs1;have C:=Lib.hid (leftT_any w1 sa la sb lb n c m d c' d' s l hs hn hc (hr.no t1) hl hm hd (hr2.no t1) (hr'.no t1) (hr2'.no t1));have y0:w1.cell? ⟨X,0,none⟩=some (.int .u32 ix):=R1.cell 0;have y1:w1.cell? ⟨X,1,none⟩=some (.slice sa n c):=R1.cell 1;have y2:w1.cell? ⟨X,2,none⟩=some (.slice la m d):=R1.cell 2;have x0:w1.cell? ⟨X+1,0,none⟩=some (.int .u32 ix):=R2.cell 0;have x1:w1.cell? ⟨X+1,1,none⟩=some (.slice sb n c'):=R2.cell 1;have x2:w1.cell? ⟨X+1,2,none⟩=some (.slice lb m d'):=R2.cell 2;have HT1:=Lib.hid t1;have hb:(ix==ix)=true:=by simp
 clear hr hr2 hr' hr2' hs hl hc hd t1 R1 R2 hs1;go_enter Tryz.func32,Tryz.ntmps32;go_upto_region 1 with fail;rw[← hw1,← hX];clear hw1 hX;go_wp2_with fail;refine C.out.mono ?_;rintro e w2 ⟨rfl,t2⟩;have HT2:=Lib.hid (HT1.out.trans t2);clear C t2 y0 y1 y2 x0 x1 x2;go_wp2;go_ret;exact⟨rfl,HT2.out⟩
theorem leftNode_in (w:World)(sa la sb lb:Option Addr)(n c m d c' d':Nat)(kd N P:Int)(s l:List Int)(hs:s.length=n)(hn:(n:Int)≤10000000)(hc:n<c)(hr:Rd w sa (ints .i64 s ++ [.int .i64 77]))(hl:l.length=m)(hm:(m:Int)≤10000000)(hd:m<d)(hr2:Rd w la (ints .i64 l ++ [.int .i64 77]))
  (hr':Rd w sb (ints .i64 s)) (hr2':Rd w lb (ints .i64 l)) :
  Calls Tryz.prog 50 #[.agg #[.int .u8 kd,.slice sa n c,.slice la m d,.int .i64 N,.int .i64 P],.agg #[.int .u8 kd,.slice sb n c',.slice lb m d',.int .i64 N,.int .i64 P]] w fun e w'=>e = .returned (.bool true)∧Touch No w w':=by
 obtain⟨w1,hw1,t1,R1,R2,hs1⟩:=rows_2 w [.int .u8 kd,.slice sa n c,.slice la m d,.int .i64 N,.int .i64 P] [.int .u8 kd,.slice sb n c',.slice lb m d',.int .i64 N,.int .i64 P] 55 55;obtain⟨X,hX⟩:∃X,X=w.heap.size:=⟨_,rfl⟩;rw[← hX]at R1 R2 hs1;have C1:=Lib.hid (leftInts_any w1 sa n c sb c' s hs hn hc (hr.no t1) (hr'.no t1));have C2:=Lib.hid (fun(wx:World) (t:Touch No w wx)=>leftInts_any wx la m d lb d' l hl hm hd (hr2.no t) (hr2'.no t));have y0:w1.cell? ⟨X,0,none⟩=some (.int .u8 kd):=R1.cell 0;have y1:w1.cell? ⟨X,1,none⟩=some (.slice sa n c):=R1.cell 1;have x0:w1.cell? ⟨X+1,0,none⟩=some (.int .u8 kd):=R2.cell 0;have x1:w1.cell? ⟨X+1,1,none⟩=some (.slice sb n c'):=R2.cell 1;have HT1:=Lib.hid t1;have HR:=Lib.hid (aI R1 R2);have hb:(kd==kd)=true:=by simp
 have hbN:(N==N)=true:=by simp
 have hbP:(P==P)=true:=by simp
 clear hr hr2 hr' hr2' hs hl hc hd t1 R1 R2 hs1;go_enter Tryz.func50,Tryz.ntmps50;go_upto_region 1 with fail;rw[← hw1,← hX];clear hw1 hX;go_wp2_with fail;refine C1.out.mono ?_;rintro e w2 ⟨rfl,t2⟩;have HT2:=Lib.hid (HT1.out.trans t2);have HR2:=Lib.hid (aI (HR.out.1.touch t2 id) (HR.out.2.touch t2 id));clear C1 t2 y0 y1 x0 x1 HR;have y2:w2.cell? ⟨X,2,none⟩=some (.slice la m d):=HR2.out.1.cell 2;have x2:w2.cell? ⟨X+1,2,none⟩=some (.slice lb m d'):=HR2.out.2.cell 2;go_wp2_with fail;refine(C2.out w2 HT2.out).mono ?_;rintro e w3 ⟨rfl,t3⟩;have HT3:=Lib.hid (HT2.out.trans t3);have y3:w3.cell? ⟨X,3,none⟩=some (.int .i64 N):=(HR2.out.1.touch t3 id).cell 3;have y4:w3.cell? ⟨X,4,none⟩=some (.int .i64 P):=(HR2.out.1.touch t3 id).cell 4;have x3:w3.cell? ⟨X+1,3,none⟩=some (.int .i64 N):=(HR2.out.2.touch t3 id).cell 3;have x4:w3.cell? ⟨X+1,4,none⟩=some (.int .i64 P):=(HR2.out.2.touch t3 id).cell 4;clear C2 t3 y2 x2;go_wp2;go_ret;exact⟨rfl,HT3.out⟩
theorem leftTs_in (w:World)(a' a:Option Addr)(n c' c:Nat)(Ws:List Me.Raw)(hL:LIn 2 (withMark n (TEl Ws) MarkT) w a' (n+1))(hcc:n<c')(hW:WsIn w a Ws)(hl:Ws.length=n)(hn:n≤2000000) :
  Calls Tryz.prog 15 #[.slice a' n c',.slice a n c] w fun e w'=>e = .returned (.bool true)∧Touch No w w':=by
 have HW:=Lib.hid hW;have Hl:=Lib.hid hl;have HL:=Lib.hid hL;have HS:Hid (Stays (withMark n (TEl Ws) MarkT)):=stays_mark (tEl_stays _) markT_stays;obtain⟨J,hj0,hj1,hj2,hj3⟩:=info_Ten;have hhead:=fun wx:World=>run_headS (P:=Tryz.prog) Tryz.underlying25 hj0 a' n c' (n+1) .i64 hcc wx
 have Hhead:=Lib.hid hhead;have hcd:decide (c'≤n)=false:=decide_eq_false (by omega);have hnb:((n:Int) != (n:Int))=false:=by simp
 clear hW hl hL hj0 hj1 hj2 hj3 hhead;go_enter Tryz.func15,Tryz.ntmps15;go_wp2;clear hcd hnb
 go_loopg [5] n (fun g s5 wr=>∃k:Nat,k+g=n∧s5 = .int .i64 ((k:Nat):Int)∧Hid (Touch No w wr))
 case atStart=>exact⟨0,by omega,rfl,Touch.refl _ _⟩
 case round =>
  obtain⟨k,hkg,rfl,T⟩:=hrel;cases gk with
  | zero =>
    obtain rfl:k=n:=by omega
    obtain⟨w9,hw9⟩:∃w9:World,w9=wr:=⟨_,rfl⟩;subst hw9;obtain⟨b9,o9,e9,rfl,_,hc9,hE⟩:=(HL.out.no HS.out T.out) k (by omega);unfold withMark at hE;rw[if_neg (Nat.lt_irrefl _)]at hE;obtain⟨ma,cm,rfl,hmk⟩:=hE;obtain⟨mb,mo,rfl,hmc⟩:=hmk 0 _ rfl;have hmc:w9.cell? ⟨mb,mo,none⟩=some (.int .i64 77):=by simpa using hmc
    have hmcA:∀o:Obj,(w9.alloc o).cell? ⟨mb,mo,none⟩=some (.int .i64 77):=fun o=>((Touch.refl No w9).alloc o).cell id hmc
    have m0:=(by have h:=hc9 0 _ rfl;rw[Nat.add_zero]at h;exact h);have m1:=(by have h:=hc9 1 _ rfl;rw[← Nat.add_assoc]at h;exact h);have hhead:=Hhead.out;have hkk:(k:Int)<(k:Int)+1:=by omega
    go_wp2;go_ret;exact⟨rfl,T.out.trans ((Touch.refl No w9).alloc _)⟩
  | succ g =>
    have hlt:(k:Int)<(n:Nat):=by omega
    obtain⟨b,o,ea,en,ec,la,em,ed,rfl,z0,z1,hEl⟩:=(HW.out.no T.out) k (by rw[Hl.out];omega);obtain⟨b2,o2,e2,rfl,_,hc2,hE⟩:=(HL.out.no HS.out T.out) k (by omega);unfold withMark at hE;rw[if_pos (by omega)]at hE;obtain⟨ta,tn,tc,tl,tm,td,rfl,hEt,hk1,hk2,hk3,hk4⟩:=hE;obtain rfl:tn=en:=by rw[← hEt.sn,← hEl.sn]
    obtain rfl:tm=em:=by rw[← hEt.lm,← hEl.lm]
    have q0:=KW.cell z0;have q1:=KW.cell z1;have p0:=KW.cell (by have h:=hc2 0 _ rfl;rw[Nat.add_zero]at h;exact h);have p1:=KW.cell (by have h:=hc2 1 _ rfl;rw[← Nat.add_assoc]at h;exact h);have C:=Lib.hid (fun p:KW wr=>leftT_any p.wd ta tl ea la tn tc tm td ec ed (Me.rawAt Ws k).1 (Me.rawAt Ws k).2 hEl.sn (by have:=hEl.s6;omega) hk1 (hk3.no p.no) hEl.lm (by have:=hEl.l6;omega) hk2 (hk4.no p.no) (hEl.sr.no p.no) (hEl.lr.no p.no));clear hc2 hEl hEt hk1 hk2 hk3 hk4 z0 z1;go_upto_region 6 with fail;refine wp_region_kept (by kernel_rfl) (by kernel_rfl) ?_;repeat (first|go_big_quiet_step (with_reducible exact Calls.kept_of (C.out _))|quiet_step (with_reducible exact Calls.kept_of (C.out _)))
    refine wpQuiet_nil ?_;intro _ hw';obtain⟨kw,hw''⟩:=hw';subst hw'';obtain⟨wk,tk⟩:=kw;have tk:=Lib.hid tk;dsimp only;have T2:=Lib.hid (T.out.trans tk.out);clear q0 p0 q1 p1 C;go_wp2
    go_roundg g
    case measure=>omega
    case rel=>exact⟨k+1,by omega,by go_num,T2⟩
theorem leftNs_in (w:World)(a' a:Option Addr)(n c' c:Nat)(Ns:List Me.Node)(hL:LIn 5 (withMark n (NEl Ns) MarkN) w a' (n+1))(hcc:n<c')(hW:NsIn w a Ns)(hl:Ns.length=n)(hn:n≤2000000) :
  Calls Tryz.prog 30 #[.slice a' n c',.slice a n c] w fun e w'=>e = .returned (.bool true)∧Touch No w w':=by
 have HW:=Lib.hid hW;have Hl:=Lib.hid hl;have HL:=Lib.hid hL;have HS:Hid (Stays (withMark n (NEl Ns) MarkN)):=stays_mark (nEl_stays _) markN_stays;obtain⟨J,hj0,hj1,hj2,hj3⟩:=info_Nod;have hhead:=fun wx:World=>run_headS (P:=Tryz.prog) Tryz.underlying22 hj0 a' n c' (n+1) .i64 hcc wx
 have Hhead:=Lib.hid hhead;have hcd:decide (c'≤n)=false:=decide_eq_false (by omega);have hnb:((n:Int) != (n:Int))=false:=by simp
 clear hW hl hL hj0 hj1 hj2 hj3 hhead;go_enter Tryz.func30,Tryz.ntmps30;go_wp2;clear hcd hnb
 go_loopg [5] n (fun g s5 wr=>∃k:Nat,k+g=n∧s5 = .int .i64 ((k:Nat):Int)∧Hid (Touch No w wr))
 case atStart=>exact⟨0,by omega,rfl,Touch.refl _ _⟩
 case round =>
  obtain⟨k,hkg,rfl,T⟩:=hrel;cases gk with
  | zero =>
    obtain rfl:k=n:=by omega
    obtain⟨w9,hw9⟩:∃w9:World,w9=wr:=⟨_,rfl⟩;subst hw9;obtain⟨b9,o9,e9,rfl,_,hc9,hE⟩:=(HL.out.no HS.out T.out) k (by omega);unfold withMark at hE;rw[if_neg (Nat.lt_irrefl _)]at hE;have hE2:e9=[.int .u8 0,.slice none 0 0,.slice none 0 0,.int .i64 77,.int .i64 0]:=hE;subst hE2;have m0:=(by have h:=hc9 0 _ rfl;rw[Nat.add_zero]at h;exact h);have m1:=(by have h:=hc9 1 _ rfl;rw[← Nat.add_assoc]at h;exact h);have m2:=(by have h:=hc9 2 _ rfl;rw[← Nat.add_assoc]at h;exact h);have m3:=(by have h:=hc9 3 _ rfl;rw[← Nat.add_assoc]at h;exact h);have m4:=(by have h:=hc9 4 _ rfl;rw[← Nat.add_assoc]at h;exact h);have hhead:=Hhead.out;have hkk:(k:Int)<(k:Int)+1:=by omega
    go_wp2;go_ret;exact⟨rfl,T.out.trans ((Touch.refl No w9).alloc _)⟩
  | succ g =>
    have hlt:(k:Int)<(n:Nat):=by omega
    obtain⟨b,o,ea,en,ec,la,em,ed,rfl,⟨z0,z1,z2,z3,z4⟩,hEl⟩:=(HW.out.no T.out) k (by rw[Hl.out];omega);obtain⟨kd,hkd⟩:∃z,(((Me.nodeAt Ns k).kind:Nat):Int)=z:=⟨_,rfl⟩;obtain⟨NN,hNN⟩:∃z,(Me.nodeAt Ns k).n=z:=⟨_,rfl⟩;obtain⟨PP,hPP⟩:∃z,(Me.nodeAt Ns k).pad=z:=⟨_,rfl⟩;rw[hkd]at z0;rw[hNN]at z3;rw[hPP]at z4;obtain⟨b2,o2,e2,rfl,_,hc2,hE⟩:=(HL.out.no HS.out T.out) k (by omega);unfold withMark at hE;rw[if_pos (by omega)]at hE;obtain⟨ta,tn,tc,tl,tm,td,rfl,hEt,hk1,hk2,hk3,hk4⟩:=hE;rw[hkd,hNN,hPP]at hc2;obtain rfl:tn=en:=by rw[← hEt.il,← hEl.il]
    obtain rfl:tm=em:=by rw[← hEt.sl,← hEl.sl]
    have q0:=KW.cell z0;have q1:=KW.cell z1;have q2:=KW.cell z2;have q3:=KW.cell z3;have q4:=KW.cell z4;have p0:=KW.cell (by have h:=hc2 0 _ rfl;rw[Nat.add_zero]at h;exact h);have p1:=KW.cell (by have h:=hc2 1 _ rfl;rw[← Nat.add_assoc]at h;exact h);have p2:=KW.cell (by have h:=hc2 2 _ rfl;rw[← Nat.add_assoc]at h;exact h);have p3:=KW.cell (by have h:=hc2 3 _ rfl;rw[← Nat.add_assoc]at h;exact h);have p4:=KW.cell (by have h:=hc2 4 _ rfl;rw[← Nat.add_assoc]at h;exact h);have C:=Lib.hid (fun p:KW wr=>leftNode_in p.wd ta tl ea la tn tc tm td ec ed kd NN PP (Me.nodeAt Ns k).inn (Me.nodeAt Ns k).shape hEl.il (by have:=hEl.i6;omega) hk1 (hk3.no p.no) hEl.sl (by have:=hEl.s6;omega) hk2 (hk4.no p.no) (hEl.ir.no p.no) (hEl.sr.no p.no));clear hc2 hEl hEt hk1 hk2 hk3 hk4 z0 z1 z2 z3 z4;go_upto_region 6 with fail;refine wp_region_kept (by kernel_rfl) (by kernel_rfl) ?_;repeat (first|go_big_quiet_step (with_reducible exact Calls.kept_of (C.out _))|quiet_step (with_reducible exact Calls.kept_of (C.out _)))
    refine wpQuiet_nil ?_;intro _ hw';obtain⟨kw,hw''⟩:=hw';subst hw'';obtain⟨wk,tk⟩:=kw;have tk:=Lib.hid tk;dsimp only;have T2:=Lib.hid (T.out.trans tk.out);clear q0 p0 q1 p1 q2 p2 q3 p3 q4 p4 C;go_wp2
    go_roundg g
    case measure=>omega
    case rel=>exact⟨k+1,by omega,by go_num,T2⟩
theorem leftRs_in (w:World)(a' a:Option Addr)(n c' c:Nat)(Rc:List (Int × Me.Raw))(hL:LIn 3 (withMark n (REl Rc) MarkR) w a' (n+1))(hcc:n<c')(hW:RcIn w a Rc)(hl:Rc.length=n)(hn:n≤2000000) :
  Calls Tryz.prog 16 #[.slice a' n c',.slice a n c] w fun e w'=>e = .returned (.bool true)∧Touch No w w':=by
 have HW:=Lib.hid hW;have Hl:=Lib.hid hl;have HL:=Lib.hid hL;have HS:Hid (Stays (withMark n (REl Rc) MarkR)):=stays_mark (rEl_stays _) markR_stays;obtain⟨J,hj0,hj1,hj2,hj3⟩:=info_Rec;have hhead:=fun wx:World=>run_headS (P:=Tryz.prog) Tryz.underlying29 hj0 a' n c' (n+1) .i64 hcc wx
 have Hhead:=Lib.hid hhead;have hcd:decide (c'≤n)=false:=decide_eq_false (by omega);have hnb:((n:Int) != (n:Int))=false:=by simp
 clear hW hl hL hj0 hj1 hj2 hj3 hhead;go_enter Tryz.func16,Tryz.ntmps16;go_wp2;clear hcd hnb
 go_loopg [5] n (fun g s5 wr=>∃k:Nat,k+g=n∧s5 = .int .i64 ((k:Nat):Int)∧Hid (Touch No w wr))
 case atStart=>exact⟨0,by omega,rfl,Touch.refl _ _⟩
 case round =>
  obtain⟨k,hkg,rfl,T⟩:=hrel;cases gk with
  | zero =>
    obtain rfl:k=n:=by omega
    obtain⟨w9,hw9⟩:∃w9:World,w9=wr:=⟨_,rfl⟩;subst hw9;obtain⟨b9,o9,e9,rfl,_,hc9,hE⟩:=(HL.out.no HS.out T.out) k (by omega);unfold withMark at hE;rw[if_neg (Nat.lt_irrefl _)]at hE;have hE2:e9=[.int .u32 77,.slice none 0 0,.slice none 0 0]:=hE;subst hE2;have m0:=(by have h:=hc9 0 _ rfl;rw[Nat.add_zero]at h;exact h);have m1:=(by have h:=hc9 1 _ rfl;rw[← Nat.add_assoc]at h;exact h);have m2:=(by have h:=hc9 2 _ rfl;rw[← Nat.add_assoc]at h;exact h);have hhead:=Hhead.out;have hkk:(k:Int)<(k:Int)+1:=by omega
    go_wp2;go_ret;exact⟨rfl,T.out.trans ((Touch.refl No w9).alloc _)⟩
  | succ g =>
    have hlt:(k:Int)<(n:Nat):=by omega
    obtain⟨b,o,ea,en,ec,la,em,ed,rfl,z0,z1,z2,hEl⟩:=(HW.out.no T.out) k (by rw[Hl.out];omega);replace z0:wr.cell? ⟨b,o+k*3,none⟩=some (.int .u32 (Me.recAt Rc k).1):=z0;replace hEl:RIn wr ea en ec la em ed (Me.recAt Rc k).2:=hEl;obtain⟨ix,hix⟩:∃z,(Me.recAt Rc k).1=z:=⟨_,rfl⟩;rw[hix]at z0;obtain⟨b2,o2,e2,rfl,_,hc2,hE⟩:=(HL.out.no HS.out T.out) k (by omega);unfold withMark at hE;rw[if_pos (by omega)]at hE;obtain⟨e',rfl,ta,tn,tc,tl,tm,td,rfl,hEt,hk1,hk2,hk3,hk4⟩:=hE;rw[hix]at hc2;replace hEt:RIn wr ta tn tc tl tm td (Me.recAt Rc k).2:=hEt;obtain rfl:tn=en:=by rw[← hEt.sn,← hEl.sn]
    obtain rfl:tm=em:=by rw[← hEt.lm,← hEl.lm]
    have q0:=KW.cell z0;have q1:=KW.cell z1;have q2:=KW.cell z2;have p0:=KW.cell (by have h:=hc2 0 _ rfl;rw[Nat.add_zero]at h;exact h);have p1:=KW.cell (by have h:=hc2 1 _ rfl;rw[← Nat.add_assoc]at h;exact h);have p2:=KW.cell (by have h:=hc2 2 _ rfl;rw[← Nat.add_assoc]at h;exact h);have C:=Lib.hid (fun p:KW wr=>leftRec_in p.wd ta tl ea la tn tc tm td ec ed ix (Me.recAt Rc k).2.1 (Me.recAt Rc k).2.2 hEl.sn (by have:=hEl.s6;omega) hk1 (hk3.no p.no) hEl.lm (by have:=hEl.l6;omega) hk2 (hk4.no p.no) (hEl.sr.no p.no) (hEl.lr.no p.no));clear hc2 hEl hEt hk1 hk2 hk3 hk4 z0 z1 z2;go_upto_region 6 with fail;refine wp_region_kept (by kernel_rfl) (by kernel_rfl) ?_;repeat (first|go_big_quiet_step (with_reducible exact Calls.kept_of (C.out _))|quiet_step (with_reducible exact Calls.kept_of (C.out _)))
    refine wpQuiet_nil ?_;intro _ hw';obtain⟨kw,hw''⟩:=hw';subst hw'';obtain⟨wk,tk⟩:=kw;have tk:=Lib.hid tk;dsimp only;have T2:=Lib.hid (T.out.trans tk.out);clear q0 p0 q1 p1 q2 p2 C;go_wp2
    go_roundg g
    case measure=>omega
    case rel=>exact⟨k+1,by omega,by go_num,T2⟩
end
section
open Go Go.RowKit
theorem leftGraph_in (w:World)(a' a:Option Addr)(n c' c:Nat)(Ns:List Me.Node)(hL:LIn 5 (withMark n (NEl Ns) MarkN) w a' (n+1))(hcc:n<c')(hW:NsIn w a Ns)(hl:Ns.length=n)(hn:n≤2000000) :
  Calls Tryz.prog 14 #[.agg #[.slice a' n c'],.agg #[.slice a n c]] w fun e w'=>e = .returned (.bool true)∧Touch No w w':=by
 obtain⟨w1,hw1,t1,R1,R2,hs1⟩:=rows_2 w [.slice a' n c'] [.slice a n c] 24 24;obtain⟨X,hX⟩:∃X,X=w.heap.size:=⟨_,rfl⟩;rw[← hX]at R1 R2 hs1;have C:=Lib.hid (leftNs_in w1 a' a n c' c Ns (hL.no (stays_mark (nEl_stays _) markN_stays) t1) hcc (hW.no t1) hl hn);have y0:w1.cell? ⟨X,0,none⟩=some (.slice a' n c'):=R1.cell 0;have y1:w1.cell? ⟨X+1,0,none⟩=some (.slice a n c):=R2.cell 0;have HT1:=Lib.hid t1;clear hL hW hl hn t1 R1 R2 hs1;go_enter Tryz.func14,Tryz.ntmps14;go_upto_region 1 with fail;rw[← hw1,← hX];clear hw1 hX;go_wp2_with fail;refine C.out.mono ?_;rintro e w2 ⟨rfl,t2⟩;have HT2:=Lib.hid (HT1.out.trans t2);clear C y0 y1 t2;go_wp2;go_ret;exact⟨rfl,HT2.out⟩
theorem intsSize_any (w:World)(a:Option Addr)(n c:Nat):Calls Tryz.prog 36 #[.slice a n c] w fun e w'=>e = .returned (.int .i64 ((n:Nat):Int))∧w=w':=by
 go_enter Tryz.func36,Tryz.ntmps36;go_wp2;go_ret;exact⟨rfl,rfl⟩
theorem numbersSize_any (w:World)(a:Option Addr)(n c:Nat):Calls Tryz.prog 37 #[.slice a n c] w fun e w'=>e = .returned (.int .i64 ((n:Nat):Int))∧w=w':=by
 go_enter Tryz.func37,Tryz.ntmps37;go_wp2;go_ret;exact⟨rfl,rfl⟩
def eSize (n m:Nat):Nat:=if 1+n≤1048576 then 1+n+m else 1+n
theorem nodeSize_any (w:World)(sa la:Option Addr)(n c m d:Nat)(kd NN PP:Int)(hn:n≤2000000)(hm:m≤2000000) :
  Calls Tryz.prog 53 #[.agg #[.int .u8 kd,.slice sa n c,.slice la m d,.int .i64 NN,.int .i64 PP]] w fun e w'=>e = .returned (.int .i64 ((eSize n m:Nat):Int))∧Touch No w w':=by
 obtain⟨w1,hw1,t1,R1⟩:=box_row w [.int .u8 kd,.slice sa n c,.slice la m d,.int .i64 NN,.int .i64 PP] 55;obtain⟨X,hX⟩:∃X,X=w.heap.size:=⟨_,rfl⟩;rw[← hX]at R1;have y0:w1.cell? ⟨X,1,none⟩=some (.slice sa n c):=R1.cell 1;have y1:w1.cell? ⟨X,2,none⟩=some (.slice la m d):=R1.cell 2;have HT1:=Lib.hid t1;clear t1 R1;have C1:=Lib.hid (intsSize_any w1 sa n c);have C2:=Lib.hid (intsSize_any w1 la m d);have e1:IntKind.i64.wrap (1+(n:Int))=((1+n:Nat):Int):=by rw[Int.natCast_add];exact IntWalk.i64_in _ (by omega)
 have e2:IntKind.i64.wrap (((1+n:Nat):Int)+(m:Int))=((1+n+m:Nat):Int):=by rw[← Int.natCast_add];exact IntWalk.i64_in _ (by omega)
 obtain⟨q,hq⟩:∃q,1+n=q:=⟨_,rfl⟩;rw[hq]at e1 e2;obtain⟨q2,hq2⟩:∃q2,q+m=q2:=⟨_,rfl⟩;rw[hq2]at e2;have HZ:Hid (eSize n m=if q≤1048576 then q2 else q):=by show _=_;rw[eSize,hq,hq2]
 clear hq hq2;go_enter Tryz.func53,Tryz.ntmps53;go_upto_region 2 with fail;rw[← hw1,← hX];clear hw1 hX;go_wp2_with fail;refine C1.out.mono ?_;rintro e w2 ⟨rfl,rfl⟩
 by_cases hle:q≤1048576
 ·have hd:decide ((q:Int)≤1048576)=true:=by simp;omega
  go_wp2_with fail;refine C2.out.mono ?_;rintro e w2 ⟨rfl,rfl⟩;go_wp2;go_ret;exact⟨by rw[HZ.out,if_pos hle];rfl,HT1.out⟩
 ·have hd:decide ((q:Int)≤1048576)=false:=by simp;omega
  go_wp2;go_ret;exact⟨by rw[HZ.out,if_neg hle];rfl,HT1.out⟩
theorem tenSize_any (w:World)(sa la:Option Addr)(n c m d:Nat)(hn:n≤2000000)(hm:m≤2000000) :
  Calls Tryz.prog 19 #[.agg #[.slice sa n c,.slice la m d]] w fun e w'=>e = .returned (.int .i64 ((eSize n m:Nat):Int))∧Touch No w w':=by
 obtain⟨w1,hw1,t1,R1⟩:=box_row w [.slice sa n c,.slice la m d] 51;obtain⟨X,hX⟩:∃X,X=w.heap.size:=⟨_,rfl⟩;rw[← hX]at R1;have y0:w1.cell? ⟨X,0,none⟩=some (.slice sa n c):=R1.cell 0;have y1:w1.cell? ⟨X,1,none⟩=some (.slice la m d):=R1.cell 1;have HT1:=Lib.hid t1;clear t1 R1;have C1:=Lib.hid (intsSize_any w1 sa n c);have C2:=Lib.hid (numbersSize_any w1 la m d);have e1:IntKind.i64.wrap (1+(n:Int))=((1+n:Nat):Int):=by rw[Int.natCast_add];exact IntWalk.i64_in _ (by omega)
 have e2:IntKind.i64.wrap (((1+n:Nat):Int)+(m:Int))=((1+n+m:Nat):Int):=by rw[← Int.natCast_add];exact IntWalk.i64_in _ (by omega)
 obtain⟨q,hq⟩:∃q,1+n=q:=⟨_,rfl⟩;rw[hq]at e1 e2;obtain⟨q2,hq2⟩:∃q2,q+m=q2:=⟨_,rfl⟩;rw[hq2]at e2;have HZ:Hid (eSize n m=if q≤1048576 then q2 else q):=by show _=_;rw[eSize,hq,hq2]
 clear hq hq2;go_enter Tryz.func19,Tryz.ntmps19;go_upto_region 2 with fail;rw[← hw1,← hX];clear hw1 hX;go_wp2_with fail;refine C1.out.mono ?_;rintro e w2 ⟨rfl,rfl⟩
 by_cases hle:q≤1048576
 ·have hd:decide ((q:Int)≤1048576)=true:=by simp;omega
  go_wp2_with fail;refine C2.out.mono ?_;rintro e w2 ⟨rfl,rfl⟩;go_wp2;go_ret;exact⟨by rw[HZ.out,if_pos hle];rfl,HT1.out⟩
 ·have hd:decide ((q:Int)≤1048576)=false:=by simp;omega
  go_wp2;go_ret;exact⟨by rw[HZ.out,if_neg hle];rfl,HT1.out⟩
def NsLen (w:World)(a:Option Addr)(Ls:List (Nat × Nat)):Prop:=∀j,j<Ls.length→∃b o sa nn c la mm d kd NN PP,a=some ⟨b,o,none⟩∧(w.cell? ⟨b,o+j*5,none⟩=some (.int .u8 kd)∧w.cell? ⟨b,o+j*5+1,none⟩=some (.slice sa nn c)∧w.cell? ⟨b,o+j*5+2,none⟩=some (.slice la mm d)∧w.cell? ⟨b,o+j*5+3,none⟩=some (.int .i64 NN)∧w.cell? ⟨b,o+j*5+4,none⟩=some (.int .i64 PP))∧nn=(Ls.getD j (0,0)).1∧mm=(Ls.getD j (0,0)).2∧nn≤2000000∧mm≤2000000
theorem nodesSize_any (w:World)(a:Option Addr)(n c:Nat)(Ls:List (Nat × Nat))(hW:NsLen w a Ls)(hl:Ls.length=n)(hn:n≤2000000) :
  Calls Tryz.prog 33 #[.slice a n c] w fun e w'=>∃z:Nat,e = .returned (.int .i64 ((z:Nat):Int))∧z≤10000000∧(z≤300→n≤300∧∀j,j<n→(Ls.getD j (0,0)).1≤300∧(Ls.getD j (0,0)).2≤300)∧Touch No w w':=by
 have HW:=Lib.hid hW;have Hl:=Lib.hid hl;clear hW hl;go_enter Tryz.func33,Tryz.ntmps33;go_wp2
 go_loopg [3,4] n (fun g s3 s4 wr=>∃(k z:Nat),k+g=n∧s4 = .int .i64 ((k:Nat):Int)∧s3 = .int .i64 ((z:Nat):Int)∧Hid (z≤10000000)∧Hid (z≤300→n≤300∧∀j,j<k→(Ls.getD j (0,0)).1≤300∧(Ls.getD j (0,0)).2≤300)∧Hid (Touch No w wr))
 case atStart=>exact⟨0,n,by omega,rfl,rfl,(show n≤10000000 by omega),fun h=>⟨h,fun j hj=>absurd hj (Nat.not_lt_zero j)⟩,Touch.refl _ _⟩
 case round =>
  obtain⟨k,z,hkg,rfl,rfl,HZ,HB,T⟩:=hrel;cases gk with
  | zero =>
    obtain rfl:k=n:=by omega
    go_wp2;go_ret;exact⟨z,rfl,HZ.out,HB.out,T.out⟩
  | succ g =>
    have hlt:(k:Int)<(n:Nat):=by omega
    by_cases hle:z≤1048576
    ·have hd:decide ((z:Int)≤1048576)=true:=by simp;omega
     obtain⟨b,o,sa,nn,c1,la,mm,d,kd,NN,PP,rfl,⟨z0,z1,z2,z3,z4⟩,hnn,hmm,hn6,hm6⟩:=HW.out k (by rw[Hl.out];omega);replace z0:=T.out.cell id z0;replace z1:=T.out.cell id z1;replace z2:=T.out.cell id z2;replace z3:=T.out.cell id z3;replace z4:=T.out.cell id z4;have C:=Lib.hid (nodeSize_any wr sa la nn c1 mm d kd NN PP hn6 hm6);have hE:eSize nn mm≤4000001:=by unfold eSize;split <;> omega
     have HE:Hid (eSize nn mm≤300→nn≤300∧mm≤300):=by show _→_;unfold eSize;intro h;split at h <;> omega
     have HN:=Lib.hid (aI hnn hmm);obtain⟨q,hq⟩:∃q,eSize nn mm=q:=⟨_,rfl⟩;rw[hq]at C hE HE;obtain⟨zq,hzq⟩:∃zq,z+q=zq:=⟨_,rfl⟩;have e1:IntKind.i64.wrap ((z:Int)+(q:Int))=((zq:Nat):Int):=by rw[← Int.natCast_add,hzq];exact IntWalk.i64_in _ (by omega)
     have HB2:Hid (zq≤300→n≤300∧∀j,j<k+1→(Ls.getD j (0,0)).1≤300∧(Ls.getD j (0,0)).2≤300):=fun h=>by
      obtain⟨h1,h2⟩:=HB.out (by omega);refine⟨h1,fun j hj=>?_⟩
      by_cases hjk:j<k
      ·exact h2 j hjk
      ·have e:j=k:=by omega
       subst e;rw[← HN.out.1,← HN.out.2];exact HE.out (by omega)
     have HZ2:Hid (zq≤10000000):=(show zq≤10000000 by omega);clear hq hzq hnn hmm hE;go_wp2_with fail;refine C.out.mono ?_;rintro e w5 ⟨rfl,t5⟩;have T5:=Lib.hid (T.out.trans t5);clear z0 z1 z2 z3 z4 C t5;go_wp2
     go_roundg g
     case measure=>omega
     case rel=>exact⟨k+1,zq,by omega,by go_num,rfl,HZ2,HB2,T5⟩
    ·have hd:decide ((z:Int)≤1048576)=false:=by simp;omega
     go_wp2;go_ret;exact⟨z,rfl,HZ.out,fun h=>absurd h (by omega),T.out⟩
def WsLen (w:World)(a:Option Addr)(Ls:List (Nat × Nat)):Prop:=∀j,j<Ls.length→∃b o sa nn c la mm d,a=some ⟨b,o,none⟩∧(w.cell? ⟨b,o+j*2,none⟩=some (.slice sa nn c)∧w.cell? ⟨b,o+j*2+1,none⟩=some (.slice la mm d))∧nn=(Ls.getD j (0,0)).1∧mm=(Ls.getD j (0,0)).2∧nn≤2000000∧mm≤2000000
theorem tensSize_any (w:World)(a:Option Addr)(n c:Nat)(Ls:List (Nat × Nat))(hW:WsLen w a Ls)(hl:Ls.length=n)(hn:n≤2000000) :
  Calls Tryz.prog 5 #[.slice a n c] w fun e w'=>∃z:Nat,e = .returned (.int .i64 ((z:Nat):Int))∧z≤10000000∧(z≤300→n≤300∧∀j,j<n→(Ls.getD j (0,0)).1≤300∧(Ls.getD j (0,0)).2≤300)∧Touch No w w':=by
 have HW:=Lib.hid hW;have Hl:=Lib.hid hl;clear hW hl;go_enter Tryz.func5,Tryz.ntmps5;go_wp2
 go_loopg [3,4] n (fun g s3 s4 wr=>∃(k z:Nat),k+g=n∧s4 = .int .i64 ((k:Nat):Int)∧s3 = .int .i64 ((z:Nat):Int)∧Hid (z≤10000000)∧Hid (z≤300→n≤300∧∀j,j<k→(Ls.getD j (0,0)).1≤300∧(Ls.getD j (0,0)).2≤300)∧Hid (Touch No w wr))
 case atStart=>exact⟨0,n,by omega,rfl,rfl,(show n≤10000000 by omega),fun h=>⟨h,fun j hj=>absurd hj (Nat.not_lt_zero j)⟩,Touch.refl _ _⟩
 case round =>
  obtain⟨k,z,hkg,rfl,rfl,HZ,HB,T⟩:=hrel;cases gk with
  | zero =>
    obtain rfl:k=n:=by omega
    go_wp2;go_ret;exact⟨z,rfl,HZ.out,HB.out,T.out⟩
  | succ g =>
    have hlt:(k:Int)<(n:Nat):=by omega
    by_cases hle:z≤1048576
    ·have hd:decide ((z:Int)≤1048576)=true:=by simp;omega
     obtain⟨b,o,sa,nn,c1,la,mm,d,rfl,⟨z0,z1⟩,hnn,hmm,hn6,hm6⟩:=HW.out k (by rw[Hl.out];omega);replace z0:=T.out.cell id z0;replace z1:=T.out.cell id z1;have C:=Lib.hid (tenSize_any wr sa la nn c1 mm d hn6 hm6);have hE:eSize nn mm≤4000001:=by unfold eSize;split <;> omega
     have HE:Hid (eSize nn mm≤300→nn≤300∧mm≤300):=by show _→_;unfold eSize;intro h;split at h <;> omega
     have HN:=Lib.hid (aI hnn hmm);obtain⟨q,hq⟩:∃q,eSize nn mm=q:=⟨_,rfl⟩;rw[hq]at C hE HE;obtain⟨zq,hzq⟩:∃zq,z+q=zq:=⟨_,rfl⟩;have e1:IntKind.i64.wrap ((z:Int)+(q:Int))=((zq:Nat):Int):=by rw[← Int.natCast_add,hzq];exact IntWalk.i64_in _ (by omega)
     have HB2:Hid (zq≤300→n≤300∧∀j,j<k+1→(Ls.getD j (0,0)).1≤300∧(Ls.getD j (0,0)).2≤300):=fun h=>by
      obtain⟨h1,h2⟩:=HB.out (by omega);refine⟨h1,fun j hj=>?_⟩
      by_cases hjk:j<k
      ·exact h2 j hjk
      ·have e:j=k:=by omega
       subst e;rw[← HN.out.1,← HN.out.2];exact HE.out (by omega)
     have HZ2:Hid (zq≤10000000):=(show zq≤10000000 by omega);clear hq hzq hnn hmm hE;go_wp2_with fail;refine C.out.mono ?_;rintro e w5 ⟨rfl,t5⟩;have T5:=Lib.hid (T.out.trans t5);clear z0 z1 C t5;go_wp2
     go_roundg g
     case measure=>omega
     case rel=>exact⟨k+1,zq,by omega,by go_num,rfl,HZ2,HB2,T5⟩
    ·have hd:decide ((z:Int)≤1048576)=false:=by simp;omega
     go_wp2;go_ret;exact⟨z,rfl,HZ.out,fun h=>absurd h (by omega),T.out⟩
theorem graphSize_any (w:World)(a:Option Addr)(n c:Nat)(Ls:List (Nat × Nat))(hW:NsLen w a Ls)(hl:Ls.length=n)(hn:n≤2000000) :
  Calls Tryz.prog 17 #[.agg #[.slice a n c]] w fun e w'=>∃z:Nat,e = .returned (.int .i64 ((z:Nat):Int))∧z≤20000000∧(z≤300→n≤300∧∀j,j<n→(Ls.getD j (0,0)).1≤300∧(Ls.getD j (0,0)).2≤300)∧Touch No w w':=by
 obtain⟨w1,hw1,t1,R1⟩:=box_row w [.slice a n c] 24
 have hW1:NsLen w1 a Ls:=fun j hj=>by
  obtain⟨b,o,sa,nn,c1,la,mm,d,kd,NN,PP,e,⟨z0,z1,z2,z3,z4⟩,h⟩:=hW j hj;exact⟨b,o,sa,nn,c1,la,mm,d,kd,NN,PP,e,⟨t1.cell id z0,t1.cell id z1,t1.cell id z2,t1.cell id z3,t1.cell id z4⟩,h⟩
 have C:=Lib.hid (nodesSize_any w1 a n c Ls hW1 hl hn);have y0:=R1.cell 0;simp only[Lz0]at y0;have HT1:=Lib.hid t1;clear hW hW1 hl t1 R1;go_enter Tryz.func17,Tryz.ntmps17;go_wp2_with fail;rw[← hw1];refine C.out.mono ?_;rintro e w2 ⟨z,rfl,hz,hb,t2⟩;have HT2:=Lib.hid (HT1.out.trans t2);have HB:=Lib.hid hb;have e1:IntKind.i64.wrap (1+(z:Int))=((1+z:Nat):Int):=by rw[Int.natCast_add];exact IntWalk.i64_in _ (by omega)
 clear C y0 t2 hb;go_wp2;go_ret;refine⟨1+z,?_,by omega,fun h=>HB.out (by omega),HT2.out⟩;simp
end
end Go.Proofs.YtjlphmmalebgpaaGreat
