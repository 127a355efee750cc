/-
  A part of the proof.
-/
import Derived.Test.YtjlphmmalebgpaaGreatK31
import Derived.Test.YtjlphmmalebgpaaGreatK32
set_option linter.unusedSimpArgs false
set_option linter.unusedVariables false
set_option maxHeartbeats 2000000
set_option maxRecDepth 100000
namespace Go.Proofs.YtjlphmmalebgpaaGreat
section
open Go Go.RowKit
namespace Me
noncomputable def opL (x:Node) (Xs:List Ten):List Int :=
 if x.kind=3 then addL (tn Xs 0).2 (tn Xs 1).2
 else if x.kind=4 then mulL (tn Xs 0).2 (tn Xs 1).2
 else if x.kind=5 then reluL (tn Xs 0).2
 else if x.kind=6 then shiftL x.n.toNat (tn Xs 0).2
 else if x.kind=7 then prodL (tn Xs 0).2 (tn Xs 1).2 ((tn Xs 0).1.getD 0 0) ((tn Xs 1).1.getD 0 0) ((tn Xs 1).1.getD 1 0)
 else if x.kind=8 then winL (tn Xs 0).2 (tn Xs 1).2 ((tn Xs 0).1.getD 1 0) ((tn Xs 0).1.getD 2 0) ((tn Xs 1).1.getD 2 0) ((tn Xs 1).1.getD 3 0) ((tn Xs 1).1.getD 1 0*(tn Xs 1).1.getD 2 0*(tn Xs 1).1.getD 3 0) x.n.toNat x.pad.toNat ((winT (tn Xs 0).1 (tn Xs 1).1 x.n.toNat x.pad.toNat).getD 0 0) ((winT (tn Xs 0).1 (tn Xs 1).1 x.n.toNat x.pad.toNat).getD 1 0) ((winT (tn Xs 0).1 (tn Xs 1).1 x.n.toNat x.pad.toNat).getD 2 0)
 else if x.kind=9 then poolL (tn Xs 0).2 ((tn Xs 0).1.getD 1 0) ((tn Xs 0).1.getD 2 0) x.n.toNat ((poolT (tn Xs 0).1 x.n.toNat).getD 0 0) ((poolT (tn Xs 0).1 x.n.toNat).getD 1 0) ((poolT (tn Xs 0).1 x.n.toNat).getD 2 0)
 else if x.kind=10 then(tn Xs 0).2
 else if x.kind=11 then turnL (tn Xs 0).1 (nats x.shape) (tn Xs 0).2
 else if x.kind=12 then joinL Xs x.n.toNat (joinT (Xs.map Prod.fst) x.n.toNat)
 else sumL (tn Xs 0).1 x.n.toNat (tn Xs 0).2
theorem joins_of {Xs:List Ten}{al:Nat}(h:JoinOk (Xs.map Prod.fst) al)(h1:1≤Xs.length)(he:∀x∈Xs,Ok x.1∧x.2.length=pr x.1):Joins Xs al (joinT (Xs.map Prod.fst) al):=by
 obtain⟨ha,hl,hok⟩:=h;have e0:=sh_map (Xs:=Xs) (j:=0) (by omega);have hT:(joinT (Xs.map Prod.fst) al).length=(tn Xs 0).1.length:=by rw[joinT,List.length_set,e0]
 have hmem:∀x∈Xs,∃j,j<Xs.length∧tn Xs j=x:=fun x hx=>by
  obtain⟨j,hj,rfl⟩:=List.getElem_of_mem hx;exact⟨j,hj,by rw[tn,Lgd,Lge hj];rfl⟩
 have hlike:∀j,j<Xs.length→(tn Xs j).1.length=(tn Xs 0).1.length∧∀i,i<(tn Xs 0).1.length→i≠al→(tn Xs j).1.getD i 0=(tn Xs 0).1.getD i 0:=fun j hj=>by
  have:=hl j (by rw[List.length_map];exact hj);rw[likeJ,e0,sh_map hj]at this;exact this
 refine⟨fun x hx=>?_,fun x hx k hk hne=>?_,?_,hok,?_⟩
 ·obtain⟨j,hj,rfl⟩:=hmem x hx
  exact⟨(he _ hx).1,(he _ hx).2,by rw[hT];exact(hlike j hj).1⟩
 ·obtain⟨j,hj,rfl⟩:=hmem x hx
  rw[hT]at hk;rw[(hlike j hj).2 k hk hne,joinT,e0,getD_set_ne (fun e=>hne e.symm)]
 ·rw[hT,← e0];exact ha
 ·rw[joinT,dims_map,getD_set_self (by exact ha)]
end Me
theorem TsIn.ten {w:World}{a:Option Addr}{Xs:List Me.Ten}(h:TsIn w a Xs){j:Nat}(hj:j<Xs.length):∃b o sa n c la m d,a=some ⟨b,o,none⟩∧w.cell? ⟨b,o+j*2,none⟩=some (.slice sa n c)∧w.cell? ⟨b,o+j*2+1,none⟩=some (.slice la m d)∧TIn w sa n c la m d (Me.tn Xs j).1 (Me.tn Xs j).2:=h j hj
theorem TsIn.each {w:World}{a:Option Addr}{Xs:List Me.Ten}(h:TsIn w a Xs):∀x∈Xs,(Me.Ok x.1∧x.2.length=Me.pr x.1)∧∀y∈x.2,-2147483648≤y∧y≤2147483647:=fun x hx=>by
 obtain⟨j,hj,rfl⟩:=List.getElem_of_mem hx;obtain⟨b,o,sa,n,c,la,m,d,_,_,_,hT⟩:=h.ten hj;have e:Me.tn Xs j=Xs[j]:=by rw[Me.tn,Lgd,Lge hj];rfl
 rw[e]at hT;exact⟨⟨hT.ok,by rw[hT.lm,hT.len]⟩,hT.rng⟩
def WinHas:Prop:=∀(w:World) (sa la sb lb:Option Addr) (n c m d n' c' m' d' s p:Nat) (S T U:List Nat) (A B:List Int) (hA:TIn w sa n c la m d S A) (hB:TIn w sb n' c' lb m' d' T B) (hG:Me.WinG S T U s p) (hU:Me.winS S T s p=some U),
    Calls Tryz.prog 156 #[.agg #[.slice sa n c,.slice la m d],.agg #[.slice sb n' c',.slice lb m' d'],.int .i64 ((s:Nat):Int),.int .i64 ((p:Nat):Int)] w
     (TOut w U (Me.winL A B (S.getD 1 0) (S.getD 2 0) (T.getD 2 0) (T.getD 3 0) (T.getD 1 0*T.getD 2 0*T.getD 3 0) s p (U.getD 0 0) (U.getD 1 0) (U.getD 2 0)))
def PoolHas:Prop:=∀(w:World) (sa la:Option Addr) (n c m d s:Nat) (S U:List Nat) (A:List Int) (hA:TIn w sa n c la m d S A) (hG:Me.PoolG S U s) (hU:Me.poolS S s=some U),
    Calls Tryz.prog 148 #[.agg #[.slice sa n c,.slice la m d],.int .i64 ((s:Nat):Int)] w
     (TOut w U (Me.poolL A (S.getD 1 0) (S.getD 2 0) s (U.getD 0 0) (U.getD 1 0) (U.getD 2 0)))
theorem do_in (HW:WinHas)(HPo:PoolHas)(w:World)(ia sa a:Option Addr)(k c n' c' kc:Nat)(x:Me.Node)(Xs:List Me.Ten)(s:List Nat)(hx:NIn w ia k c sa n' c' x)(hok:Me.NodeOk x)(h3:3≤x.kind)(hX:TsIn w a Xs)(hl:Xs.length=k)(hs:Me.shapeOf x (Xs.map Prod.fst)=some s) :
  Calls Tryz.prog 64 #[nodeV ia k c sa n' c' x,.slice a k kc] w (TOut w s (Me.opL x Xs)):=by
 obtain⟨kd,inn,shape,N,P⟩:=x;have hokk:=hok;obtain⟨A,hA,hK⟩:=hok;have hin:inn.length=k:=hx.il;have h1:=hK.le;have h2:=hK.me;have g3:=hK.lo;have g4:=hK.hi;have g5:=hK.sh;have g6:=hK.p0;have g7:=hK.pa;dsimp only at hA h1 h2 g3 g4 g5 g6 g7 h3;rw[hin]at h1 h2
 have hk13:kd≤13:=by
  rcases Nat.lt_or_ge 13 kd with h'|h'
  ·rw[Me.asks_none (by omega)]at hA;cases hA
  ·exact h'
 have hc:kd=3∨kd=4∨kd=5∨kd=6∨kd=7∨kd=8∨kd=9∨kd=10∨kd=11∨kd=12∨kd=13:=by omega
 have hk1:1≤k:=by
  have:1≤A.least:=by
   rcases hc with rfl|rfl|rfl|rfl|rfl|rfl|rfl|rfl|rfl|rfl|rfl <;> simp[Me.asks]at hA <;> subst hA <;> decide
  omega
 have e0:Me.sh (Xs.map Prod.fst) 0=(Me.tn Xs 0).1:=Me.sh_map (by omega);obtain⟨b,o,ta,tn,tc,tl,tm,td,rfl,q0,q1,hT0⟩:=hX.ten (j:=0) (by omega);simp only[Nat.zero_mul,Nat.add_zero]at q0 q1;have hE:=hX.each
 have two:2≤k→∃ua un uc ul um ud,w.cell? ⟨b,o+2,none⟩=some (.slice ua un uc)∧w.cell? ⟨b,o+2+1,none⟩=some (.slice ul um ud)∧TIn w ua un uc ul um ud (Me.tn Xs 1).1 (Me.tn Xs 1).2∧Me.sh (Xs.map Prod.fst) 1=(Me.tn Xs 1).1:=fun h=>by
  obtain⟨b',o',ua,un,uc,ul,um,ud,e,r0,r1,hT1⟩:=hX.ten (j:=1) (by omega);cases e
  exact⟨ua,un,uc,ul,um,ud,by simpa using r0,by simpa using r1,hT1,Me.sh_map (by omega)⟩
 clear hk13;rcases hc with rfl|rfl|rfl|rfl|rfl|rfl|rfl|rfl|rfl|rfl|rfl <;> simp[Me.asks]at hA <;> subst hA <;> simp[Me.ShapedOk]at h1 h2 g3 g4 g5 g6 g7 <;> simp only[Me.shapeOf]at hs <;> simp only[Me.opL] <;> simp at hs ⊢
 ·obtain⟨ua,un,uc,ul,um,ud,r0,r1,hT1,e1⟩:=two (by omega)
  rw[e0,e1]at hs;rw[← hs.1]at hT1;rw[← hs.2];obtain rfl:k=2:=by omega
  exact do_3 w ia sa ta tl ua ul b o tn tc tm td un uc um ud 2 c n' c' kc inn shape N P _ _ hx (by simp[g5]) (by omega) (by omega) rfl q0 q1 r0 r1 (fun wx t=>mathsAdd_in wx ta tl ua ul tn tc tm td un uc um ud _ _ _ (hT0.no t) (hT1.no t))
 ·obtain⟨ua,un,uc,ul,um,ud,r0,r1,hT1,e1⟩:=two (by omega)
  rw[e0,e1]at hs;rw[← hs.1]at hT1;rw[← hs.2];obtain rfl:k=2:=by omega
  exact do_4 w ia sa ta tl ua ul b o tn tc tm td un uc um ud 2 c n' c' kc inn shape N P _ _ hx (by simp[g5]) (by omega) (by omega) rfl q0 q1 r0 r1 (fun wx t=>mathsMul_in wx ta tl ua ul tn tc tm td un uc um ud _ _ _ (hT0.no t) (hT1.no t))
 ·
  rw[e0]at hs;rw[← hs];exact do_5 w ia sa ta tl b o tn tc tm td k c n' c' kc inn shape N P _ _ hx (by simp[g5]) (by omega) (by omega) (by omega) q0 q1 (fun wx t=>deed1_in wx ia sa ta tl 5 k c n' c' tn tc tm td N P _ _ (fun wy ty=>mathsRelu_in wy ta tl tn tc tm td _ _ (hT0.no (t.trans ty))))
 ·
  rw[e0]at hs;rw[← hs];obtain⟨q,hq⟩:∃q:Nat,N.toNat=q:=⟨_,rfl⟩;have hN:N=((q:Nat):Int):=by omega
  rw[hq];clear hq;subst hN;exact do_6 w ia sa ta tl b o tn tc tm td k c n' c' kc inn shape ((q:Nat):Int) P _ _ hx (by simp[g5]) (by omega) (by omega) (by omega) (by omega) q0 q1 (fun wx t=>deed2_in wx ia sa ta tl 6 k c n' c' tn tc tm td _ P _ _ (fun wy ty=>mathsShift_in wy ta tl tn tc tm td _ _ q (by omega) (hT0.no (t.trans ty))))
 ·
  obtain⟨ua,un,uc,ul,um,ud,r0,r1,hT1,e1⟩:=two (by omega);rw[e0,e1]at hs;obtain⟨p1,p2,p3,p4,p5⟩:=Me.prod_ok hT0.ok hT1.ok hs;subst p2;obtain rfl:k=2:=by omega
  exact do_7 w ia sa ta tl ua ul b o tn tc tm td un uc um ud 2 c n' c' kc inn shape N P _ _ hx (by simp[g5]) (by omega) (by omega) rfl q0 q1 r0 r1 (fun wx t=>prodOf_in wx ta tl ua ul tn tc tm td un uc um ud _ _ _ _ (hT0.no t) (hT1.no t) (by rw[← hT0.sn];exact p3) (by rw[← hT1.sn];exact p4) p5 p1)
 ·
  obtain⟨ua,un,uc,ul,um,ud,r0,r1,hT1,e1⟩:=two (by omega);rw[e0,e1]at hs;obtain⟨p1,p2,p3⟩:=Me.win_ok hs;obtain⟨q,r,hq,hr,hG⟩:=Me.winG hs;subst hq hr;simp only[Int.toNat_natCast]at p2 ⊢;rw[← p2];obtain rfl:k=2:=by omega
  exact do_8 w ia sa ta tl ua ul b o tn tc tm td un uc um ud 2 c n' c' kc inn shape _ _ _ _ hx (by simp[g5]) (by omega) (by omega) (by omega) (by omega) rfl q0 q1 r0 r1 (fun wx t=>HW wx ta tl ua ul tn tc tm td un uc um ud q r _ _ _ _ _ (hT0.no t) (hT1.no t) hG hs)
 ·
  rw[e0]at hs;obtain⟨p1,p2,p3⟩:=Me.poolS_ok hT0.ok hs;obtain⟨q,hq,hG⟩:=Me.poolG hT0.ok hs;subst hq;simp only[Int.toNat_natCast]at p2 ⊢;rw[← p2];exact do_9 w ia sa ta tl b o tn tc tm td k c n' c' kc inn shape _ P _ _ hx (by simp[g5]) (by omega) (by omega) (by omega) (by omega) q0 q1 (fun wx t=>deed3_in wx ia sa ta tl 9 k c n' c' tn tc tm td _ P _ _ (fun wy ty=>HPo wy ta tl tn tc tm td q _ _ _ (hT0.no (t.trans ty)) hG hs))
 ·
  rw[e0]at hs;have hz:=Me.ok_nats g5;have hpr:Rd w sa (nums .i64 (Me.nats shape)):=by rw[← zs_ints,hz.1];exact hx.sr
  have hpl:(Me.nats shape).length=n':=by rw[Me.nats_length];exact hx.sl
  rw[← hs.2];exact do_10 w ia sa ta tl b o tn tc tm td k c n' c' kc inn shape N P _ _ hx g5 (by omega) (by omega) (by omega) q0 q1 (fun wx t=>deed4_in wx ia sa ta tl 10 k c n' c' tn tc tm td N P _ _ (fun wy ty=>movesShape_in wy ta tl sa tn tc tm td n' c' _ _ _ (hT0.no (t.trans ty)) hz.2 hpl (by rw[hs.1,hT0.len]) hx.sc (hpr.no (t.trans ty))))
 ·
  rw[e0]at hs;have hz:=Me.ord_nats g5;have hpr:Rd w sa (nums .i64 (Me.nats shape)):=by rw[← zs_ints,hz.1];exact hx.sr
  have hsl:shape.length=n':=hx.sl;have htn:tn=n':=by rw[← hT0.sn,← hs.1,hsl]
  rw[← hs.2];subst htn;exact do_11 w ia sa ta tl b o tn tc tm td k c tn c' kc inn shape N P _ _ hx g5 (by omega) (by omega) (by omega) q0 q1 (fun wx t=>deed5_in wx ia sa ta tl 11 k c tn c' tn tc tm td N P _ _ (fun wy ty=>movesTurn_in wy ta tl sa tn tc tm td c' _ _ _ (hT0.no (t.trans ty)) (by have:=hz.2;rw[hsl]at this;exact this) hx.sc (hpr.no (t.trans ty))))
 ·
  obtain⟨q,hq⟩:∃q:Nat,N.toNat=q:=⟨_,rfl⟩;have hN:N=((q:Nat):Int):=by omega
  rw[hq]at hs ⊢;clear hq;subst hN;obtain⟨p1,p2,p3⟩:=Me.joinS_ok hs;rw[p2];have hJ:=Me.joins_of p1 (by omega) (fun x hx=>(hE x hx).1);exact do_12 w ia sa none b o k c n' c' kc inn shape _ P _ _ hx (by simp[g5]) (by omega) (by omega) (by omega) (by omega) (fun wx t=>movesJoin_in wx _ k kc q Xs _ hJ (hX.no t) hl (by omega) (fun x hx=>(hE x hx).2))
 ·
  obtain⟨q,hq⟩:∃q:Nat,N.toNat=q:=⟨_,rfl⟩;have hN:N=((q:Nat):Int):=by omega
  rw[hq,e0]at hs;rw[hq];clear hq;subst hN;rw[← hs.2];exact do_13 w ia sa ta tl b o tn tc tm td k c n' c' kc inn shape _ P _ _ hx (by simp[g5]) (by omega) (by omega) (by omega) (by omega) q0 q1 (fun wx t=>deed6_in wx ia sa ta tl 13 k c n' c' tn tc tm td _ P _ _ (fun wy ty=>movesSum_in wy ta tl tn tc tm td q _ _ (hT0.no (t.trans ty)) (by rw[← hT0.sn];exact hs.1)))
end
section
open Go Go.RowKit
theorem refAdd_in (w:World)(sa la sb lb:Option Addr)(n c m d n' c' m' d':Nat)(S:List Nat)(A B:List Int)(hA:TIn w sa n c la m d S A)(hB:TIn w sb n' c' lb m' d' S B) :
  Calls Tryz.prog 98 #[.agg #[.slice sa n c,.slice la m d],.agg #[.slice sb n' c',.slice lb m' d']] w (TOut w S (Me.addL A B)):=by
 have HA:=Lib.hid hA;have HB:=Lib.hid hB;clear hA hB;go_enter Tryz.func98,Tryz.ntmps98;go_wp2_with fail;obtain⟨w1,hw1,t1,b2,b3,b4,hsz⟩:=three_rows w 51 #[.slice sa n c,.slice la m d] #[.slice sb n' c',.slice lb m' d'] #[.slice none 0 0,.slice none 0 0];rw[← hw1];have HH:=Lib.hid (aI t1 (aI b2 (aI b3 b4)));clear hw1 t1 b2 b3 b4;refine(refBoth_in w1 sa la sb lb n c m d n' c' m' d' S A B (HA.out.no HH.out.1) (HB.out.no HH.out.1)).mono ?_;rintro e w2 ⟨rfl,t2⟩
 have HH2:Hid (Touch No w w2∧Row w2 w.heap.size 51 [.slice sa n c,.slice la m d]∧Row w2 (w.heap.size+1) 51 [.slice sb n' c',.slice lb m' d']∧Row w2 (w.heap.size+1+1) 51 [.slice none 0 0,.slice none 0 0]) :=
  ⟨HH.out.1.trans t2,HH.out.2.1.touch t2 id,HH.out.2.2.1.touch t2 id,HH.out.2.2.2.touch t2 id⟩
 clear HH t2 hsz;have k0:=HH2.out.2.1.c0;go_wp2_with fail;refine(refNew_in w2 sa n c S (HA.out.no HH2.out.1).sr HA.out.sn HA.out.ok).mono ?_;rintro e w3 ⟨sc,n3,d3,g,m3,rfl,hn3,hm3,hd3,hsr,hsc,hg,hrow,t3⟩;obtain rfl:n3=n:=by rw[← hn3,HA.out.sn]
 obtain rfl:m3=m:=by rw[← hm3,HA.out.len]
 obtain⟨Y,hY⟩:∃Y,Y=w3.heap.size:=⟨_,rfl⟩;obtain⟨w5,hw5⟩:∃w5,w5=w3.alloc (.cells #[.slice sc n3 d3,.slice (some ⟨g,0,none⟩) m3 m3] 51):=⟨_,rfl⟩;have FH:Hid (Fld w w5 (w.heap.size+1+1) g Y sc n3 d3 m3 S):=by rw[hw5,hY];exact Fld.make HH2.out.1 HH2.out.2.2.2.lt (by omega) HA.out.ok HA.out.sn HA.out.len hd3 hsr hsc hg hrow t3
 have HB5:Hid (Row w5 w.heap.size 51 [.slice sa n3 c,.slice la m3 d]∧Row w5 (w.heap.size+1) 51 [.slice sb n' c',.slice lb m' d']∧Row w5 (w.heap.size+1+1) 51 [.slice none 0 0,.slice none 0 0]):=by
  have t3:Touch No w2 w5:=by rw[hw5];exact t3.alloc _
  exact⟨HH2.out.2.1.touch t3 id,HH2.out.2.2.1.touch t3 id,HH2.out.2.2.2.touch t3 id⟩
 clear hn3 hm3 hd3 hsr hsc hg hrow t3 k0 HH2;go_wp2_with fail;rw[← hw5,← hY];clear hw5 hY;have Hl:=Lib.hid (show(Me.addL A B).length=m3 by rw[Me.addL,List.length_map,List.length_range,HA.out.lm]);have Hl':=Lib.hid (show(ints .i32 (Me.addL A B)).length=m3 by rw[ints_length];exact Hl.out);have hm4:m3≤4096:=HA.out.m4;have hXg:w.heap.size+1+1<g:=FH.out.Xg
 go_loopg [9] m3 (fun gh s9 wr=>∃k:Nat,k+gh=m3∧s9 = .int .i64 ((k:Nat):Int)∧Hid (Touch (One g) w5 wr)∧Hid (Row wr g 21 (fill (ints .i32 (Me.addL A B)) (.int .i32 0) k)))
 case atStart=>exact⟨0,by omega,rfl,Touch.refl _ _,FH.out.start Hl'.out⟩
 case round =>
  obtain⟨k,hkg,rfl,T,R⟩:=hrel;have ky:=FH.out.cell T.out;cases gk with
  | zero =>
    obtain rfl:k=m3:=by omega
    have kx:=HB5.out.2.2.keep T.out (by omega);have ky0:=FH.out.cell0 T.out;have R:=Lib.hid (show Row wr g 21 (ints .i32 (Me.addL A B)) by have:=R.out;rw[fill_all _ _ Hl'.out]at this;exact this);go_wp2_with (refine wpList_store_mid rfl 51 _ _ rfl (w.heap.size+1+1) 0 51 [.slice none 0 0,.slice none 0 0] kx rfl [.slice sc n3 d3,.slice (some ⟨g,0,none⟩) k k] rfl (by kernel_rfl) (by simp) (by intro v hv;simp at hv;rcases hv with rfl|rfl <;> rfl) ?_);obtain⟨w9,hw9⟩:∃w9,w9=wr.setRow (w.heap.size+1+1) (splice [.slice none 0 0,.slice none 0 0] 0 [.slice sc n3 d3,.slice (some ⟨g,0,none⟩) k k]).toArray:=⟨_,rfl⟩;have R9:Row w9 (w.heap.size+1+1) 51 [.slice sc n3 d3,.slice (some ⟨g,0,none⟩) k k]:=by rw[hw9];exact kx.setRow _
    have HN:=Lib.hid (FH.out.done T.out R.out Hl.out (Me.addL_in A B) (show Touch (One (w.heap.size+1+1)) wr w9 by rw[hw9];exact Touch.setOne _ _ _));have y0:=R9.c0;have y1:=R9.c1;rw[← hw9];clear hw9 kx R9;go_wp2;refine bodyPost_ret (v:=.tuple #[.agg #[.slice sc n3 d3,.slice (some ⟨g,0,none⟩) k k],.int .i64 0]) (by simp[results,Tryz.results98,go_sem,y0,y1]) rfl ?_;exact⟨sc,n3,d3,_,k,k,rfl,HN.out.1,HN.out.2⟩
  | succ g' =>
    have hki:(k:Int)<(m3:Nat):=by omega
    have k2:=(HB5.out.1.keep T.out (by omega)).c1;have k3:=(HB5.out.2.1.keep T.out (by omega)).c1;obtain rfl:m'=m3:=by rw[← HA.out.len,← HB.out.len]
    obtain⟨ga,oa,rfl,ca⟩:=(HA.out.keep FH.out.t T.out (by omega)).num (k:=k) (by omega);obtain⟨gb,ob,rfl,cb⟩:=(HB.out.keep FH.out.t T.out (by omega)).num (k:=k) (by omega);have cg:=Fld.slot R.out (by rw[Hl'.out];omega);have cz:wr.frozen? ⟨g,k,none⟩=false:=R.out.soft k
    have hv:(ints .i32 (Me.addL A B))[k]? = some (.int .i32 (wrap32 (Me.at_ A k+Me.at_ B k))):=by
     rw[ints_at (by rw[Hl.out];omega),Me.addL,Me.at_map _ (by rw[HA.out.lm];omega)]
    have HN:=Lib.hid (row_step R.out hv);have HT:=Lib.hid (touch_step T.out k (.int .i32 (wrap32 (Me.at_ A k+Me.at_ B k))));clear hv;go_wp2
    go_still_tail 15,(by kernel_rfl)
    go_wp2
    go_roundg g'
    case measure=>omega
    case rel=>exact⟨k+1,by omega,by go_num,HT,HN⟩
theorem refMul_in (w:World)(sa la sb lb:Option Addr)(n c m d n' c' m' d':Nat)(S:List Nat)(A B:List Int)(hA:TIn w sa n c la m d S A)(hB:TIn w sb n' c' lb m' d' S B) :
  Calls Tryz.prog 99 #[.agg #[.slice sa n c,.slice la m d],.agg #[.slice sb n' c',.slice lb m' d']] w (TOut w S (Me.mulL A B)):=by
 have HA:=Lib.hid hA;have HB:=Lib.hid hB;clear hA hB;go_enter Tryz.func99,Tryz.ntmps99;go_wp2_with fail;obtain⟨w1,hw1,t1,b2,b3,b4,hsz⟩:=three_rows w 51 #[.slice sa n c,.slice la m d] #[.slice sb n' c',.slice lb m' d'] #[.slice none 0 0,.slice none 0 0];rw[← hw1];have HH:=Lib.hid (aI t1 (aI b2 (aI b3 b4)));clear hw1 t1 b2 b3 b4;refine(refBoth_in w1 sa la sb lb n c m d n' c' m' d' S A B (HA.out.no HH.out.1) (HB.out.no HH.out.1)).mono ?_;rintro e w2 ⟨rfl,t2⟩
 have HH2:Hid (Touch No w w2∧Row w2 w.heap.size 51 [.slice sa n c,.slice la m d]∧Row w2 (w.heap.size+1) 51 [.slice sb n' c',.slice lb m' d']∧Row w2 (w.heap.size+1+1) 51 [.slice none 0 0,.slice none 0 0]) :=
  ⟨HH.out.1.trans t2,HH.out.2.1.touch t2 id,HH.out.2.2.1.touch t2 id,HH.out.2.2.2.touch t2 id⟩
 clear HH t2 hsz;have k0:=HH2.out.2.1.c0;go_wp2_with fail;refine(refNew_in w2 sa n c S (HA.out.no HH2.out.1).sr HA.out.sn HA.out.ok).mono ?_;rintro e w3 ⟨sc,n3,d3,g,m3,rfl,hn3,hm3,hd3,hsr,hsc,hg,hrow,t3⟩;obtain rfl:n3=n:=by rw[← hn3,HA.out.sn]
 obtain rfl:m3=m:=by rw[← hm3,HA.out.len]
 obtain⟨Y,hY⟩:∃Y,Y=w3.heap.size:=⟨_,rfl⟩;obtain⟨w5,hw5⟩:∃w5,w5=w3.alloc (.cells #[.slice sc n3 d3,.slice (some ⟨g,0,none⟩) m3 m3] 51):=⟨_,rfl⟩;have FH:Hid (Fld w w5 (w.heap.size+1+1) g Y sc n3 d3 m3 S):=by rw[hw5,hY];exact Fld.make HH2.out.1 HH2.out.2.2.2.lt (by omega) HA.out.ok HA.out.sn HA.out.len hd3 hsr hsc hg hrow t3
 have HB5:Hid (Row w5 w.heap.size 51 [.slice sa n3 c,.slice la m3 d]∧Row w5 (w.heap.size+1) 51 [.slice sb n' c',.slice lb m' d']∧Row w5 (w.heap.size+1+1) 51 [.slice none 0 0,.slice none 0 0]):=by
  have t3:Touch No w2 w5:=by rw[hw5];exact t3.alloc _
  exact⟨HH2.out.2.1.touch t3 id,HH2.out.2.2.1.touch t3 id,HH2.out.2.2.2.touch t3 id⟩
 clear hn3 hm3 hd3 hsr hsc hg hrow t3 k0 HH2;go_wp2_with fail;rw[← hw5,← hY];clear hw5 hY;have Hl:=Lib.hid (show(Me.mulL A B).length=m3 by rw[Me.mulL,List.length_map,List.length_range,HA.out.lm]);have Hl':=Lib.hid (show(ints .i32 (Me.mulL A B)).length=m3 by rw[ints_length];exact Hl.out);have hm4:m3≤4096:=HA.out.m4;have hXg:w.heap.size+1+1<g:=FH.out.Xg
 go_loopg [9] m3 (fun gh s9 wr=>∃k:Nat,k+gh=m3∧s9 = .int .i64 ((k:Nat):Int)∧Hid (Touch (One g) w5 wr)∧Hid (Row wr g 21 (fill (ints .i32 (Me.mulL A B)) (.int .i32 0) k)))
 case atStart=>exact⟨0,by omega,rfl,Touch.refl _ _,FH.out.start Hl'.out⟩
 case round =>
  obtain⟨k,hkg,rfl,T,R⟩:=hrel;have ky:=FH.out.cell T.out;cases gk with
  | zero =>
    obtain rfl:k=m3:=by omega
    have kx:=HB5.out.2.2.keep T.out (by omega);have ky0:=FH.out.cell0 T.out;have R:=Lib.hid (show Row wr g 21 (ints .i32 (Me.mulL A B)) by have:=R.out;rw[fill_all _ _ Hl'.out]at this;exact this);go_wp2_with (refine wpList_store_mid rfl 51 _ _ rfl (w.heap.size+1+1) 0 51 [.slice none 0 0,.slice none 0 0] kx rfl [.slice sc n3 d3,.slice (some ⟨g,0,none⟩) k k] rfl (by kernel_rfl) (by simp) (by intro v hv;simp at hv;rcases hv with rfl|rfl <;> rfl) ?_);obtain⟨w9,hw9⟩:∃w9,w9=wr.setRow (w.heap.size+1+1) (splice [.slice none 0 0,.slice none 0 0] 0 [.slice sc n3 d3,.slice (some ⟨g,0,none⟩) k k]).toArray:=⟨_,rfl⟩;have R9:Row w9 (w.heap.size+1+1) 51 [.slice sc n3 d3,.slice (some ⟨g,0,none⟩) k k]:=by rw[hw9];exact kx.setRow _
    have HN:=Lib.hid (FH.out.done T.out R.out Hl.out (Me.mulL_in A B) (show Touch (One (w.heap.size+1+1)) wr w9 by rw[hw9];exact Touch.setOne _ _ _));have y0:=R9.c0;have y1:=R9.c1;rw[← hw9];clear hw9 kx R9;go_wp2;refine bodyPost_ret (v:=.tuple #[.agg #[.slice sc n3 d3,.slice (some ⟨g,0,none⟩) k k],.int .i64 0]) (by simp[results,Tryz.results99,go_sem,y0,y1]) rfl ?_;exact⟨sc,n3,d3,_,k,k,rfl,HN.out.1,HN.out.2⟩
  | succ g' =>
    have hki:(k:Int)<(m3:Nat):=by omega
    have k2:=(HB5.out.1.keep T.out (by omega)).c1;have k3:=(HB5.out.2.1.keep T.out (by omega)).c1;obtain rfl:m'=m3:=by rw[← HA.out.len,← HB.out.len]
    obtain⟨ga,oa,rfl,ca⟩:=(HA.out.keep FH.out.t T.out (by omega)).num (k:=k) (by omega);obtain⟨gb,ob,rfl,cb⟩:=(HB.out.keep FH.out.t T.out (by omega)).num (k:=k) (by omega);have cg:=Fld.slot R.out (by rw[Hl'.out];omega);have cz:wr.frozen? ⟨g,k,none⟩=false:=R.out.soft k
    have hv:(ints .i32 (Me.mulL A B))[k]? = some (.int .i32 (wrap32 (Me.at_ A k*Me.at_ B k))):=by
     rw[ints_at (by rw[Hl.out];omega),Me.mulL,Me.at_map _ (by rw[HA.out.lm];omega)]
    have HN:=Lib.hid (row_step R.out hv);have HT:=Lib.hid (touch_step T.out k (.int .i32 (wrap32 (Me.at_ A k*Me.at_ B k))));clear hv;go_wp2
    go_still_tail 15,(by kernel_rfl)
    go_wp2
    go_roundg g'
    case measure=>omega
    case rel=>exact⟨k+1,by omega,by go_num,HT,HN⟩
end
end Go.Proofs.YtjlphmmalebgpaaGreat
