/-
  A part of the proof.
-/
import Derived.Test.YtjlphmmalebgpaaGreatK40
set_option linter.unusedSimpArgs false
set_option linter.unusedVariables false
set_option maxHeartbeats 8000000
set_option maxRecDepth 100000
namespace Go.Proofs.YtjlphmmalebgpaaGreat
section
open Go Go.RowKit Go.Shelf
attribute [local go_sem] Oper.semAt_some
namespace Me
noncomputable def right (Ns:List Node) (Ws:List Raw) (input:Raw) (n:Nat) (r:Int × Raw):Bool :=
 match all Ns Ws input with
 | none=>false
 | some Ts=>decide (r.1=n)&&(decide (zs (tn Ts (Ts.length-1)).1=r.2.1)&&decide ((tn Ts (Ts.length-1)).2=r.2.2))
def recAt (Rc:List (Int × Raw))(j:Nat):Int × Raw:=Rc.getD j (0,[],[])
noncomputable def begins (Ns:List Node) (Ws Ins:List Raw) (Rc:List (Int × Raw)):Bool :=
 decide (Rc.length≤Ins.length)&&(List.range Rc.length).all fun i=>right Ns Ws (rawAt Ins i) i (recAt Rc i)
end Me
def Goes {N:Nat}(g:Nat→Fin N→Bool)(pre:List (Fin N)):Prop:=∀i (h:i<pre.length),g i pre[i]=true
theorem Goes.snoc {N:Nat}{g:Nat→Fin N→Bool}{pre:List (Fin N)}{x:Fin N}(h:Goes g pre)(hx:g pre.length x=true):Goes g (pre ++ [x]):=fun i hi=>by
 rw[List.length_append,List.length_singleton]at hi
 by_cases h2:i<pre.length
 ·rw[List.getElem_append_left h2];exact h i h2
 ·have e:i=pre.length:=by omega
  subst e
  simpa using hx
theorem Goes.all {N:Nat}{g:Nat→Fin N→Bool}{f:Nat→Bool}(h:Goes g (firstN N N))(hf:∀(x:Fin N),g x.val x=f x.val):(List.range N).all f=true:=by
 rw[List.all_eq_true];intro i hi;have hi':i<N:=by simpa using hi
 have h1:=h i (by rw[firstN_length (Nat.le_refl _)];exact hi');have h2:(firstN N N)[i]'(by rw[firstN_length (Nat.le_refl _)];exact hi')=⟨i,hi'⟩:=by simp[firstN]
 rw[h2]at h1;rw[← hf ⟨i,hi'⟩];exact h1
theorem not_all {N k:Nat}{g:Nat→Fin N→Bool}{f:Nat→Bool}(hk:k<N){pre:List (Fin N)}{x:Fin N}(e:pre ++ [x]=firstN N (k+1))(h:g pre.length x=false)(hf:∀(x:Fin N),g x.val x=f x.val):(List.range N).all f=false:=by
 rw[firstN_next hk]at e;have e1:=List.append_inj' e rfl;have e2:x=⟨k,hk⟩:=by simpa using e1.2
 have e3:pre.length=k:=by rw[e1.1,firstN_length (by omega)]
 rw[e2,e3,hf ⟨k,hk⟩]at h;rw[← Bool.not_eq_true,List.all_eq_true];intro hh;have:=hh k (by simpa using hk);rw[h]at this;cases this
theorem KJ.set {W wk:World}{Rs1 Rs2:List RowT}{g:Nat}{T:TypeId}{a:Value}(h:KJ W (Rs1++(g,T,[a])::Rs2) wk)(hne:∀r∈Rs1++Rs2,r.1≠g)(hg:W.heap.size≤g)(a':Value) :
  KJ W (Rs1++(g,T,[a'])::Rs2) (wk.setCell ⟨g,0,none⟩ a')∧KeepsOthers wk (wk.setCell ⟨g,0,none⟩ a')∧Touch (One g) wk (wk.setCell ⟨g,0,none⟩ a'):=by
 have r1:Row wk g T [a]:=h.rows (g,T,[a]) (by simp);obtain⟨wa,hwa⟩:∃wa,wa=wk.setCell ⟨g,0,none⟩ a':=⟨_,rfl⟩;have ta:Touch (One g) wk wa:=by rw[hwa];exact(Touch.refl (One g) wk).setCell (p:=⟨g,0,none⟩) (fun _=>rfl) _
 have ra:Row wa g T [a']:=by rw[hwa];exact r1.setCell 0 _
 rw[← hwa];refine⟨⟨h.t.then ta (fun i hi e=>by have e':i=g:=e;omega),fun r hr=>?_⟩,ta.keeps fun k e _=>by have e':k=g:=e;rw[e'];exact r1.cellsAt,ta⟩;rw[List.mem_append,List.mem_cons]at hr;rcases hr with hr|rfl|hr
 ·exact(h.rows r (by rw[List.mem_append];exact .inl hr)).touch ta (hne r (by rw[List.mem_append];exact .inl hr))
 ·exact ra
 ·exact(h.rows r (by rw[List.mem_append,List.mem_cons];exact .inr (.inr hr))).touch ta (hne r (by rw[List.mem_append];exact .inr hr))
theorem begins_in (w:World)(a wa ia ra:Option Addr)(mm cap wn wc N' ci N cr:Nat)(Ns:List Me.Node)(Ws Ins:List Me.Raw)(Rc:List (Int × Me.Raw))(hNs:NsIn w a Ns)(hm:Ns.length=mm)(hm6:mm≤1000)(hW:WsIn w wa Ws)(hWl:Ws.length=wn)(hWc:wn≤wc)(hW6:wn≤2000000)
  (hI:WsIn w ia Ins) (hIl:Ins.length=N') (hI6:N'≤2000000) (hR:RcIn w ra Rc) (hRl:Rc.length=N) (hR6:N≤2000000) :
  Calls Tryz.prog 10 #[.agg #[.slice a mm cap],.slice wa wn wc,.slice ia N' ci,.slice ra N cr] w fun e w'=>e = .returned (.bool (Me.begins Ns Ws Ins Rc))∧Touch No w w':=by
 obtain⟨BB,hBB⟩:∃z,Me.begins Ns Ws Ins Rc=z:=⟨_,rfl⟩;rw[hBB];have HBB:=Lib.hid hBB;refine(callsIn_wide (n:=12)).1 ?_;refine callsIn_of_wp_marks Tryz.func10 rfl trivial ?_ rfl;simp only[Tryz.ntmps10,List.size_toArray,List.length_cons,List.length_nil,Nat.reduceAdd,Nat.reduceSub,Array.replicate_succ,Array.replicate_zero,List.push_toArray,List.append_toArray,List.nil_append,List.cons_append];obtain⟨w1,hw1,t1,R1,R2,R3,hs1⟩:=rows_3 w [.slice a mm cap] [.slice wa wn wc] [.bool false] 24 25 4;obtain⟨X,hX⟩:∃X,X=w.heap.size:=⟨_,rfl⟩;rw[← hX]at R1 R2 R3 hs1;have HNs:=Lib.hid hNs;have HW:=Lib.hid hW;have HI:=Lib.hid hI;have HR:=Lib.hid hR;have HX:=Lib.hid hX;have HT1:=Lib.hid t1;have HR1:=Lib.hid R1;have HR2:=Lib.hid R2;have HR3:=Lib.hid R3;clear hNs hW hI hR hBB t1 R1 R2;gi_upto_region 1 with fail;rw[← hw1,← hX];clear hw1 hX
 by_cases hle:N'<N
 ·have h1:((N':Nat):Int)<((N:Nat):Int):=by omega
  have y0:=R3.cell 0;have f0:=R3.soft 0;gi_wp2;have y1:(w1.setCell ⟨X+1+1,0,none⟩ (.bool false)).cell? ⟨X+1+1,0,none⟩=some (.bool false):=(R3.setCell 0 (.bool false)).cell 0;refine⟨.bool false,by simp[results,Tryz.results10,go_sem,y1],?_⟩;refine⟨?_,HT1.out.then ((Touch.refl (One (X+1+1)) w1).setCell (p:=⟨X+1+1,0,none⟩) (fun _=>rfl) _) (fun i hi e=>by have e':i=X+1+1:=e;have:=HX.out;omega)⟩;rw[← HBB.out,Me.begins,hRl,hIl];simp[show ¬N≤N' by omega]
 ·have h1:¬((N':Nat):Int)<((N:Nat):Int):=by omega
  have hNN:N≤N':=by omega
  obtain⟨T,hT⟩:=HR.out.pick;obtain⟨T',hT'⟩:=HI.out.pick;obtain⟨g,hg⟩:∃g:Nat→Fin N→Bool,g=fun n x=>Me.right Ns Ws (Me.rawAt Ins x.val) n (Me.recAt Rc x.val):=⟨_,rfl⟩
  have HTT:=Lib.hid (aI hT hT');have HGG:=Lib.hid hg;clear R3 hT hT' hg;gi_wp2;refine⟨trivial,(callsIn_wide.2 (both_any (w1.alloc (Obj.cells #[Value.int IntKind.u32 0] 56)) ra ia N cr N' ci)).mono ?_⟩;rintro e w7 ⟨rfl,h7⟩;obtain⟨w2,hw2,t2,R4⟩:=box_row w1 [.int .u32 0] 56;rw[← hw2]at h7;have hs2:w2.heap.size=X+4:=by rw[hw2];simp;omega
  obtain⟨w3,hw3,t3,R5⟩:=box_row w2 [.slice ra N cr] 29;have hs3:w3.heap.size=X+5:=by rw[hw3];simp;omega
  obtain⟨w4,hw4,t4,R6⟩:=box_row w3 [.slice ia N' ci] 25;have hs4:w4.heap.size=X+6:=by rw[hw4];simp;omega
  have h74:w4=w7:=by rw[hw4,hw3,h7]
  subst h74;rw[hs1]at R4;rw[hs2]at R5;rw[hs3]at R6;have hsa:(w1.alloc (Obj.cells #[Value.int IntKind.u32 0] 56)).heap.size=X+4:=by simp;omega
  clear hw2 hw3 hw4 h7;gi_wp2;have TT:Touch No w1 w4:=(t2.trans t3).trans t4
  have hK0:KJ w [(X,24,[.slice a mm cap]),(X+1,25,[.slice wa wn wc]),(X+1+1,4,[.bool false]),(X+3,56,[.int .u32 0]),(X+4,29,[.slice ra N cr]),(X+5,25,[.slice ia N' ci])] w4:=by
   refine⟨HT1.out.trans TT,fun r hr=>?_⟩;simp only[List.mem_cons,List.mem_nil_iff,or_false]at hr;rcases hr with rfl|rfl|rfl|rfl|rfl|rfl
   ·exact HR1.out.touch TT id
   ·exact HR2.out.touch TT id
   ·exact HR3.out.touch TT id
   ·exact R4.touch (t3.trans t4) id
   ·exact R5.touch t4 id
   ·exact R6
  have HK0:=Lib.hid hK0;have HS4:=Lib.hid hs4;have HcA:Hid (w4.cell? ⟨X+4,0,none⟩=some (.slice ra N cr)):=(R5.touch t4 id).cell 0;have HcB:Hid (w4.cell? ⟨X+5,0,none⟩=some (.slice ia N' ci)):=R6.cell 0;have HT4:Hid (Touch No w w4):=HT1.out.trans TT;clear hK0 TT R4 R5 R6 t2 t3 t4 hsa hs2 hs3 HR1 HR2 HR3
  refine wpIn_rangeFunc_ownH rfl (by decide) (gf:=44) (lb:=#[.pointer (some ⟨X+4,0,none⟩),.pointer (some ⟨X+5,0,none⟩)]) rfl trivial (enters_of Tryz.func44 (by kernel_rfl) rfl)
   (both_stops 11 (by decide) (X+4) (X+5) X ra ia N N' cr ci Rc T T' hNN hI6 w4 (by omega) HcA.out HcB.out
    (fun j hj=>by
     obtain⟨b,o,e,c0,c1,c2,_⟩:=HTT.out.1 j (by omega);exact⟨b,o,e,by have h1:=lt_of_cell c0;have h2:=HX.out;omega,HT4.out.cell id c0,HT4.out.cell id c1,HT4.out.cell id c2⟩)
    (fun j hj=>by
     obtain⟨b,o,e,c1,c2,_⟩:=HTT.out.2 j (by omega);exact⟨b,o,e,by have h1:=lt_of_cell c1;have h2:=HX.out;omega,HT4.out.cell id c1,HT4.out.cell id c2⟩))
   keepZ_t (keepZ_b (by omega) (by omega) (by omega)) (Below.refl _ _) (fun _=>rfl)
   (fun(pre:List (Fin N)) (W:World)=>Goes g pre∧KJ w [(X,24,[.slice a mm cap]),(X+1,25,[.slice wa wn wc]),(X+1+1,4,[.bool false]),(X+3,56,[.int .u32 ((pre.length:Nat):Int)]),(X+4,29,[.slice ra N cr]),(X+5,25,[.slice ia N' ci])] W)
   (fun(c:Code) (pre:List (Fin N)) (W:World)=>c = .ret∧(∃(pre':List (Fin N)) (x:Fin N),pre=pre' ++ [x]∧g pre'.length x=false)∧KJ w [(X+1+1,4,[.bool false])] W)
   (fun s A Z row hs hg hr=>⟨hs.1,(KJ.own (fun pre:List (Fin N)=>([(X,24,[.slice a mm cap]),(X+1,25,[.slice wa wn wc]),(X+1+1,4,[.bool false]),(X+3,56,[.int .u32 ((pre.length:Nat):Int)]),(X+4,29,[.slice ra N cr]),(X+5,25,[.slice ia N' ci])]:List RowT)) (by have:=HX.out;omega)) s A Z row hs.2 hg hr⟩)
   (fun c s A Z row hs hg hr=>⟨hs.1,hs.2.1,(KJ.own (fun pre:List (Fin N)=>([(X+1+1,4,[.bool false])]:List RowT)) (by have:=HX.out;omega)) s A Z row hs.2.2 hg hr⟩)
   ⟨fun i h=>absurd h (Nat.not_lt_zero i),HK0.out⟩
   (fun x a1 W=>∃g10 g11:Nat,X+6≤g10∧X+6≤g11∧a1 = {tmps:=#[.agg #[.slice a mm cap],.slice wa wn wc,.slice ia N' ci,.slice ra N cr,.pointer (some ⟨X,0,none⟩),.pointer (some ⟨X+1,0,none⟩),undef,undef,.pointer (some ⟨X+1+1,0,none⟩),.pointer (some ⟨X+3,0,none⟩),.pointer (some ⟨g10,0,none⟩),.pointer (some ⟨g11,0,none⟩),undef,undef,.slice ra N cr,.int .i64 ((N:Nat):Int),.slice ia N' ci,.int .i64 ((N':Nat):Int),.bool false,.slice ra N cr,.slice ia N' ci,.func (.func 44) #[] #[.pointer (some ⟨X+4,0,none⟩),.pointer (some ⟨X+5,0,none⟩)],.agg #[.int .u32 (Me.recAt Rc x.val).1,.slice (T x.val).sa (T x.val).n (T x.val).c,.slice (T x.val).la (T x.val).m (T x.val).d],.agg #[.slice (T' x.val).sa (T' x.val).n (T' x.val).c,.slice (T' x.val).la (T' x.val).m (T' x.val).d],undef,undef,undef,undef,undef,undef,undef,undef,undef,undef,undef,undef,undef,undef,undef,undef,undef,undef,undef,undef,undef,undef,undef,undef],defers:=[]}∧Row W g10 58 [.int .u32 (Me.recAt Rc x.val).1,.slice (T x.val).sa (T x.val).n (T x.val).c,.slice (T x.val).la (T x.val).m (T x.val).d]∧Row W g11 51 [.slice (T' x.val).sa (T' x.val).n (T' x.val).c,.slice (T' x.val).la (T' x.val).m (T' x.val).d])
   ?ownA ?assign ?body ?done ?stop
  case ownA =>
   rintro x a1 s W W' row ⟨g10,g11,hg1,hg2,rfl,hc,hc2⟩ hg hr;refine⟨g10,g11,hg1,hg2,rfl,hc.touch (touch_grown hg) (fun e2=>?_),hc2.touch (touch_grown hg) (fun e2=>?_)⟩
   ·obtain⟨_,o,h1,h2⟩:=hr g10 e2
    rw[hc]at h1;cases h1;cases h2
   ·obtain⟨_,o,h1,h2⟩:=hr g11 e2
    rw[hc2]at h1;cases h1;cases h2
  case assign =>
   rintro l pre x W K hI hK;obtain⟨ix,hix⟩:∃z,(Rc.getD x.val (0,[],[])).1=z:=⟨_,rfl⟩;simp only[TA.r,TA.v,hix];have HI1:=Lib.hid hI;have HKc:=Lib.hid hK;have HIX:Hid ((Me.recAt Rc x.val).1=ix):=hix;clear hI hK hix;gi_wp2;obtain⟨W1,hW1,tW,RW⟩:=box_row W [.int .u32 ix,.slice (T x.val).sa (T x.val).n (T x.val).c,.slice (T x.val).la (T x.val).m (T x.val).d] 58;have hsW:W1.heap.size=W.heap.size+1:=by rw[hW1];simp
   rw[← hW1];obtain⟨W2,hW2,tW2,RW2⟩:=box_row W1 [.slice (T' x.val).sa (T' x.val).n (T' x.val).c,.slice (T' x.val).la (T' x.val).m (T' x.val).d] 51;rw[← hW2];have TW:=tW.trans tW2;have hSz:=(HI1.out.2.rows (X+5,25,[.slice ia N' ci]) (by simp)).lt;dsimp only at hSz;refine HKc.out _ _ ((TW.keeps (fun _ f _=>f.elim)).from _) (KeepZ.no TW (by omega) (by omega) (by omega)) ⟨HI1.out.1,HI1.out.2.no TW⟩ ⟨W.heap.size,W1.heap.size,by omega,by omega,?_,?_,RW2⟩
   ·rw[HIX.out,hsW]
   ·rw[HIX.out];exact RW.touch tW2 id
  case done =>
   rintro D xs W hD hS hI hK;have hS':xs=firstN N N:=hS;subst hS';have HIw:=Lib.hid hI;have HDD:=Lib.hid (aI hD hK);clear hI hD hK hS;gi_upto_region 11 with fail;refine wpIn_wide.2 ?_;have r3:=HIw.out.2.rows (X+1+1,4,[.bool false]) (by simp);dsimp only at r3;have y3:=r3.cell 0;have f3:=r3.soft 0;go_wp2_with fail;have HR3:=Lib.hid r3;clear y3 f3 r3;obtain⟨w9,hw9⟩:∃w9,w9=W.setCell ⟨X+1+1,0,none⟩ (.bool true):=⟨_,rfl⟩;have tX:Touch (One (X+1+1)) W w9:=by rw[hw9];exact(Touch.refl (One (X+1+1)) W).setCell (p:=⟨X+1+1,0,none⟩) (fun _=>rfl) _
   have R9:Row w9 (X+1+1) 4 [.bool true]:=by rw[hw9];exact HR3.out.setCell 0 _
   rw[← hw9];clear hw9
   have k5:w9.heap[D]? = some (.deferred (some [])):=by
    have hlt:=(Array.getElem?_eq_some_iff.1 HDD.out.2).1;rw[tX.block D hlt (fun e=>by have e':D=X+1+1:=e;have h1:=HDD.out.1;have h2:=HS4.out;omega)];exact HDD.out.2
   gi_wp2;refine⟨by simp,.inl ⟨_,_,rfl,run_takeDeferred k5,?_⟩⟩;have t6:=touch_grown (grownBy_putObj' w9 D (.deferred none))
   have hne:∀k,CellsAt w9 k→¬(some D=some k):=fun k ⟨cc,tt,fr,e⟩ e2=>by
    cases e2
    rw[k5]at e;cases e
   have y4:=t6.cell (hne _ R9.cellsAt) (R9.cell 0)
   refine⟨.bool true,by simp[results,Tryz.results10,go_sem,y4],?_,(HIw.out.2.t.then tX (fun i hi e=>by have e':i=X+1+1:=e;have:=HX.out;omega)).then t6 (fun i hi f=>by
    have e2:D=i:=Option.some.inj f;have h1:=HDD.out.1;have h2:=HS4.out;have h3:=HX.out;omega)⟩
   have hall:=HIw.out.1.all (f:=fun i=>Me.right Ns Ws (Me.rawAt Ins i) i (Me.recAt Rc i)) (fun x=>by rw[HGG.out]);rw[← HBB.out,Me.begins,hRl,hall,hIl];simp[hNN]
  case stop =>
   rintro D cd pre W hD hS ⟨rfl,⟨pre',x,hp,hb⟩,hKJ⟩ hK;obtain⟨k,hk,hpk⟩:=hS;have hB:=not_all hk (hp.symm.trans hpk) hb (f:=fun i=>Me.right Ns Ws (Me.rawAt Ins i) i (Me.recAt Rc i)) (fun x=>by rw[HGG.out]);have r3:=hKJ.rows (X+1+1,4,[.bool false]) (by simp);dsimp only at r3;have HB:=Lib.hid hB;have HKJ:=Lib.hid hKJ;have HDD:=Lib.hid (aI hD hK);have HR3:=Lib.hid r3;clear hB hKJ hD hK r3 hp hb hpk hk;gi_wp2;refine⟨by simp,.inl ⟨_,_,rfl,run_takeDeferred HDD.out.2,?_⟩⟩;have t6:=touch_grown (grownBy_putObj' W D (.deferred none))
   have hne:∀k,CellsAt W k→¬(some D=some k):=fun k ⟨cc,tt,fr,e⟩ e2=>by
    cases e2
    rw[HDD.out.2]at e;cases e
   have y4:=t6.cell (hne _ HR3.out.cellsAt) (HR3.out.cell 0)
   refine⟨.bool false,by simp[results,Tryz.results10,go_sem,y4],?_,HKJ.out.t.then t6 (fun i hi f=>by
    have e2:D=i:=Option.some.inj f;have h1:=HDD.out.1;have h2:=HX.out;have h3:=HS4.out;omega)⟩
   rw[← HBB.out,Me.begins,hRl,HB.out,Bool.and_false]
  case body =>
   rintro l pre x a1 W hl _ hI ⟨g10,g11,hg1,hg2,rfl,hc,hc2⟩ hlt;obtain⟨ix,hix⟩:∃z,(Me.recAt Rc x.val).1=z:=⟨_,rfl⟩;obtain⟨Tk,hTk⟩:∃z,T x.val=z:=⟨_,rfl⟩;obtain⟨Tk',hTk'⟩:∃z,T' x.val=z:=⟨_,rfl⟩;have hRr:=HTT.out.1 x.val (by omega);have hRi:=HTT.out.2 x.val (by omega);rw[hTk]at hRr hc ⊢;rw[hTk']at hRi hc2 ⊢;rw[hix]at hc ⊢;obtain⟨sa,n1,c1,la,m1,d1⟩:=Tk;obtain⟨sa',n1',c1',la',m1',d1'⟩:=Tk';dsimp only at hRr hRi hc hc2 ⊢;obtain⟨_,_,_,_,_,_,hRr⟩:=hRr;obtain⟨_,_,_,_,_,hRi⟩:=hRi;obtain⟨O,hO⟩:∃z,Me.all Ns Ws (Me.rawAt Ins x.val)=z:=⟨_,rfl⟩;have tW:=hI.2.t;have C:=Lib.hid (meansRun_in win_in pool_in W a wa sa' la' mm cap wn wc n1' c1' m1' d1' Ns Ws (Me.rawAt Ins x.val) (HNs.out.no tW) hm hm6 (HW.out.no tW) hWl hWc hW6 (hRi.no tW));rw[hO]at C;have hGx:g pre.length x=Me.right Ns Ws (Me.rawAt Ins x.val) pre.length (Me.recAt Rc x.val):=by rw[HGG.out]
   rw[Me.right,hO]at hGx;obtain⟨n,hn⟩:∃n,pre.length=n:=⟨_,rfl⟩;have hI2:=hI.2;rw[hn]at hGx hI2 hlt;have r0:=(hI2.rows (X,24,[.slice a mm cap]) (by simp)).cell 0;have r1:=(hI2.rows (X+1,25,[.slice wa wn wc]) (by simp)).cell 0;dsimp only at r0 r1;have r2:=hc2.cell 0;have r3:=hc2.cell 1;have HI2:=Lib.hid hI2;have HI1:=Lib.hid hI.1;have Hc:=Lib.hid hc;have Hc2:=Lib.hid hc2;have HRr:=Lib.hid hRr;have HGx:=Lib.hid hGx;have Hpl:=Lib.hid (aI hn hix);have HB:=Lib.hid (aI hg1 hg2)
   have HEnd:Hid (∀wq,Touch No W wq→g n x=false→KeepsFrom w4.heap.size W (wq.setCell ⟨X+1+1,0,none⟩ (.bool false))∧(∃(pre':List (Fin N)) (x':Fin N),pre ++ [x]=pre' ++ [x']∧g pre'.length x'=false)∧KJ w [(X+1+1,4,[.bool false])] (wq.setCell ⟨X+1+1,0,none⟩ (.bool false))):=fun wq tq hg=>by
    have k1:KJ w ([]++(X+1+1,4,[.bool false]) :: []) W:=⟨HI2.out.t,fun r hr=>by simp at hr;subst hr;exact HI2.out.rows _ (by simp)⟩;obtain⟨k2,k3,k4⟩:=(k1.no tq).set (by simp) (by have:=HX.out;omega) (.bool false);exact⟨((tq.keeps (fun _ f _=>f.elim)).trans k3).from _,⟨pre,x,rfl,by rw[hn];exact hg⟩,k2⟩
   have HGood:Hid (∀wq,Touch No W wq→g n x=true→KeepsFrom w4.heap.size W (wq.setCell ⟨X+3,0,none⟩ (.int .u32 ((n+1:Nat):Int)))∧KeepZ X (X+4) (X+5) W (wq.setCell ⟨X+3,0,none⟩ (.int .u32 ((n+1:Nat):Int)))∧Goes g (pre ++ [x])∧
     KJ w [(X,24,[.slice a mm cap]),(X+1,25,[.slice wa wn wc]),(X+1+1,4,[.bool false]),(X+3,56,[.int .u32 (((pre ++ [x]).length:Nat):Int)]),(X+4,29,[.slice ra N cr]),(X+5,25,[.slice ia N' ci])] (wq.setCell ⟨X+3,0,none⟩ (.int .u32 ((n+1:Nat):Int)))):=fun wq tq hg=>by
    have k1:KJ w ([(X,24,[.slice a mm cap]),(X+1,25,[.slice wa wn wc]),(X+1+1,4,[.bool false])]++(X+3,56,[.int .u32 ((n:Nat):Int)]) :: [(X+4,29,[.slice ra N cr]),(X+5,25,[.slice ia N' ci])]) wq:=HI2.out.no tq;obtain⟨k2,k3,k4⟩:=k1.set (by intro r hr;simp at hr;rcases hr with rfl|rfl|rfl|rfl|rfl <;> (dsimp only;omega)) (by have:=HX.out;omega) (.int .u32 ((n+1:Nat):Int));have hlA:=(HI2.out.rows (X+4,29,[.slice ra N cr]) (by simp)).lt;have hlB:=(HI2.out.rows (X+5,25,[.slice ia N' ci]) (by simp)).lt;dsimp only at hlA hlB;have hq:=tq.size;refine⟨((tq.keeps (fun _ f _=>f.elim)).trans k3).from _,⟨fun k hk=>?_,?_,?_⟩,HI1.out.snoc (by rw[hn];exact hg),by rw[List.length_append,hn];exact k2⟩
    ·rw[k4.block k (by omega) (fun e=>by have e':k=X+3:=e;omega)];exact tq.block k (by omega) id
    ·rw[k4.block _ (by omega) (fun e=>by have e':X+4=X+3:=e;omega)];exact tq.block _ hlA id
    ·rw[k4.block _ (by omega) (fun e=>by have e':X+5=X+3:=e;omega)];exact tq.block _ hlB id
   clear hI hI2 hc hc2 hRr hRi hGx hn hix hO hTk hTk' hl tW hg1 hg2;gi_wp2;refine⟨trivial,(CallsIn.inRound l (callsIn_wide.2 C.out)).mono ?_⟩;rintro e w8 hr8;clear C r0 r1 r2 r3;cases O with
   | none =>
     obtain⟨rfl,t8⟩:=hr8;obtain⟨w8a,hw8a,t8a,_⟩:=box_row w8 [.slice none 0 0,.slice none 0 0] 51;have HT8:=Lib.hid (t8.trans t8a);have r3:=(HI2.out.rows (X+1+1,4,[.bool false]) (by simp)).touch HT8.out id;dsimp only at r3;have y3:=r3.cell 0;have f3:=r3.soft 0;gi_wp2;refine⟨trivial,?_⟩;rw[← hw8a];clear hw8a t8a t8 r3;gi_wp2;obtain⟨q1,q2,q3⟩:=HEnd.out w8a HT8.out HGx.out;exact⟨q1,rfl,q2,q3⟩
   | some Ts =>
     obtain⟨ta,tn,tc,tla,tm,td,rfl,hT8,t8⟩:=hr8;obtain⟨w8a,hw8a,t8a,R12⟩:=box_row w8 [.slice ta tn tc,.slice tla tm td] 51;have HT8:=Lib.hid (t8.trans t8a);have r0:=(Hc.out.touch HT8.out id).cell 0;have r4:=(Hc.out.touch HT8.out id).cell 1;have r5:=(Hc.out.touch HT8.out id).cell 2;have r6:=R12.cell 0;have r7:=R12.cell 1;have rn:=(HI2.out.rows (X+3,56,[.int .u32 ((n:Nat):Int)]) (by simp)).touch HT8.out id;have r3:=(HI2.out.rows (X+1+1,4,[.bool false]) (by simp)).touch HT8.out id;dsimp only at r3 rn;have y3:=r3.cell 0;have f3:=r3.soft 0;have yn:=rn.cell 0;have fn':=rn.soft 0;have hGx:=HGx.out;dsimp only at hGx;rw[Hpl.out.2]at hGx;clear r3 rn R12
     by_cases hid:ix=(n:Int)
     ·have hne:(ix != (n:Int))=false:=by rw[hid];simp
      have hT8a:=hT8.no t8a;have hRa:=(HRr.out.no HI2.out.t).no HT8.out;obtain⟨S1,hS1⟩:∃z,Me.zs (Me.tn Ts (Ts.length-1)).1=z:=⟨_,rfl⟩;obtain⟨L1,hL1⟩:∃z,(Me.tn Ts (Ts.length-1)).2=z:=⟨_,rfl⟩;have C2:=Lib.hid (tenSame_any w8a ta tla sa la tn tc tm td n1 c1 m1 d1 (Me.zs (Me.tn Ts (Ts.length-1)).1) (Me.tn Ts (Ts.length-1)).2 (Me.recAt Rc x.val).2.1 (Me.recAt Rc x.val).2.2 hT8a.zn (by have:=hT8a.n4;omega) hT8a.srz hT8a.lm (by have:=hT8a.m4;omega) hT8a.lr hRa.sn hRa.sr hRa.lm hRa.lr);obtain⟨bb,hbb⟩:∃z,(decide (Me.zs (Me.tn Ts (Ts.length-1)).1=(Me.recAt Rc x.val).2.1)&&decide ((Me.tn Ts (Ts.length-1)).2=(Me.recAt Rc x.val).2.2))=z:=⟨_,rfl⟩;rw[hbb]at C2 hGx;have hGx':Hid (g n x=bb):=by show _=_;rw[hGx];simp[hid]
      clear hT8a hRa hS1 hL1 hbb hGx hT8;gi_upto_region 8 with fail;rw[← hw8a];clear hw8a t8a t8;gi_wp2;refine⟨trivial,(CallsIn.inRound l (callsIn_wide.2 C2.out)).mono ?_⟩;rintro e w10 ⟨rfl,t10⟩;have HT10:=Lib.hid (HT8.out.trans t10);have r3:=(HI2.out.rows (X+1+1,4,[.bool false]) (by simp)).touch HT10.out id;have rn:=(HI2.out.rows (X+3,56,[.int .u32 ((n:Nat):Int)]) (by simp)).touch HT10.out id;dsimp only at r3 rn;clear y3 f3 yn fn' r0 r4 r5 r6 r7 C2 t10;have e1:IntKind.u32.wrap ((n:Int)+1)=((n+1:Nat):Int):=by simp[IntKind.wrap,IntKind.bits,IntKind.signed];omega
      cases bb
      ·have y3:=r3.cell 0
       have f3:=r3.soft 0;clear r3 rn;gi_wp2;obtain⟨q1,q2,q3⟩:=HEnd.out w10 HT10.out hGx'.out;exact⟨q1,rfl,q2,q3⟩
      ·have yn:=rn.cell 0
       have fn':=rn.soft 0;clear r3 rn;gi_wp2;have hq:=HGood.out w10 HT10.out hGx'.out;exact hq
     ·have hne:(ix != (n:Int))=true:=by simp[hid]
      gi_upto_region 8 with fail;rw[← hw8a];clear hw8a t8a t8;gi_wp2;refine⟨trivial,?_⟩;gi_wp2;obtain⟨q1,q2,q3⟩:=HEnd.out w8a HT8.out (by rw[hGx];simp[hid]);exact⟨q1,rfl,q2,q3⟩
end
end Go.Proofs.YtjlphmmalebgpaaGreat
