/-
  A part of the proof.
-/
import Derived.Test.YtjlphmmalebgpaaGreatK46
set_option linter.unusedSimpArgs false
set_option linter.unusedVariables false
set_option maxHeartbeats 20000000
set_option maxRecDepth 100000
namespace Go.Proofs.YtjlphmmalebgpaaGreat
section
open Go Go.RowKit
namespace Me
theorem shapesGo_at:∀{r:List Node} {acc l:List (List Nat)},shapesGo r acc=some l→OkAll acc→∀i,i<r.length→NodeOk (nodeAt r i)∧Ahead (nodeAt r i).inn (acc.length+i)∧shapeOf (nodeAt r i) (ins l (nodeAt r i).inn)=some (sh l (acc.length+i))
 | [],_,_,_,_,i,hi=>absurd hi (Nat.not_lt_zero i)
 | x::r,acc,l,h,ok,i,hi=>by
   by_cases hA:NodeOk x∧Ahead x.inn acc.length
   ·cases hs:shapeOf x (ins acc x.inn) with
    | none=>rw[shapesGo_none hs]at h;cases h
    | some s =>
      rw[shapesGo_some hA.1 hA.2 hs]at h;have ok2:OkAll (acc ++ [s]):=ok.snoc (shapeOf_ok hA.1 (by rw[ins_length]) (ok.ins hA.2) hs);obtain⟨e1,e2,e3⟩:=shapesGo_len h;cases i with
      | zero =>
        refine⟨hA.1,hA.2,?_⟩
        show shapeOf x (ins l x.inn)=some (sh l (acc.length+0))
        have e4:ins l x.inn=ins acc x.inn:=by
         unfold ins;refine List.map_congr_left fun k hk=>?_
         have h1:=hA.2 k hk;rw[e3 k.toNat (by rw[List.length_append,List.length_singleton];omega),sh_append (by omega)]
        rw[e4,hs,Nat.add_zero,e3 acc.length (by simp),sh_last]
      | succ i =>
        have h2:=shapesGo_at h ok2 i (by simp at hi;omega);rw[List.length_append,List.length_singleton,show acc.length+1+i=acc.length+(i+1) by omega]at h2;exact h2
   ·rw[shapesGo_no hA]at h;cases h
theorem shapes_at {g:List Node}{l:List (List Nat)}(h:shapes g=some l):l.length=g.length∧OkAll l∧∀i,i<g.length→NodeOk (nodeAt g i)∧Ahead (nodeAt g i).inn i∧shapeOf (nodeAt g i) (ins l (nodeAt g i).inn)=some (sh l i):=by
 unfold shapes at h;split at h
 case isFalse=>cases h
 case isTrue hh =>
  obtain⟨e1,e2,_⟩:=shapesGo_len h;refine⟨by simpa using e1,e2 OkAll.nil,fun i hi=>?_⟩;have:=shapesGo_at h OkAll.nil i hi
  simpa using this
end Me
theorem info_Cost:∃i,Tryz.prog.info? 47=some i∧i.zero=some (.agg #[.int .i64 0,.int .i64 0,.int .i64 0])∧i.size=3∧i.bytes=24:=any_info (by kernel_rfl)
def CEl (_:Nat)(_:World)(e:List Value):Prop:=∃x y z:Int,e=[.int .i64 x,.int .i64 y,.int .i64 z]
theorem cEl_stays:Stays CEl where
 touch:=fun h _ _=>h
 lt:=by
  rintro j w e ⟨x,y,z,rfl⟩ k hk a n' c' hm;simp at hm
def CostE (w:World)(e:Ending)(w':World):Prop:=∃a k c er,e = .returned (.tuple #[.slice a k c,.int .i64 er])∧k≤1000∧LIn 3 CEl w' a k∧Touch No w w'
theorem refCosts_in (w:World)(a:Option Addr)(m cap:Nat)(Ns:List Me.Node)(hN:NsIn w a Ns)(hm:Ns.length=m)(hm6:m≤1000) :
  Calls Tryz.prog 18 #[.agg #[.slice a m cap]] w (CostE w):=by
 obtain⟨w1,hw1,t1,R1⟩:=box_row w [.slice a m cap] 24;obtain⟨X,hX⟩:∃X,X=w.heap.size:=⟨_,rfl⟩;rw[← hX]at R1;have C:=Lib.hid (refShapesE_in w1 a m cap Ns (hN.no t1) hm hm6);have y0:w1.cell? ⟨X,0,none⟩=some (.slice a m cap):=R1.cell 0;obtain⟨J,hj0,hj1,hj2,hj3⟩:=info_Cost;have HJ:=Lib.hid (aI hj0 (aI hj1 (aI hj2 hj3)));have HN:=Lib.hid (hN.no t1);have HM:=Lib.hid hm;have HT1:=Lib.hid t1;have HR1:=Lib.hid R1;obtain⟨O,hO⟩:∃O,Me.shapes Ns=O:=⟨_,rfl⟩;rw[hO]at C;have HO:=Lib.hid hO;clear hN hm t1 R1 hj0 hj1 hj2 hj3 hO;go_enter Tryz.func18,Tryz.ntmps18;go_upto_region 1 with fail;rw[← hw1,← hX];clear hw1 hX;go_wp2_with fail;refine C.out.mono ?_;rintro e w2 hr;clear C y0;cases O with
 | none =>
   obtain⟨rfl,t2⟩:=hr;have HT2:=Lib.hid (HT1.out.trans t2);clear t2;go_wp2;refine bodyPost_ret (v:=.tuple #[.slice none 0 0,.int .i64 1]) (by simp[results,Tryz.results18,go_sem]) rfl ?_;exact⟨none,0,0,1,rfl,by omega,fun j hj=>absurd hj (Nat.not_lt_zero j),HT2.out⟩
 | some l =>
   obtain⟨⟨sa,sc,rfl,hsc,hSs⟩,t2⟩:=hr;obtain⟨hll,hok,hat⟩:=Me.shapes_at HO.out;have HAt:=Lib.hid hat;have HOk:=Lib.hid hok;have hlm:l.length=m:=by rw[hll,HM.out]
   rw[hlm]at hsc;rw[hlm];have HS:=Lib.hid hSs;have HT2:=Lib.hid (HT1.out.trans t2);have HT12:=Lib.hid t2;have HR2:=Lib.hid (HR1.out.touch t2 id);have HL:=Lib.hid hlm;clear t2 hSs hat hok hll hlm;go_wp2_with fail
   go_loopg [6,7] m (fun gh s6 s7 wr=>∃(i:Nat) (v:Value),i+gh=m∧s7 = .int .i64 ((i:Nat):Int)∧v=s6∧Hid (LG 3 CEl 47 wr w2.heap.size v i)∧Hid (Touch No w2 wr))
   case atStart=>exact⟨0,_,by omega,rfl,rfl,⟨[],⟨rfl,Or.inl ⟨rfl,rfl⟩⟩,fun j h=>absurd h (Nat.not_lt_zero j)⟩,Touch.refl _ _⟩
   case round =>
    obtain⟨i,v,hig,rfl,rfl,HG,T⟩:=hrel;have k0:wr.cell? ⟨X,0,none⟩=some (.slice a m cap):=(HR2.out.touch T.out id).cell 0;cases gk with
    | zero =>
      obtain rfl:m=i:=by omega
      obtain⟨a5,c5,rfl,hc5,hL5,_⟩:=HG.out.form (by decide);have HE:=Lib.hid hL5;clear hL5 HG;go_wp2;refine bodyPost_ret (v:=.tuple #[.slice a5 m c5,.int .i64 0]) (by simp[results,Tryz.results18,go_sem]) rfl ?_;exact⟨a5,m,c5,0,rfl,hm6,HE.out,HT2.out.trans T.out⟩
    | succ g' =>
      obtain⟨wo,rfl⟩:∃wo:World,wo=wr:=⟨_,rfl⟩;have hik:(i:Int)<(m:Nat):=by omega
      have hiN:i<Ns.length:=by rw[HM.out];omega
      obtain⟨b,o,ia,nn,cc,xa,n',c',rfl,⟨h0,h1,h2,h3,h4⟩,hx⟩:=(HN.out.no (HT12.out.trans T.out)) i hiN;obtain⟨xok,xah,xsh⟩:=HAt.out i hiN;have hkd13:=Me.node_kind xok;obtain⟨x,hxx⟩:∃x,Me.nodeAt Ns i=x:=⟨_,rfl⟩;rw[hxx]at h0 h3 h4 hx xok xah xsh hkd13;obtain⟨kd,hkd⟩:∃kd,x.kind=kd:=⟨_,rfl⟩;obtain⟨NN,hNN⟩:∃z,x.n=z:=⟨_,rfl⟩;obtain⟨PP,hPP⟩:∃z,x.pad=z:=⟨_,rfl⟩;rw[hkd]at h0 hkd13;rw[hNN]at h3;rw[hPP]at h4;obtain⟨bs,os,s0,sn,sc0,rfl,hs1,hs2,hs3,hs4⟩:=(HS.out.no T.out) i (by rw[HL.out];omega);obtain⟨wA,hwA,tA,RA⟩:=box_row wo [.int .u8 ((kd:Nat):Int),.slice ia nn cc,.slice xa n' c',.int .i64 NN,.int .i64 PP] 55;obtain⟨g8,hg8⟩:∃g8,g8=wo.heap.size:=⟨_,rfl⟩;rw[← hg8]at RA;go_upto_region 9 with fail;rw[← hwA,← hg8];have okS:Me.Ok (Me.sh l i):=HOk.out i (by rw[HL.out];omega);obtain⟨q,hq⟩:∃q,Me.pr (Me.sh l i)=q:=⟨_,rfl⟩;have hq4:q≤4096:=by rw[← hq];exact okS.most
      have CS:=Lib.hid (refSize_ok (c:=sc0) (hs4.no tA) hs2 okS hq);have hs1A:wA.cell? ⟨bs,os+i,none⟩=some (.slice s0 sn sc0):=tA.cell id hs1;have HTA:=Lib.hid tA;have HRA:=Lib.hid RA;have HXX:=Lib.hid (aI xok (aI xah (aI xsh (aI hx (aI hkd hxx)))));have hgo:wo.heap.size≤g8:=by omega
      have hn1k:nn≤1000:=hx.i6
      have HIn:Hid (∀j,j<nn→∀wx,Touch No wo wx→∃(v:Nat) (bi oi:Nat) (s1:Option Addr) (n1 c1:Nat),ia=some ⟨bi,oi,none⟩∧wx.cell? ⟨bi,oi+j,none⟩=some (.int .i64 ((v:Nat):Int))∧v<m∧wx.cell? ⟨bs,os+v,none⟩=some (.slice s1 n1 c1)∧(Me.sh l v).length=n1∧n1≤c1∧Rd wx s1 (nums .i64 (Me.sh l v))∧Me.sh (Me.ins l x.inn) j=Me.sh l v):=fun j hj wx t=>by
       have hxi:=hx.no t;obtain⟨bi,oi,e1,c1⟩:=hxi.ir.int (i:=j) (by rw[hxi.il];omega);obtain⟨hv0,hv1⟩:=xah (x.inn.getD j 0) (by rw[Lgd,Lge (by rw[hxi.il];omega)];exact List.getElem_mem _);obtain⟨v,hv⟩:∃v:Nat,x.inn.getD j 0=(v:Int):=⟨(x.inn.getD j 0).toNat,by omega⟩;rw[hv]at c1 hv1;obtain⟨bs',os',s1,n1,c1',e2,z1,z2,z3,z4⟩:=(HS.out.no (T.out.trans t)) v (by rw[HL.out];omega);cases e2
       exact⟨v,bi,oi,s1,n1,c1',e1,c1,by omega,z1,z2,z3,z4,by rw[Me.ins_get (by rw[hxi.il];omega),hv,Int.toNat_natCast]⟩
      clear h0 h1 h2 h3 h4 hx xok xah xsh hs1 hs2 hs3 hs4 tA RA hwA hg8 hq okS hkd hxx k0;go_wp2_with fail;refine CS.out.mono ?_;rintro e wS ⟨rfl,rfl⟩;clear CS hs1A;have e1:IntKind.i64.wrap (4*(q:Int))=((4*q:Nat):Int):=by rw[Int.natCast_mul];exact IntWalk.i64_in _ (by omega)
      obtain⟨q4,hq44⟩:∃q4,4*q=q4:=⟨_,rfl⟩;rw[hq44]at e1;obtain⟨wB,hwB,tB,RB⟩:=box_row wA [.int .i64 ((q4:Nat):Int),.int .i64 ((q4:Nat):Int),.int .i64 0] 47;obtain⟨g10,hg10⟩:∃g10,g10=wA.heap.size:=⟨_,rfl⟩;rw[← hg10]at RB;have hg10':wo.heap.size≤g10:=by have:=HTA.out.size;omega
      go_upto_block 2 with fail;rw[← hwB,← hg10];have HRB:=Lib.hid RB;have HTB:=Lib.hid (HTA.out.trans tB);have HRAB:=Lib.hid (HRA.out.touch tB id);clear hwB tB RB hg10 e1 HRA
      go_cut [] (fun wx=>∃N:Int,Hid (Touch No wo wx)∧Hid (Row wx g8 55 [.int .u8 ((kd:Nat):Int),.slice ia nn cc,.slice xa n' c',.int .i64 NN,.int .i64 PP])∧Hid (Row wx g10 47 [.int .i64 ((q4:Nat):Int),.int .i64 N,.int .i64 0]))
      case first =>
       go_wp2_with fail
       go_loopg [11] nn (fun gh s11 wx=>∃(k:Nat) (N:Int),k+gh=nn∧s11 = .int .i64 ((k:Nat):Int)∧Hid (Touch No wo wx)∧Hid (Row wx g8 55 [.int .u8 ((kd:Nat):Int),.slice ia nn cc,.slice xa n' c',.int .i64 NN,.int .i64 PP])∧Hid (Row wx g10 47 [.int .i64 ((q4:Nat):Int),.int .i64 N,.int .i64 0]))
       case atStart=>exact⟨0,_,by omega,rfl,HTB.out,HRAB.out,HRB.out⟩
       case round =>
        obtain⟨k,N,hkg,rfl,TK,R8,R10⟩:=hrel;obtain⟨wq,hwq⟩:∃wq:World,wq=wr:=⟨_,rfl⟩;subst hwq;have y1:wq.cell? ⟨g8,1,none⟩=some (.slice ia nn cc):=R8.out.cell 1;cases gk with
        | zero =>
          obtain rfl:k=nn:=by omega
          go_wp2;go_meet;exact⟨N,TK.out,R8.out,R10.out⟩
        | succ g2 =>
          have hkn:(k:Int)<(nn:Nat):=by omega
          go_upto_block 4 with fail
          go_cut [12] (fun s12 wx=>∃bb:Bool,s12 = .bool bb∧Hid (Touch No wq wx))
          case first =>
           go_wp2_with fail
           go_loopg [12,13] k (fun gh s12 s13 wx=>∃(j:Nat) (bb:Bool),j+gh=k∧s12 = .bool bb∧s13 = .int .i64 ((j:Nat):Int)∧Hid (Touch No wq wx))
           case atStart=>exact⟨0,false,by omega,rfl,rfl,Touch.refl _ _⟩
           case round =>
            obtain⟨j,bb,hjg,rfl,rfl,TJ⟩:=hrel;cases gk with
            | zero =>
              obtain rfl:j=k:=by omega
              go_wp2;go_meet;exact⟨bb,rfl,TJ.out⟩
            | succ g3 =>
              have hjk:(j:Int)<(k:Nat):=by omega
              have hjn:(j:Int)<(nn:Nat):=by omega
              have hxi:=(HXX.out.2.2.2.1.no (TK.out.trans TJ.out));obtain⟨bi,oi,rfl,c1⟩:=hxi.ir.int (i:=j) (by rw[hxi.il];omega);obtain⟨bi2,oi2,e2,c2⟩:=hxi.ir.int (i:=k) (by rw[hxi.il];omega);cases e2
              have z0:=KW.cell ((R8.out.touch TJ.out id).cell 1);have z1:=KW.cell c1;have z2:=KW.cell c2;obtain⟨v1,hv1⟩:∃z,x.inn.getD j 0=z:=⟨_,rfl⟩;obtain⟨v2,hv2⟩:∃z,x.inn.getD k 0=z:=⟨_,rfl⟩;rw[hv1]at z1;rw[hv2]at z2;clear c1 c2 hxi hv1 hv2;cases bb
              all_goals
               go_upto_region 18 with fail;refine wp_region_kept (by kernel_rfl) (by kernel_rfl) ?_;repeat (first|go_big_quiet_step (fail)|quiet_step (fail))
               refine wpQuiet_nil ?_;intro _ hw';obtain⟨kw,hw''⟩:=hw';subst hw'';obtain⟨wk,tk⟩:=kw;have tk:=Lib.hid tk;dsimp only;have TJ2:=Lib.hid (TJ.out.trans tk.out);clear z0 z1 z2;go_wp2
               go_roundg g3
               case measure=>omega
               case rel=>exact⟨j+1,_,by omega,rfl,by go_num,TJ2⟩
          case rest =>
           obtain⟨bb,rfl,TQ⟩:=hcut;have R8q:=Lib.hid (R8.out.touch TQ.out id);have R10q:=Lib.hid (R10.out.touch TQ.out id);have TKq:=Lib.hid (TK.out.trans TQ.out);clear y1;cases bb
           ·have hxi:=(HXX.out.2.2.2.1.no TKq.out)
            obtain⟨bi,oi,rfl,c1⟩:=hxi.ir.int (i:=k) (by rw[hxi.il];omega);obtain⟨hv0,hv1⟩:=HXX.out.2.1 (x.inn.getD k 0) (by rw[Lgd,Lge (by rw[hxi.il];omega)];exact List.getElem_mem _);obtain⟨vk,hvk⟩:∃vk:Nat,x.inn.getD k 0=(vk:Int):=⟨(x.inn.getD k 0).toNat,by omega⟩;rw[hvk]at c1 hv1;obtain⟨av,cv,hvv,hcv,hLv,_⟩:=(HG.out.no cEl_stays TKq.out).form (by decide);subst hvv;obtain⟨bv,ov,ev,rfl,_,hcv2,⟨B1,N1,W1,rfl⟩⟩:=hLv vk (by omega);have q1:=KW.cell (R10q.out.cell 1);have q2:=KW.cell (R8q.out.cell 1);have q3:=KW.cell c1;have q4':=KW.cell (by have h:=hcv2 0 _ rfl;rw[Nat.add_zero]at h;exact h);have hvi:(vk:Int)<(i:Nat):=by omega
            clear hxi c1 hv0 hcv2 hLv hvk;go_upto_region 20 with fail;refine wp_region_kept_tail 12 (by kernel_rfl) (by kernel_rfl) ?_;simp only[List.take_succ_cons,List.take_zero,List.drop_succ_cons,List.drop_zero];repeat (first|go_big_quiet_step (fail)|quiet_step (fail))
            refine wpQuiet_nil ?_;intro _ hw';obtain⟨kw,hw''⟩:=hw';subst hw'';obtain⟨wk,tk⟩:=kw;have tk:=Lib.hid tk;dsimp only;clear q1 q2 q3 q4';have R10k:=R10q.out.touch tk.out id;have yc:wk.cell? ⟨g10,1,none⟩=some (.int .i64 N):=R10k.cell 1;have fc:=R10k.soft 1;have HR10k:=Lib.hid R10k;have R8k:=Lib.hid (R8q.out.touch tk.out id);have TKk:=Lib.hid (TKq.out.trans tk.out);clear R10k;go_wp2;have t9:Touch (One g10) wk (wk.setCell ⟨g10,1,none⟩ (.int .i64 (wrap64 (N+B1)))):=(Touch.refl (One g10) wk).setCell (p:=⟨g10,1,none⟩) (fun _=>rfl) _;have hne:=R8k.out.ne HR10k.out (by decide);have H9:=Lib.hid (aI (TKk.out.then t9 (fun i hi e=>by have e':i=g10:=e;omega)) (aI (R8k.out.touch t9 hne) (HR10k.out.setCell 1 (.int .i64 (wrap64 (N+B1))))));clear t9 hne
            go_roundg g2
            case measure=>omega
            case rel=>exact⟨k+1,wrap64 (N+B1),by omega,by go_num,H9.out.1,H9.out.2.1,H9.out.2.2⟩
           ·go_wp2
            go_roundg g2
            case measure=>omega
            case rel=>exact⟨k+1,N,by omega,by go_num,TKq.out,R8q.out,R10q.out⟩
      case rest =>
       obtain⟨N,T5,R8,R10⟩:=hcut;obtain⟨w5,hw5⟩:∃w5:World,w5=wc:=⟨_,rfl⟩;subst hw5;have y0:w5.cell? ⟨g8,0,none⟩=some (.int .u8 ((kd:Nat):Int)):=R8.out.cell 0;go_upto_block 6 with fail;clear y0
       go_cut [] (fun wx=>∃W:Int,Hid (Touch No wo wx)∧Hid (Row wx g10 47 [.int .i64 ((q4:Nat):Int),.int .i64 N,.int .i64 W]))
       case first =>
        have y2:w5.cell? ⟨g10,2,none⟩=some (.int .i64 0):=R10.out.cell 2;have f2:=R10.out.soft 2
        have HEnd:Hid (∀wx,Touch No w5 wx→∀W:Int,Touch No wo (wx.setCell ⟨g10,2,none⟩ (.int .i64 W))∧Row (wx.setCell ⟨g10,2,none⟩ (.int .i64 W)) g10 47 [.int .i64 ((q4:Nat):Int),.int .i64 N,.int .i64 W]):=fun wx t W=>by
         have t9:Touch (One g10) wx (wx.setCell ⟨g10,2,none⟩ (.int .i64 W)):=(Touch.refl (One g10) wx).setCell (p:=⟨g10,2,none⟩) (fun _=>rfl) _;exact⟨(T5.out.trans t).then t9 (fun i hi e=>by have e':i=g10:=e;omega),(R10.out.touch t id).setCell 2 _⟩
        have hc:kd=1∨kd=2∨kd=7∨kd=8∨kd=9∨kd=13∨(kd=3∨kd=4∨kd=5∨kd=6∨kd=10∨kd=11∨kd=12):=by omega
        rcases hc with rfl|rfl|rfl|rfl|rfl|rfl|hc
        ·go_wp2
         go_meet;exact⟨0,(HEnd.out _ (Touch.refl _ _) _).1,(HEnd.out _ (Touch.refl _ _) _).2⟩
        ·go_wp2
         go_meet;exact⟨0,(HEnd.out _ (Touch.refl _ _) _).1,(HEnd.out _ (Touch.refl _ _) _).2⟩
        ·
         have hxi:=HXX.out.2.2.2.1;have hk7:=HXX.out.2.2.2.2.1;obtain⟨A,hA,hK⟩:=HXX.out.1;have hle:=hK.le;rw[hk7]at hA;have hA2:A=⟨2,2,0,0,0,0⟩:=by simp[Me.asks]at hA;exact hA.symm
         subst hA2;dsimp only at hle;rw[hxi.il]at hle;obtain⟨v,bi,oi,s1,n1,c1,rfl,z1,hvm,z2,hn1,hnc,z4,hins⟩:=HIn.out 0 (by omega) w5 T5.out;have hsh:=HXX.out.2.2.1;unfold Me.shapeOf at hsh;rw[hk7]at hsh;simp only[show ¬(7=1∨7=2) by decide,show ¬(7=3∨7=4) by decide,show ¬(7=5∨7=6) by decide,if_false,if_true]at hsh
         have h2:(Me.sh l v).length=2:=by
          rw[← hins];unfold Me.prodS at hsh;split at hsh
          case isTrue hh=>exact hh.1
          case isFalse=>cases hsh
         obtain⟨b1,o1,rfl,z5⟩:=z4.num (i:=1) (by omega);have y1:w5.cell? ⟨g8,1,none⟩=some (.slice (some ⟨bi,oi,none⟩) nn cc):=R8.out.cell 1;have hnn0:(0:Int)<(nn:Nat):=by omega
         have hvm':(v:Int)<(m:Nat):=by omega
         have hn11:(1:Int)<(n1:Nat):=by omega
         rw[Nat.add_zero]at z1;clear hxi hA hK hle z4 hins hsh h2 hn1 hnc hvm;go_wp2;go_meet;exact⟨_,(HEnd.out _ (Touch.refl _ _) _).1,(HEnd.out _ (Touch.refl _ _) _).2⟩
        ·
         have hxi:=HXX.out.2.2.2.1;have hk7:=HXX.out.2.2.2.2.1;obtain⟨A,hA,hK⟩:=HXX.out.1;have hle:=hK.le;rw[hk7]at hA;have hA2:A=⟨2,2,1,8,8,0⟩:=by simp[Me.asks]at hA;exact hA.symm
         subst hA2;dsimp only at hle;rw[hxi.il]at hle;obtain⟨v,bi,oi,s1,n1,c1,rfl,z1,hvm,z2,hn1,hnc,z4,hins⟩:=HIn.out 1 (by omega) w5 T5.out;have hsh:=HXX.out.2.2.1;unfold Me.shapeOf at hsh;rw[hk7]at hsh;simp only[show ¬(8=1∨8=2) by decide,show ¬(8=3∨8=4) by decide,show ¬(8=5∨8=6) by decide,show ¬(8=7) by decide,if_false,if_true]at hsh
         have h2:(Me.sh l v).length=4:=by
          rw[← hins];exact(Me.win_ok hsh).1.2.1.2
         have okT:Me.Ok (Me.sh l v):=HOk.out v (by rw[HL.out];exact hvm);obtain⟨b1,o1,rfl,z5⟩:=z4.num (i:=0) (by omega);rw[Nat.add_zero]at z5;obtain⟨t0,ht0⟩:∃z,(Me.sh l v).getD 0 0=z:=⟨_,rfl⟩;have ht1:1≤t0:=by rw[← ht0];exact(okT.get (k:=0) (by omega)).1
         rw[ht0]at z5;obtain⟨pt,hpt⟩:∃z,Me.pr (Me.sh l v)=z:=⟨_,rfl⟩;have CW:=Lib.hid (fun p:KW w5=>(refSize_ok (c:=c1) (z4.no p.no) hn1 okT hpt).mono (R':=fun e w'=>e = .returned (.int .i64 (pt:Nat))∧Touch No p.wd w') (by rintro e w' ⟨h,rfl⟩;exact⟨h,Touch.refl _ _⟩));have q1:=KW.cell (R8.out.cell 1);have q2:=KW.cell z1;have q3:=KW.cell z2;have q5:=KW.cell z5;have hnn0:(1:Int)<(nn:Nat):=by omega
         have hvm':(v:Int)<(m:Nat):=by omega
         have hn11:(0:Int)<(n1:Nat):=by omega
         have z01:((t0:Int)==0)=false:=by simp;omega
         have z02:¬(t0:Int)=0:=by omega
         have z03:¬t0=0:=by omega
         clear hxi hA hK hle z4 hins hsh h2 hn1 hnc hvm z1 z2 z5 okT ht0 hpt ht1 y2 f2;go_upto_region 29 with fail;refine wp_region_kept_tail 20 (by kernel_rfl) (by kernel_rfl) ?_;simp only[List.take_succ_cons,List.take_zero,List.drop_succ_cons,List.drop_zero];repeat (first|go_big_quiet_step (with_reducible exact Calls.kept_of (CW.out _))|quiet_step (with_reducible exact Calls.kept_of (CW.out _)))
         refine wpQuiet_nil ?_;intro _ hw';obtain⟨kw,hw''⟩:=hw';subst hw'';obtain⟨wk,tk⟩:=kw;have tk:=Lib.hid tk;dsimp only;clear q1 q2 q3 q5 CW;have r10k:=R10.out.touch tk.out id;have y2:wk.cell? ⟨g10,2,none⟩=some (.int .i64 0):=r10k.cell 2;have f2:=r10k.soft 2;clear r10k;go_wp2;go_meet;exact⟨_,(HEnd.out _ tk.out _).1,(HEnd.out _ tk.out _).2⟩
        ·
         have y3:w5.cell? ⟨g8,3,none⟩=some (.int .i64 NN):=R8.out.cell 3;go_wp2;go_meet;exact⟨_,(HEnd.out _ (Touch.refl _ _) _).1,(HEnd.out _ (Touch.refl _ _) _).2⟩
        ·
         have hxi:=HXX.out.2.2.2.1;have hk7:=HXX.out.2.2.2.2.1;obtain⟨A,hA,hK⟩:=HXX.out.1;have hle:=hK.le;rw[hk7]at hA;have hA2:A=⟨1,1,0,3,0,0⟩:=by simp[Me.asks]at hA;exact hA.symm
         subst hA2;dsimp only at hle;rw[hxi.il]at hle;obtain⟨v,bi,oi,s1,n1,c1,rfl,z1,hvm,z2,hn1,hnc,z4,hins⟩:=HIn.out 0 (by omega) w5 T5.out;have okT:Me.Ok (Me.sh l v):=HOk.out v (by rw[HL.out];exact hvm);obtain⟨pt,hpt⟩:∃z,Me.pr (Me.sh l v)=z:=⟨_,rfl⟩;have CW:=Lib.hid (refSize_ok (c:=c1) z4 hn1 okT hpt);have y1:w5.cell? ⟨g8,1,none⟩=some (.slice (some ⟨bi,oi,none⟩) nn cc):=R8.out.cell 1;have hnn0:(0:Int)<(nn:Nat):=by omega
         have hvm':(v:Int)<(m:Nat):=by omega
         rw[Nat.add_zero]at z1;clear hxi hA hK hle z4 hins hn1 hnc hvm okT hpt;go_wp2_with fail;refine CW.out.mono ?_;rintro e w6 ⟨rfl,rfl⟩;go_wp2;go_meet;exact⟨_,(HEnd.out _ (Touch.refl _ _) _).1,(HEnd.out _ (Touch.refl _ _) _).2⟩
        ·have d1:((kd:Int)==1)=false:=by simp;omega
         have d2:((kd:Int)==2)=false:=by simp;omega
         have d7:((kd:Int)==7)=false:=by simp;omega
         have d8:((kd:Int)==8)=false:=by simp;omega
         have d9:((kd:Int)==9)=false:=by simp;omega
         have d13:((kd:Int)==13)=false:=by simp;omega
         go_wp2;go_meet;exact⟨_,(HEnd.out _ (Touch.refl _ _) _).1,(HEnd.out _ (Touch.refl _ _) _).2⟩
       case rest =>
        obtain⟨W,T6,R10w⟩:=hcut;obtain⟨w6,hw6⟩:∃w6:World,w6=wc:=⟨_,rfl⟩;subst hw6;have y0:w6.cell? ⟨g10,0,none⟩=some (.int .i64 ((q4:Nat):Int)):=R10w.out.cell 0;have y1:w6.cell? ⟨g10,1,none⟩=some (.int .i64 N):=R10w.out.cell 1;have y2:w6.cell? ⟨g10,2,none⟩=some (.int .i64 W):=R10w.out.cell 2;obtain⟨wz,hwz,tz,Rz⟩:=box_row w6 [.int .i64 ((q4:Nat):Int),.int .i64 N,.int .i64 W] 47;have Tz:=Lib.hid (T6.out.trans tz);obtain⟨vv,hvv⟩:∃vv,vv=v:=⟨_,rfl⟩;subst hvv;obtain⟨cs,hown,hlv⟩:=HG.out;have hvk:=Lib.hid (fun q (hk:InBlock vv q)=>ownsRow_block hown hk);have hown0:=Lib.hid (ownsRow_no (ownsRow_zero hown) Tz.out);have HOW:=Lib.hid (aI (ownsRow_no hown Tz.out) (hlv.no cEl_stays Tz.out));have HRz:=Lib.hid Rz;clear tz Rz hown hlv;go_wp2_with (at_builtin;rw[← hwz];refine wpList_append_rows rfl _ _ 42 rfl 47 J _ 3 24 Tryz.underlying42 HJ.out.1 HJ.out.2.1 HJ.out.2.2.1 HJ.out.2.2.2 rfl (by decide) vv i cs hown0.out rfl (some ⟨w6.heap.size,0,none⟩) 1 1 [.int .i64 ((q4:Nat):Int),.int .i64 N,.int .i64 W] rfl rfl (rd_row HRz.out) (by intro u hu;simp at hu;rcases hu with rfl|rfl|rfl <;> rfl) (by unfold maxLen;omega) (by omega) ?_;intro a3 c3 w13 hown3 ht3 hb3);have HG3:=Lib.hid (LG.grow cEl_stays HOW.out.1 HOW.out.2 hown3 ht3 hb3 (by have h1:=T.out.size;have h2:=Tz.out.size;omega) rfl ⟨_,_,_,rfl⟩ (fun q hq a n' c' hm=>by simp at hm));have T13:Hid (Touch No w2 w13):=(T.out.trans Tz.out).then ht3 (fun i hi e=>absurd (hvk.out i e).1 (by omega));clear hown3 ht3 hb3 y0 y1 y2
        go_roundg g'
        case measure=>omega
        case rel=>exact⟨i+1,_,by omega,by go_num,rfl,HG3,T13⟩
end
end Go.Proofs.YtjlphmmalebgpaaGreat
