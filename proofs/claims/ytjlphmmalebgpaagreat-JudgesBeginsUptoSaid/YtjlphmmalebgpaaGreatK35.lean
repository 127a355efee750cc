/-
  A part of the proof.
-/
import Derived.Test.YtjlphmmalebgpaaGreatK34
set_option linter.unusedSimpArgs false
set_option linter.unusedVariables false
set_option maxHeartbeats 2000000
set_option maxRecDepth 100000
namespace Go.Proofs.YtjlphmmalebgpaaGreat
section
open Go Go.RowKit
theorem ownsRow_zero {w:World}{base:Nat}{T:TypeId}{s n:Nat}{v:Value}{cs:List Value}(h:w.ownsRow base T s v n cs):w.ownsRow 0 T s v n cs:=by
 obtain⟨hl,hh⟩:=h;refine⟨hl,hh.imp id ?_⟩;rintro⟨g,cap,cur,hv,hg,q⟩;exact⟨g,cap,cur,hv,Nat.zero_le _,q⟩
theorem wp_region_any_drew {P:Program}{Q:Exit→Act→World→Prop}{id:Nat}{a:Act}{w:World}{l:List Oper}(n:Nat)(LN:Array Bool)(hm:P.follows .mixedOrders=true)(hn:l.length=n)(hL:Array.replicate n false=LN)
  (h:∀w',w'=w.drew→wpAny P .any l.toArray Q n LN a w'):(Code.region id l.toArray true).wp P Q a w:=by
 subst hn hL;exact wp_region_any hm (h w.drew rfl)
theorem WsIn.cut {w:World}{b o:Nat}{Ws:List Me.Raw}{k:Nat}(h:WsIn w (some ⟨b,o,none⟩) (Ws.drop k)):WsIn w (some ⟨b,o+2,none⟩) (Ws.drop (k+1)):=fun j hj=>by
 rw[List.length_drop]at hj;obtain⟨b',o',sa,n,c,la,m,d,e,h1,h2,h3⟩:=h (j+1) (by rw[List.length_drop];omega);cases e
 refine⟨_,_,sa,n,c,la,m,d,rfl,by rw[← h1];congr 2;omega,by rw[← h2];congr 2;omega,?_⟩;rw[Me.drop_raw,show k+1+j=k+(j+1) by omega,← Me.drop_raw];exact h3
theorem WsIn.nil {w:World}{a:Option Addr}{Ws:List Me.Raw}(h:Ws=[]):WsIn w a Ws:=fun j hj=>by subst h;exact absurd hj (Nat.not_lt_zero j)
theorem twinT_in (w:World)(sa la:Option Addr)(n c m d:Nat)(t:Me.Raw)(h:RIn w sa n c la m d t)(hc:Ar.check t.1 t.2=true) :
  Calls Tryz.prog 66 #[.agg #[.slice sa n c,.slice la m d]] w fun e w'=>∃sa' la',e = .returned (.agg #[.slice sa' n n,.slice la' m m])∧TIn w' sa' n n la' m m (Me.nats t.1) t.2∧(∀k,k<w.heap.size→Off sa' k∧Off la' k)∧Touch No w w':=by
 have hT:=h.ten hc;refine(meansTwin_any w sa la n c m d t.1 t.2 h.sn (by have:=h.s6;omega) hT.n1 h.sr h.lm (by have:=h.l6;omega) hT.m1 h.lr).mono ?_;rintro e w' ⟨sa',la',rfl,hr1,hr2,hb1,hb2,_,_,tt⟩;rw[h.sn,h.lm]
 have hz:Me.zs (Me.nats t.1)=t.1:=by
  rw[Ar.check_is,Bool.and_eq_true,decide_eq_true_eq]at hc;exact(Me.ok_nats hc.1).1
 refine⟨sa',la',rfl,{sr:=by rw[← zs_ints,hz];exact hr1,sn:=hT.sn,sc:=Nat.le_refl _,lr:=hr2,lm:=hT.lm,lc:=Nat.le_refl _,ok:=hT.ok,len:=hT.len,rng:=hT.rng},fun k hk=>⟨fun ad e he=>?_,fun ad e he=>?_⟩,tt⟩
 ·obtain⟨b',o',e',hc'⟩:=(show Rd w' sa' (ints .i64 t.1) from hr1).int (i:=0) (by have:=hT.n1;rw[h.sn];omega)
  rw[e]at e';cases e';have:=(hb1 _ _ e).1;have he':b'=k:=he;omega
 ·obtain⟨b',o',e',hc'⟩:=(show Rd w' la' (ints .i32 t.2) from hr2).int (i:=0) (by have:=hT.m1;rw[h.lm];omega)
  rw[e]at e';cases e';have:=(hb2 _ _ e).1;have he':b'=k:=he;omega
theorem meansAll_in (HW:WinHas)(HPo:PoolHas)(w:World)(a wa sa la:Option Addr)(mm cap wn wc n c m d:Nat)(Ns:List Me.Node)(Ws:List Me.Raw)(input:Me.Raw)(hN:NsIn w a Ns)(hm:Ns.length=mm)(hm6:mm≤1000)(hW:WsIn w wa Ws)(hWl:Ws.length=wn)(hWc:wn≤wc)(hW6:wn≤2000000)(hI:RIn w sa n c la m d input) :
  Calls Tryz.prog 45 #[.agg #[.slice a mm cap],.slice wa wn wc,.agg #[.slice sa n c,.slice la m d]] w (AllOut w (Me.all Ns Ws input)):=by
 obtain⟨J,hj0,hj1,hj2,hj3⟩:=info_Ten;have HJ:=Lib.hid (aI hj0 (aI hj1 (aI hj2 hj3)));clear hj0 hj1 hj2 hj3;obtain⟨w1,hw1,t1,R1,R2,hs1⟩:=rows_2 w [.slice a mm cap] [.slice sa n c,.slice la m d] 24 51;have C1:=Lib.hid (fun(wx:World) (t:Touch No w wx)=>check_in wx a mm cap Ns (hN.no t) hm hm6);have C2:=Lib.hid (fun(wx:World) (t:Touch No w wx)=>weights_in wx a mm cap Ns (hN.no t) hm hm6);obtain⟨Z,hZ⟩:∃Z,Me.all Ns Ws input=Z:=⟨_,rfl⟩;obtain⟨bs,hbs⟩:∃bs,(Me.shapes Ns).isSome=bs:=⟨_,rfl⟩;obtain⟨Q,hQ⟩:∃Q,(Me.weights Ns mm).length=Q:=⟨_,rfl⟩;rw[hZ];rw[hbs]at C1;rw[hQ]at C2;have HZ:=Lib.hid hZ;have HB:=Lib.hid hbs;have HQ:=Lib.hid hQ;have HN:=Lib.hid hN;have HM:=Lib.hid hm;have HWs:=Lib.hid (aI hW hWl);have HI:=Lib.hid hI;have HT1:=Lib.hid t1;have HR1:=Lib.hid R1;have HR2:=Lib.hid R2;have y0:=R1.cell 0;simp only[Lz0]at y0;clear hZ hbs hQ hN hm hW hWl hI t1 R1 R2;obtain⟨X,hX⟩:∃X,X=w.heap.size:=⟨_,rfl⟩;rw[← hX]at y0 HR1 HR2 hs1;go_enter Tryz.func45,Tryz.ntmps45;go_wp2_with fail;rw[← hw1,← hX];clear hw1 hX;refine(C1.out _ HT1.out).mono ?_;rintro e w2 ⟨rfl,t2⟩;have T2:=Lib.hid (HT1.out.trans t2);have z0:=(HR1.out.touch t2 id).cell 0;simp only[Lz0]at z0;have HR22:=Lib.hid (HR2.out.touch t2 id);have HR12:=Lib.hid (HR1.out.touch t2 id);clear y0 t2 C1 hs1;cases bs with
 | false =>
   have HE:Hid (Z=none):=by
    rw[← HZ.out,Me.all,if_neg (by rw[HB.out];simp)];rfl
   go_wp2;refine bodyPost_ret (v:=.tuple #[.slice none 0 0,.int .i64 1]) (by simp[results,Tryz.results45,go_sem]) rfl ?_;rw[HE.out];exact⟨rfl,T2.out⟩
 | true =>
   go_wp2_with fail;refine(C2.out _ T2.out).mono ?_;rintro e w3 ⟨aq,rfl,_,t3⟩;have T3:=Lib.hid (T2.out.trans t3);have HR13:=Lib.hid (HR12.out.touch t3 id);have HR23:=Lib.hid (HR22.out.touch t3 id);clear z0 t3 C2 T2 HR12 HR22 HT1 HR1 HR2;have k0:=HR13.out.cell 0;simp only[Lz0]at k0;have l0:=HR23.out.cell 0;have l1:=HR23.out.cell 1;simp only[Lz0,Ls0]at l0 l1
   by_cases hq:wn=Q
   ·subst hq
    have f1:((wn:Int) != (wn:Int))=false:=by simp
    go_upto_region 4 with fail;obtain⟨w4,hw4,t4,R4⟩:=box_row w3 [.slice sa n c,.slice la m d] 51;rw[← hw4];obtain⟨G,hG⟩:∃G,G=w3.heap.size:=⟨_,rfl⟩;rw[← hG]at R4 ⊢;have T4:=Lib.hid (T3.out.trans t4);have HR14:=Lib.hid (HR13.out.touch t4 id);have HR4:=Lib.hid R4;have k4:=HR14.out.cell 0;simp only[Lz0]at k4;clear hw4 t4 R4 hG HR23 HR13 T3 k0 l0 l1
    obtain⟨l,hl⟩:∃l,Me.shapes Ns=some l:=by
     have hb:=HB.out;cases h:Me.shapes Ns with
     | none=>rw[h]at hb;cases hb
     | some l=>exact⟨l,rfl⟩
    have HL:Hid ((1≤mm∧mm≤32)∧Me.inputs Ns=1∧Me.shapesGo Ns []=some l∧Me.allGo Ws input Ns [] 0=Z∧wn=(Me.weights Ns mm).length):=by
     have hl0:=hl;unfold Me.shapes at hl;split at hl
     case isFalse=>cases hl
     case isTrue hh =>
      refine⟨by rw[HM.out]at hh;exact hh.1,hh.2.1,hl,?_,HQ.out.symm⟩;rw[← HZ.out,Me.all,if_pos ⟨HB.out,by rw[HWs.out.2,HM.out,HQ.out]⟩]
    clear hl HB HZ HQ;have hbase:X<w4.heap.size:=HR14.out.lt;have hgb:G<w4.heap.size:=HR4.out.lt;go_wp2_with fail
    go_loopg [6,7,8,9,33] mm (fun gh s6 s7 s8 s9 s33 wr=>∃(i k n9 c9:Nat) (a9:Option Addr) (v v8:Value) (Ts:List Me.Ten),i+gh=mm∧s33 = .int .i64 ((i:Nat):Int)∧v=s6∧v8=s8∧s7 = .int .i64 0∧s9 = .slice a9 n9 c9∧n9≤c9∧
     Hid (Me.inputs (Ns.take i)=0→v8 = .slice (some ⟨G,0,none⟩) 1 1)∧Hid (n9=wn-k∧∀wx,Touch No w4 wx→WsIn wx a9 (Ws.drop k))∧Hid (Touch No w4 wr)∧Hid (TsG wr w4.heap.size v Ts)∧Hid (Ts.length=i∧Me.shapesGo (Ns.drop i) (Ts.map Prod.fst)=some l∧Me.allGo Ws input (Ns.drop i) Ts k=Z∧k=(Me.weights Ns i).length))
    case atStart=>exact⟨0,0,wn,wc,wa,_,_,[],by omega,rfl,rfl,rfl,rfl,rfl,hWc,fun _=>rfl,⟨rfl,fun wx t=>HWs.out.1.no (T4.out.trans t)⟩,Touch.refl _ _,TsG.nil _ _,rfl,HL.out.2.2.1,HL.out.2.2.2.1,rfl⟩
    case round =>
     obtain⟨i,k,n9,c9,a9,v,v8,Ts,hig,rfl,rfl,rfl,rfl,rfl,hc9,H8,H9,T,HG,HP⟩:=hrel;cases gk with
     | zero =>
       obtain rfl:mm=i:=by omega
       obtain⟨a5,c5,rfl,hc5,hT5,_⟩:=HG.out.form (n:=mm) HP.out.1
       have HE:Hid (AllOut w Z (.returned (.tuple #[.slice a5 mm mm,.int .i64 0])) wr):=by
        have e:=HP.out.2.2.1;rw[List.drop_of_length_le (by rw[HM.out];exact Nat.le_refl _)]at e;rw[← e];exact⟨a5,mm,by rw[HP.out.1],by rw[HP.out.1];exact Nat.le_refl _,hT5,T4.out.trans T.out⟩
       clear hT5 HG HP;go_wp2_with fail;refine(clipTs_any _ _ _ _ hc5).mono ?_;rintro e w' ⟨rfl,rfl⟩;go_wp2;refine bodyPost_ret (v:=.tuple #[.slice a5 mm mm,.int .i64 0]) (by simp[results,Tryz.results45,go_sem]) rfl ?_;exact HE.out
     | succ g' =>
       have hik:(i:Int)<(mm:Nat):=by omega
       have hiN:i<Ns.length:=by rw[HM.out];omega
       obtain⟨b,o,ia,nn,cc,xa,n',c',rfl,⟨h0,h1,h2,h3,h4⟩,hx⟩:=(HN.out.no (T4.out.trans T.out)) i hiN;obtain⟨xok,xah,s,hs,hgo⟩:=Me.go_node hiN HP.out.1 HP.out.2.1;have hkd13:=Me.node_kind xok;obtain⟨x,hxx⟩:∃x,Me.nodeAt Ns i=x:=⟨_,rfl⟩;rw[hxx]at h0 h3 h4 hx xok xah hs hkd13;obtain⟨kd,hkd⟩:∃kd,x.kind=kd:=⟨_,rfl⟩;obtain⟨NN,hNN⟩:∃NN,x.n=NN:=⟨_,rfl⟩;obtain⟨PP,hPP⟩:∃PP,x.pad=PP:=⟨_,rfl⟩;have HND:Hid (nodeV ia nn cc xa n' c' x = .agg #[.int .u8 ((kd:Nat):Int),.slice ia nn cc,.slice xa n' c',.int .i64 NN,.int .i64 PP]):=by show _=_;rw[nodeV,hkd,hNN,hPP]
       rw[hkd]at h0 hkd13;rw[hNN]at h3;rw[hPP]at h4;have HXX:=Lib.hid (aI hxx hkd);have HX:=Lib.hid (aI hx (aI xok (aI xah (aI hs hgo))));clear hx xok xah hs hgo;go_upto_block 2 with fail;obtain⟨w5,hw5,t5,R5,R6,hs5⟩:=rows_2 wr [.int .u8 ((kd:Nat):Int),.slice ia nn cc,.slice xa n' c',.int .i64 NN,.int .i64 PP] [.slice none 0 0,.slice none 0 0] 55 51;rw[← hw5];obtain⟨X5,hX5⟩:∃X5,X5=wr.heap.size:=⟨_,rfl⟩;rw[← hX5]at R5 R6 hs5 ⊢;have T5:Hid (Touch No w4 w5):=T.out.trans t5;have HR5:=Lib.hid R5;have HR6:=Lib.hid R6;have hs6:w4.heap.size≤X5:=by rw[hX5];exact T.out.size
       have T5r:Hid (Touch No wr w5):=t5;have hsr:wr.heap.size=X5:=hX5.symm;have q0:=R5.cell 0;simp only[Lz0]at q0;clear hw5 t5 R5 R6 h0 h1 h2 h3 h4 hxx hX5 hkd hNN hPP
       go_cut [6,7,8,9] (fun s6 s7 s8 s9 wx=>∃(k' n9' c9' fn fc fm fd:Nat) (a9' fa fl:Option Addr) (tt:Me.Raw) (v8':Value),v=s6∧v8'=s8∧s7 = .int .i64 0∧s9 = .slice a9' n9' c9'∧n9'≤c9'∧
        Hid (Me.inputs (Ns.take (i+1))=0→v8' = .slice (some ⟨G,0,none⟩) 1 1)∧Hid (n9'=wn-k'∧∀wy,Touch No w4 wy→WsIn wy a9' (Ws.drop k'))∧Hid (Touch No wr wx)∧Hid (Row wx X5 55 [.int .u8 ((kd:Nat):Int),.slice ia nn cc,.slice xa n' c',.int .i64 NN,.int .i64 PP])∧Hid (Row wx (X5+1) 51 [.slice fa fn fc,.slice fl fm fd])∧Hid (RIn wx fa fn fc fl fm fd tt)∧
        Hid (Me.fitsR tt x.shape=true→Me.allGo Ws input (Ns.drop (i+1)) (Ts ++ [Me.ten tt]) k'=Z)∧Hid (Me.fitsR tt x.shape=false→Z=none)∧Hid (k'=(Me.weights Ns (i+1)).length)∧Hid (s=Me.nats x.shape))
       case first =>
        by_cases hk1:kd=1
        ·subst hk1
         obtain⟨hi0,hi1⟩:=Me.inputs_one HL.out.2.1 hiN (by rw[HXX.out.1];exact HXX.out.2);have e8:=H8.out hi0;subst e8;have HI1:=Lib.hid hi1;have g0:=(HR4.out.touch T5.out id).cell 0;have g1:=(HR4.out.touch T5.out id).cell 1;simp only[Lz0,Ls0]at g0 g1;clear hi0 hi1 H8;have HRI:Hid (RIn wr sa n c la m d input):=HI.out.no (T4.out.trans T.out)
         have HYes:Hid (Me.fitsR input x.shape=true→Me.allGo Ws input (Ns.drop (i+1)) (Ts ++ [Me.ten input]) k=Z):=fun h=>by
          rw[← Me.all_in hiN (by rw[HXX.out.1];exact HXX.out.2) (by rw[HXX.out.1];exact h)];exact HP.out.2.2.1
         have HNo:Hid (Me.fitsR input x.shape=false→Z=none):=fun h=>by
          rw[← Me.all_in_no hiN (by rw[HXX.out.1];exact HXX.out.2) (by rw[HXX.out.1];exact h)];exact HP.out.2.2.1.symm
         have HS:Hid (s=Me.nats x.shape):=by
          have h:=HX.out.2.2.2.1;rw[Me.shapeOf,if_pos (Or.inl HXX.out.2)]at h;exact(Option.some.inj h).symm
         have HKn:Hid (k=(Me.weights Ns (i+1)).length):=by
          show _=_
          rw[Me.weights,if_neg (by rw[HXX.out.1,HXX.out.2];decide)];exact HP.out.2.2.2
         have f1:((1:Int)==1)=true:=rfl;go_upto_region 19 with fail;refine wp_region_any_drew 7 #[false,false,false,false,false,false,false] (by kernel_rfl) rfl rfl fun w6 hw6=>?_
         have t56:Touch No w5 w6:=by rw[hw6];exact(Touch.refl No w5).drew
         have g0:=t56.cell id g0;have g1:=t56.cell id g1;have y0:w6.cell? ⟨X5+1,0,none⟩=some (.slice none 0 0):=(HR6.out.touch t56 id).cell 0;have y1:w6.cell? ⟨X5+1,1,none⟩=some (.slice none 0 0):=(HR6.out.touch t56 id).cell 1;have z0:w6.frozen? ⟨X5+1,0,none⟩=false:=(HR6.out.touch t56 id).soft 0;have z1:w6.frozen? ⟨X5+1,1,none⟩=false:=(HR6.out.touch t56 id).soft 1;have T56:=Lib.hid t56;clear hw6 t56;refine wpAny_take (i:=0) (v:=?v0_1) rfl (by kernel_rfl) (by kernel_rfl) (by kernel_rfl) (fun _ _ _ h=>h) (Or.inl ⟨by rfl,?hy0_1⟩) ?rest0_1
         case' hy0_1 =>
          intro w;go_simp;try with_reducible rfl
         refine wpAny_take (i:=1) (v:=?v1_1) rfl (by kernel_rfl) (by kernel_rfl) (by kernel_rfl) (fun _ _ _ h=>h) (Or.inl ⟨by rfl,?hy1_1⟩) ?rest1_1
         case' hy1_1 =>
          intro w;go_simp;try with_reducible rfl
         refine wpAny_take (i:=3) (v:=?v3_1) rfl (by kernel_rfl) (by kernel_rfl) (by kernel_rfl) (fun _ _ _ h=>h) (Or.inl ⟨by rfl,?hy3_1⟩) ?rest3_1
         case' hy3_1 =>
          intro w;go_simp;try with_reducible rfl
         refine wpAny_take (i:=4) (v:=?v4_1) rfl (by kernel_rfl) (by kernel_rfl) (by kernel_rfl) (fun _ _ _ h=>h) (Or.inl ⟨by rfl,?hy4_1⟩) ?rest4_1
         case' hy4_1 =>
          intro w;go_simp;try with_reducible rfl
         refine wpAny_ready (rs:=[2]) (by kernel_rfl) (by simp) ?_;refine AllReady.cons rfl (fun K hK=>?_) AllReady.nil;go_simp;refine hK _ _ ?_;clear hK K;refine wpAny_ready (rs:=[5]) (by kernel_rfl) (by simp) ?_;refine AllReady.cons rfl (fun K hK=>?_) AllReady.nil;go_simp;refine hK _ _ ?_;clear hK K;refine wpAny_take (i:=6) (v:=?v6_1) rfl (by kernel_rfl) (by kernel_rfl) (by kernel_rfl) (fun _ _ _ h=>h) (Or.inl ⟨by rfl,?hy6_1⟩) ?rest6_1
         case' hy6_1 =>
          intro w;go_simp;try with_reducible rfl
         refine wpAny_done (by kernel_rfl) ?_ _
         all_goals
          have HRx:Hid (Row ((w6.setCell ⟨X5+1,0,none⟩ (.slice sa n c)).setCell ⟨X5+1,1,none⟩ (.slice la m d)) (X5+1) 51 [.slice sa n c,.slice la m d]):=by
           have h:=((HR6.out.touch T56.out id).setCell 0 (.slice sa n c)).setCell 1 (.slice la m d);exact h
          have HTx:Hid (Touch No wr ((w6.setCell ⟨X5+1,0,none⟩ (.slice sa n c)).setCell ⟨X5+1,1,none⟩ (.slice la m d))) :=
           (T5r.out.trans T56.out).then (((Touch.refl (One (X5+1)) w6).setCell (p:=⟨X5+1,0,none⟩) (fun _=>rfl) (.slice sa n c)).setCell (p:=⟨X5+1,1,none⟩) (fun _=>rfl) (.slice la m d)) (fun i hi e=>by have e':i=X5+1:=e;omega)
          have HNx:Hid (Row ((w6.setCell ⟨X5+1,0,none⟩ (.slice sa n c)).setCell ⟨X5+1,1,none⟩ (.slice la m d)) X5 55 [.int .u8 ((1:Nat):Int),.slice ia nn cc,.slice xa n' c',.int .i64 NN,.int .i64 PP]) :=
           (HR5.out.touch T56.out id).touch (((Touch.refl (One (X5+1)) w6).setCell (p:=⟨X5+1,0,none⟩) (fun _=>rfl) (.slice sa n c)).setCell (p:=⟨X5+1,1,none⟩) (fun _=>rfl) (.slice la m d)) (show ¬(X5=X5+1) by omega)
          go_wp2_with fail;go_simp;go_meet;exact⟨k,n9,c9,n,c,m,d,a9,sa,la,input,_,rfl,rfl,rfl,rfl,hc9,fun h=>absurd h (by rw[HI1.out];decide),H9,HTx,HNx,HRx,HRI.out.no HTx.out,HYes,HNo,HKn,HS⟩
        ·by_cases hk2:kd=2
         ·subst hk2
          have hkw:k<wn:=by
           rw[HL.out.2.2.2.2,HP.out.2.2.2];exact Me.weights_lt Ns i mm (by omega) (by rw[HXX.out.1];exact HXX.out.2)
          have hn9:=Lib.hid (aI H9.out.1 hkw);have h19:1≤n9:=by have:=hn9.out;omega
          obtain⟨qb,qo,qa,qn,qc,ql,qm,qd,rfl,hq1,hq2,hq3⟩:=H9.out.2 wr T.out 0 (by rw[List.length_drop,HWs.out.2];omega);rw[Me.drop_raw,Nat.add_zero]at hq3;have g0:=T5r.out.cell id hq1;have g1:=T5r.out.cell id hq2;simp only[Nat.zero_mul,Nat.add_zero]at g0 g1;clear hq1 hq2 hkw;have HRI:Hid (RIn wr qa qn qc ql qm qd (Me.rawAt Ws k)):=hq3
          have HYes:Hid (Me.fitsR (Me.rawAt Ws k) x.shape=true→Me.allGo Ws input (Ns.drop (i+1)) (Ts ++ [Me.ten (Me.rawAt Ws k)]) (k+1)=Z):=fun h=>by
           rw[← Me.all_w hiN (by rw[HXX.out.1];exact HXX.out.2) (by rw[HXX.out.1];exact h)];exact HP.out.2.2.1
          have HNo:Hid (Me.fitsR (Me.rawAt Ws k) x.shape=false→Z=none):=fun h=>by
           rw[← Me.all_w_no hiN (by rw[HXX.out.1];exact HXX.out.2) (by rw[HXX.out.1];exact h)];exact HP.out.2.2.1.symm
          have HS:Hid (s=Me.nats x.shape):=by
           have h:=HX.out.2.2.2.1;rw[Me.shapeOf,if_pos (Or.inr HXX.out.2)]at h;exact(Option.some.inj h).symm
          have HKn:Hid (k+1=(Me.weights Ns (i+1)).length):=by
           show _=_
           rw[Me.weights,if_pos (by rw[HXX.out.1,HXX.out.2]),List.length_append,List.length_singleton,← HP.out.2.2.2]
          have H8n:Hid (Me.inputs (Ns.take (i+1))=0→v8 = .slice (some ⟨G,0,none⟩) 1 1):=fun h=>H8.out (by
           rw[← Me.inputs_not hiN (by rw[HXX.out.1,HXX.out.2];decide)];exact h)
          clear H8
          by_cases hc1:c9=1
          ·subst hc1
           obtain rfl:n9=1:=by omega
           go_upto_region 21 with fail;refine wp_region_any_drew 7 #[false,false,false,false,false,false,false] (by kernel_rfl) rfl rfl fun w6 hw6=>?_
           have t56:Touch No w5 w6:=by rw[hw6];exact(Touch.refl No w5).drew
           have g0:=t56.cell id g0;have g1:=t56.cell id g1;have y0:w6.cell? ⟨X5+1,0,none⟩=some (.slice none 0 0):=(HR6.out.touch t56 id).cell 0;have y1:w6.cell? ⟨X5+1,1,none⟩=some (.slice none 0 0):=(HR6.out.touch t56 id).cell 1;have z0:w6.frozen? ⟨X5+1,0,none⟩=false:=(HR6.out.touch t56 id).soft 0;have z1:w6.frozen? ⟨X5+1,1,none⟩=false:=(HR6.out.touch t56 id).soft 1;have T56:=Lib.hid t56;clear hw6 t56;refine wpAny_take (i:=0) (v:=?v0_2) rfl (by kernel_rfl) (by kernel_rfl) (by kernel_rfl) (fun _ _ _ h=>h) (Or.inl ⟨by rfl,?hy0_2⟩) ?rest0_2
           case' hy0_2 =>
            intro w;go_simp;try with_reducible rfl
           refine wpAny_take (i:=1) (v:=?v1_2) rfl (by kernel_rfl) (by kernel_rfl) (by kernel_rfl) (fun _ _ _ h=>h) (Or.inl ⟨by rfl,?hy1_2⟩) ?rest1_2
           case' hy1_2 =>
            intro w;go_simp;try with_reducible rfl
           refine wpAny_take (i:=3) (v:=?v3_2) rfl (by kernel_rfl) (by kernel_rfl) (by kernel_rfl) (fun _ _ _ h=>h) (Or.inl ⟨by rfl,?hy3_2⟩) ?rest3_2
           case' hy3_2 =>
            intro w;go_simp;try with_reducible rfl
           refine wpAny_take (i:=4) (v:=?v4_2) rfl (by kernel_rfl) (by kernel_rfl) (by kernel_rfl) (fun _ _ _ h=>h) (Or.inl ⟨by rfl,?hy4_2⟩) ?rest4_2
           case' hy4_2 =>
            intro w;go_simp;try with_reducible rfl
           refine wpAny_ready (rs:=[2]) (by kernel_rfl) (by simp) ?_;refine AllReady.cons rfl (fun K hK=>?_) AllReady.nil;go_simp;refine hK _ _ ?_;clear hK K;refine wpAny_ready (rs:=[5]) (by kernel_rfl) (by simp) ?_;refine AllReady.cons rfl (fun K hK=>?_) AllReady.nil;go_simp;refine hK _ _ ?_;clear hK K;refine wpAny_take (i:=6) (v:=?v6_2) rfl (by kernel_rfl) (by kernel_rfl) (by kernel_rfl) (fun _ _ _ h=>h) (Or.inl ⟨by rfl,?hy6_2⟩) ?rest6_2
           case' hy6_2 =>
            intro w;go_simp;try with_reducible rfl
           refine wpAny_done (by kernel_rfl) ?_ _
           all_goals
            have HRx:Hid (Row ((w6.setCell ⟨X5+1,0,none⟩ (.slice qa qn qc)).setCell ⟨X5+1,1,none⟩ (.slice ql qm qd)) (X5+1) 51 [.slice qa qn qc,.slice ql qm qd]):=by
             have h:=((HR6.out.touch T56.out id).setCell 0 (.slice qa qn qc)).setCell 1 (.slice ql qm qd);exact h
            have HTx:Hid (Touch No wr ((w6.setCell ⟨X5+1,0,none⟩ (.slice qa qn qc)).setCell ⟨X5+1,1,none⟩ (.slice ql qm qd))) :=
             (T5r.out.trans T56.out).then (((Touch.refl (One (X5+1)) w6).setCell (p:=⟨X5+1,0,none⟩) (fun _=>rfl) (.slice qa qn qc)).setCell (p:=⟨X5+1,1,none⟩) (fun _=>rfl) (.slice ql qm qd)) (fun i hi e=>by have e':i=X5+1:=e;omega)
            have HNx:Hid (Row ((w6.setCell ⟨X5+1,0,none⟩ (.slice qa qn qc)).setCell ⟨X5+1,1,none⟩ (.slice ql qm qd)) X5 55 [.int .u8 ((2:Nat):Int),.slice ia nn cc,.slice xa n' c',.int .i64 NN,.int .i64 PP]) :=
             (HR5.out.touch T56.out id).touch (((Touch.refl (One (X5+1)) w6).setCell (p:=⟨X5+1,0,none⟩) (fun _=>rfl) (.slice qa qn qc)).setCell (p:=⟨X5+1,1,none⟩) (fun _=>rfl) (.slice ql qm qd)) (show ¬(X5=X5+1) by omega)
            go_wp2_with fail;go_simp;go_meet;exact⟨k+1,_,_,qn,qc,qm,qd,_,qa,ql,Me.rawAt Ws k,_,rfl,rfl,rfl,rfl,by omega,H8n,⟨by have:=hn9.out;omega,fun wy _=>WsIn.nil (List.drop_of_length_le (by rw[HWs.out.2];have:=hn9.out;omega))⟩,HTx,HNx,HRx,HRI.out.no HTx.out,HYes,HNo,HKn,HS⟩
          ·have f1:(1:Int)≤(n9:Int):=by omega
           have f2:(n9:Int)≤(c9:Int):=by omega
           have f3:(1:Int)<(c9:Int):=by omega
           go_upto_region 21 with fail;refine wp_region_any_drew 7 #[false,false,false,false,false,false,false] (by kernel_rfl) rfl rfl fun w6 hw6=>?_
           have t56:Touch No w5 w6:=by rw[hw6];exact(Touch.refl No w5).drew
           have g0:=t56.cell id g0;have g1:=t56.cell id g1;have y0:w6.cell? ⟨X5+1,0,none⟩=some (.slice none 0 0):=(HR6.out.touch t56 id).cell 0;have y1:w6.cell? ⟨X5+1,1,none⟩=some (.slice none 0 0):=(HR6.out.touch t56 id).cell 1;have z0:w6.frozen? ⟨X5+1,0,none⟩=false:=(HR6.out.touch t56 id).soft 0;have z1:w6.frozen? ⟨X5+1,1,none⟩=false:=(HR6.out.touch t56 id).soft 1;have T56:=Lib.hid t56;clear hw6 t56;refine wpAny_take (i:=0) (v:=?v0_3) rfl (by kernel_rfl) (by kernel_rfl) (by kernel_rfl) (fun _ _ _ h=>h) (Or.inl ⟨by rfl,?hy0_3⟩) ?rest0_3
           case' hy0_3 =>
            intro w;go_simp;try with_reducible rfl
           refine wpAny_take (i:=3) (v:=?v3_3) rfl (by kernel_rfl) (by kernel_rfl) (by kernel_rfl) (fun _ _ _ h=>h) (Or.inl ⟨by rfl,?hy3_3⟩) ?rest3_3
           case' hy3_3 =>
            intro w;go_simp;try with_reducible rfl
           refine wpAny_take (i:=4) (v:=?v4_3) rfl (by kernel_rfl) (by kernel_rfl) (by kernel_rfl) (fun _ _ _ h=>h) (Or.inl ⟨by rfl,?hy4_3⟩) ?rest4_3
           case' hy4_3 =>
            intro w;go_simp;try with_reducible rfl
           refine wpAny_ready (rs:=[1]) (by kernel_rfl) (by simp) ?_;refine AllReady.cons rfl (fun K hK=>?_) AllReady.nil;go_simp;go_wp2_with (fail);first|(refine hK _ _ ?_;clear hK K)|clear hK K|skip
           refine wpAny_ready (rs:=[2]) (by kernel_rfl) (by simp) ?_;refine AllReady.cons rfl (fun K hK=>?_) AllReady.nil;go_simp;refine hK _ _ ?_;clear hK K;refine wpAny_ready (rs:=[5]) (by kernel_rfl) (by simp) ?_;refine AllReady.cons rfl (fun K hK=>?_) AllReady.nil;go_simp;refine hK _ _ ?_;clear hK K;refine wpAny_take (i:=6) (v:=?v6_3) rfl (by kernel_rfl) (by kernel_rfl) (by kernel_rfl) (fun _ _ _ h=>h) (Or.inl ⟨by rfl,?hy6_3⟩) ?rest6_3
           case' hy6_3 =>
            intro w;go_simp;try with_reducible rfl
           refine wpAny_done (by kernel_rfl) ?_ _
           all_goals
            have HRx:Hid (Row ((w6.setCell ⟨X5+1,0,none⟩ (.slice qa qn qc)).setCell ⟨X5+1,1,none⟩ (.slice ql qm qd)) (X5+1) 51 [.slice qa qn qc,.slice ql qm qd]):=by
             have h:=((HR6.out.touch T56.out id).setCell 0 (.slice qa qn qc)).setCell 1 (.slice ql qm qd);exact h
            have HTx:Hid (Touch No wr ((w6.setCell ⟨X5+1,0,none⟩ (.slice qa qn qc)).setCell ⟨X5+1,1,none⟩ (.slice ql qm qd))) :=
             (T5r.out.trans T56.out).then (((Touch.refl (One (X5+1)) w6).setCell (p:=⟨X5+1,0,none⟩) (fun _=>rfl) (.slice qa qn qc)).setCell (p:=⟨X5+1,1,none⟩) (fun _=>rfl) (.slice ql qm qd)) (fun i hi e=>by have e':i=X5+1:=e;omega)
            have HNx:Hid (Row ((w6.setCell ⟨X5+1,0,none⟩ (.slice qa qn qc)).setCell ⟨X5+1,1,none⟩ (.slice ql qm qd)) X5 55 [.int .u8 ((2:Nat):Int),.slice ia nn cc,.slice xa n' c',.int .i64 NN,.int .i64 PP]) :=
             (HR5.out.touch T56.out id).touch (((Touch.refl (One (X5+1)) w6).setCell (p:=⟨X5+1,0,none⟩) (fun _=>rfl) (.slice qa qn qc)).setCell (p:=⟨X5+1,1,none⟩) (fun _=>rfl) (.slice ql qm qd)) (show ¬(X5=X5+1) by omega)
            go_wp2_with fail;go_simp;go_meet;exact⟨k+1,_,_,qn,qc,qm,qd,_,qa,ql,Me.rawAt Ws k,_,rfl,rfl,rfl,rfl,by omega,H8n,⟨by have:=hn9.out;omega,fun wy ty=>(H9.out.2 wy ty).cut⟩,HTx,HNx,HRx,HRI.out.no HTx.out,HYes,HNo,HKn,HS⟩
         ·have h3:3≤kd:=by omega
          obtain⟨a6,c6,hv6,hc6,hT6,_⟩:=HG.out.form (n:=i) HP.out.1;have HT6:=Lib.hid hT6;have HV6:=Lib.hid hv6;subst hv6;have f1:((kd:Int)==1)=false:=by simp;omega
          have f2:((kd:Int)==2)=false:=by simp;omega
          have q1:=HR5.out.cell 1;simp only[Lz0,Ls0]at q1;have hbb:w4.heap.size≤wr.heap.size:=T.out.size;clear hT6;go_wp2_with fail;have hn1k:nn≤1000:=HX.out.1.i6;obtain⟨wo,rfl⟩:∃wo:World,wo=wr:=⟨_,rfl⟩
          go_loopg [13,40] nn (fun gh s13 s40 wr=>∃(j:Nat) (v3:Value),j+gh=nn∧s40 = .int .i64 ((j:Nat):Int)∧v3=s13∧Hid (Touch No w5 wr)∧Hid (TsG wr w5.heap.size v3 (Me.insT Ts (x.inn.take j))))
          case atStart=>exact⟨0,_,by omega,rfl,rfl,Touch.refl _ _,TsG.nil _ _⟩
          case round =>
           obtain⟨j,v3,hjg,rfl,rfl,TQ,HGQ⟩:=hrel;cases gk with
           | succ g3 =>
             have hjn:(j:Int)<(nn:Nat):=by omega
             have hil:=HX.out.1.il;have hji:j<x.inn.length:=by rw[hil];omega
             obtain⟨bi,oi,rfl,ci⟩:=(HX.out.1.ir.no (T5r.out.trans TQ.out)).int (i:=j) hji;have hyr:=HX.out.2.2.1 (x.inn.getD j 0) (by rw[Lgd,Lge hji];exact List.getElem_mem hji);obtain⟨q,hq⟩:∃q:Nat,(x.inn.getD j 0)=((q:Nat):Int):=⟨(x.inn.getD j 0).toNat,by omega⟩;have hins:=Me.insT_take (Ts:=Ts) hji;rw[hq]at ci hyr hins;have hqi:(q:Int)<(i:Nat):=hyr.2;obtain⟨bl,ol,ta,tn,tc,tl,tm,td,rfl,p0,p1,hT0⟩:=HT6.out q (by rw[HP.out.1];omega);have hToff:=Lib.hid (aI hT0.lt.1 hT0.lt.2);have HTn:=Lib.hid (hT0.no (T5r.out.trans TQ.out));have p0:=(T5r.out.trans TQ.out).cell id p0;have p1:=(T5r.out.trans TQ.out).cell id p1;have HINS:=Lib.hid hins;clear hil hji hyr hq hins hT0;go_upto_region 12 with fail;obtain⟨wz,hwz,tz,Rz⟩:=box_row wr [.slice ta tn tc,.slice tl tm td] 51;obtain⟨cs,hown,htv⟩:=HGQ.out;have hvk:=Lib.hid (fun k (hk:InBlock v3 k)=>ownsRow_block hown hk);have hown0:=Lib.hid (ownsRow_no (ownsRow_zero hown) tz);have HOW:=Lib.hid (aI (ownsRow_no hown tz) (htv.no tz));have HRz:=Lib.hid Rz;have HTz:=Lib.hid tz;have hcl:(Me.insT Ts (x.inn.take j)).length≤1000:=by rw[Me.insT_length,List.length_take];have:=HX.out.1.i6;omega
             have hsw:w5.heap.size≤wr.heap.size:=TQ.out.size;clear tz Rz hown htv;go_wp2_with (at_builtin;rw[← hwz];refine wpList_append_rows rfl _ _ 25 rfl 51 J _ 2 48 Tryz.underlying25 HJ.out.1 HJ.out.2.1 HJ.out.2.2.1 HJ.out.2.2.2 rfl (by decide) v3 (Me.insT Ts (x.inn.take j)).length cs hown0.out rfl (some ⟨wr.heap.size,0,none⟩) 1 1 [.slice ta tn tc,.slice tl tm td] rfl rfl (rd_row HRz.out) (by intro u hu;simp at hu;rcases hu with rfl|rfl <;> rfl) (by unfold maxLen;omega) (by omega) ?_;intro a' c' w13 hown3 ht3 hb3)
             have HGn:Hid (TsG w13 w5.heap.size (.slice a' ((Me.insT Ts (x.inn.take j)).length+1) c') (Me.insT Ts (x.inn.take (j+1)))):=by
              have h:=TsG.grow HOW.out.1 HOW.out.2 hown3 ht3 hb3 (by have:=HTz.out.size;omega) (HTn.out.no HTz.out) (fun k hk=>⟨fun ad e he=>by have:=hToff.out.1 ad e;have:=(hvk.out k hk).1;omega,fun ad e he=>by have:=hToff.out.2 ad e;have:=(hvk.out k hk).1;omega⟩);rw[HINS.out];exact h
             have T13:Hid (Touch No w5 w13):=(TQ.out.trans HTz.out).then ht3 (fun i hi e=>absurd (hvk.out i e).1 (by omega))
             go_roundg g3
             case measure=>omega
             case rel=>exact⟨j+1,_,by omega,by go_num,rfl,T13,HGn⟩
           | zero =>
             obtain rfl:nn=j:=by omega
             have hil:=HX.out.1.il;have HGQ2:=HGQ.out;rw[List.take_of_length_le (by rw[hil];exact Nat.le_refl _)]at HGQ2;have hXl:(Me.insT Ts x.inn).length=nn:=by rw[Me.insT_length,hil]
             obtain⟨a7,c7,rfl,hc7,hT7,_⟩:=HGQ2.form (n:=nn) hXl;have T2q:=Lib.hid (T5r.out.trans TQ.out);have C:=Lib.hid (do_in HW HPo wr ia xa a7 nn cc n' c' c7 x (Me.insT Ts x.inn) s (HX.out.1.no T2q.out) HX.out.2.1 (by rw[HXX.out.2];exact h3) hT7 hXl HX.out.2.2.2.1);rw[HND.out]at C
             have HALL:Hid (Me.allGo Ws input (Ns.drop (i+1)) (Ts ++ [(s,Me.opL x (Me.insT Ts x.inn))]) k=Z∧Me.shapesGo (Ns.drop (i+1)) ((Ts ++ [(s,Me.opL x (Me.insT Ts x.inn))]).map Prod.fst)=some l∧k=(Me.weights Ns (i+1)).length∧(Me.inputs (Ns.take (i+1))=0→v8 = .slice (some ⟨G,0,none⟩) 1 1)):=by
              have e1:=Me.all_do (Ns:=Ns) (i:=i) (Ts:=Ts) (ws:=Ws) (input:=input) (k:=k) (s:=s) hiN (by rw[HXX.out.1,HXX.out.2];exact h3) (by rw[HXX.out.1];exact HX.out.2.2.2.1);rw[HXX.out.1]at e1;refine⟨by rw[← e1];exact HP.out.2.2.1,HX.out.2.2.2.2 _,?_,fun h=>H8.out ?_⟩
              ·rw[Me.weights,if_neg (by rw[HXX.out.1,HXX.out.2];omega)];exact HP.out.2.2.2
              ·rw[← Me.inputs_not hiN (by rw[HXX.out.1,HXX.out.2];omega)];exact h
             have m0:=(HR5.out.touch TQ.out id).cell 0;have m1:=(HR5.out.touch TQ.out id).cell 1;have m2:=(HR5.out.touch TQ.out id).cell 2;have m3:=(HR5.out.touch TQ.out id).cell 3;have m4:=(HR5.out.touch TQ.out id).cell 4;have HR6q:=Lib.hid (HR6.out.touch TQ.out id);simp only[Lz0,Ls0]at m0 m1 m2 m3 m4;clear hil HGQ HGQ2 hXl hT7 H8;go_wp2_with fail;refine C.out.mono ?_;rintro e w7 ⟨ta,tn,tc,tl,tm,td,rfl,hT,t7,hn1,hn2⟩;have T7q:=Lib.hid (T2q.out.trans t7);have HR67:=Lib.hid (HR6q.out.touch t7 id);have hsz7:wo.heap.size≤wr.heap.size:=T2q.out.size;have HTn:=Lib.hid hT;have HNW:=Lib.hid (aI hn1 hn2);clear m0 m1 m2 m3 m4 C t7 hT hn1 hn2 T2q HR6q;go_upto_region 15 with(refine wpList_store_mid rfl 51 _ _ rfl (X5+1) 0 51 [.slice none 0 0,.slice none 0 0] HR67.out rfl [.slice ta tn tc,.slice tl tm td] rfl (by kernel_rfl) (by simp) (by intro v hv;simp at hv;rcases hv with rfl|rfl <;> rfl) ?_);obtain⟨w9,hw9⟩:∃w9,w9=w7.setRow (X5+1) (splice [.slice none 0 0,.slice none 0 0] 0 [.slice ta tn tc,.slice tl tm td]).toArray:=⟨_,rfl⟩;rw[← hw9];have R9:Row w9 (X5+1) 51 [.slice ta tn tc,.slice tl tm td]:=by rw[hw9];exact HR67.out.setRow _
             have t9:Touch (One (X5+1)) w7 w9:=by rw[hw9];exact Touch.setOne _ _ _
             have T9q:Hid (Touch No wo w9):=T7q.out.then t9 (fun i hi e=>by have e':i=X5+1:=e;omega);have hs57:w5.heap.size≤wr.heap.size:=TQ.out.size;have HT9:Hid (TIn w9 ta tn tc tl tm td s (Me.opL x (Me.insT Ts x.inn))):=HTn.out.off t9 (fun k hk ad e he=>by have hk':k=X5+1:=hk;have:=HNW.out.1 ad e;omega) (fun k hk ad e he=>by have hk':k=X5+1:=hk;have:=HNW.out.2 ad e;omega);have r0:=R9.cell 0;have r1:=R9.cell 1;simp only[Lz0,Ls0]at r0 r1;clear hw9 R9 t9 HTn HR67;obtain⟨wz,hwz,tz,Rz⟩:=box_row w9 [.slice ta tn tc,.slice tl tm td] 51;obtain⟨cs,hown,htv⟩:=HG.out;have hvk:=Lib.hid (fun k (hk:InBlock (.slice a6 i c6) k)=>ownsRow_block hown hk);have Tz:=Lib.hid (T9q.out.trans tz);have hown0:=Lib.hid (ownsRow_no (ownsRow_zero hown) Tz.out);have HOW:=Lib.hid (aI (ownsRow_no hown Tz.out) (htv.no Tz.out));have HRz:=Lib.hid Rz;have HTz:=Lib.hid tz;have hTl:Ts.length≤1000:=by have:=HP.out.1;omega
             clear tz Rz hown htv;go_wp2_with (at_builtin;rw[← hwz];refine wpList_append_rows rfl _ _ 25 rfl 51 J _ 2 48 Tryz.underlying25 HJ.out.1 HJ.out.2.1 HJ.out.2.2.1 HJ.out.2.2.2 rfl (by decide) (.slice a6 i c6) Ts.length cs hown0.out rfl (some ⟨w9.heap.size,0,none⟩) 1 1 [.slice ta tn tc,.slice tl tm td] rfl rfl (rd_row HRz.out) (by intro u hu;simp at hu;rcases hu with rfl|rfl <;> rfl) (by unfold maxLen;omega) (by omega) ?_;intro a' c' w13 hown3 ht3 hb3)
             have HGn:Hid (TsG w13 w4.heap.size (.slice a' (Ts.length+1) c') (Ts ++ [(s,Me.opL x (Me.insT Ts x.inn))])):=by
              exact TsG.grow HOW.out.1 HOW.out.2 hown3 ht3 hb3 (by have:=Tz.out.size;omega) (HT9.out.no HTz.out) (fun k hk=>⟨fun ad e he=>by have:=HNW.out.1 ad e;have:=(hvk.out k hk).2;omega,fun ad e he=>by have:=HNW.out.2 ad e;have:=(hvk.out k hk).2;omega⟩)
             have T13:Hid (Touch No w4 w13):=(T.out.trans Tz.out).then ht3 (fun i hi e=>absurd (hvk.out i e).1 (by omega))
             go_roundg g'
             case measure=>omega
             case rel=>exact⟨i+1,k,n9,c9,a9,_,_,Ts ++ [(s,Me.opL x (Me.insT Ts x.inn))],by omega,by go_num,rfl,rfl,rfl,rfl,hc9,HALL.out.2.2.2,H9,T13,HGn,by rw[List.length_append,HP.out.1];rfl,HALL.out.2.1,HALL.out.1,HALL.out.2.2.1⟩
       case rest =>
        obtain⟨k',n9',c9',fn,fc,fm,fd,a9',fa,fl,tt,v8',rfl,rfl,rfl,rfl,hc9',H8n,H9n,T9r,HN9,HR9,HRI,HYes,HNo,HKn,HS⟩:=hcut;obtain⟨w9,hw9⟩:∃w9,w9=wc:=⟨_,rfl⟩;subst hw9;have r0:=HR9.out.cell 0;have r1:=HR9.out.cell 1;have r2:=HN9.out.cell 2;simp only[Lz0,Ls0]at r0 r1 r2;have C:=Lib.hid (fits_any w9 fa fl xa fn fc fm fd n' c' tt x.shape HRI.out (HX.out.1.sr.no T9r.out) HX.out.1.sl HX.out.1.s6);obtain⟨bf,hbf⟩:∃bf,Me.fitsR tt x.shape=bf:=⟨_,rfl⟩;rw[hbf]at C HYes HNo;have HBF:=Lib.hid hbf;clear hbf H8 H9 HR5 HR6 HXX;go_wp2_with fail;refine C.out.mono ?_;rintro e w10 ⟨rfl,t10⟩;have T10r:=Lib.hid (T9r.out.trans t10);have HRI10:=Lib.hid (HRI.out.no t10);have z0:=(HR9.out.touch t10 id).cell 0;have z1:=(HR9.out.touch t10 id).cell 1;simp only[Lz0,Ls0]at z0 z1;clear r0 r1 r2 t10 C HRI;cases bf with
        | false =>
          have HE:=Lib.hid (HNo.out rfl);have HE2:=Lib.hid ((T4.out.trans T.out).trans T10r.out);go_wp2;refine bodyPost_ret (v:=.tuple #[.slice none 0 0,.int .i64 1]) (by simp[results,Tryz.results45,go_sem]) rfl ?_;rw[HE.out];exact⟨rfl,HE2.out⟩
        | true =>
          obtain⟨hck,hten⟩:=Me.fitsR_ten HBF.out
          have HY2:Hid (Me.shapesGo (Ns.drop (i+1)) ((Ts ++ [(Me.nats tt.1,tt.2)]).map Prod.fst)=some l∧Me.allGo Ws input (Ns.drop (i+1)) (Ts ++ [(Me.nats tt.1,tt.2)]) k'=Z):=by
           refine⟨?_,HYes.out rfl⟩;have h:=HX.out.2.2.2.2 tt.2;rw[HS.out]at h;have h2:Me.nats tt.1=Me.nats x.shape:=congrArg Prod.fst hten;rw[h2];exact h
          have C:=Lib.hid (twinT_in w10 fa fl fn fc fm fd tt HRI10.out hck);clear hck hten;go_wp2_with fail;refine C.out.mono ?_;rintro e w11 ⟨sx,lx,rfl,hTx,hoff,t11⟩;have hTx:=Lib.hid hTx;have hoff:=Lib.hid hoff;have T11r:=Lib.hid (T10r.out.trans t11);have h1011:w10.heap.size≤w11.heap.size:=t11.size;have hr10:wr.heap.size≤w10.heap.size:=T10r.out.size;clear z0 z1 t11 C HRI10;obtain⟨w12,hw12,t12,R12⟩:=box_row w11 [.slice sx fn fn,.slice lx fm fm] 51;have T12r:=Lib.hid (T11r.out.trans t12);have h12:w12.heap.size=w11.heap.size+1:=by rw[hw12];simp
          obtain⟨cs,hown,htv⟩:=HG.out;have hvk:=Lib.hid (fun k (hk:InBlock v k)=>ownsRow_block hown hk);have hown0:=Lib.hid (ownsRow_no (ownsRow_zero hown) T12r.out);have HOW:=Lib.hid (aI (ownsRow_no hown T12r.out) (htv.no T12r.out));have HR12:=Lib.hid R12;have HT12:=Lib.hid t12;have hTl:Ts.length≤1000:=by have:=HP.out.1;omega
          clear t12 R12 hown htv;go_wp2_with (at_builtin;rw[← hw12];refine wpList_append_rows rfl _ _ 25 rfl 51 J _ 2 48 Tryz.underlying25 HJ.out.1 HJ.out.2.1 HJ.out.2.2.1 HJ.out.2.2.2 rfl (by decide) v Ts.length cs hown0.out rfl (some ⟨w11.heap.size,0,none⟩) 1 1 [.slice sx fn fn,.slice lx fm fm] rfl rfl (rd_row HR12.out) (by intro u hu;simp at hu;rcases hu with rfl|rfl <;> rfl) (by unfold maxLen;omega) (by omega) ?_;intro a' c' w13 hown3 ht3 hb3);have HGn:Hid (TsG w13 w4.heap.size (.slice a' (Ts.length+1) c') (Ts ++ [(Me.nats tt.1,tt.2)])):=TsG.grow HOW.out.1 HOW.out.2 hown3 ht3 hb3 (by have:=T.out.size;omega) (hTx.out.no HT12.out) (fun k hk=>hoff.out k (by have:=(hvk.out k hk).2;omega));have T13:Hid (Touch No w4 w13):=(T.out.trans T12r.out).then ht3 (fun i hi e=>absurd (hvk.out i e).1 (by omega))
          go_roundg g'
          case measure=>omega
          case rel=>exact⟨i+1,k',n9',c9',a9',_,_,Ts ++ [(Me.nats tt.1,tt.2)],by omega,by go_num,rfl,rfl,rfl,rfl,hc9',H8n,H9n,T13,HGn,by rw[List.length_append,HP.out.1];rfl,HY2.out.1,HY2.out.2,HKn.out⟩
   ·have f1:((wn:Int) != (Q:Int))=true:=by simp;omega
    have HE:Hid (Z=none):=by
     rw[← HZ.out,Me.all,if_neg (by rw[HWs.out.2,HM.out,HQ.out];exact fun h=>hq h.2)];rfl
    go_wp2;refine bodyPost_ret (v:=.tuple #[.slice none 0 0,.int .i64 1]) (by simp[results,Tryz.results45,go_sem]) rfl ?_;rw[HE.out];exact⟨rfl,T3.out⟩
end
end Go.Proofs.YtjlphmmalebgpaaGreat
