/-
  A part of the proof.
-/
import Derived.Test.YtjlphmmalebgpaaGreatK28
set_option linter.unusedSimpArgs false
set_option linter.unusedVariables false
set_option maxHeartbeats 2000000
set_option maxRecDepth 100000
namespace Go.Proofs.YtjlphmmalebgpaaGreat
section
open Go Go.RowKit
theorem wpList_look_kind (w:World){ops:Array Oper}{rest:List Oper}{o:Oper}{a:Act}{Q:Exit→Act→World→Prop}(hg:o.guard=none)(m x:Operand)(hop:o.op=Op.lookup 186 m x true)
  (b n:Nat) (D:DataW Value) (hm:a.eval m = .map (some b)) (hown:w.ownsMap Tryz.prog 53 asK b n D) (k:Nat) (hk:k<256) (hx:a.eval x = .int .u8 (k:Nat)) (v0:Value) (hat:D.atKey (.int .u8 (k:Nat)) (.held noKind) = .held v0) (bo:Bool) (hhas:Maps.has D (.int .u8 (k:Nat))=bo)
  (hK:wpList Tryz.prog ops Q rest (a.put o.dst (.tuple #[v0,.bool bo])) w):wpList Tryz.prog ops Q (o::rest) a w :=
 wpList_lookup_own_ok w hg m x _ hop 53 191 keyU8 Tryz.underlying186 asK (zeroKind w) (.held noKind) [] rfl b n D hm hown _ _ hx (keyOf_u8 hk) (fun v ps hv=>by
  have e:DataW.held v=DataW.held v0:=by
   have:=congrArg Prod.fst (Option.some.inj hv);exact this.trans hat
  injection e with e
  subst e;rw[hhas];exact hK)
theorem wpList_look_kind1 (w:World){ops:Array Oper}{rest:List Oper}{o:Oper}{a:Act}{Q:Exit→Act→World→Prop}(hg:o.guard=none)(m x:Operand)(hop:o.op=Op.lookup 186 m x false)
  (b n:Nat) (D:DataW Value) (hm:a.eval m = .map (some b)) (hown:w.ownsMap Tryz.prog 53 asK b n D) (k:Nat) (hk:k<256) (hx:a.eval x = .int .u8 (k:Nat)) (v0:Value) (hat:D.atKey (.int .u8 (k:Nat)) (.held noKind) = .held v0)
  (hK:wpList Tryz.prog ops Q rest (a.put o.dst v0) w):wpList Tryz.prog ops Q (o::rest) a w:=by
 refine wpList_plain hg fun K' hK'=>?_
 obtain⟨v,ps,hrun,hv⟩:=hown.lookup keyU8 Tryz.underlying186 (zeroKind w) (show asK noKind=some (.held noKind,[]) from rfl) (keyOf_u8 hk)
 have e:DataW.held v=DataW.held v0:=by
  have:=congrArg Prod.fst (Option.some.inj hv);exact this.trans hat
 injection e with e
 subst e;unfold Oper.wp;simp[execOp,hop,hm,hx,hrun,Result.andThen];exact hK' _ _ hK
theorem shapes1_in (w:World)(b i:Nat)(x:Int)(h:w.cell? ⟨b,0,none⟩=some (.int .i64 ((i:Nat):Int))) :
  Calls Tryz.prog 133 #[.int .i64 x,.pointer (some ⟨b,0,none⟩)] w fun e w'=>e = .returned (.bool (!decide (0≤x∧x<(i:Int))))∧w=w':=by
 by_cases h0:x<0
 ·have f1:decide (x<0)=true:=by simpa using h0
  have e1:Hid ((!decide (0≤x∧x<(i:Int)))=true):=by show _=_;rw[decide_eq_false (by omega)];rfl
  clear h0;go_enter Tryz.func133,Tryz.ntmps133;go_wp2;go_ret;exact⟨by rw[e1.out];rfl,rfl⟩
 ·have f1:decide (x<0)=false:=by simpa using h0
  obtain⟨bb,hb⟩:∃bb,decide ((i:Int)≤x)=bb:=⟨_,rfl⟩
  have e1:Hid ((!decide (0≤x∧x<(i:Int)))=bb):=by
   show _=_
   rw[← hb]
   by_cases hx:(i:Int)≤x
   ·rw[decide_eq_true hx,decide_eq_false (by omega)];rfl
   ·rw[decide_eq_false hx,decide_eq_true (by omega)];rfl
  clear h0;go_enter Tryz.func133,Tryz.ntmps133;go_wp2;go_ret;exact⟨by rw[e1.out];rfl,rfl⟩
open Classical in
theorem indexF_in (w:World)(a:Option Addr)(n c b i:Nat)(xs:List Int)(hl:xs.length=n)(hn:n≤1000)(hr:Rd w a (ints .i64 xs))(h:w.cell? ⟨b,0,none⟩=some (.int .i64 ((i:Nat):Int))) :
  Calls Tryz.prog 183 #[.slice a n c,.func (.func 133) #[] #[.pointer (some ⟨b,0,none⟩)]] w fun e w'=>(∃r:Int,e = .returned (.int .i64 r)∧(0≤r↔¬Me.Ahead xs i))∧w=w':=by
 have hf:∀(args:Array Value) (wx:World),(callFunc 133 args).run Tryz.prog wx = .ok (.enter 133 args) wx:=fun args wx=>by simp[callFunc,Tryz.func133,Tryz.f133]
 have HX:=Lib.hid (aI hl hr);have HC:=Lib.hid h;clear hl hr h;go_enter Tryz.func183,Tryz.ntmps183;go_wp2
 go_loopg [8] n (fun gh s8 wr=>∃k:Nat,k+gh=n∧s8 = .int .i64 ((k:Nat):Int)∧Hid (wr=w)∧Hid (∀y∈xs.take k,0≤y∧y<(i:Int)))
 case atStart=>exact⟨0,by omega,rfl,rfl,fun y hy=>by simp at hy⟩
 case round =>
  obtain⟨k,hkg,rfl,hwr,HY⟩:=hrel;obtain rfl:w=wr:=hwr.out.symm;cases gk with
  | zero =>
    obtain rfl:n=k:=by omega
    have hA:Hid (Me.Ahead xs i):=fun y hy=>HY.out y (by rw[List.take_of_length_le (by rw[HX.out.1];exact Nat.le_refl _)];exact hy)
    go_wp2;go_ret;exact⟨⟨-1,rfl,iff_of_false (by decide) (fun h=>h hA.out)⟩,rfl⟩
  | succ g' =>
    have hki:(k:Int)<(n:Nat):=by omega
    have hkl:k<xs.length:=by rw[HX.out.1];omega
    obtain⟨b2,o2,rfl,cx⟩:=HX.out.2.int (i:=k) hkl
    have HTY:Hid (∀y∈xs.take (k+1),y∈xs.take k∨y=xs.getD k 0):=fun y hy=>by
     rw[List.take_add_one,Lge hkl]at hy;rcases List.mem_append.1 hy with h|h
     ·exact Or.inl h
     ·refine Or.inr ?_
      rw[Lgd,Lge hkl]
      simpa using h
    have HMM:Hid (xs.getD k 0∈xs):=by
     show _∈_
     rw[Lgd,Lge hkl];exact List.getElem_mem hkl
    obtain⟨x,hxx⟩:∃x,xs.getD k 0=x:=⟨_,rfl⟩;rw[hxx]at cx HTY HMM;have C:=Lib.hid (shapes1_in w b i x HC.out);clear hxx hkl;go_wp2_with fail;refine C.out.mono ?_;rintro e w' ⟨rfl,rfl⟩
    by_cases hx:0≤x∧x<(i:Int)
    ·rw[decide_eq_true hx]
     have HN:Hid (∀y∈xs.take (k+1),0≤y∧y<(i:Int)):=fun y hy=>by
      rcases HTY.out y hy with h|rfl
      ·exact HY.out y h
      ·exact hx
     clear hx HTY HMM C HY;go_wp2
     go_roundg g'
     case measure=>omega
     case rel=>exact⟨k+1,by omega,by go_num,rfl,HN⟩
    ·rw[decide_eq_false hx]
     have hA:Hid (¬Me.Ahead xs i):=fun h=>hx (h x HMM.out)
     clear hx HTY HMM C HY;go_wp2;go_ret;exact⟨⟨_,rfl,iff_of_true (Int.natCast_nonneg _) hA.out⟩,rfl⟩
theorem containsF_in (w:World)(a:Option Addr)(n c b i:Nat)(xs:List Int)(hl:xs.length=n)(hn:n≤1000)(hr:Rd w a (ints .i64 xs))(h:w.cell? ⟨b,0,none⟩=some (.int .i64 ((i:Nat):Int))) :
  Calls Tryz.prog 132 #[.slice a n c,.func (.func 133) #[] #[.pointer (some ⟨b,0,none⟩)]] w fun e w'=>(∃r:Bool,e = .returned (.bool r)∧(r=true↔¬Me.Ahead xs i))∧w=w':=by
 have C:=Lib.hid (indexF_in w a n c b i xs hl hn hr h);clear hl hr h;go_enter Tryz.func132,Tryz.ntmps132;go_wp2_with fail;refine C.out.mono ?_;rintro e w' ⟨⟨r,rfl,hr⟩,rfl⟩;have HR:=Lib.hid hr;clear hr C;go_wp2;go_ret;exact⟨⟨_,rfl,by rw[decide_eq_true_eq];exact HR.out⟩,rfl⟩
theorem clipSS_any (w:World)(a:Option Addr)(n c:Nat)(h:n≤c):Calls Tryz.prog 137 #[.slice a n c] w fun e w'=>e = .returned (.slice a n n)∧w=w':=by
 have hnc:(n:Int)≤(c:Int):=by omega
 have h0:(0:Int)≤(n:Int):=Int.natCast_nonneg _;go_enter Tryz.func137,Tryz.ntmps137;go_wp2;go_ret;exact⟨rfl,rfl⟩
end
section
open Go Go.RowKit
theorem Me.shapesGo_ok:∀{r:List Me.Node} {acc l:List (List Nat)},Me.shapesGo r acc=some l→∀x∈r,Me.NodeOk x
 | [],_,_,_,x,hx=>by cases hx
 | y::r,acc,l,h,x,hx=>by
   by_cases hy:Me.NodeOk y∧Me.Ahead y.inn acc.length
   ·rcases List.mem_cons.1 hx with rfl|hx
    ·exact hy.1
    ·cases hs:Me.shapeOf y (Me.ins acc y.inn) with
     | none=>rw[Me.shapesGo_none hs]at h;cases h
     | some s=>rw[Me.shapesGo_some hy.1 hy.2 hs]at h;exact Me.shapesGo_ok h x hx
   ·rw[Me.shapesGo_no hy]at h;cases h
theorem Me.most_zero {k:Nat}{A:Me.Asks}(h:Me.asks k=some A):A.most=0↔k=1∨k=2:=by
 by_cases hk:1≤k∧k≤13
 ·have hc:k=1∨k=2∨k=3∨k=4∨k=5∨k=6∨k=7∨k=8∨k=9∨k=10∨k=11∨k=12∨k=13:=by omega
  rcases hc with rfl|rfl|rfl|rfl|rfl|rfl|rfl|rfl|rfl|rfl|rfl|rfl|rfl <;> simp[Me.asks]at h <;> subst h <;> decide
 ·rw[Me.asks_none hk]at h;cases h
theorem KindsAt.some {w:World}{b k:Nat}{A:Me.Asks}(h:KindsAt w b)(hk:k<256)(hA:Me.asks k=some A):∃D n,w.ownsMap Tryz.prog 53 asK b n D∧Maps.has D (.int .u8 (k:Nat))=true∧D.atKey (.int .u8 (k:Nat)) (.held noKind) = .held (.agg #[.int .i64 ((A.least:Nat):Int),.int .i64 ((A.most:Nat):Int),.int .i64 ((A.low:Nat):Int),.int .i64 ((A.high:Nat):Int),.int .i64 ((A.around:Nat):Int),.int .i64 ((A.shaped:Nat):Int)]):=by
 obtain⟨D,n,h1,h2⟩:=h;have:=h2 k hk;rw[hA]at this;exact⟨D,n,h1,this⟩
theorem KindsAt.none {w:World}{b k:Nat}(h:KindsAt w b)(hk:k<256)(hA:Me.asks k=none):∃D n,w.ownsMap Tryz.prog 53 asK b n D∧Maps.has D (.int .u8 (k:Nat))=false∧D.atKey (.int .u8 (k:Nat)) (.held noKind) = .held (.agg #[.int .i64 0,.int .i64 0,.int .i64 0,.int .i64 0,.int .i64 0,.int .i64 0]):=by
 obtain⟨D,n,h1,h2⟩:=h;have:=h2 k hk;rw[hA]at this;exact⟨D,n,h1,this⟩
theorem ownsMap_keep {w w':World}{b n C:Nat}{D:DataW Value}(h:w.ownsMap Tryz.prog 53 asK b n D)(t:Touch (One C) w w')(hb:b≠C):w'.ownsMap Tryz.prog 53 asK b n D:=by
 have hlt:=h.lt;obtain⟨es,clock,hb',r⟩:=h;exact⟨es,clock,by rw[t.block b hlt (fun f=>hb f)];exact hb',r⟩
theorem KindsAt.keep {w w':World}{b C:Nat}(h:KindsAt w b)(t:Touch (One C) w w')(hb:b≠C):KindsAt w' b:=by
 obtain⟨D,n,h1,h2⟩:=h;exact⟨D,n,ownsMap_keep h1 t hb,h2⟩
theorem KindsAt.lt {w:World}{b:Nat}(h:KindsAt w b):b<w.heap.size:=by
 obtain⟨D,n,h1,_⟩:=h;exact h1.lt
theorem shapes_in (w:World)(a:Option Addr)(m cap:Nat)(Ns:List Me.Node)(hN:NsIn w a Ns)(hm:Ns.length=m)(hm6:m≤1000) :
  Calls Tryz.prog 86 #[.agg #[.slice a m cap]] w (ShsE w (Me.shapes Ns)):=by
 obtain⟨I,hi0,hi1,hi2,hi3⟩:=info_LI;have HI:=Lib.hid (aI hi0 (aI hi1 (aI hi2 hi3)));have HN:=Lib.hid hN;have HM:=Lib.hid hm;obtain⟨R,hR⟩:∃R,Me.shapes Ns=R:=⟨_,rfl⟩;rw[hR];have HR:=Lib.hid hR;clear hN hm hR hi0 hi1 hi2 hi3
 by_cases hm0:m=0
 ·subst hm0
  have hno:Hid (R=none):=by show _=_;rw[← HR.out];exact Me.shapes_len (by rw[HM.out];omega)
  go_enter Tryz.func86,Tryz.ntmps86;go_wp2
  go_ret2
  rw[hno.out];exact⟨rfl,(Touch.refl No w).alloc _⟩
 have g1:decide ((m:Int)<1)=false:=by simp;omega
 have g1':decide (m<1)=false:=by simp;omega
 by_cases hm32:32<m
 ·have hno:Hid (R=none):=by show _=_;rw[← HR.out];exact Me.shapes_len (by rw[HM.out];omega)
  have g2:decide ((32:Int)<(m:Nat))=true:=by simp;omega
  have g2':decide (32<m)=true:=by simp;omega
  go_enter Tryz.func86,Tryz.ntmps86;go_wp2
  go_ret2
  rw[hno.out];exact⟨rfl,(Touch.refl No w).alloc _⟩
 have g2:decide ((32:Int)<(m:Nat))=false:=by simp;omega
 have g2':decide (32<m)=false:=by simp;omega
 have CK:Hid (∀wx:World,Calls Tryz.prog 130 #[] wx fun e w'=>(∃b,e = .returned (.map (some b))∧KindsAt w' b)∧Touch No wx w'):=kinds_in;go_enter Tryz.func86,Tryz.ntmps86;go_wp2_with fail;obtain⟨w1,hw1,t1,R1⟩:=box_row w [.slice a m cap] 24;rw[← hw1];have HT1:=Lib.hid t1;have HR1:=Lib.hid R1;obtain⟨B,hBd⟩:∃B,B=w.heap.size:=⟨_,rfl⟩;rw[← hBd]at HR1 ⊢;clear hw1 t1 R1 g1 g1' g2 g2' hBd;refine(CK.out w1).mono ?_;rintro e w2 ⟨⟨kb,rfl,hkb⟩,t2⟩;go_upto_region 5 with fail;obtain⟨w3,hw3,t3,R3⟩:=box_row w2 [.slice none 0 0] 189;rw[← hw3];have HK:=Lib.hid (hkb.no t3);have HT3:Hid (Touch No w w3):=HT1.out.trans (t2.trans t3);have HB:Hid (Row w3 B 24 [.slice a m cap]):=HR1.out.touch (t2.trans t3) id;have HC3:=Lib.hid R3;obtain⟨C,hCd⟩:∃C,C=w2.heap.size:=⟨_,rfl⟩;rw[← hCd]at HC3 ⊢;have hBC:B<C:=by have:=(HR1.out.touch t2 id).lt;omega
 have hCs:C<w3.heap.size:=HC3.out.lt;have hkbC:kb≠C:=by have:=hkb.lt;omega
 have hwC:w.heap.size≤C:=by have:=HT1.out.size;have:=t2.size;omega
 have k0:=HB.out.cell 0;simp only[Lz0]at k0;clear hw3 t3 R3 hkb t2 hCd HT1 HR1 CK;go_wp2_with fail;have hkC:=Lib.hid hkbC;clear hkbC
 go_loopg [7,28] m (fun gh s7 s28 wr=>∃(i q:Nat) (v:Value) (acc:List (List Nat)),i+gh=m∧s28 = .int .i64 ((i:Nat):Int)∧s7 = .int .i64 ((q:Nat):Int)∧q≤i∧Hid (q=Me.inputs (Ns.take i))∧Hid (Touch (One C) w3 wr)∧Hid (Row wr C 189 [v]∧ShG wr w3.heap.size v acc)∧Hid (acc.length=i∧Me.OkAll acc∧Me.shapesGo (Ns.drop i) acc=Me.shapesGo Ns []))
 case atStart=>exact⟨0,0,_,[],by omega,rfl,rfl,Nat.le_refl _,rfl,Touch.refl _ _,⟨HC3.out,[],Own.nil _ _ _,ShT.nil _⟩,rfl,Me.OkAll.nil,rfl⟩
 case round =>
  obtain⟨i,q,v,acc,hig,rfl,rfl,hqi,HQ,T,HG,HA⟩:=hrel;have TW:Hid (Touch No w wr):=HT3.out.oneNo T.out hwC;have k0:=(HB.out.touch T.out (fun e=>absurd e (Nat.ne_of_lt hBC))).cell 0;simp only[Lz0]at k0;obtain⟨a5,c5,rfl,hc5,hS5⟩:=HG.out.2.form HA.out.1;have hcC:=HG.out.1.cell 0;simp only[Lz0]at hcC;have HKr:=Lib.hid (HK.out.keep T.out hkC.out);cases gk with
  | zero =>
    obtain rfl:m=i:=by omega
    obtain⟨m1,hm1⟩:∃m1,m=m1+1:=⟨m-1,by omega⟩;have hi:m1<Ns.length:=by rw[HM.out];omega
    obtain⟨b,o,ia,n,c,sa,n',c',rfl,⟨h0,_,_,_,_⟩,hx⟩:=(HN.out.no TW.out) m1 hi;have hk8:=hx.k8;have hA:=HA.out;rw[List.drop_of_length_le (by rw[HM.out];exact Nat.le_refl _),Me.shapesGo]at hA
    have hnk:Me.NodeOk (Me.nodeAt Ns m1):=Me.shapesGo_ok hA.2.2.symm _ (by
     rw[Me.nodeAt,Lgd,Lge hi];exact List.getElem_mem hi)
    obtain⟨A,hAs,_⟩:=hnk;obtain⟨kd,hkd⟩:∃kd,(Me.nodeAt Ns m1).kind=kd:=⟨_,rfl⟩;rw[hkd]at h0 hAs hk8;have hQ:=HQ.out;rw[List.take_of_length_le (by rw[HM.out];exact Nat.le_refl _)]at hQ;have hmz:=Me.most_zero hAs
    have hL:Hid (Me.LastOk Ns↔(q=1∧A.most≠0)):=by
     show _↔_
     rw[Me.LastOk,← hQ,HM.out,show m-1=m1 by omega,hkd];constructor
     ·rintro⟨h1,h2,h3⟩
      exact⟨h1,fun h=>by rcases hmz.1 h with h|h;exact h2 h;exact h3 h⟩
     ·rintro⟨h1,h2⟩
      exact⟨h1,fun h=>h2 (hmz.2 (Or.inl h)),fun h=>h2 (hmz.2 (Or.inr h))⟩
    have hNO:Hid (¬(q=1∧A.most≠0)→R=none):=fun h=>by
     rw[← HR.out];exact Me.shapes_last fun k=>h (hL.out.1 k)
    have hYES:Hid ((q=1∧A.most≠0)→R=some acc):=fun h=>by
     rw[← HR.out,Me.shapes_go (by rw[HM.out];omega) (hL.out.2 h),hA.2.2]
    have h0:wr.cell? ⟨b,o+(m-1)*5,none⟩=some (.int .u8 ((kd:Nat):Int)):=by rw[show m-1=m1 by omega];exact h0
    obtain⟨D,nD,LK1,_,LK3⟩:=HKr.out.some hk8 hAs;have LK:=Lib.hid (aI LK1 LK3);have HE:Hid (m≤c5∧SsIn wr a5 acc∧Touch No w wr):=⟨hc5,hS5,TW.out⟩;have HAC:=Lib.hid hA.1;have hCr:C<wr.heap.size:=HG.out.1.lt;have HGC:=Lib.hid HG.out.1;obtain⟨am,ham⟩:∃am,A.most=am:=⟨_,rfl⟩;rw[ham]at hNO hYES;clear hm1 hkd hA hQ hS5 HG HA HQ hi hqi hmz hx hAs LK1 LK3;go_upto_region 19 with(at_lookup;refine wpList_look_kind1 _ rfl _ _ rfl kb nD D rfl LK.out.1 kd hk8 rfl _ LK.out.2 ?_);obtain⟨w6,hw6,t6,RK⟩:=box_row wr [.int .i64 ((A.least:Nat):Int),.int .i64 ((am:Nat):Int),.int .i64 ((A.low:Nat):Int),.int .i64 ((A.high:Nat):Int),.int .i64 ((A.around:Nat):Int),.int .i64 ((A.shaped:Nat):Int)] 191;rw[← hw6];have z1:=RK.cell 1;have hcC:=(HGC.out.touch t6 id).cell 0;simp only[Lz0,Ls0]at z1 hcC;have H6:=Lib.hid t6;clear hw6 t6 RK h0 k0 ham LK
    by_cases e1:q=1
    ·subst e1
     by_cases e2:am=0
     ·subst e2
      have hno:=Lib.hid (hNO.out fun h=>h.2 rfl);go_wp2
      go_ret2
      rw[hno.out];exact⟨rfl,HE.out.2.2.trans H6.out⟩
     ·have f2:((am:Int)==0)=false:=by simp;omega
      have hyes:=Lib.hid (hYES.out ⟨rfl,e2⟩);clear e2;go_wp2_with fail;refine(clipSS_any w6 a5 m c5 HE.out.1).mono ?_;rintro e w' ⟨rfl,rfl⟩;go_wp2
      go_ret2
      rw[hyes.out];exact⟨⟨a5,m,by rw[HAC.out];rfl,by rw[HAC.out];exact Nat.le_refl _,HE.out.2.1.no H6.out⟩,HE.out.2.2.trans H6.out⟩
    ·have f1:((q:Int) != 1)=true:=by simp;omega
     have hno:=Lib.hid (hNO.out fun h=>e1 h.1);clear e1;go_wp2
     go_ret2
     rw[hno.out];exact⟨rfl,HE.out.2.2.trans H6.out⟩
  | succ g' =>
    have hik:(i:Int)<(m:Nat):=by omega
    have hi:i<Ns.length:=by rw[HM.out];omega
    obtain⟨b,o,ia,n,c,sa,n',c',rfl,⟨h0,h1,h2,h3,h4⟩,hx⟩:=(HN.out.no TW.out) i hi;have HX:=Lib.hid hx;have HD:=Lib.hid (Me.drop_node hi);have HQ2:=Lib.hid (Me.inputs_take hi);obtain⟨x,hxd⟩:∃x,Me.nodeAt Ns i=x:=⟨_,rfl⟩;rw[hxd]at HX HD HQ2 h0 h3 h4;clear hx hxd;obtain⟨kd,inn,shape,N,P⟩:=x;dsimp only at h0 h3 h4;have hk8:kd<256:=HX.out.k8;go_upto_region 8 with fail;obtain⟨w5,hw5,t5,Ri,Rn,hs5⟩:=rows_TT wr #[.int .i64 ((i:Nat):Int)] #[.int .u8 ((kd:Nat):Int),.slice ia n c,.slice sa n' c',.int .i64 N,.int .i64 P] 3 55;rw[← hw5];have T5:Hid (Touch (One C) w3 w5):=T.out.trans t5.no;have hCr:C<wr.heap.size:=HG.out.1.lt;have HC5:=Lib.hid (HG.out.1.touch t5 id);have HG5:=Lib.hid (HG.out.2.no t5);have HX5:=Lib.hid (HX.out.no t5);have HK5:=Lib.hid (HKr.out.no t5);obtain⟨Xi,hXi⟩:∃Xi,Xi=wr.heap.size:=⟨_,rfl⟩;obtain⟨Xn,hXn⟩:∃Xn,Xn=wr.heap.size+1:=⟨_,rfl⟩;rw[← hXn]at Rn ⊢;rw[← hXi]at Ri ⊢;have HRi:=Lib.hid Ri;have HRn:=Lib.hid Rn;have hCi:C<Xi:=by omega
    have hCn:C<Xn:=by omega
    have y0:=Rn.cell 0;have y1:=Rn.cell 1;have y2:=Rn.cell 2;have y3:=Rn.cell 3;have y4:=Rn.cell 4;simp only[Lz0,Ls0]at y0 y1 y2 y3 y4;have S5:=Lib.hid (show Touch No w w5 from TW.out.trans t5);clear hw5 t5 Ri Rn hs5 hXi hXn hCr HX HG HKr h0 h1 h2 h3 h4 hcC T TW
    have hNO:Hid (¬(Me.NodeOk ⟨kd,inn,shape,N,P⟩∧Me.Ahead inn i)→R=none):=fun hbad=>by
     rw[← HR.out];refine Me.shapes_none ?_;rw[← HA.out.2.2,HD.out];exact Me.shapesGo_no (by rw[HA.out.1];exact hbad)
    cases hA:Me.asks kd with
    | none =>
      have hno:=Lib.hid (hNO.out fun h=>Me.nodeOk_no (x:=⟨kd,inn,shape,N,P⟩) hA h.1);obtain⟨D,nD,LK1,LK2,LK3⟩:=HK5.out.none hk8 hA;have LK:=Lib.hid (aI LK1 (aI LK2 LK3));clear hA LK1 LK2 LK3;go_wp2_with (at_lookup;refine wpList_look_kind _ rfl _ _ rfl kb nD D rfl LK.out.1 kd hk8 rfl _ LK.out.2.2 _ LK.out.2.1 ?_)
      go_ret2
      rw[hno.out];exact⟨rfl,S5.out.alloc _⟩
    | some A =>
      have HAS:=Lib.hid hA;obtain⟨D,nD,LK1,LK2,LK3⟩:=HK5.out.some hk8 hA;have LK:=Lib.hid (aI LK1 (aI LK2 LK3));clear hA LK1 LK2 LK3;go_upto_region 9 with(at_lookup;refine wpList_look_kind _ rfl _ _ rfl kb nD D rfl LK.out.1 kd hk8 rfl _ LK.out.2.2 _ LK.out.2.1 ?_);obtain⟨w6,hw6,t6,RK⟩:=box_row w5 [.int .i64 ((A.least:Nat):Int),.int .i64 ((A.most:Nat):Int),.int .i64 ((A.low:Nat):Int),.int .i64 ((A.high:Nat):Int),.int .i64 ((A.around:Nat):Int),.int .i64 ((A.shaped:Nat):Int)] 191;rw[← hw6];have T6:Hid (Touch (One C) w3 w6):=T5.out.trans t6.no;have HC6:=Lib.hid (HC5.out.touch t6 id);have HG6:=Lib.hid (HG5.out.no t6);have HX6:=Lib.hid (HX5.out.no t6);have HR6i:=Lib.hid (HRi.out.touch t6 id);have HR6n:=Lib.hid (HRn.out.touch t6 id);have S6:=Lib.hid (S5.out.trans t6);have y0:=HR6n.out.cell 0;have y1:=HR6n.out.cell 1;have y2:=HR6n.out.cell 2;have y3:=HR6n.out.cell 3;have y4:=HR6n.out.cell 4;have z0:=RK.cell 0;have z1:=RK.cell 1;have z2:=RK.cell 2;have z3:=RK.cell 3;have z4:=RK.cell 4;have z5:=RK.cell 5;simp only[Lz0,Ls0]at y0 y1 y2 y3 y4 z0 z1 z2 z3 z4 z5;have CO:=Lib.hid (kindOf_in w6 ia sa n c n' c' A ⟨kd,inn,shape,N,P⟩ HX6.out);clear hw6 t6 RK T5 HC5 HG5 HX5 HRi HRn HK5 S5 LK;go_wp2_with fail;refine CO.out.mono ?_;rintro e w7 ⟨⟨bk,rfl,hbk⟩,t7⟩;have T7:Hid (Touch (One C) w3 w7):=T6.out.trans t7.no;have HC7:=Lib.hid (HC6.out.touch t7 id);have HG7:=Lib.hid (HG6.out.no t7);have HX7:=Lib.hid (HX6.out.no t7);have HR7i:=Lib.hid (HR6i.out.touch t7 id);have HR7n:=Lib.hid (HR6n.out.touch t7 id);have S7:=Lib.hid (S6.out.trans t7);clear y0 y1 y2 y3 y4 z0 z1 z2 z3 z4 z5 CO t7 T6 HC6 HG6 HX6 HR6i HR6n S6;cases bk with
      | false =>
        have hno:=Lib.hid (hNO.out fun h=>by have:=hbk.2 ((Me.nodeOk_of HAS.out).1 h.1);cases this);clear hbk;go_wp2
        go_ret2
        rw[hno.out];exact⟨rfl,S7.out⟩
      | true =>
        have HOK:Hid (Me.NodeOk ⟨kd,inn,shape,N,P⟩):=(Me.nodeOk_of HAS.out).2 (hbk.1 rfl);have y1:=HR7n.out.cell 1;have yi:=HR7i.out.cell 0;simp only[Lz0,Ls0]at y1 yi;have CF:=Lib.hid (containsF_in w7 ia n c Xi i inn HX7.out.il HX7.out.i6 HX7.out.ir yi);clear hbk;go_wp2_with fail;refine CF.out.mono ?_;rintro e w' ⟨⟨rr,rfl,hrr⟩,rfl⟩;cases rr with
        | true =>
          have hno:=Lib.hid (hNO.out fun h=>(hrr.1 rfl) h.2);clear hrr CF y1 yi;go_wp2
          go_ret2
          rw[hno.out];exact⟨rfl,S7.out⟩
        | false =>
          have HAH:Hid (Me.Ahead inn i):=Classical.byContradiction fun h=>by have:=hrr.2 h;cases this
          obtain⟨q2,hq2⟩:∃q2,Me.inputs (Ns.take (i+1))=q2:=⟨_,rfl⟩
          have HQ3:Hid (q2=q+if kd=1 then 1 else 0):=by
           show _=_
           rw[← hq2,HQ2.out,← HQ.out]
          have HQ4:=Lib.hid hq2;have y0:=HR7n.out.cell 0;simp only[Lz0,Ls0]at y0;clear hrr CF y1 yi hq2 hNO
          go_upto_if 56 with fail
          go_cut [7] (fun s7 wx=>s7 = .int .i64 ((q2:Nat):Int)∧wx=w7)
          case first =>
           by_cases hk1:kd=1
           ·have hb:((kd:Int)==1)=true:=by simp;omega
            have hq3:=HQ3.out;rw[if_pos hk1]at hq3;rw[hb];clear hb hk1;go_wp2_with fail;go_meet;exact⟨by rw[hq3];go_num,rfl⟩
           ·have hb:((kd:Int)==1)=false:=by simp;omega
            have hq3:=HQ3.out;rw[if_neg hk1,Nat.add_zero]at hq3;rw[hb];clear hb hk1;go_wp2_with fail;go_meet;exact⟨by rw[hq3],rfl⟩
          case rest =>
          obtain⟨rfl,rfl⟩:=hcut;have hq2i:q2≤i+1:=by have:=HQ3.out;split at this <;> omega
          have y1:=HR7n.out.cell 1;have y2:=HR7n.out.cell 2;have y3:=HR7n.out.cell 3;have y4:=HR7n.out.cell 4;have hcC:=HC7.out.cell 0;simp only[Lz0,Ls0]at y1 y2 y3 y4 hcC;obtain⟨a7,c7,e7,_,hS7⟩:=HG7.out.form HA.out.1;cases e7
          have CS:=Lib.hid (graphShape_in wc ia sa a5 n c n' c' i c5 ⟨kd,inn,shape,N,P⟩ acc HX7.out HOK.out (by rw[HA.out.1];exact HAH.out) hS7 HA.out.1 HA.out.2.1 (by omega));clear hS7;go_wp2_with fail;refine CS.out.mono ?_;rintro e w8 ⟨l,sl,rfl,hl8,hl4,hyes,hno',t8⟩;have HL:=Lib.hid (aI hl8 (aI hyes hno'));have T8:Hid (Touch (One C) w3 w8):=T7.out.trans t8.no;have HC8:=Lib.hid (HC7.out.touch t8 id);have HG8:=Lib.hid (HG7.out.no t8);have S8:=Lib.hid (S7.out.trans t8);obtain⟨nl,hnl⟩:∃nl,l.length=nl:=⟨_,rfl⟩;rw[hnl]at hl4 ⊢;have HNL:=Lib.hid hnl;have CC:=Lib.hid (shapeCheck_any w8 sl nl nl (Me.zs l) (by rw[Me.zs_length];exact hnl) (by omega) (by rw[Me.ints_zs];exact hl8.1));rw[Ar.size_pos]at CC;clear hl8 hyes hno' t8 CS y0 y1 y2 y3 y4 hcC hnl T7 HC7 HG7 S7 HX7 HR7i HR7n;go_wp2_with fail;refine CC.out.mono ?_;rintro e w' ⟨rfl,rfl⟩;cases hsh:Ar.shape (Me.zs l) with
          | false =>
            have hno:Hid (R=none):=by
             show _=_
             rw[← HR.out];refine Me.shapes_none ?_;rw[← HA.out.2.2,HD.out];exact Me.shapesGo_none (HL.out.2.2 hsh)
            clear hsh CC;go_wp2
            go_ret2
            rw[hno.out];exact⟨rfl,S8.out⟩
          | true =>
            have HOl:=Lib.hid (Me.ok_iff.2 hsh)
            have HGO:Hid (Me.shapesGo (Ns.drop (i+1)) (acc ++ [l])=Me.shapesGo Ns []):=by
             show _=_
             rw[← HA.out.2.2,HD.out];exact(Me.shapesGo_some HOK.out (by rw[HA.out.1];exact HAH.out) (HL.out.2.1 hsh)).symm
            obtain⟨vs,OW0,HT0⟩:=HG8.out;have OW:=Lib.hid OW0;have HTT:=Lib.hid HT0;have hvl:vs.length=i:=by rw[HT0.1];exact HA.out.1
            have Hvl:=Lib.hid hvl;have hcC:=HC8.out.cell 0;simp only[Lz0,Ls0]at hcC;clear hsh CC OW0 HT0 hvl;go_wp2_with (at_builtin;refine wpList_append1 rfl _ _ _ rfl w3.heap.size _ I _ 24 Tryz.underlying75 HI.out.1 HI.out.2.1 HI.out.2.2.1 HI.out.2.2.2 rfl _ _ _ OW.out rfl rfl rfl (by have:=Hvl.out;unfold maxLen;omega) (by have:=Hvl.out;omega) T8.out.size ?_;intro v' w9 hown9 ht9;obtain⟨a9,c9,rfl,_,_⟩:=hown9.form' (n:=i+1) (by rw[List.length_append,Hvl.out];rfl);have HCn:¬InBlock (.slice a5 i c5) C:=(fun e=>absurd ((OW.out.block e).1) (by omega));have HC9:=HC8.out.touch ht9 HCn;have H9:=Lib.hid (aI hown9 (aI ht9 HC9));have kc9:w9.cell? ⟨C,0,none⟩=some (.slice a5 i c5):=HC9.cell 0;have kz9:w9.frozen? ⟨C,0,none⟩=false:=HC9.soft 0;clear hown9 ht9 HC9 HCn)
            go_roundg g'
            case measure=>omega
            case rel =>
             have h9:=H9.out;have t9:Touch (One C) w3 w9:=T8.out.then h9.2.1 (fun i hi e=>absurd ((OW.out.block e).1) (by omega));have ts:Touch (One C) w9 (w9.setCell ⟨C,0,none⟩ (.slice a9 (i+1) c9)):=(Touch.refl (One C) w9).setCell (p:=⟨C,0,none⟩) (fun _=>rfl) _;refine⟨i+1,q2,.slice a9 (i+1) c9,acc ++ [l],by omega,by go_num,rfl,hq2i,HQ4.out.symm,t9.trans ts,⟨h9.2.2.setCell 0 _,vs ++ [.slice sl nl nl],?_,?_⟩,by rw[List.length_append,HA.out.1];rfl,HA.out.2.1.snoc HOl.out,HGO.out⟩
             ·exact h9.1.touch ts (fun b hb _ e=>by have:b=C:=e;omega)
             ·have hp:=HTT.out.push OW.out h9.2.1 HL.out.1 HNL.out (Nat.le_refl _)
              exact⟨hp.1,fun j hj=>by
               obtain⟨sa',n9,c9',g1,g2,g3,g4⟩:=hp.2 j hj;refine⟨sa',n9,c9',g1,g2,g3,g4.touch ts fun ad e _ eC=>?_⟩;obtain⟨cc,fr,hh⟩:=g4.2 ad e;have:ad.block=C:=eC;rw[this]at hh;have h10:w9.heap[C]? = some (.cells [Value.slice a5 i c5].toArray 189 (0,0)):=h9.2.2;rw[h10]at hh;injection hh with hh
               injection hh with _ h2 _
               exact absurd h2 (by decide)⟩
theorem check_in (w:World)(a:Option Addr)(m cap:Nat)(Ns:List Me.Node)(hN:NsIn w a Ns)(hm:Ns.length=m)(hm6:m≤1000) :
  Calls Tryz.prog 62 #[.agg #[.slice a m cap]] w fun e w'=>e = .returned (.bool (Me.shapes Ns).isSome)∧Touch No w w':=by
 have C:=Lib.hid (shapes_in (w.alloc (.cells #[.slice a m cap] 24)) a m cap Ns (hN.no ((Touch.refl No w).alloc _)) hm hm6);obtain⟨R,hR⟩:∃R,Me.shapes Ns=R:=⟨_,rfl⟩;rw[hR]at C ⊢;clear hN hm hR;go_enter Tryz.func62,Tryz.ntmps62;go_wp2_with fail;refine C.out.mono ?_;cases R with
 | none =>
   rintro e w' ⟨rfl,t⟩;have T:Hid (Touch No w w'):=((Touch.refl No w).alloc _).trans t;clear t C;go_wp2;go_ret;exact⟨rfl,T.out⟩
 | some l =>
   rintro e w' ⟨⟨a',c',rfl,_,_⟩,t⟩;have T:Hid (Touch No w w'):=((Touch.refl No w).alloc _).trans t;clear t C;go_wp2;go_ret;exact⟨rfl,T.out⟩
theorem weights_in (w:World)(a:Option Addr)(m cap:Nat)(Ns:List Me.Node)(hN:NsIn w a Ns)(hm:Ns.length=m)(hm6:m≤1000) :
  Calls Tryz.prog 63 #[.agg #[.slice a m cap]] w fun e w'=>∃a',e = .returned (.slice a' (Me.weights Ns m).length (Me.weights Ns m).length)∧Rd w' a' (nums .i64 (Me.weights Ns m))∧Touch No w w':=by
 obtain⟨J,hj0,hj1,hj2,hj3⟩:=info_I;have HJ:=Lib.hid (aI hj0 (aI hj1 (aI hj2 hj3)));have HN:=Lib.hid hN;have HM:=Lib.hid hm;clear hN hm hj0 hj1 hj2 hj3;go_enter Tryz.func63,Tryz.ntmps63;go_wp2_with fail;obtain⟨w1,hw1,t1,R1⟩:=box_row w [.slice a m cap] 24;rw[← hw1];have HT1:=Lib.hid t1;clear hw1 t1 R1
 go_loopg [2,8] m (fun gh s2 s8 wr=>∃(i:Nat) (v:Value),i+gh=m∧s8 = .int .i64 ((i:Nat):Int)∧v=s2∧Hid (Touch No w1 wr)∧Hid (Own wr w1.heap.size 3 v (nums .i64 (Me.weights Ns i))))
 case atStart=>exact⟨0,_,by omega,rfl,rfl,Touch.refl _ _,Own.nil _ _ _⟩
 case round =>
  obtain⟨i,v,hig,rfl,rfl,T,OW⟩:=hrel;cases gk with
  | zero =>
    obtain rfl:m=i:=by omega
    obtain⟨a5,c5,rfl,hc5,hr5,_⟩:=OW.out.form' (n:=(Me.weights Ns m).length) (by rw[nums_length]);have HE:Hid (Rd wr a5 (nums .i64 (Me.weights Ns m))∧Touch No w wr):=⟨hr5,HT1.out.trans T.out⟩;clear hr5 OW;go_wp2_with fail;refine(clipI_any _ _ _ _ hc5).mono ?_;rintro e w' ⟨rfl,rfl⟩;go_wp2;go_ret;exact⟨a5,rfl,HE.out⟩
  | succ g' =>
    have hik:(i:Int)<(m:Nat):=by omega
    obtain⟨b,o,ia,n,c,sa,n',c',rfl,⟨h0,h1,h2,h3,h4⟩,_⟩:=(HN.out.no (HT1.out.trans T.out)) i (by rw[HM.out];omega);obtain⟨kd,hkd⟩:∃kd,(Me.nodeAt Ns i).kind=kd:=⟨_,rfl⟩;obtain⟨NN,hNN⟩:∃NN,(Me.nodeAt Ns i).n=NN:=⟨_,rfl⟩;obtain⟨PP,hPP⟩:∃PP,(Me.nodeAt Ns i).pad=PP:=⟨_,rfl⟩;rw[hkd]at h0;rw[hNN]at h3;rw[hPP]at h4;go_upto_region 4 with fail;obtain⟨w5,hw5,t5,R5⟩:=box_row wr [.int .u8 ((kd:Nat):Int),.slice ia n c,.slice sa n' c',.int .i64 NN,.int .i64 PP] 55;rw[← hw5];have y0:=R5.cell 0;simp only[Lz0]at y0;have T2:Hid (Touch No w1 w5):=T.out.trans t5;have OW2:=Lib.hid (OW.out.touch t5 (fun _ _ _ f=>f));clear hw5 t5 R5 h0 h1 h2 h3 h4
    by_cases hk2:kd=2
    ·have f1:((kd:Int)==2)=true:=by simp;omega
     have HWn:Hid (nums .i64 (Me.weights Ns (i+1))=nums .i64 (Me.weights Ns i) ++ [.int .i64 ((i:Nat):Int)]):=by
      show _=_
      rw[Me.weights,if_pos (by rw[hkd];exact hk2),nums_append];rfl
     have hl:=Me.weights_len Ns i;have Hl:=Lib.hid (show(nums .i64 (Me.weights Ns i)).length≤i by rw[nums_length];exact hl);clear hl hk2 hkd hNN hPP;go_wp2_with (at_builtin;refine wpList_append1 rfl _ _ _ rfl w1.heap.size _ J _ 8 Tryz.underlying48 HJ.out.1 HJ.out.2.1 HJ.out.2.2.1 HJ.out.2.2.2 rfl _ _ _ OW2.out rfl rfl rfl (by have:=Hl.out;unfold maxLen;omega) (by have:=Hl.out;omega) T2.out.size ?_;intro v' w3 hown3 ht3)
     go_roundg g'
     case measure=>omega
     case rel=>exact⟨i+1,v',by omega,by go_num,rfl,T2.out.then ht3 (fun i hi e=>absurd ((OW2.out.block e).1) (by omega)),by rw[HWn.out];exact hown3⟩
    ·have HWn:Hid (Me.weights Ns (i+1)=Me.weights Ns i):=by show _=_;rw[Me.weights,if_neg (by rw[hkd];exact hk2)]
     have f1:((kd:Int)==2)=false:=by simp;omega
     clear hk2 hkd hNN hPP;go_wp2
     go_roundg g'
     case measure=>omega
     case rel=>exact⟨i+1,v,by omega,by go_num,rfl,T2.out,by rw[HWn.out];exact OW2.out⟩
end
end Go.Proofs.YtjlphmmalebgpaaGreat
