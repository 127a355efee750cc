/-
  A part of the proof.
-/
import Derived.Test.YtjlphmmalebgpaaGreatK24
set_option linter.unusedSimpArgs false
set_option linter.unusedVariables false
set_option maxHeartbeats 2000000
set_option maxRecDepth 100000
namespace Go.Proofs.YtjlphmmalebgpaaGreat
section
open Go Go.RowKit
def ShsE (w:World)(o:Option (List (List Nat)))(e:Ending)(w':World):Prop :=
 (match o with
 | some l=>∃a' c',e = .returned (.tuple #[.slice a' l.length c',.int .i64 0])∧l.length≤c'∧SsIn w' a' l
 | none=>e = .returned (.tuple #[.slice none 0 0,.int .i64 1]))∧Touch No w w'
namespace Me
def weights (g:List Node):Nat→List Nat
 | 0=>[]
 | n+1=>if (nodeAt g n).kind=2 then weights g n ++ [n] else weights g n
theorem weights_len (g:List Node):∀n,(weights g n).length≤n
 | 0=>Nat.le_refl _
 | n+1=>by
   have:=weights_len g n;rw[weights];split
   ·simp;omega
   ·omega
end Me
theorem refCheck10_in (w:World)(a:Option Addr)(m cap:Nat)(Ns:List Me.Node)(hN:NsIn w a Ns)(hm:Ns.length=m)(hm6:m≤1000) :
  Calls Tryz.prog 94 #[.agg #[.slice a m cap]] w fun e w'=>e = .returned (.bool (Me.shapes Ns).isSome)∧Touch No w w':=by
 have C:=Lib.hid (refShapes_in (w.alloc (.cells #[.slice a m cap] 24)) a m cap Ns (hN.no ((Touch.refl No w).alloc _)) hm hm6);obtain⟨R,hR⟩:∃R,Me.shapes Ns=R:=⟨_,rfl⟩;rw[hR]at C ⊢;clear hN hm hR;go_enter Tryz.func94,Tryz.ntmps94;go_wp2_with fail;refine C.out.mono ?_;cases R with
 | none =>
   rintro e w' ⟨⟨v,rfl⟩,t⟩;have T:Hid (Touch No w w'):=((Touch.refl No w).alloc _).trans t;clear t C;go_wp2;go_ret;exact⟨rfl,T.out⟩
 | some l =>
   rintro e w' ⟨⟨a',c',rfl,_,_⟩,t⟩;have T:Hid (Touch No w w'):=((Touch.refl No w).alloc _).trans t;clear t C;go_wp2;go_ret;exact⟨rfl,T.out⟩
theorem refShapesE_in (w:World)(a:Option Addr)(m cap:Nat)(Ns:List Me.Node)(hN:NsIn w a Ns)(hm:Ns.length=m)(hm6:m≤1000) :
  Calls Tryz.prog 34 #[.agg #[.slice a m cap]] w (ShsE w (Me.shapes Ns)):=by
 have C:=Lib.hid (refShapes_in (w.alloc (.cells #[.slice a m cap] 24)) a m cap Ns (hN.no ((Touch.refl No w).alloc _)) hm hm6);obtain⟨R,hR⟩:∃R,Me.shapes Ns=R:=⟨_,rfl⟩;rw[hR]at C ⊢;clear hN hm hR;go_enter Tryz.func34,Tryz.ntmps34;go_wp2_with fail;refine C.out.mono ?_;cases R with
 | none =>
   rintro e w' ⟨⟨v,rfl⟩,t⟩;have T:Hid (Touch No w w'):=((Touch.refl No w).alloc _).trans t;clear t C;go_wp2
   go_ret2
   exact⟨rfl,T.out⟩
 | some l =>
   rintro e w' ⟨⟨a',c',rfl,h1,h2⟩,t⟩;have T:Hid (l.length≤c'∧SsIn w' a' l∧Touch No w w'):=⟨h1,h2,((Touch.refl No w).alloc _).trans t⟩;clear t C h1 h2;go_wp2
   go_ret2
   exact⟨⟨a',c',rfl,T.out.1,T.out.2.1⟩,T.out.2.2⟩
theorem refWeights_in (w:World)(a:Option Addr)(m cap:Nat)(Ns:List Me.Node)(hN:NsIn w a Ns)(hm:Ns.length=m)(hm6:m≤1000) :
  Calls Tryz.prog 97 #[.agg #[.slice a m cap]] w fun e w'=>∃a' c',e = .returned (.slice a' (Me.weights Ns m).length c')∧(Me.weights Ns m).length≤c'∧Rd w' a' (nums .i64 (Me.weights Ns m))∧Touch No w w':=by
 obtain⟨J,hj0,hj1,hj2,hj3⟩:=info_I;have HJ:=Lib.hid (aI hj0 (aI hj1 (aI hj2 hj3)));have HN:=Lib.hid hN;have HM:=Lib.hid hm;clear hN hm hj0 hj1 hj2 hj3;go_enter Tryz.func97,Tryz.ntmps97;go_wp2_with fail;obtain⟨w1,hw1,t1,R1⟩:=box_row w [.slice a m cap] 24;rw[← hw1];have HT1:=Lib.hid t1;have HR1:=Lib.hid R1;have hB:w.heap.size<w1.heap.size:=R1.lt;clear hw1 t1 R1
 go_loopg [3,4] m (fun gh s3 s4 wr=>∃(i:Nat) (v:Value),i+gh=m∧s4 = .int .i64 ((i:Nat):Int)∧v=s3∧Hid (Touch No w1 wr)∧Hid (Own wr w1.heap.size 3 v (nums .i64 (Me.weights Ns i))))
 case atStart=>exact⟨0,_,by omega,rfl,rfl,Touch.refl _ _,Own.nil _ _ _⟩
 case round =>
  obtain⟨i,v,hig,rfl,rfl,T,OW⟩:=hrel;have k0:=HR1.out.touch T.out id |>.cell 0
  simp only[Lz0]at k0;cases gk with
  | zero =>
    obtain rfl:m=i:=by omega
    obtain⟨a5,c5,rfl,hc5,hr5,_⟩:=OW.out.form' (n:=(Me.weights Ns m).length) (by rw[nums_length]);have HE:Hid ((Me.weights Ns m).length≤c5∧Rd wr a5 (nums .i64 (Me.weights Ns m))∧Touch No w wr):=⟨hc5,hr5,HT1.out.trans T.out⟩;clear hc5 hr5 OW;go_wp2;go_ret;exact⟨a5,c5,rfl,HE.out⟩
  | succ g' =>
    have hik:(i:Int)<(m:Nat):=by omega
    obtain⟨b,o,ia,n,c,sa,n',c',rfl,⟨h0,_,_,_,_⟩,_⟩:=(HN.out.no (HT1.out.trans T.out)) i (by rw[HM.out];omega)
    by_cases h2:(Me.nodeAt Ns i).kind=2
    ·rw[h2]at h0
     have HWn:Hid (nums .i64 (Me.weights Ns (i+1))=nums .i64 (Me.weights Ns i) ++ [.int .i64 ((i:Nat):Int)]):=by
      show _=_
      rw[Me.weights,if_pos h2,nums_append];rfl
     have hl:=Me.weights_len Ns i;have Hl:=Lib.hid (show(nums .i64 (Me.weights Ns i)).length≤i by rw[nums_length];exact hl);clear h2 hl;go_wp2_with (at_builtin;refine wpList_append1 rfl _ _ _ rfl w1.heap.size _ J _ 8 Tryz.underlying48 HJ.out.1 HJ.out.2.1 HJ.out.2.2.1 HJ.out.2.2.2 rfl _ _ _ OW.out rfl rfl rfl (by have:=Hl.out;unfold maxLen;omega) (by have:=Hl.out;omega) T.out.size ?_;intro v' w3 hown3 ht3)
     go_roundg g'
     case measure=>omega
     case rel=>exact⟨i+1,v',by omega,by go_num,rfl,T.out.then ht3 (fun i hi e=>absurd ((OW.out.block e).1) (by omega)),by rw[HWn.out];exact hown3⟩
    ·have HWn:Hid (Me.weights Ns (i+1)=Me.weights Ns i):=by show _=_;rw[Me.weights,if_neg h2]
     obtain⟨kd,hkd⟩:∃kd,(Me.nodeAt Ns i).kind=kd:=⟨_,rfl⟩;rw[hkd]at h0 h2;have f1:((kd:Int)==2)=false:=by simp;omega
     clear h2 hkd;go_wp2
     go_roundg g'
     case measure=>omega
     case rel=>exact⟨i+1,v,by omega,by go_num,rfl,T.out,by rw[HWn.out];exact OW.out⟩
theorem refInput_in (w:World)(a:Option Addr)(m cap p:Nat)(Ns:List Me.Node)(hN:NsIn w a Ns)(hm:Ns.length=m)(hm6:m≤1000)(hp:p<m)(hk:(Me.nodeAt Ns p).kind=1)(hlt:∀j,j<p→(Me.nodeAt Ns j).kind≠1) :
  Calls Tryz.prog 96 #[.agg #[.slice a m cap]] w fun e w'=>e = .returned (.int .i64 ((p:Nat):Int))∧Touch No w w':=by
 have HN:=Lib.hid hN;have HM:=Lib.hid hm;have HK:=Lib.hid (aI hk hlt);clear hN hm hk hlt;go_enter Tryz.func96,Tryz.ntmps96;go_wp2_with fail;obtain⟨w1,hw1,t1,R1⟩:=box_row w [.slice a m cap] 24;rw[← hw1];have HT1:=Lib.hid t1;have HR1:=Lib.hid R1;have hB:w.heap.size<w1.heap.size:=R1.lt;clear hw1 t1 R1;have k0:=HR1.out.cell 0;simp only[Lz0]at k0
 go_loopg [3] p (fun gh s3 wr=>∃(i:Nat),i+gh=p∧s3 = .int .i64 ((i:Nat):Int)∧Hid (wr=w1))
 case atStart=>exact⟨0,by omega,rfl,rfl⟩
 case round =>
  obtain⟨i,hig,rfl,hwr⟩:=hrel;obtain rfl:w1=wr:=hwr.out.symm;have hik:(i:Int)<(m:Nat):=by omega
  obtain⟨b,o,ia,n,c,sa,n',c',rfl,⟨h0,_,_,_,_⟩,_⟩:=(HN.out.no HT1.out) i (by rw[HM.out];omega);cases gk with
  | zero =>
    obtain rfl:p=i:=by omega
    rw[HK.out.1]at h0;go_wp2;go_ret;exact⟨rfl,HT1.out⟩
  | succ g' =>
    have h2:=HK.out.2 i (by omega);obtain⟨kd,hkd⟩:∃kd,(Me.nodeAt Ns i).kind=kd:=⟨_,rfl⟩;rw[hkd]at h0 h2;have f1:((kd:Int)==1)=false:=by simp;omega
    clear h2 hkd;go_wp2
    go_roundg g'
    case measure=>omega
    case rel=>exact⟨i+1,by omega,by go_num,rfl⟩
end
section
open Go Go.RowKit
def kindV (A:Me.Asks):Value:=.agg #[.int .i64 ((A.least:Nat):Int),.int .i64 ((A.most:Nat):Int),.int .i64 ((A.low:Nat):Int),.int .i64 ((A.high:Nat):Int),.int .i64 ((A.around:Nat):Int),.int .i64 ((A.shaped:Nat):Int)]
theorem kindOf_in (w:World)(ia sa:Option Addr)(n c n' c':Nat)(A:Me.Asks)(x:Me.Node)(hx:NIn w ia n c sa n' c' x) :
  Calls Tryz.prog 131 #[kindV A,nodeV ia n c sa n' c' x] w fun e w'=>(∃b:Bool,e = .returned (.bool b)∧(b=true↔Me.KindOk A x))∧Touch No w w':=by
 obtain⟨al,am,lo,hi,ar,sd⟩:=A;obtain⟨kd,inn,shape,N,P⟩:=x;have hl:inn.length=n:=hx.il;have hsl:shape.length=n':=hx.sl;have h6:n'≤1000:=hx.s6;have HX:=Lib.hid hx;clear hx;unfold kindV nodeV;dsimp only
 by_cases b1:n<al
 ·have hno:Hid (¬Me.KindOk ⟨al,am,lo,hi,ar,sd⟩ ⟨kd,inn,shape,N,P⟩):=fun h=>by have:=h.le;dsimp only at this;omega
  have f1:decide ((n:Int)<(al:Nat))=true:=by simp;omega
  have f1':decide (n<al)=true:=by simp;omega
  clear b1;go_enter Tryz.func131,Tryz.ntmps131;go_wp2;go_ret;exact⟨⟨false,rfl,iff_of_false (by decide) hno.out⟩,((Touch.refl No w).alloc _).alloc _⟩
 have f1:decide ((n:Int)<(al:Nat))=false:=by simp;omega
 have f1':decide (n<al)=false:=by simp;omega
 by_cases b2:am<n
 ·have hno:Hid (¬Me.KindOk ⟨al,am,lo,hi,ar,sd⟩ ⟨kd,inn,shape,N,P⟩):=fun h=>by have:=h.me;dsimp only at this;omega
  have f2:decide ((am:Int)<(n:Nat))=true:=by simp;omega
  have f2':decide (am<n)=true:=by simp;omega
  clear b1 b2;go_enter Tryz.func131,Tryz.ntmps131;go_wp2;go_ret;exact⟨⟨false,rfl,iff_of_false (by decide) hno.out⟩,((Touch.refl No w).alloc _).alloc _⟩
 have f2:decide ((am:Int)<(n:Nat))=false:=by simp;omega
 have f2':decide (am<n)=false:=by simp;omega
 by_cases b3:N<(lo:Int)
 ·have hno:Hid (¬Me.KindOk ⟨al,am,lo,hi,ar,sd⟩ ⟨kd,inn,shape,N,P⟩):=fun h=>by have:=h.lo;dsimp only at this;omega
  have f3:decide (N<(lo:Int))=true:=by simpa using b3
  clear b1 b2 b3;go_enter Tryz.func131,Tryz.ntmps131;go_wp2;go_ret;exact⟨⟨false,rfl,iff_of_false (by decide) hno.out⟩,((Touch.refl No w).alloc _).alloc _⟩
 have f3:decide (N<(lo:Int))=false:=by simpa using b3
 by_cases b4:(hi:Int)<N
 ·have hno:Hid (¬Me.KindOk ⟨al,am,lo,hi,ar,sd⟩ ⟨kd,inn,shape,N,P⟩):=fun h=>by have:=h.hi;dsimp only at this;omega
  have f4:decide ((hi:Int)<N)=true:=by simpa using b4
  clear b1 b2 b3 b4;go_enter Tryz.func131,Tryz.ntmps131;go_wp2;go_ret;exact⟨⟨false,rfl,iff_of_false (by decide) hno.out⟩,((Touch.refl No w).alloc _).alloc _⟩
 have f4:decide ((hi:Int)<N)=false:=by simpa using b4
 by_cases b5:P<0
 ·have hno:Hid (¬Me.KindOk ⟨al,am,lo,hi,ar,sd⟩ ⟨kd,inn,shape,N,P⟩):=fun h=>by have:=h.p0;dsimp only at this;omega
  have f5:decide (P<0)=true:=by simpa using b5
  clear b1 b2 b3 b4 b5;go_enter Tryz.func131,Tryz.ntmps131;go_wp2;go_ret;exact⟨⟨false,rfl,iff_of_false (by decide) hno.out⟩,((Touch.refl No w).alloc _).alloc _⟩
 have f5:decide (P<0)=false:=by simpa using b5
 by_cases b6:(ar:Int)<P
 ·have hno:Hid (¬Me.KindOk ⟨al,am,lo,hi,ar,sd⟩ ⟨kd,inn,shape,N,P⟩):=fun h=>by have:=h.pa;dsimp only at this;omega
  have f6:decide ((ar:Int)<P)=true:=by simpa using b6
  clear b1 b2 b3 b4 b5 b6;go_enter Tryz.func131,Tryz.ntmps131;go_wp2;go_ret;exact⟨⟨false,rfl,iff_of_false (by decide) hno.out⟩,((Touch.refl No w).alloc _).alloc _⟩
 have f6:decide ((ar:Int)<P)=false:=by simpa using b6
 have HK:Hid (Me.KindOk ⟨al,am,lo,hi,ar,sd⟩ ⟨kd,inn,shape,N,P⟩↔Me.ShapedOk sd shape) :=
  ⟨fun h=>h.sh,fun h=>⟨by dsimp only;omega,by dsimp only;omega,by dsimp only;omega,by dsimp only;omega,by dsimp only;omega,by dsimp only;omega,h⟩⟩
 clear b1 b2 b3 b4 b5 b6;have TT:Hid (Touch No w ((w.alloc (.cells #[.int .i64 ((al:Nat):Int),.int .i64 ((am:Nat):Int),.int .i64 ((lo:Nat):Int),.int .i64 ((hi:Nat):Int),.int .i64 ((ar:Nat):Int),.int .i64 ((sd:Nat):Int)] 191)).alloc (.cells #[.int .u8 ((kd:Nat):Int),.slice ia n c,.slice sa n' c',.int .i64 N,.int .i64 P] 55))):=((Touch.refl No w).alloc _).alloc _
 by_cases d0:sd=0
 ·subst d0
  have hE:Hid (((n':Int)==0)=true↔Me.KindOk ⟨al,am,lo,hi,ar,0⟩ ⟨kd,inn,shape,N,P⟩):=by
   show _↔_
   rw[HK.out,Me.ShapedOk,if_pos rfl,hsl,beq_iff_eq];omega
  obtain⟨bb,hbb⟩:∃bb,((n':Int)==0)=bb:=⟨_,rfl⟩;rw[hbb]at hE;go_enter Tryz.func131,Tryz.ntmps131;go_wp2;go_ret;exact⟨⟨bb,by rw[← hbb];rfl,hE.out⟩,TT.out⟩
 have e0:((sd:Int)==0)=false:=by simp;omega
 by_cases d1:sd=1
 ·subst d1
  have C:Hid (∀wx:World,Touch No w wx→Calls Tryz.prog 136 #[.slice sa n' c'] wx fun e w'=>e = .returned (.bool (Ar.shape shape))∧wx=w'):=fun wx t=>by
   have:=shapeCheck_any wx sa n' c' shape hsl (by omega) (HX.out.sr.no t);rw[Ar.size_pos]at this;exact this
  have hE:Hid (Ar.shape shape=true↔Me.KindOk ⟨al,am,lo,hi,ar,1⟩ ⟨kd,inn,shape,N,P⟩):=by
   show _↔_
   rw[HK.out,Me.ShapedOk,if_neg (by decide),if_pos rfl]
  go_enter Tryz.func131,Tryz.ntmps131;go_wp2_with fail;refine(C.out _ TT.out).mono ?_;rintro e w' ⟨rfl,rfl⟩;go_wp2;go_ret;exact⟨⟨_,rfl,hE.out⟩,TT.out⟩
 have e1:((sd:Int)==1)=false:=by simp;omega
 have C:Hid (∀wx:World,Touch No w wx→∃b:Bool,(b=true↔Me.Order shape)∧Calls Tryz.prog 182 #[.slice sa n' c'] wx fun e w'=>e = .returned (.bool b)∧wx=w'):=fun wx t=>by
  classical
  exact⟨_,by rw[decide_eq_true_eq],order_in wx sa n' c' shape hsl (by omega) (HX.out.sr.no t)⟩
 have hE:Hid (Me.KindOk ⟨al,am,lo,hi,ar,sd⟩ ⟨kd,inn,shape,N,P⟩↔Me.Order shape):=by
  show _↔_
  rw[HK.out,Me.ShapedOk,if_neg d0,if_neg d1]
 clear d0 d1;go_enter Tryz.func131,Tryz.ntmps131;go_wp2_with fail;obtain⟨bo,hbo,D⟩:=C.out _ TT.out;refine D.mono ?_;rintro e w' ⟨rfl,rfl⟩;have Hbo:=Lib.hid hbo;clear hbo D;go_wp2;go_ret;exact⟨⟨_,rfl,Hbo.out.trans hE.out.symm⟩,TT.out⟩
end
section
open Go Go.RowKit
namespace Me
def JoinP (Ss:List (List Nat))(al:Nat):Prop:=al<(sh Ss 0).length∧∀j,j<Ss.length→likeJ Ss al j
theorem joinS_is (Ss:List (List Nat))(al:Nat):(JoinP Ss al∧Ok (joinT Ss al)→joinS Ss al=some (joinT Ss al))∧(¬(JoinP Ss al∧Ok (joinT Ss al))→joinS Ss al=none) :=
 ⟨fun h=>joinS_some ⟨h.1.1,h.1.2,h.2⟩,fun h=>joinS_none fun k=>h ⟨⟨k.1,k.2.1⟩,k.2.2⟩⟩
end Me
def JoinedOut (w:World)(Ss:List (List Nat))(al:Nat)(e:Ending)(w':World):Prop :=
 ((Me.JoinP Ss al∧∃a' c',e = .returned (.slice a' (Me.sh Ss 0).length c')∧(Me.sh Ss 0).length≤c'∧Rd w' a' (nums .i64 (Me.joinT Ss al)))∨(¬Me.JoinP Ss al∧e = .returned (.slice none 0 0)))∧Touch No w w'
theorem joined_in (w:World)(a:Option Addr)(k kc al:Nat)(Ss:List (List Nat))(hS:SsIn w a Ss)(hk:Ss.length=k)(hk1:1≤k)(hk4:k≤4)(hkc:k≤kc)(hok:∀j,j<k→Me.Ok (Me.sh Ss j))(hal6:al≤1000000) :
  Calls Tryz.prog 188 #[.slice a k kc,.int .i64 ((al:Nat):Int)] w (JoinedOut w Ss al):=by
 obtain⟨n,hn⟩:∃n,(Me.sh Ss 0).length=n:=⟨_,rfl⟩;have hn4:n≤4:=by rw[← hn];exact(hok 0 (by omega)).four
 have hn0:0<n:=by rw[← hn];exact(hok 0 (by omega)).one
 have hk0':(0:Int)<(k:Nat):=by omega
 have hend:Hid ((Me.sh Ss 0).set al (((Me.dimsS Ss al).take k).sum)=Me.joinT Ss al):=by
  show _=_
  rw[List.take_of_length_le (by rw[Me.dimsS_length,hk];exact Nat.le_refl _)];rfl
 have hsucc:Hid (∀j,j<k→((Me.dimsS Ss al).take (j+1)).sum=((Me.dimsS Ss al).take j).sum+(Me.sh Ss j).getD al 0):=fun j hj=>by
  rw[Me.take_sum_succ _ _ (by rw[Me.dimsS_length,hk];exact hj),Me.dimsS_get (by rw[hk];exact hj)]
 have h64:Hid (∀j i,j<k→(Me.sh Ss j).getD i 0≤64):=fun j i hj=>by
  by_cases hi:i<(Me.sh Ss j).length
  ·exact((hok j hj).get hi).2
  ·rw[Lgd,Lgn (by omega)];simp
 have hsum:Hid (∀j,j≤k→((Me.dimsS Ss al).take j).sum≤64*j):=fun j=>by
  induction j with
  | zero=>intro _;simp
  | succ j ih =>
    intro hj;have h1:=ih (by omega);have h2:=h64.out j al (by omega);rw[hsucc.out j (by omega)];omega
 obtain⟨b,o,sa0,n0,c0,rfl,c1,hn00,hc0,hr0⟩:=hS 0 (by omega);obtain rfl:n0=n:=by rw[← hn00,hn]
 rw[Nat.add_zero]at c1;obtain⟨k1,hk1d⟩:∃k1,k=k1+1:=⟨k-1,by omega⟩;have CL:=Lib.hid (cloneP_in w sa0 n0 c0 (Me.sh Ss 0) hn0 hn4 hr0 hn);have HS:=Lib.hid hS;have HK:=Lib.hid (aI hk hn);have HP:Hid (Me.JoinP Ss al↔al<n0∧∀j,j<k→Me.likeJ Ss al j):=by show _↔_;rw[Me.JoinP,hk,hn]
 clear hS hk hn hok hr0 hn00;go_enter Tryz.func188,Tryz.ntmps188;go_wp2_with fail;refine CL.out.mono ?_;rintro e w2 ⟨g,c2,rfl,hg,hc2,hR,t2⟩;have H2:Hid (Touch No w w2∧RowP w2 g 3 (nums .i64 (Me.sh Ss 0))):=⟨t2,hR⟩;clear t2 hR c1 CL
 by_cases hkc1:kc=1
 ·obtain rfl:k=1:=by omega
  subst hkc1
  by_cases hal:al<n0
  ·have f1:decide ((n0:Int)≤(al:Nat))=false:=by simp;omega
   have f1':decide (n0≤al)=false:=by simp;omega
   have f1'':¬n0≤al:=by omega
   have hyes:Hid (Me.JoinP Ss al):=HP.out.2 ⟨hal,fun i hi=>by
    obtain rfl:i=0:=by omega
    exact⟨rfl,fun _ _ _=>rfl⟩⟩
   have RT:Hid (RowP w2 g 3 (nums .i64 (Me.joinT Ss al))):=by
    have h2:=hend.out;rw[hsucc.out 0 (by omega),List.take_zero,List.sum_nil,Nat.zero_add,Me.set_getD]at h2;rw[← h2];exact H2.out.2
   clear hal hk1d;go_wp2_with fail
   go_loopg [17] 0 (fun gh s17 wr=>s17 = .int .i64 0∧gh=0∧Hid (wr=w2))
   case atStart=>exact⟨rfl,rfl,rfl⟩
   case round =>
   obtain⟨rfl,hgk,hwr⟩:=hrel;obtain rfl:w2=wr:=hwr.out.symm;obtain rfl:gk=0:=hgk;go_wp2;go_ret;exact⟨Or.inl ⟨hyes.out,some ⟨g,0,none⟩,c2,by rw[HK.out.2];rfl,by rw[HK.out.2];exact hc2,RT.out.rd⟩,H2.out.1⟩
  ·have f1:decide ((n0:Int)≤(al:Nat))=true:=by simp;omega
   have f1':decide (n0≤al)=true:=by simp;omega
   have hno:Hid (¬Me.JoinP Ss al):=fun h=>hal (HP.out.1 h).1
   clear hal hk1d;go_wp2_with fail
   go_loopg [17] 0 (fun gh s17 wr=>s17 = .int .i64 0∧gh=0∧Hid (wr=w2))
   case atStart=>exact⟨rfl,rfl,rfl⟩
   case round =>
   obtain⟨rfl,hgk,hwr⟩:=hrel;obtain rfl:w2=wr:=hwr.out.symm;obtain rfl:gk=0:=hgk;go_wp2;go_ret;exact⟨Or.inr ⟨hno.out,rfl⟩,H2.out.1⟩
 subst hk1d;go_wp2_with fail
 by_cases hal:al<n0
 case neg =>
  have f1:decide ((n0:Int)≤(al:Nat))=true:=by simp;omega
  have f1':decide (n0≤al)=true:=by simp;omega
  have hno:Hid (¬Me.JoinP Ss al):=fun h=>hal (HP.out.1 h).1
  clear hal
  go_loopg [17] k1 (fun gh s17 wr=>∃j:Nat,j+gh=k1∧s17 = .int .i64 ((j:Nat):Int)∧Hid (wr=w2))
  case atStart=>exact⟨0,by omega,rfl,rfl⟩
  case round =>
   obtain⟨j,hjg,rfl,hwr⟩:=hrel;obtain rfl:w2=wr:=hwr.out.symm;cases gk with
   | zero =>
     obtain rfl:k1=j:=by omega
     go_wp2;go_ret;exact⟨Or.inr ⟨hno.out,rfl⟩,H2.out.1⟩
   | succ g' =>
     have hjk:(j:Int)<(k1:Nat):=by omega
     obtain⟨b',o',sa,nj,c,hbo,c1,hnj,hcj,hrj⟩:=(HS.out.no H2.out.1) (j+1) (by rw[HK.out.1];omega);obtain⟨rfl,rfl⟩:b=b'∧o=o':=by simpa using hbo
     have c1:w2.cell? ⟨b,o+1+j,none⟩=some (.slice sa nj c):=by rw[show o+1+j=o+(j+1) by omega];exact c1
     clear hbo hnj hcj hrj
     by_cases hlen:nj=n0
     ·subst hlen
      have f2:((nj:Int) != (nj:Int))=false:=by simp
      go_wp2;go_ret;exact⟨Or.inr ⟨hno.out,rfl⟩,H2.out.1⟩
     ·have f2:((nj:Int) != (n0:Int))=true:=by simp;omega
      clear hlen;go_wp2;go_ret;exact⟨Or.inr ⟨hno.out,rfl⟩,H2.out.1⟩
 case pos =>
  have f1:decide ((n0:Int)≤(al:Nat))=false:=by simp;omega
  have f1':decide (n0≤al)=false:=by simp;omega
  have f1'':¬n0≤al:=by omega
  go_loopg [17] k1 (fun gh s17 wr=>∃j:Nat,j+gh=k1∧s17 = .int .i64 ((j:Nat):Int)∧Hid (Touch (One g) w2 wr)∧Hid (RowP wr g 3 (nums .i64 ((Me.sh Ss 0).set al (((Me.dimsS Ss al).take (j+1)).sum))))∧Hid (∀i,i<j+1→Me.likeJ Ss al i))
  case atStart=>exact⟨0,by omega,rfl,Touch.refl _ _,(by
   show RowP _ _ _ _
   rw[hsucc.out 0 (by omega),List.take_zero,List.sum_nil,Nat.zero_add,Me.set_getD];exact H2.out.2),(fun i hi=>by
   obtain rfl:i=0:=by omega
   exact⟨rfl,fun _ _ _=>rfl⟩)⟩
  case round =>
   obtain⟨j,hjg,rfl,T,R,LK⟩:=hrel;have hwr:Hid (Touch No w wr):=H2.out.1.oneNo T.out hg;cases gk with
   | zero =>
     obtain rfl:k1=j:=by omega
     have RT:Hid (RowP wr g 3 (nums .i64 (Me.joinT Ss al))):=by
      have h1:=R.out;have h2:=hend.out;rw[h2]at h1;exact h1
     have hyes:Hid (Me.JoinP Ss al):=HP.out.2 ⟨hal,fun i hi=>LK.out i (by omega)⟩;clear R;go_wp2;go_ret;exact⟨Or.inl ⟨hyes.out,some ⟨g,0,none⟩,c2,by rw[HK.out.2];rfl,by rw[HK.out.2];exact hc2,RT.out.rd⟩,hwr.out⟩
   | succ g' =>
     have hjk:(j:Int)<(k1:Nat):=by omega
     obtain⟨b',o',sa,nj,c,hbo,c1,hnj,hcj,hrj⟩:=HS.out (j+1) (by rw[HK.out.1];omega);obtain⟨rfl,rfl⟩:b=b'∧o=o':=by simpa using hbo
     have c1:wr.cell? ⟨b,o+1+j,none⟩=some (.slice sa nj c):=by rw[show o+1+j=o+(j+1) by omega];exact hwr.out.cell id c1
     have HRJ:=Lib.hid (aI hrj hnj);clear hbo hcj hrj
     by_cases hlen:nj=n0
     case neg =>
      have f2:((nj:Int) != (n0:Int))=true:=by simp;omega
      have hno:Hid (¬Me.JoinP Ss al):=fun h=>by
       have:=((HP.out.1 h).2 (j+1) (by omega)).1;rw[HRJ.out.2,HK.out.2]at this;exact hlen this
      clear hlen hnj;go_wp2;go_ret;exact⟨Or.inr ⟨hno.out,rfl⟩,hwr.out⟩
     case pos =>
     clear hnj;obtain rfl:n0=nj:=hlen.symm;have f2:((n0:Int) != (n0:Int))=false:=by simp
     obtain⟨wo,hwo⟩:∃wo:World,wo=wr:=⟨_,rfl⟩;subst hwo;obtain⟨x,hx⟩:∃x,((Me.dimsS Ss al).take (j+1)).sum=x:=⟨_,rfl⟩;have hxb:x≤256:=by have:=hsum.out (j+1) (by omega);omega
     obtain⟨D,hD⟩:∃D,(Me.sh Ss (j+1)).getD al 0=D:=⟨_,rfl⟩;have hDb:D≤64:=by rw[← hD];exact h64.out (j+1) al (by omega)
     have hsj:=hsucc.out (j+1) (by omega);rw[hx,hD]at hsj;rw[hx]at R;have HSJ:=Lib.hid hsj;have HD:=Lib.hid hD;clear hx hD hsj;go_wp2_with fail
     go_loopg [34] n0 (fun gh s34 wq=>∃i:Nat,i+gh=n0∧s34 = .int .i64 ((i:Nat):Int)∧Hid (Touch (One g) wo wq)∧Hid (RowP wq g 3 (nums .i64 ((Me.sh Ss 0).set al (x+if al<i then D else 0))))∧Hid (∀i',i'<i→i'≠al→(Me.sh Ss (j+1)).getD i' 0=(Me.sh Ss 0).getD i' 0))
     case atStart=>exact⟨0,by omega,rfl,Touch.refl _ _,(by show RowP _ _ _ _;rw[if_neg (by omega),Nat.add_zero];exact R.out),fun i' h=>absurd h (Nat.not_lt_zero _)⟩
     case round =>
      obtain⟨i,hig,rfl,Ti,Ri,LI⟩:=hrel;have hwi:Hid (Touch No w wr):=H2.out.1.oneNo (T.out.trans Ti.out) hg;have TG:Hid (Touch (One g) w2 wr):=T.out.trans Ti.out;cases gk with
      | zero =>
        obtain rfl:n0=i:=by omega
        have LK2:Hid (∀i,i<j+1+1→Me.likeJ Ss al i):=fun i hi=>by
         rcases Nat.lt_or_ge i (j+1) with h1|h1
         ·exact LK.out i h1
         ·obtain rfl:j+1=i:=by omega
          exact⟨by rw[HRJ.out.2,HK.out.2],fun i' h2 h3=>LI.out i' (by rw[HK.out.2]at h2;exact h2) h3⟩
        have RN:Hid (RowP wr g 3 (nums .i64 ((Me.sh Ss 0).set al (((Me.dimsS Ss al).take (j+1+1)).sum)))):=by
         have:=Ri.out;rw[if_pos hal]at this;rw[HSJ.out];exact this
        clear Ri R LI;go_wp2
        go_roundg g'
        case measure=>omega
        case rel=>exact⟨j+1,by omega,by go_num,TG.out,RN.out,LK2.out⟩
      | succ g2 =>
        have hin:(i:Int)<(n0:Nat):=by omega
        obtain⟨bj,oj,rfl,cd⟩:=(HRJ.out.1.no hwi.out).num (i:=i) (by rw[HRJ.out.2];omega);obtain⟨y,hy⟩:∃y,(Me.sh Ss (j+1)).getD i 0=y:=⟨_,rfl⟩;rw[hy]at cd
        by_cases hia:i=al
        ·have hb1:((i:Int)==(al:Int))=true:=by simp;omega
         subst hia;have hyD:y=D:=by rw[← hy];exact HD.out
         subst hyD;have hRi:=Ri.out;rw[if_neg (by omega),Nat.add_zero]at hRi
         have cx:wr.cell? ⟨g,i,none⟩=some (.int .i64 ((x:Nat):Int)):=hRi.cell (by
          have:=nums_get (k:=.i64) (xs:=(Me.sh Ss 0).set i x) (i:=i) (by rw[List.length_set,HK.out.2];exact hal);rw[Me.getD_set_self (by rw[HK.out.2];exact hal)]at this;exact this)
         have cz:wr.frozen? ⟨g,i,none⟩=false:=hRi.soft i
         have HNX:Hid (∀z:Int,z=(x:Int)+(y:Int)→Touch (One g) wo (wr.setCell ⟨g,i,none⟩ (.int .i64 z))∧RowP (wr.setCell ⟨g,i,none⟩ (.int .i64 z)) g 3 (nums .i64 ((Me.sh Ss 0).set i (x+if i<i+1 then y else 0)))):=fun z hz=>by
          refine⟨Ti.out.setCell (p:=⟨g,i,none⟩) (fun _=>rfl) _,?_⟩;have h2:=hRi.set (k:=i) (by rw[nums_length,List.length_set,HK.out.2];exact hal) (.int .i64 ((x+y:Nat):Int));rw[nums_set,List.set_set]at h2;rw[if_pos (Nat.lt_succ_self i),hz,← Int.natCast_add];exact h2
         have LI2:Hid (∀i',i'<i+1→i'≠i→(Me.sh Ss (j+1)).getD i' 0=(Me.sh Ss 0).getD i' 0):=fun i' h h'=>LI.out i' (by omega) h'
         have hwz:wrap64 ((x:Int)+(y:Int))=(x:Int)+(y:Int):=w64_in _ (by omega);have Hwz:=Lib.hid hwz;clear hRi hy hwz Ri R LI hal;go_wp2
         go_roundg g2
         case measure=>omega
         case rel=>exact⟨i+1,by omega,by go_num,(HNX.out _ rfl).1,(HNX.out _ rfl).2,LI2.out⟩
        ·have hb1:((i:Int)==(al:Int))=false:=by simp;omega
         obtain⟨y0,hy0⟩:∃y0,(Me.sh Ss 0).getD i 0=y0:=⟨_,rfl⟩
         have cx:wr.cell? ⟨g,i,none⟩=some (.int .i64 ((y0:Nat):Int)):=Ri.out.cell (by
          have:=nums_get (k:=.i64) (xs:=(Me.sh Ss 0).set al (x+if al<i then D else 0)) (i:=i) (by rw[List.length_set,HK.out.2];omega);rw[Me.getD_set_ne (fun e=>hia e.symm),hy0]at this;exact this)
         by_cases hyy:y0=y
         ·have f3:((y0:Int) != (y:Int))=false:=by simp;omega
          have RN:Hid (RowP wr g 3 (nums .i64 ((Me.sh Ss 0).set al (x+if al<i+1 then D else 0)))):=by
           have:=Ri.out;rw[show(if al<i then D else 0)=(if al<i+1 then D else 0) by split <;> split <;> omega]at this;exact this
          have LI2:Hid (∀i',i'<i+1→i'≠al→(Me.sh Ss (j+1)).getD i' 0=(Me.sh Ss 0).getD i' 0):=fun i' h h'=>by
           rcases Nat.lt_or_ge i' i with h1|h1
           ·exact LI.out i' h1 h'
           ·obtain rfl:i=i':=by omega
            rw[hy,hy0];exact hyy.symm
          clear hyy hy hy0 Ri R LI hia;go_wp2
          go_roundg g2
          case measure=>omega
          case rel=>exact⟨i+1,by omega,by go_num,Ti.out,RN.out,LI2.out⟩
         ·have f3:((y0:Int) != (y:Int))=true:=by simp;omega
          have hno:Hid (¬Me.JoinP Ss al):=fun h=>by
           have:=((HP.out.1 h).2 (j+1) (by omega)).2 i (by rw[HK.out.2];omega) hia;rw[hy,hy0]at this;exact hyy this.symm
          clear hyy hy hy0 Ri R LI hia;go_wp2;go_ret;exact⟨Or.inr ⟨hno.out,rfl⟩,hwi.out⟩
end
section
open Go Go.RowKit
section
variable {α:Type} {f:α→List Value} {k:Nat}
theorem flat_length (hf:∀x,(f x).length=k):∀(l:List α),(l.flatMap f).length=l.length*k
 | []=>by simp
 | x::l=>by rw[List.flatMap_cons,List.length_append,hf,flat_length hf l,List.length_cons,Nat.add_mul];omega
theorem flat_get (hf:∀x,(f x).length=k):∀(l:List α) (n j:Nat) (x:α),l[n]? = some x→j<k→(l.flatMap f)[n*k+j]? = (f x)[j]?
 | [],n,j,x,h,_=>by simp at h
 | y::l,0,j,x,h,hj=>by
   have:y=x:=by simpa using h
   subst this;rw[List.flatMap_cons,Nat.zero_mul,Nat.zero_add,List.getElem?_append_left (by rw[hf];exact hj)]
 | y::l,n+1,j,x,h,hj=>by
   have h':l[n]? = some x:=by simpa using h
   rw[List.flatMap_cons,List.getElem?_append_right (by rw[hf,Nat.add_mul];omega),hf,← flat_get hf l n j x h' hj];congr 1;rw[Nat.add_mul];omega
end
namespace Dk
structure Sec where
 b:List Nat
 bad:Nat
structure Wr where
 n:Nat
 b:List Nat
 elder:Nat
structure Disk where
 sure:List Sec
 seen:List Sec
 waits:List Wr
structure Bytes (b:List Nat):Prop where
 len:b.length=64
 lt:∀x∈b,x<256
structure Sec.Ok (s:Sec):Prop where
 b:Bytes s.b
 bad:s.bad≤1
structure Wr.Ok (n:Nat) (x:Wr):Prop where
 n:x.n<n
 b:Bytes x.b
 elder:x.elder≤1
structure Ok (d:Disk):Prop where
 len:d.sure.length=d.seen.length
 pos:1≤d.seen.length
 top:d.seen.length≤16384
 sure:∀s∈d.sure,s.Ok
 seen:∀s∈d.seen,s.Ok
 waits:∀x∈d.waits,x.Ok d.seen.length
def pad (b:List Nat):List Nat:=b++List.replicate (64-b.length) 0
def noughts:Sec:=⟨List.replicate 64 0,0⟩
def new (n:Nat):Disk:=⟨List.replicate n noughts,List.replicate n noughts,[]⟩
def turnB (b:List Nat)(p x:Nat):List Nat:=b.set p (b.getD p 0 ^^^ x)
def turnS (p x:Nat)(s:Sec):Sec:=⟨turnB s.b p x,s.bad⟩
def badS (s:Sec):Sec:=⟨s.b,1⟩
def badW (n:Nat)(y:Wr):Wr:=if y.n=n then⟨y.n,y.b,1⟩ else y
def at_ (l:List Sec)(n:Nat):Sec:=l.getD n noughts
def upd (l:List Sec)(n:Nat)(f:Sec→Sec):List Sec:=l.set n (f (at_ l n))
def bad (d:Disk)(n:Nat):Disk:=⟨upd d.sure n badS,upd d.seen n badS,d.waits.map (badW n)⟩
def tornS (y:Wr)(s:Sec):Sec:=⟨y.b.take 32++s.b.drop 32,s.bad⟩
def keptS (y:Wr)(s:Sec):Sec:=⟨y.b,s.bad &&& y.elder⟩
def failStep (keep:Nat)(torn:Int)(l:List Sec)(i:Nat)(y:Wr):List Sec :=
 if (i:Int)=torn then upd l y.n (tornS y) else if keep.testBit (i%64) then upd l y.n (keptS y) else l
def failed (keep:Nat)(torn:Int):List Sec→Nat→List Wr→List Sec
 | l,_,[]=>l
 | l,i,y::r=>failed keep torn (failStep keep torn l i y) (i+1) r
def fail (d:Disk)(keep:Nat)(torn:Int):Disk:=⟨failed keep torn d.sure 0 d.waits,failed keep torn d.sure 0 d.waits,[]⟩
theorem noughts_ok:noughts.Ok:=⟨⟨by simp[noughts],fun x hx=>by have:=(List.mem_replicate.1 hx).2;omega⟩,by simp[noughts]⟩
theorem at_mem {l:List Sec}{n:Nat}(h:n<l.length):at_ l n∈l:=by
 rw[at_,Lgd,Lge h];exact List.getElem_mem h
theorem at_get {l:List Sec}{n:Nat}(h:n<l.length):l[n]? = some (at_ l n):=by
 rw[at_,Lgd,Lge h];rfl
end Dk
def secCells (s:Dk.Sec):List Value:=(List.range 64).map (fun j=>Value.int .u8 ((s.b.getD j 0:Nat):Int)) ++ [.int .i64 (s.bad:Nat)]
def wrCells (x:Dk.Wr):List Value:=.int .i64 (x.n:Nat)::((List.range 64).map (fun j=>Value.int .u8 ((x.b.getD j 0:Nat):Int)) ++ [.int .i64 (x.elder:Nat)])
theorem secCells_length (s:Dk.Sec):(secCells s).length=65:=by simp[secCells]
theorem bytes_cells {b:List Nat}(h:b.length=64):(List.range 64).map (fun j=>Value.int .u8 ((b.getD j 0:Nat):Int))=nums .u8 b:=by
 refine List.ext_getElem? (fun i=>?_);simp only[nums,List.getElem?_map]
 by_cases hi:i<64
 ·rw[List.getElem?_range hi,Lge (by omega)]
  simp[Lgd,Lge (show i<b.length by omega)]
 ·rw[Lgn (by simp;omega),Lgn (by omega)];rfl
end
section
open Go Go.RowKit
theorem sec_bad (s:Dk.Sec):(secCells s)[64]? = some (.int .i64 (s.bad:Nat)):=by
 rw[secCells,List.getElem?_append_right (by simp)];simp
structure DiskIn (w:World) (d gs gn cs cn:Nat) (rs rn:List Value) (vw:Value) (D:Dk.Disk):Prop where
 ok:Dk.Ok D
 c0:w.cell? ⟨d,0,none⟩=some (.slice (some ⟨gs,0,none⟩) D.sure.length cs)
 c1:w.cell? ⟨d,1,none⟩=some (.slice (some ⟨gn,0,none⟩) D.seen.length cn)
 c2:w.cell? ⟨d,2,none⟩=some vw
 soft:∀o,w.frozen? ⟨d,o,none⟩=false
 sure:Row w gs 125 (D.sure.flatMap secCells++rs)
 seen:Row w gn 125 (D.seen.flatMap secCells++rn)
 lcs:D.sure.length≤cs
 lcn:D.seen.length≤cn
 mcs:cs≤maxLen
 mcn:cn≤maxLen
 waits:w.ownsRow 0 326 66 vw D.waits.length (D.waits.flatMap wrCells)
 ne:d≠gs∧d≠gn∧gs≠gn
 wne:∀k,InBlock vw k→k≠d∧k≠gs∧k≠gn
def DiskAt (w:World)(d:Nat)(D:Dk.Disk)(O:Nat→Prop):Prop :=
 ∃gs gn cs cn rs rn vw,DiskIn w d gs gn cs cn rs rn vw D∧O d∧O gs∧O gn∧(∀k,InBlock vw k→O k)
theorem DiskIn.lt {w:World}{d gs gn cs cn:Nat}{rs rn:List Value}{vw:Value}{D:Dk.Disk}(h:DiskIn w d gs gn cs cn rs rn vw D):d<w.heap.size:=lt_of_cell h.c0
theorem DiskAt.ok {w:World}{d:Nat}{D:Dk.Disk}{O:Nat→Prop}(h:DiskAt w d D O):Dk.Ok D:=by
 obtain⟨gs,gn,cs,cn,rs,rn,vw,h,_⟩:=h;exact h.ok
theorem rowTouch {F:Nat→Prop}{w w':World}{base e size n:Nat}{v:Value}{xs:List Value}(h:w.ownsRow base e size v n xs)(t:Touch F w w')(hF:∀b,InBlock v b→¬F b):w'.ownsRow base e size v n xs:=by
 obtain⟨hl,h⟩:=h;refine⟨hl,?_⟩;rcases h with h|⟨g,cap,cur,hv,hg,hh,r⟩
 ·exact Or.inl h
 ·have hb:g<w.heap.size:=by
   by_cases hb:g<w.heap.size
   ·exact hb
   ·simp[Array.getElem?_eq_none (Nat.le_of_not_lt hb)]at hh
  exact Or.inr ⟨g,cap,cur,hv,hg,by rw[t.block g hb (hF g (by rw[hv];rfl))];exact hh,r⟩
theorem rowBlock {w:World}{base e size n:Nat}{v:Value}{xs:List Value}(h:w.ownsRow base e size v n xs){k:Nat}(hk:InBlock v k):base≤k∧k<w.heap.size:=by
 obtain⟨hl,h⟩:=h;rcases h with⟨rfl,_⟩|⟨g,cap,cur,rfl,hg,hh,r⟩
 ·cases hk
 ·have e:g=k:=by simpa[InBlock,Value.ownBlock]using hk
  subst e;refine⟨hg,?_⟩
  by_cases hb:g<w.heap.size
  ·exact hb
  ·simp[Array.getElem?_eq_none (Nat.le_of_not_lt hb)]at hh
theorem DiskIn.touch {F:Nat→Prop}{w w':World}{d gs gn cs cn:Nat}{rs rn:List Value}{vw:Value}{D:Dk.Disk}(h:DiskIn w d gs gn cs cn rs rn vw D)(t:Touch F w w')(hd:¬F d)(hs:¬F gs)(hn:¬F gn)(hw:∀k,InBlock vw k→¬F k) :
  DiskIn w' d gs gn cs cn rs rn vw D :=
 ⟨h.ok,t.cell hd h.c0,t.cell hd h.c1,t.cell hd h.c2,fun o=>(t.frozen h.lt hd o).trans (h.soft o),h.sure.touch t hs,h.seen.touch t hn,h.lcs,h.lcn,h.mcs,h.mcn,rowTouch h.waits t hw,h.ne,h.wne⟩
theorem DiskAt.touch {F:Nat→Prop}{w w':World}{d:Nat}{D:Dk.Disk}{O:Nat→Prop}(h:DiskAt w d D O)(t:Touch F w w')(hF:∀k,k<w.heap.size→O k→¬F k):DiskAt w' d D O:=by
 obtain⟨gs,gn,cs,cn,rs,rn,vw,h,o1,o2,o3,o4⟩:=h;exact⟨gs,gn,cs,cn,rs,rn,vw,h.touch t (hF _ h.lt o1) (hF _ h.sure.lt o2) (hF _ h.seen.lt o3) (fun k hk=>hF k (rowBlock h.waits hk).2 (o4 k hk)),o1,o2,o3,o4⟩
theorem DiskAt.no {w w':World}{d:Nat}{D:Dk.Disk}{O:Nat→Prop}(h:DiskAt w d D O)(t:Touch No w w'):DiskAt w' d D O:=h.touch t (fun _ _ _ f=>f)
def askSays (len:Nat)(n:Int):Nat:=if 0≤n∧n<len then 0 else 1
theorem ask_any (w:World)(d:Nat)(D:Dk.Disk)(O:Nat→Prop)(n:Int)(h:DiskAt w d D O) :
  Calls Tryz.prog 118 #[.pointer (some ⟨d,0,none⟩),.int .i64 n] w fun e w'=>e = .returned (.int .i64 (askSays D.seen.length n:Nat))∧w=w':=by
 obtain⟨gs,gn,cs,cn,rs,rn,vw,h,_⟩:=h;have hq:=fun wx=>Lib.run_eql_slice_nil (P:=Tryz.prog) wx 108 125 (some ⟨gn,0,none⟩) D.seen.length cn 0 0 Tryz.underlying108
 have hc:=h.c1
 have Fin:Hid (∀r:Nat,((0≤n∧n<D.seen.length)∧r=0∨(n<0∨D.seen.length≤n)∧r=1)→askSays D.seen.length n=r):=fun r hr=>by
  unfold askSays;rcases hr with⟨h1,rfl⟩|⟨h1,rfl⟩
  ·rw[if_pos h1]
  ·rw[if_neg (by omega)]
 clear h
 generalize D.seen.length=m at *
 by_cases h0:n<0
 ·go_enter Tryz.func118,Tryz.ntmps118
  go_wp2;go_ret;exact⟨by rw[Fin.out 1 (Or.inr ⟨Or.inl h0,rfl⟩)];rfl,rfl⟩
 ·by_cases h1:n<m
  ·have h1':¬(m:Int)≤n:=by omega
   go_enter Tryz.func118,Tryz.ntmps118;go_wp2;go_ret;exact⟨by rw[Fin.out 0 (Or.inl ⟨⟨by omega,h1⟩,rfl⟩)];rfl,rfl⟩
  ·have h1':(m:Int)≤n:=by omega
   go_enter Tryz.func118,Tryz.ntmps118;go_wp2;go_ret;exact⟨by rw[Fin.out 1 (Or.inr ⟨Or.inr h1',rfl⟩)];rfl,rfl⟩
end
end Go.Proofs.YtjlphmmalebgpaaGreat
