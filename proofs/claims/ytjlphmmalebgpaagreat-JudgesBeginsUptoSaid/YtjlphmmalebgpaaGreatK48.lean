/-
  A part of the proof.
-/
import Derived.Test.YtjlphmmalebgpaaGreatK47
set_option linter.unusedSimpArgs false
set_option linter.unusedVariables false
set_option maxHeartbeats 4000000
set_option maxRecDepth 100000
namespace Go.Proofs.YtjlphmmalebgpaaGreat
section
open Go Go.RowKit
structure NInB (w:World) (ia:Option Addr) (n c:Nat) (sa:Option Addr) (n' c':Nat) (x:Me.Node):Prop where
 ir:Rd w ia (ints .i64 x.inn)
 il:x.inn.length=n
 ic:n≤c
 i6:n≤2000000
 sr:Rd w sa (ints .i64 x.shape)
 sl:x.shape.length=n'
 sc:n'≤c'
 s6:n'≤2000000
 k8:x.kind<256
 nr:-9223372036854775808≤x.n∧x.n≤9223372036854775807
 pr:-9223372036854775808≤x.pad∧x.pad≤9223372036854775807
 irng:∀y∈x.inn,-9223372036854775808≤y∧y≤9223372036854775807
 srng:∀y∈x.shape,-9223372036854775808≤y∧y≤9223372036854775807
def NsB (w:World)(a:Option Addr)(Ns:List Me.Node):Prop :=
 ∀i,i<Ns.length→∃b o ia n c sa n' c',a=some ⟨b,o,none⟩∧(w.cell? ⟨b,o+i*5,none⟩=some (.int .u8 (((Me.nodeAt Ns i).kind:Nat):Int))∧w.cell? ⟨b,o+i*5+1,none⟩=some (.slice ia n c)∧w.cell? ⟨b,o+i*5+2,none⟩=some (.slice sa n' c')∧w.cell? ⟨b,o+i*5+3,none⟩=some (.int .i64 (Me.nodeAt Ns i).n)∧w.cell? ⟨b,o+i*5+4,none⟩=some (.int .i64 (Me.nodeAt Ns i).pad))∧NInB w ia n c sa n' c' (Me.nodeAt Ns i)
theorem NInB.no {w w':World}{ia sa:Option Addr}{n c n' c':Nat}{x:Me.Node}(h:NInB w ia n c sa n' c' x)(t:Touch No w w'):NInB w' ia n c sa n' c' x:={h with ir:=h.ir.no t,sr:=h.sr.no t}
theorem NsB.no {w w':World}{a:Option Addr}{Ns:List Me.Node}(h:NsB w a Ns)(t:Touch No w w'):NsB w' a Ns:=fun i hi=>by
 obtain⟨b,o,ia,n,c,sa,n',c',e,⟨h0,h1,h2,h3,h4⟩,h5⟩:=h i hi;exact⟨b,o,ia,n,c,sa,n',c',e,⟨t.cell id h0,t.cell id h1,t.cell id h2,t.cell id h3,t.cell id h4⟩,h5.no t⟩
def nLens (Ns:List Me.Node):List (Nat × Nat):=Ns.map fun x=>(x.inn.length,x.shape.length)
theorem nLens_get (Ns:List Me.Node)(j:Nat):(nLens Ns).getD j (0,0)=((Me.nodeAt Ns j).inn.length,(Me.nodeAt Ns j).shape.length):=by
 rw[nLens,Me.nodeAt,Lgd,Lgd,List.getElem?_map];cases Ns[j]? <;> rfl
theorem NsB.len {w:World}{a:Option Addr}{Ns:List Me.Node}(h:NsB w a Ns):NsLen w a (nLens Ns):=fun j hj=>by
 obtain⟨b,o,ia,n,c,sa,n',c',e,hc,h5⟩:=h j (by simpa[nLens]using hj);exact⟨b,o,ia,n,c,sa,n',c',_,_,_,e,hc,by rw[nLens_get];exact h5.il.symm,by rw[nLens_get];exact h5.sl.symm,h5.i6,h5.s6⟩
def Short (Ns:List Me.Node):Prop:=Ns.length≤300∧∀j,j<Ns.length→(Me.nodeAt Ns j).inn.length≤300∧(Me.nodeAt Ns j).shape.length≤300
theorem NsB.ns {w:World}{a:Option Addr}{Ns:List Me.Node}(h:NsB w a Ns)(hs:Short Ns):NsIn w a Ns:=fun j hj=>by
 obtain⟨b,o,ia,n,c,sa,n',c',e,hc,h5⟩:=h j hj;obtain⟨h1,h2⟩:=hs.2 j hj;exact⟨b,o,ia,n,c,sa,n',c',e,hc,{ir:=h5.ir,il:=h5.il,ic:=h5.ic,i6:=by have:=h5.il;omega,sr:=h5.sr,sl:=h5.sl,sc:=h5.sc,s6:=by have:=h5.sl;omega,k8:=h5.k8,nr:=h5.nr,pr:=h5.pr,irng:=h5.irng,srng:=h5.srng}⟩
def GreatE (w:World)(Ns:List Me.Node)(e:Ending)(w':World):Prop:=∃b,e = .returned (.bool b)∧(b=false→Short Ns)∧Touch No w w'
theorem great_in (w:World)(a wa:Option Addr)(m cap wn wc:Nat)(more sec:Int)(Ns:List Me.Node)(Ws:List Me.Raw)(hN:NsB w a Ns)(hm:Ns.length=m)(hm6:m≤2000000)(hW:WsIn w wa Ws)(hWl:Ws.length=wn)(hW6:wn≤2000000) :
  Calls Tryz.prog 4 #[.agg #[.slice a m cap,.slice wa wn wc,.int .u16 more,.int .u16 sec]] w (GreatE w Ns):=by
 obtain⟨w1,hw1,t1,R1⟩:=box_row w [.slice a m cap,.slice wa wn wc,.int .u16 more,.int .u16 sec] 28;obtain⟨X,hX⟩:∃X,X=w.heap.size:=⟨_,rfl⟩;rw[← hX]at R1;have C1:=Lib.hid (graphSize_any w1 a m cap (nLens Ns) (hN.no t1).len (by simp[nLens,hm]) hm6);have y0:w1.cell? ⟨X,0,none⟩=some (.slice a m cap):=R1.cell 0;have HN:=Lib.hid (hN.no t1);have HM:=Lib.hid hm;have HW:=Lib.hid (hW.no t1);have HWl:=Lib.hid hWl;have HT1:=Lib.hid t1;have HR1:=Lib.hid R1;clear hN hm hW hWl t1 R1;go_enter Tryz.func4,Tryz.ntmps4;go_upto_region 1 with fail;rw[← hw1,← hX];clear hw1 hX;go_wp2_with fail;refine C1.out.mono ?_;rintro e w2 ⟨z,rfl,hz,hb,t2⟩;have HT2:=Lib.hid (HT1.out.trans t2);have HT12:=Lib.hid t2;have HR2:=Lib.hid (HR1.out.touch t2 id);clear C1 y0 t2;have y3:w2.cell? ⟨X,3,none⟩=some (.int .u16 sec):=HR2.out.cell 3
 by_cases hz3:300<z
 ·have hd:(300:Int)<(z:Nat):=by omega
  go_wp2;go_ret;exact⟨true,rfl,(fun h=>by cases h),HT2.out⟩
 ·have hd:¬(300:Int)<(z:Nat):=by omega
  have hsh:Short Ns:=by
   obtain⟨h1,h2⟩:=hb (by omega);refine⟨by rw[HM.out];exact h1,fun j hj=>?_⟩;have:=h2 j (by rw[← HM.out];exact hj);rw[nLens_get]at this;exact this
  have HSh:=Lib.hid hsh;clear hb hz;have hm3:m≤300:=by rw[← HM.out];exact hsh.1
  by_cases hs8:8000<sec
  ·go_wp2
   go_ret;exact⟨true,rfl,(fun h=>by cases h),HT2.out⟩
  ·have C2:=Lib.hid (refCosts_in w2 a m cap Ns ((HN.out.no HT12.out).ns hsh) HM.out (by omega))
   have y0:w2.cell? ⟨X,0,none⟩=some (.slice a m cap):=HR2.out.cell 0;clear hsh;go_wp2_with fail;refine C2.out.mono ?_;rintro e w3 ⟨ca,ck,cc,er,rfl,hck,hL,t3⟩;have HL:=Lib.hid hL;have HT3:=Lib.hid (HT2.out.trans t3);have HR3:=Lib.hid (HR2.out.touch t3 id);have HW3:=Lib.hid (HW.out.no (HT12.out.trans t3));clear C2 y0 y3 hL t3;go_wp2_with fail
   go_loopg [5,6] ck (fun gh s5 s6 wr=>∃(k:Nat) (x:Int),k+gh=ck∧s6 = .int .i64 ((k:Nat):Int)∧s5 = .int .i64 x∧Hid (Touch No w3 wr))
   case atStart=>exact⟨0,0,by omega,rfl,rfl,Touch.refl _ _⟩
   case round =>
    obtain⟨k,xw,hkg,rfl,rfl,T⟩:=hrel;cases gk with
    | zero =>
      obtain rfl:k=ck:=by omega
      obtain⟨w4,hw4⟩:∃w4:World,w4=wr:=⟨_,rfl⟩;subst hw4;have HR4:=Lib.hid (HR3.out.touch T.out id);go_wp2_with fail
      go_loopg [7,8] wn (fun gh s7 s8 wr=>∃(j:Nat) (x:Int),j+gh=wn∧s8 = .int .i64 ((j:Nat):Int)∧s7 = .int .i64 x∧Hid (Touch No w4 wr))
      case atStart=>exact⟨0,0,by omega,rfl,rfl,Touch.refl _ _⟩
      case round =>
       obtain⟨j,xn,hjg,rfl,rfl,T2⟩:=hrel;have y1:wr.cell? ⟨X,1,none⟩=some (.slice wa wn wc):=(HR4.out.touch T2.out id).cell 1;have HTE:=Lib.hid (HT3.out.trans (T.out.trans T2.out));cases gk with
       | zero =>
         obtain rfl:j=wn:=by omega
         by_cases c1:er=0
         ·have d1:(er==0)=true:=by simp[c1]
          by_cases c2:40000<xw
          ·go_wp2
           go_ret;exact⟨_,rfl,fun _=>HSh.out,HTE.out⟩
          ·by_cases c3:10000<xn
           ·go_wp2
            go_ret;exact⟨_,rfl,fun _=>HSh.out,HTE.out⟩
           ·go_wp2
            go_ret;exact⟨_,rfl,fun _=>HSh.out,HTE.out⟩
         ·have d1:(er==0)=false:=by simp[c1]
          by_cases c3:10000<xn
          ·go_wp2
           go_ret;exact⟨_,rfl,fun _=>HSh.out,HTE.out⟩
          ·go_wp2
           go_ret;exact⟨_,rfl,fun _=>HSh.out,HTE.out⟩
       | succ g2 =>
         have hjl:(j:Int)<(wn:Nat):=by omega
         obtain⟨b,o,sa,n1,c1,la,m1,d1,rfl,z0,z1,hEl⟩:=(HW3.out.no (T.out.trans T2.out)) j (by rw[HWl.out];omega);clear z0 hEl;go_wp2
         go_roundg g2
         case measure=>omega
         case rel=>exact⟨j+1,_,by omega,by go_num,rfl,T2.out⟩
    | succ g' =>
      have hkl:(k:Int)<(ck:Nat):=by omega
      obtain⟨b,o,e,rfl,_,hc,⟨x1,x2,x3,rfl⟩⟩:=(HL.out.no cEl_stays T.out) k (by omega);have q0:=KW.cell (by have h:=hc 0 _ rfl;rw[Nat.add_zero]at h;exact h);have q2:=KW.cell (by have h:=hc 2 _ rfl;rw[← Nat.add_assoc]at h;exact h);clear hc;go_upto_region 8 with fail;refine wp_region_kept (by kernel_rfl) (by kernel_rfl) ?_;repeat (first|go_big_quiet_step (fail)|quiet_step (fail))
      refine wpQuiet_nil ?_;intro _ hw';obtain⟨kw,hw''⟩:=hw';subst hw'';obtain⟨wk,tk⟩:=kw;have tk:=Lib.hid tk;dsimp only;have T2:=Lib.hid (T.out.trans tk.out);clear q0 q2;go_wp2
      go_roundg g'
      case measure=>omega
      case rel=>exact⟨k+1,_,by omega,by go_num,rfl,T2.out⟩
end
section
open Go Go.RowKit
theorem byte_is:∃i z,TypeIs 5 i z 1 1 [.int .u8 0]:=type_is (by kernel_rfl)
theorem clone_bytes (w:World)(g o n c:Nat)(xs:List Nat)(hr:w.rangeAt g o (nums .u8 xs))(hl:xs.length=n)(hn:n≤16384) :
  Calls Tryz.prog 120 #[.slice (some ⟨g,o,none⟩) n c] w fun e w'=>∃g' c',e = .returned (.slice (some ⟨g',0,none⟩) n c')∧w.heap.size≤g'∧Rd w' (some ⟨g',0,none⟩) (nums .u8 xs)∧n≤c'∧c'≤maxLen∧Touch No w w':=by
 have hq:=fun(w:World) (a:Option Addr) (n c n' c':Nat)=>Lib.run_eql_slice_nil (P:=Tryz.prog) w 130 5 a n c n' c' Tryz.underlying130
 obtain⟨I,z,hI⟩:=byte_is;have HI:=Lib.hid hI;have H:=Lib.hid hr;have Hl:=Lib.hid hl;have Hn:=Lib.hid hn;clear hr hn hl hI;go_enter Tryz.func120,Tryz.ntmps120;go_wp2_with (at_builtin;refine wpList_append_own _ rfl _ _ 130 rfl w.heap.size 5 I z 1 1 Tryz.underlying130 HI.out.info HI.out.zero HI.out.size HI.out.bytes (by rw[HI.out.cells];rfl) (by decide) _ _ _ rfl (World.ownsRow_made w #[] 0 (Nat.le_refl _) (Nat.zero_le _) (by simp)) ⟨g,o,none⟩ n c (nums .u8 xs) rfl ?qc1 ?qc2 ?qc3 ?qc4 ?qc5 ?qc6 ?_)
 case qc1=>rw[nums_length,Hl.out,Nat.mul_one]
 case qc2 =>
  intro j u hj;rw[Addr.add_lit];exact Lib.cell?_alloc_some _ (H.out j u hj)
 case qc3=>exact nums_one _ _
 case qc4=>have:=Hn.out;unfold maxLen;omega
 case qc5=>have:=Hn.out;omega
 case qc6=>simp
 intro v' w1 hown hgrow hnil;have Ho:=Lib.hid hown;have Hg:=Lib.hid hgrow;have Hx:=Lib.hid hnil;clear hown hgrow hnil;go_wp2;go_ret;obtain⟨g',c',r',rfl,h1,h2,h3,h4⟩:=ownRow Ho.out Hx.out;refine⟨g',c',by simp,h1,fun j u hj=>⟨g',0,rfl,?_⟩,by simpa using h3,h4,?_⟩
 ·rw[Nat.zero_add,h2.cell]
  have hh:j<(nums .u8 xs).length:=by
   by_cases hh:j<(nums .u8 xs).length
   ·exact hh
   ·rw[Lgn (by omega)]at hj;cases hj
  rw[List.getElem?_append_left (by simpa using hh)]
  simpa using hj
 ·exact((Touch.refl No w).alloc _).grown Hg.out (by intro k hk hlt;simp[Value.ownBlock]at hk;omega)
theorem clip_bytes (w:World)(a:Option Addr)(n c:Nat)(h:n≤c):Calls Tryz.prog 119 #[.slice a n c] w fun e w'=>e = .returned (.slice a n n)∧w=w':=by
 have hnc:(n:Int)≤(c:Int):=by omega
 have h0:(0:Int)≤(n:Int):=Int.natCast_nonneg _;go_enter Tryz.func119,Tryz.ntmps119;go_wp2;go_ret;exact⟨rfl,rfl⟩
theorem sec_at (w:World)(gn:Nat)(l:List Dk.Sec)(r:List Value)(hr:Row w gn 125 (l.flatMap secCells++r))(n:Nat)(hn:n<l.length)(j:Nat)(hj:j<65):w.cell? ⟨gn,n*65+j,none⟩=(secCells (Dk.at_ l n))[j]?:=by
 rw[hr.cell,List.getElem?_append_left (by
  rw[flat_length secCells_length];have:=Nat.mul_le_mul_right 65 hn;omega)]
 exact flat_get secCells_length l n j _ (Dk.at_get hn) hj
theorem read_in (w:World)(d:Nat)(D:Dk.Disk)(O:Nat→Prop)(n:Nat)(h:DiskAt w d D O)(hn:n<D.seen.length)(hb:(Dk.at_ D.seen n).bad=0) :
  Calls Tryz.prog 74 #[.pointer (some ⟨d,0,none⟩),.int .i64 (n:Nat)] w fun e w'=>∃g,e = .returned (.tuple #[.slice (some ⟨g,0,none⟩) 64 64,.int .i64 0])∧w.heap.size≤g∧Rd w' (some ⟨g,0,none⟩) (nums .u8 (Dk.at_ D.seen n).b)∧Touch No w w':=by
 have H:=Lib.hid h;have e1:askSays D.seen.length n=0:=by unfold askSays;rw[if_pos (by omega)]
 have hok:=(h.ok.seen _ (Dk.at_mem hn)).b.len;obtain⟨gs,gn,cs,cn,rs,rn,vw,Di,_⟩:=h;have hc1:=Di.c1;have hlcn:=Di.lcn;have hn':(n:Int)<(D.seen.length:Nat):=by omega
 have hcb:w.cell? ⟨gn,n*65+64,none⟩=some (.int .i64 0):=by
  rw[sec_at w gn D.seen rn Di.seen n hn 64 (by decide),sec_bad,hb];rfl
 have hra:Hid (w.rangeAt gn (n*65) (nums .u8 (Dk.at_ D.seen n).b)):=fun j v hj=>by
  have hj64:j<64:=by
   by_cases hh:j<(nums .u8 (Dk.at_ D.seen n).b).length
   ·rw[nums_length,hok]at hh;exact hh
   ·rw[Lgn (by omega)]at hj;cases hj
  rw[sec_at w gn D.seen rn Di.seen n hn j (by omega),secCells,bytes_cells hok,List.getElem?_append_left (by rw[nums_length,hok];exact hj64)];exact hj
 have Hok:=Lib.hid hok;clear Di hok hb;go_enter Tryz.func74,Tryz.ntmps74
 go_wp2_with (first
  | (go_at_call 118;refine(ask_any _ _ _ _ _ H.out).mono ?_;rintro e w' ⟨rfl,rfl⟩;rw[e1])
  | (go_at_call 120;refine(clone_bytes _ gn (n*65) 64 64 (Dk.at_ D.seen n).b hra.out Hok.out (by decide)).mono ?_;rintro e w1 ⟨g',c',rfl,k1,k2,k3,k4,k5⟩;have K1:=Lib.hid k1;have K2:=Lib.hid k2;have K3:=Lib.hid k3;have K5:=Lib.hid k5;clear k1 k2 k3 k4 k5)
  | (go_at_call 119;refine(clip_bytes _ _ _ _ K3.out).mono ?_;rintro e w2 ⟨rfl,rfl⟩))
 go_ret2
 exact⟨g',rfl,K1.out,K2.out,K5.out⟩
end
section
open Go Go.RowKit
theorem nought1_in (w:World)(x:Int):Calls Tryz.prog 122 #[.int .u8 x] w fun e w'=>e = .returned (.bool (x != 0))∧w=w':=by
 go_enter Tryz.func122,Tryz.ntmps122;go_wp2;go_ret;exact⟨rfl,rfl⟩
theorem indexZ_in (w:World)(a:Option Addr)(n c:Nat)(xs:List Nat)(hl:xs.length=n)(hn:n≤1000)(hz:∀x∈xs,x=0)(hr:Rd w a (nums .u8 xs)) :
  Calls Tryz.prog 168 #[.slice a n c,.func (.func 122) #[] #[]] w fun e w'=>e = .returned (.int .i64 (-1))∧w=w':=by
 have HR:=Lib.hid hr;have HL:=Lib.hid (aI hl hz);clear hl hr hz;go_enter Tryz.func168,Tryz.ntmps168;go_wp2
 go_loopg [8] n (fun gh s8 wr=>∃k:Nat,k+gh=n∧s8 = .int .i64 ((k:Nat):Int)∧Hid (w=wr))
 case atStart=>exact⟨0,by omega,rfl,rfl⟩
 case round =>
  obtain⟨k,hkg,rfl,T⟩:=hrel;obtain⟨wq,hwq⟩:∃wq:World,wq=wr:=⟨_,rfl⟩;subst hwq;have e:w=wq:=T.out;subst e;cases gk with
  | zero =>
    obtain rfl:k=n:=by omega
    go_wp2;go_ret;exact⟨rfl,rfl⟩
  | succ g =>
    have hlt:(k:Int)<(n:Nat):=by omega
    obtain⟨b,o,rfl,hc⟩:=HR.out.num (i:=k) (by rw[HL.out.1];omega);have h0:xs.getD k 0=0:=HL.out.2 _ (by rw[Lgd,Lge (by rw[HL.out.1];omega)];exact List.getElem_mem _);rw[h0]at hc;have C:=Lib.hid (nought1_in w 0);clear h0;go_wp2_with fail;refine C.out.mono ?_;rintro e w5 ⟨rfl,rfl⟩;clear C hc;go_wp2
    go_roundg g
    case measure=>omega
    case rel=>exact⟨k+1,by omega,by go_num,rfl⟩
theorem nought_in (w:World)(a:Option Addr)(n c:Nat)(xs:List Nat)(hl:xs.length=n)(hn:n≤1000)(hz:∀x∈xs,x=0)(hr:Rd w a (nums .u8 xs)) :
  Calls Tryz.prog 75 #[.slice a n c] w fun e w'=>e = .returned (.bool true)∧w=w':=by
 have C:=Lib.hid (indexZ_in w a n c xs hl hn hz hr)
 have C2:Hid (Calls Tryz.prog 121 #[.slice a n c,.func (.func 122) #[] #[]] w fun e w'=>e = .returned (.bool false)∧w=w'):=by
  show Calls _ _ _ _ _
  go_enter Tryz.func121,Tryz.ntmps121;go_wp2_with fail;refine C.out.mono ?_;rintro e w5 ⟨rfl,rfl⟩;go_wp2;go_ret;exact⟨rfl,rfl⟩
 clear C hl hz hr;go_enter Tryz.func75,Tryz.ntmps75;go_wp2_with fail;refine C2.out.mono ?_;rintro e w5 ⟨rfl,rfl⟩;go_wp2;go_ret;exact⟨rfl,rfl⟩
structure WIn (w:World) (g d0 d1:Nat):Prop where
 row:Row w g 87 [.pointer (some ⟨d0,0,none⟩),.pointer (some ⟨d1,0,none⟩),.pointer none,.int .u8 0,.int .i64 0,.int .i64 0,.int .i64 0,.int .i64 0,.int .i64 0]
 disk:DiskAt w d1 (Dk.new 10) (fun _=>True)
theorem WIn.no {w w':World}{g d0 d1:Nat}(h:WIn w g d0 d1)(t:Touch No w w'):WIn w' g d0 d1:=⟨h.row.touch t id,h.disk.no t⟩
def MadeW (w:World)(e:Ending)(w':World):Prop:=∃g d0 d1,e = .returned (.tuple #[.pointer (some ⟨g,0,none⟩),.int .i64 0])∧WIn w' g d0 d1∧Touch No w w'
theorem worldsNew_in (w:World):Calls Tryz.prog 20 #[.int .i64 100,.int .i64 10] w (MadeW w):=by
 obtain⟨w1,hw1,t1,R1⟩:=box_row w [.pointer none,.pointer none,.pointer none,.int .u8 0,.int .i64 0,.int .i64 0,.int .i64 0,.int .i64 0,.int .i64 0] 87;obtain⟨X,hX⟩:∃X,X=w.heap.size:=⟨_,rfl⟩;rw[← hX]at R1;have hi0:∀wx:World,(Instr.index 88 (.agg #[.int .i64 100,.int .i64 10]) (.int .i64 0)).run Tryz.prog wx = .ok (.int .i64 100) wx:=fun wx=>by kernel_rfl
 have hi1:∀wx:World,(Instr.index 88 (.agg #[.int .i64 100,.int .i64 10]) (.int .i64 1)).run Tryz.prog wx = .ok (.int .i64 10) wx:=fun wx=>by kernel_rfl
 have HX:=Lib.hid hX;have HT1:=Lib.hid t1;have HR1:=Lib.hid R1;clear t1 R1;go_enter Tryz.func20,Tryz.ntmps20;go_wp2_with fail;rw[← hw1,← hX];clear hw1 hX
 go_loopg [16] 2 (fun gh s16 wr=>∃k:Nat,k+gh=2∧s16 = .int .i64 ((k:Nat):Int)∧Hid (Touch No w wr)∧
  Hid ((k=0∧Row wr X 87 [.pointer none,.pointer none,.pointer none,.int .u8 0,.int .i64 0,.int .i64 0,.int .i64 0,.int .i64 0,.int .i64 0])∨(k=1∧∃d0,Row wr X 87 [.pointer (some ⟨d0,0,none⟩),.pointer none,.pointer none,.int .u8 0,.int .i64 0,.int .i64 0,.int .i64 0,.int .i64 0,.int .i64 0])∨(k=2∧∃d0 d1,WIn wr X d0 d1)))
 case atStart=>exact⟨0,by omega,rfl,HT1.out,.inl ⟨rfl,HR1.out⟩⟩
 case round =>
  obtain⟨k,hkg,rfl,T,HS⟩:=hrel;cases gk with
  | zero =>
    obtain rfl:k=2:=by omega
    have hw:∃d0 d1,WIn wr X d0 d1:=by
     rcases HS.out with⟨h,_⟩|⟨h,_⟩|⟨_,h⟩
     ·omega
     ·omega
     ·exact h
    obtain⟨d0,d1,hW⟩:=hw;have HW:=Lib.hid hW;clear hW HS;go_wp2;refine bodyPost_ret (v:=.tuple #[.pointer (some ⟨X,0,none⟩),.int .i64 0]) (by simp[results,Tryz.results20,go_sem]) rfl ?_;exact⟨X,d0,d1,rfl,HW.out,T.out⟩
  | succ g =>
    have hk2:k=0∨k=1:=by omega
    rcases hk2 with rfl|rfl
    ·have hR:Row wr X 87 [.pointer none,.pointer none,.pointer none,.int .u8 0,.int .i64 0,.int .i64 0,.int .i64 0,.int .i64 0,.int .i64 0]:=by
      rcases HS.out with⟨_,h⟩|⟨h,_⟩|⟨h,_⟩
      ·exact h
      ·omega
      ·omega
     have C:=Lib.hid (new_is wr 100 (by decide) (by decide));have HR:=Lib.hid hR;clear hR HS;go_wp2_with fail;refine C.out.mono ?_;rintro e w5 ⟨d,rfl,hd,_,t5⟩;have r5:=HR.out.touch t5 id;have y0:w5.cell? ⟨X,0,none⟩=some (.pointer none):=r5.cell 0;have f0:=r5.soft 0;have HR5:=Lib.hid r5;have T5:=Lib.hid (T.out.trans t5);clear C t5 hd r5;go_wp2;have tX:Touch (One X) w5 (w5.setCell ⟨X,0,none⟩ (.pointer (some ⟨d,0,none⟩))):=(Touch.refl (One X) w5).setCell (p:=⟨X,0,none⟩) (fun _=>rfl) _;have H9:=Lib.hid (aI (T5.out.then tX (fun i hi e=>by have e':i=X:=e;have:=HX.out;omega)) (HR5.out.setCell 0 (.pointer (some ⟨d,0,none⟩))));clear tX
     go_roundg g
     case measure=>omega
     case rel=>exact⟨1,by omega,rfl,H9.out.1,.inr (.inl ⟨rfl,d,H9.out.2⟩)⟩
    ·have hR:∃d0,Row wr X 87 [.pointer (some ⟨d0,0,none⟩),.pointer none,.pointer none,.int .u8 0,.int .i64 0,.int .i64 0,.int .i64 0,.int .i64 0,.int .i64 0]:=by
      rcases HS.out with⟨h,_⟩|⟨_,h⟩|⟨h,_⟩
      ·omega
      ·exact h
      ·omega
     obtain⟨d0,hR⟩:=hR;have C:=Lib.hid (new_is wr 10 (by decide) (by decide));have HR:=Lib.hid hR;have hXr:=hR.lt;clear hR HS;go_wp2_with fail;refine C.out.mono ?_;rintro e w5 ⟨d,rfl,hd,hD,t5⟩;have r5:=HR.out.touch t5 id;have y0:w5.cell? ⟨X,1,none⟩=some (.pointer none):=r5.cell 1;have f0:=r5.soft 1;have HR5:=Lib.hid r5;have HD:=Lib.hid hD;have T5:=Lib.hid (T.out.trans t5);clear C t5 r5 hD;go_wp2;have tX:Touch (One X) w5 (w5.setCell ⟨X,1,none⟩ (.pointer (some ⟨d,0,none⟩))):=(Touch.refl (One X) w5).setCell (p:=⟨X,1,none⟩) (fun _=>rfl) _
     have hD9:DiskAt (w5.setCell ⟨X,1,none⟩ (.pointer (some ⟨d,0,none⟩))) d (Dk.new 10) (fun _=>True):=by
      obtain⟨gs,gn,cs,cn,rs,rn,vw,h,_⟩:=HD.out.touch tX (fun k _ hO e=>by have e':k=X:=e;omega);exact⟨gs,gn,cs,cn,rs,rn,vw,h,trivial,trivial,trivial,fun _ _=>trivial⟩
     have H9:=Lib.hid (aI (T5.out.then tX (fun i hi e=>by have e':i=X:=e;have:=HX.out;omega)) (WIn.mk (HR5.out.setCell 1 (.pointer (some ⟨d,0,none⟩))) hD9));clear tX hD9
     go_roundg g
     case measure=>omega
     case rel=>exact⟨2,by omega,rfl,H9.out.1,.inr (.inr ⟨rfl,d0,d,H9.out.2⟩)⟩
end
section
open Go Go.RowKit
theorem worldThere_in (w:World)(g d0 d1:Nat)(h:WIn w g d0 d1):Calls Tryz.prog 57 #[.pointer (some ⟨g,0,none⟩)] w fun e w'=>e = .returned (.bool true)∧w=w':=by
 have y0:w.cell? ⟨g,0,none⟩=some (.pointer (some ⟨d0,0,none⟩)):=h.row.cell 0;clear h;go_enter Tryz.func57,Tryz.ntmps57;go_wp2;go_ret;exact⟨rfl,rfl⟩
theorem worldThere_nil (w:World):Calls Tryz.prog 57 #[.pointer none] w fun e w'=>e = .returned (.bool false)∧w=w':=by
 go_enter Tryz.func57,Tryz.ntmps57;go_wp2;go_ret;exact⟨rfl,rfl⟩
theorem worldJob_in (w:World)(g d0 d1:Nat)(h:WIn w g d0 d1):Calls Tryz.prog 60 #[.pointer (some ⟨g,0,none⟩)] w fun e w'=>e = .returned (.int .i64 7)∧w=w':=by
 have C:=Lib.hid (worldThere_in w g d0 d1 h);have y2:w.cell? ⟨g,2,none⟩=some (.pointer none):=h.row.cell 2;clear h;go_enter Tryz.func60,Tryz.ntmps60;go_wp2_with fail;refine C.out.mono ?_;rintro e w2 ⟨rfl,rfl⟩;go_wp2;go_ret;exact⟨rfl,rfl⟩
theorem worldJob_nil (w:World):Calls Tryz.prog 60 #[.pointer none] w fun e w'=>e = .returned (.int .i64 2)∧w=w':=by
 have C:=Lib.hid (worldThere_nil w);go_enter Tryz.func60,Tryz.ntmps60;go_wp2_with fail;refine C.out.mono ?_;rintro e w2 ⟨rfl,rfl⟩;go_wp2;go_ret;exact⟨rfl,rfl⟩
theorem worldSeen_in (w:World)(g d0 d1:Nat)(h:WIn w g d0 d1):Calls Tryz.prog 40 #[.pointer (some ⟨g,0,none⟩)] w fun e w'=>e = .returned (.agg #[.int .u8 0,.int .i64 0,.int .i64 0,.int .i64 0,.int .i64 0,.int .i64 0])∧Touch No w w':=by
 obtain⟨w1,hw1,t1,R1⟩:=box_row w [.int .u8 0,.int .i64 0,.int .i64 0,.int .i64 0,.int .i64 0,.int .i64 0] 85;obtain⟨X,hX⟩:∃X,X=w.heap.size:=⟨_,rfl⟩;rw[← hX]at R1;have C:=Lib.hid (worldJob_in w1 g d0 d1 (h.no t1));have hr:=h.row.touch t1 id;have y3:w1.cell? ⟨g,3,none⟩=some (.int .u8 0):=hr.cell 3;have y4:w1.cell? ⟨g,4,none⟩=some (.int .i64 0):=hr.cell 4;have y5:w1.cell? ⟨g,5,none⟩=some (.int .i64 0):=hr.cell 5;have y6:w1.cell? ⟨g,6,none⟩=some (.int .i64 0):=hr.cell 6;have y7:w1.cell? ⟨g,7,none⟩=some (.int .i64 0):=hr.cell 7;have y8:w1.cell? ⟨g,8,none⟩=some (.int .i64 0):=hr.cell 8;have HT1:=Lib.hid t1;have HR1:=Lib.hid R1;have HX:=Lib.hid hX;clear h hr t1;go_enter Tryz.func40,Tryz.ntmps40;go_upto_region 1 with fail;rw[← hw1,← hX];clear hw1 hX R1;go_wp2_with fail;refine C.out.mono ?_;rintro e w2 ⟨rfl,rfl⟩;clear C;go_upto_region 5 with fail;go_wp2_with (refine wpList_store_mid rfl 85 _ _ rfl X 0 85 [.int .u8 0,.int .i64 0,.int .i64 0,.int .i64 0,.int .i64 0,.int .i64 0] HR1.out rfl [.int .u8 0,.int .i64 0,.int .i64 0,.int .i64 0,.int .i64 0,.int .i64 0] rfl (by kernel_rfl) (by simp) (by intro v hv;simp at hv;rcases hv with rfl|rfl <;> rfl) ?_);obtain⟨w9,hw9⟩:∃w9,w9=w1.setRow X (splice [Value.int .u8 0,.int .i64 0,.int .i64 0,.int .i64 0,.int .i64 0,.int .i64 0] 0 [.int .u8 0,.int .i64 0,.int .i64 0,.int .i64 0,.int .i64 0,.int .i64 0]).toArray:=⟨_,rfl⟩;have R9:Row w9 X 85 [.int .u8 0,.int .i64 0,.int .i64 0,.int .i64 0,.int .i64 0,.int .i64 0]:=by rw[hw9];exact HR1.out.setRow _
 have T9:Hid (Touch No w w9):=HT1.out.then (show Touch (One X) w1 w9 by rw[hw9];exact Touch.setOne _ _ _) (fun i hi e=>by have e':i=X:=e;have:=HX.out;omega);have z0:=R9.cell 0;have z1:=R9.cell 1;have z2:=R9.cell 2;have z3:=R9.cell 3;have z4:=R9.cell 4;have z5:=R9.cell 5;rw[← hw9];clear hw9 R9;go_wp2;refine bodyPost_ret (v:=.agg #[.int .u8 0,.int .i64 0,.int .i64 0,.int .i64 0,.int .i64 0,.int .i64 0]) (by simp[results,Tryz.results40,go_sem,z0,z1,z2,z3,z4,z5]) rfl ?_;exact⟨rfl,T9.out⟩
theorem worldSeen_nil (w:World):Calls Tryz.prog 40 #[.pointer none] w fun e w'=>e = .returned (.agg #[.int .u8 0,.int .i64 0,.int .i64 0,.int .i64 0,.int .i64 0,.int .i64 0])∧Touch No w w':=by
 obtain⟨w1,hw1,t1,R1⟩:=box_row w [.int .u8 0,.int .i64 0,.int .i64 0,.int .i64 0,.int .i64 0,.int .i64 0] 85;obtain⟨X,hX⟩:∃X,X=w.heap.size:=⟨_,rfl⟩;rw[← hX]at R1;have C:=Lib.hid (worldJob_nil w1);have HT1:=Lib.hid t1;have HR1:=Lib.hid R1;have HX:=Lib.hid hX;clear t1;go_enter Tryz.func40,Tryz.ntmps40;go_upto_region 1 with fail;rw[← hw1,← hX];clear hw1 hX R1;go_wp2_with fail;refine C.out.mono ?_;rintro e w2 ⟨rfl,rfl⟩;clear C;go_upto_region 6 with fail;go_wp2_with (refine wpList_store_mid rfl 85 _ _ rfl X 0 85 [.int .u8 0,.int .i64 0,.int .i64 0,.int .i64 0,.int .i64 0,.int .i64 0] HR1.out rfl [.int .u8 0,.int .i64 0,.int .i64 0,.int .i64 0,.int .i64 0,.int .i64 0] rfl (by kernel_rfl) (by simp) (by intro v hv;simp at hv;rcases hv with rfl|rfl <;> rfl) ?_);obtain⟨w9,hw9⟩:∃w9,w9=w1.setRow X (splice [Value.int .u8 0,.int .i64 0,.int .i64 0,.int .i64 0,.int .i64 0,.int .i64 0] 0 [.int .u8 0,.int .i64 0,.int .i64 0,.int .i64 0,.int .i64 0,.int .i64 0]).toArray:=⟨_,rfl⟩;have R9:Row w9 X 85 [.int .u8 0,.int .i64 0,.int .i64 0,.int .i64 0,.int .i64 0,.int .i64 0]:=by rw[hw9];exact HR1.out.setRow _
 have T9:Hid (Touch No w w9):=HT1.out.then (show Touch (One X) w1 w9 by rw[hw9];exact Touch.setOne _ _ _) (fun i hi e=>by have e':i=X:=e;have:=HX.out;omega);have z0:=R9.cell 0;have z1:=R9.cell 1;have z2:=R9.cell 2;have z3:=R9.cell 3;have z4:=R9.cell 4;have z5:=R9.cell 5;rw[← hw9];clear hw9 R9;go_wp2;refine bodyPost_ret (v:=.agg #[.int .u8 0,.int .i64 0,.int .i64 0,.int .i64 0,.int .i64 0,.int .i64 0]) (by simp[results,Tryz.results40,go_sem,z0,z1,z2,z3,z4,z5]) rfl ?_;exact⟨rfl,T9.out⟩
theorem clipRc_any (w:World)(a:Option Addr)(n c:Nat)(h:n≤c):Calls Tryz.prog 80 #[.slice a n c] w fun e w'=>e = .returned (.slice a n n)∧w=w':=by
 have hnc:(n:Int)≤(c:Int):=by omega
 have h0:(0:Int)≤(n:Int):=Int.natCast_nonneg _;go_enter Tryz.func80,Tryz.ntmps80;go_wp2;go_ret;exact⟨rfl,rfl⟩
def LogIn (w:World)(g d:Nat):Prop:=Row w g 134 [.pointer (some ⟨d,0,none⟩),.slice none 0 0]
def OpenL (w:World)(d:Nat)(e:Ending)(w':World):Prop:=∃g,e = .returned (.tuple #[.pointer (some ⟨g,0,none⟩),.int .i64 0])∧LogIn w' g d∧Touch No w w'
theorem logOpen_in (w:World)(d:Nat)(h:DiskAt w d (Dk.new 10) (fun _=>True)):Calls Tryz.prog 58 #[.pointer (some ⟨d,0,none⟩)] w (OpenL w d):=by
 have C1:=Lib.hid (len_in w d _ _ h);have hs:(Dk.new 10).seen.length=10:=by simp[Dk.new]
 rw[hs]at C1;have hat:Dk.at_ (Dk.new 10).seen 0=Dk.noughts:=rfl;have C2:=Lib.hid (read_in w d _ _ 0 h (by rw[hs];decide) (by rw[hat];rfl));rw[hat]at C2;clear h hs hat;go_enter Tryz.func58,Tryz.ntmps58;go_wp2_with fail;refine C1.out.mono ?_;rintro e w2 ⟨rfl,rfl⟩;clear C1;go_wp2_with fail;refine C2.out.mono ?_;rintro e w2 ⟨g,rfl,hg,hr,t2⟩;obtain⟨w3,hw3,t3,R3⟩:=box_row w2 [.pointer (some ⟨d,0,none⟩),.slice none 0 0] 134;have C3:=Lib.hid (nought_in w3 (some ⟨g,0,none⟩) 64 64 Dk.noughts.b (by simp[Dk.noughts]) (by decide) (fun x hx=>(List.mem_replicate.1 hx).2) (hr.no t3));have HT:=Lib.hid (t2.trans t3);have HR3:=Lib.hid R3;clear C2 hr t2 t3 R3 hg;go_wp2_with fail;rw[← hw3];refine C3.out.mono ?_;rintro e w4 ⟨rfl,rfl⟩;obtain⟨Y,hY⟩:∃Y,Y=w2.heap.size:=⟨_,rfl⟩;have HR3:=HR3.out;rw[← hY]at HR3 ⊢;have HR3:=Lib.hid HR3;clear hY hw3 C3;go_wp2;refine bodyPost_ret (v:=.tuple #[.pointer (some ⟨Y,0,none⟩),.int .i64 0]) (by simp[results,Tryz.results58,go_sem]) rfl ?_;exact⟨Y,rfl,HR3.out,HT.out⟩
theorem logThere_in (w:World)(g d:Nat)(h:LogIn w g d):Calls Tryz.prog 79 #[.pointer (some ⟨g,0,none⟩)] w fun e w'=>e = .returned (.bool true)∧w=w':=by
 have y0:w.cell? ⟨g,0,none⟩=some (.pointer (some ⟨d,0,none⟩)):=Row.cell h 0;clear h;go_enter Tryz.func79,Tryz.ntmps79;go_wp2;go_ret;exact⟨rfl,rfl⟩
theorem logRecords_in (w:World)(g d:Nat)(h:LogIn w g d):Calls Tryz.prog 59 #[.pointer (some ⟨g,0,none⟩)] w fun e w'=>e = .returned (.tuple #[.slice none 0 0,.int .i64 0])∧w=w':=by
 have C1:=Lib.hid (logThere_in w g d h);have C2:=Lib.hid (clipRc_any w none 0 0 (Nat.le_refl _));have y1:w.cell? ⟨g,1,none⟩=some (.slice none 0 0):=Row.cell h 1;clear h;go_enter Tryz.func59,Tryz.ntmps59;go_wp2_with fail;refine C1.out.mono ?_;rintro e w2 ⟨rfl,rfl⟩;clear C1;go_wp2_with fail
 go_loopg [2,16] 0 (fun gh s2 s16 wr=>gh=0∧s2 = .slice none 0 0∧s16 = .int .i64 0∧Hid (w=wr))
 case atStart=>exact⟨rfl,rfl,rfl,rfl⟩
 case round =>
  obtain⟨hg0,rfl,rfl,T⟩:=hrel;subst hg0;obtain⟨wq,hwq⟩:∃wq:World,wq=wr:=⟨_,rfl⟩;subst hwq;have e:w=wq:=T.out;subst e;go_wp2_with fail;refine C2.out.mono ?_;rintro e w2 ⟨rfl,rfl⟩;clear C2;go_wp2;refine bodyPost_ret (v:=.tuple #[.slice none 0 0,.int .i64 0]) (by simp[results,Tryz.results59,go_sem]) rfl ?_;exact⟨rfl,rfl⟩
theorem worldOut_in (w:World)(g d0 d1:Nat)(h:WIn w g d0 d1):Calls Tryz.prog 39 #[.pointer (some ⟨g,0,none⟩)] w fun e w'=>e = .returned (.tuple #[.slice none 0 0,.int .i64 0])∧Touch No w w':=by
 have C1:=Lib.hid (worldThere_in w g d0 d1 h);have C2:=Lib.hid (logOpen_in w d1 h.disk);have y1:w.cell? ⟨g,1,none⟩=some (.pointer (some ⟨d1,0,none⟩)):=h.row.cell 1;clear h;go_enter Tryz.func39,Tryz.ntmps39;go_wp2_with fail;refine C1.out.mono ?_;rintro e w2 ⟨rfl,rfl⟩;clear C1;go_wp2_with fail;refine C2.out.mono ?_;rintro e w3 ⟨l,rfl,hL,t3⟩;have C3:=Lib.hid (logRecords_in w3 l d1 hL);have T3:=Lib.hid t3;clear C2 y1 hL t3;go_wp2_with fail;refine C3.out.mono ?_;rintro e w4 ⟨rfl,rfl⟩;clear C3;go_wp2;refine bodyPost_ret (v:=.tuple #[.slice none 0 0,.int .i64 0]) (by simp[results,Tryz.results39,go_sem]) rfl ?_;exact⟨rfl,T3.out⟩
theorem worldOut_nil (w:World):Calls Tryz.prog 39 #[.pointer none] w fun e w'=>e = .returned (.tuple #[.slice none 0 0,.int .i64 2])∧w=w':=by
 have C1:=Lib.hid (worldThere_nil w);go_enter Tryz.func39,Tryz.ntmps39;go_wp2_with fail;refine C1.out.mono ?_;rintro e w2 ⟨rfl,rfl⟩;clear C1;go_wp2;refine bodyPost_ret (v:=.tuple #[.slice none 0 0,.int .i64 2]) (by simp[results,Tryz.results39,go_sem]) rfl ?_;exact⟨rfl,rfl⟩
theorem fine_in (w:World)(g d0 d1:Nat)(h:WIn w g d0 d1)(a ia:Option Addr)(mm cap N' ci:Nat)(Ns:List Me.Node)(Ins:List Me.Raw)(hNs:NsIn w a Ns)(hm:Ns.length=mm)(hm6:mm≤1000)(hI:WsIn w ia Ins)(hIl:Ins.length=N')(hI6:N'≤2000000) :
  Calls Tryz.prog 21 #[.pointer (some ⟨g,0,none⟩),.agg #[.slice a mm cap],.slice none 0 0,.slice ia N' ci,.int .i64 0] w fun e w'=>e = .returned (.bool true)∧Touch No w w':=by
 obtain⟨w1,hw1,t1,R1⟩:=box_row w [.slice a mm cap] 24;obtain⟨X,hX⟩:∃X,X=w.heap.size:=⟨_,rfl⟩;rw[← hX]at R1;have C1:=Lib.hid (worldOut_in w1 g d0 d1 (h.no t1));have C2:=Lib.hid (fun wx (t:Touch No w1 wx)=>worldSeen_in wx g d0 d1 ((h.no t1).no t))
 have C3:Hid (∀wx,Touch No w1 wx→Calls Tryz.prog 10 #[.agg #[.slice a mm cap],.slice none 0 0,.slice ia N' ci,.slice none 0 0] wx fun e w'=>e = .returned (.bool true)∧Touch No wx w'):=fun wx t=>by
  have:=begins_in wx a none ia none mm cap 0 0 N' ci 0 0 Ns [] Ins [] ((hNs.no t1).no t) hm hm6 (WsIn.nil rfl) rfl (Nat.le_refl _) (by omega) ((hI.no t1).no t) hIl hI6 (fun j hj=>absurd hj (Nat.not_lt_zero j)) rfl (by omega);have e:Me.begins Ns [] Ins []=true:=by simp[Me.begins]
  rw[e]at this;exact this
 have HT1:=Lib.hid t1;have HR1:=Lib.hid R1;clear h hNs hm hI hIl t1 R1;go_enter Tryz.func21,Tryz.ntmps21;go_upto_region 1 with fail;rw[← hw1,← hX];clear hw1 hX;go_wp2_with fail;refine C1.out.mono ?_;rintro e w2 ⟨rfl,t2⟩;have T2:=Lib.hid t2;clear C1 t2;go_wp2_with fail;refine(C2.out w2 T2.out).mono ?_;rintro e w3 ⟨rfl,t3⟩;obtain⟨w4,hw4,t4,R4⟩:=box_row w3 [.int .u8 0,.int .i64 0,.int .i64 0,.int .i64 0,.int .i64 0,.int .i64 0] 85;obtain⟨Y,hY⟩:∃Y,Y=w3.heap.size:=⟨_,rfl⟩;rw[← hY]at R4;have T4:=Lib.hid ((T2.out.trans t3).trans t4);have HR4:=Lib.hid R4;have y0:w4.cell? ⟨X,0,none⟩=some (.slice a mm cap):=(HR1.out.touch T4.out id).cell 0;clear C2 t3 t4 R4;go_upto_region 3 with fail;rw[← hw4,← hY];clear hw4 hY;go_wp2_with fail;refine(C3.out w4 T4.out).mono ?_;rintro e w5 ⟨rfl,t5⟩;have r5:=HR4.out.touch t5 id;have z0:w5.cell? ⟨Y,0,none⟩=some (.int .u8 0):=r5.cell 0;have z3:w5.cell? ⟨Y,3,none⟩=some (.int .i64 0):=r5.cell 3;have z4:w5.cell? ⟨Y,4,none⟩=some (.int .i64 0):=r5.cell 4;have T5:=Lib.hid (HT1.out.trans (T4.out.trans t5));clear C3 y0 t5 r5;go_wp2;go_ret;exact⟨rfl,T5.out⟩
theorem fine_nil (w:World)(a ia:Option Addr)(mm cap N' ci:Nat) :
  Calls Tryz.prog 21 #[.pointer none,.agg #[.slice a mm cap],.slice none 0 0,.slice ia N' ci,.int .i64 0] w fun e w'=>e = .returned (.bool false)∧Touch No w w':=by
 obtain⟨w1,hw1,t1,R1⟩:=box_row w [.slice a mm cap] 24;have C1:=Lib.hid (worldOut_nil w1);have C2:=Lib.hid (worldSeen_nil w1);have HT1:=Lib.hid t1;clear t1 R1;go_enter Tryz.func21,Tryz.ntmps21;go_upto_region 1 with fail;rw[← hw1];clear hw1;go_wp2_with fail;refine C1.out.mono ?_;rintro e w2 ⟨rfl,rfl⟩;clear C1;go_wp2_with fail;refine C2.out.mono ?_;rintro e w3 ⟨rfl,t3⟩;have T3:=Lib.hid (HT1.out.trans t3);clear C2 t3;go_wp2;go_ret;exact⟨rfl,T3.out.trans ((Touch.refl No _).alloc _)⟩
end
end Go.Proofs.YtjlphmmalebgpaaGreat
