/-
  A part of the proof.
-/
import Derived.Test.YtjlphmmalebgpaaGreatK26
import Derived.Deep.CutBlock
set_option linter.unusedSimpArgs false
set_option linter.unusedVariables false
set_option maxHeartbeats 2000000
set_option maxRecDepth 100000
namespace Go.Proofs.YtjlphmmalebgpaaGreat
section
open Go Go.RowKit
theorem toldOf2_in (w:World)(b o n c k:Nat)(sa:Option Addr)(n' c':Nat)(h1:w.cell? ⟨b,o+k,none⟩=some (.slice sa n' c'))(hk:k<n) :
  Calls Tryz.prog 135 #[.agg #[.slice (some ⟨b,o,none⟩) n c],.int .i64 ((k:Nat):Int)] w fun e w'=>e = .returned (.slice sa n' c')∧Touch No w w':=by
 have hkn:(k:Int)<(n:Nat):=by omega
 have k1:∀ob,(w.alloc ob).cell? ⟨b,o+k,none⟩=some (.slice sa n' c'):=fun ob=>((Touch.refl No w).alloc ob).cell id h1
 clear hk h1;go_enter Tryz.func135,Tryz.ntmps135;go_wp2;go_ret;exact⟨rfl,(Touch.refl No w).alloc _⟩
def GsMid (w wx:World)(O:Option (List Nat))(s4:Value):Prop :=
 ∃(l:List Nat) (sa:Option Addr) (n c:Nat),s4 = .slice sa n c∧l.length=n∧n≤c∧n≤4∧(sa=none→n=0∧c=0)∧Rd wx sa (nums .i64 l)∧(Ar.shape (Me.zs l)=true→O=some l)∧(Ar.shape (Me.zs l)=false→O=none)∧Touch No w wx
theorem gsMid_nil {w wx:World}{O:Option (List Nat)}(hO:O=none)(t:Touch No w wx):GsMid w wx O (.slice none 0 0) :=
 ⟨[],none,0,0,rfl,rfl,Nat.le_refl _,by omega,fun _=>⟨rfl,rfl⟩,Rd.nil _ _,fun h=>(by simp[Me.zs,Ar.shape]at h),fun _=>hO,t⟩
theorem gsMid_some {w wx:World}{O:Option (List Nat)}{l:List Nat}{sa:Option Addr}{n c:Nat}(hO:O=some l)(ok:Me.Ok l)(hn:l.length=n)(hc:n≤c)(hr:Rd wx sa (nums .i64 l))(t:Touch No w wx):GsMid w wx O (.slice sa n c) :=
 ⟨l,sa,n,c,rfl,hn,hc,by rw[← hn];exact ok.four,(fun e=>by
  have h1:=ok.one;obtain⟨b,o,e2,_⟩:=hr.num (i:=0) (by omega);rw[e]at e2;cases e2),hr,fun _=>hO,(fun h=>by rw[ok.shape]at h;cases h),t⟩
def GsOut (w:World)(O:Option (List Nat))(e:Ending)(w':World):Prop :=
 ∃(l:List Nat) (sa:Option Addr),e = .returned (.slice sa l.length l.length)∧TRd w' 3 sa (nums .i64 l)∧l.length≤4∧(Ar.shape (Me.zs l)=true→O=some l)∧(Ar.shape (Me.zs l)=false→O=none)∧Touch No w w'
theorem graphShape_in (w:World)(ia sa ta:Option Addr)(n c n' c' ti tc:Nat)(x:Me.Node)(acc:List (List Nat))(hx:NIn w ia n c sa n' c' x)(hok:Me.NodeOk x)(hah:Me.Ahead x.inn acc.length)(hacc:SsIn w ta acc)(hti:acc.length=ti)(hokA:Me.OkAll acc)(h32:ti≤1000) :
  Calls Tryz.prog 134 #[nodeV ia n c sa n' c' x,.func (.func 135) #[.agg #[.slice ta ti tc]] #[]] w (GsOut w (Me.shapeOf x (Me.ins acc x.inn))):=by
 obtain⟨I,hi0,hi1,hi2,hi3⟩:=info_LI;have HI:=Lib.hid (aI hi0 (aI hi1 (aI hi2 hi3)));obtain⟨kd,inn,shape,N,P⟩:=x;dsimp only at hah;obtain⟨A,hA,hK⟩:=hok;have hn:inn.length=n:=hx.il
 have hn4:n≤4:=by
  rw[← hn];have:=hK.me
  have h4:A.most≤4:=by
   unfold Me.asks at hA;dsimp only at hA
   repeat' (first|(split at hA)|(cases hA;decide)|(cases hA))
  dsimp only at this;omega
 have HX:=Lib.hid hx;have HAK:=Lib.hid (aI hA hK);have HAH:=Lib.hid hah;have HAC:=Lib.hid (aI hacc (aI hti hokA));obtain⟨O,hO⟩:∃O,Me.shapeOf ⟨kd,inn,shape,N,P⟩ (Me.ins acc inn)=O:=⟨_,rfl⟩;rw[hO];have HO:=Lib.hid hO;clear hx hA hK hah hacc hti hokA hi0 hi1 hi2 hi3 hn hO;unfold nodeV;dsimp only;go_enter Tryz.func134,Tryz.ntmps134;go_wp2_with fail;obtain⟨w1,hw1,t1,R1⟩:=box_row w [.int .u8 ((kd:Nat):Int),.slice ia n c,.slice sa n' c',.int .i64 N,.int .i64 P] 55;rw[← hw1];have HT1:=Lib.hid t1;have HR1:=Lib.hid R1;clear hw1 t1 R1
 go_loopg [5,11] n (fun gh s5 s11 wr=>∃(k:Nat) (v:Value),k+gh=n∧s11 = .int .i64 ((k:Nat):Int)∧v=s5∧Hid (Touch No w1 wr)∧Hid (∃vs,Own wr w1.heap.size 48 v vs∧ShV w1 vs (Me.ins acc (inn.take k))))
 case atStart=>exact⟨0,_,by omega,rfl,rfl,Touch.refl _ _,[],Own.nil _ _ _,by simp only[List.take_zero];exact ShV.nil _⟩
 case round =>
  obtain⟨k,v,hkn,rfl,rfl,T,HV⟩:=hrel;have TW:Hid (Touch No w wr):=HT1.out.trans T.out;cases gk with
  | succ g' =>
    have hkn':(k:Int)<(n:Nat):=by omega
    have hkl:k<inn.length:=by have:=HX.out.il;dsimp only at this;omega
    obtain⟨bi,oi,rfl,ci⟩:=(HX.out.ir.no TW.out).int (i:=k) hkl;have HTK:=Lib.hid (ins_take (acc:=acc) hkl);have hym:=HAH.out _ (show inn.getD k 0∈inn by rw[Lgd,Lge hkl];exact List.getElem_mem hkl);obtain⟨y,hyy⟩:∃y,inn.getD k 0=y:=⟨_,rfl⟩;rw[hyy]at ci HTK hym;clear hyy;obtain⟨Yn,rfl⟩:∃Yn:Nat,y=((Yn:Nat):Int):=⟨y.toNat,by omega⟩;have hYn:Yn<acc.length:=by omega
    obtain⟨b5,o5,sa5,n5,c5,rfl,e1,e2,e3,e4⟩:=HAC.out.1 Yn hYn;have C:=Lib.hid (toldOf2_in wr b5 o5 ti tc Yn sa5 n5 c5 (TW.out.cell id e1) (by rw[← HAC.out.2.1];exact hYn));obtain⟨vs,OW0,HV0⟩:=HV.out;have hvl:vs.length=k:=by rw[HV0.1,Me.ins_length,List.length_take];omega
    have HVN:Hid (ShV w1 (vs ++ [.slice sa5 n5 c5]) (Me.ins acc (inn.take (k+1)))):=by
     show ShV _ _ _
     rw[HTK.out,Int.toNat_natCast];exact HV0.push (e4.no HT1.out) e2 e3
    have Hvl:=Lib.hid hvl;have OW1:=Lib.hid OW0;clear HV0 HV e1 e2 e3 e4 HTK hym hYn hvl OW0 hkl;go_wp2_with fail;refine C.out.mono ?_;rintro e w2 ⟨rfl,t2⟩;have OW:=Lib.hid (OW1.out.touch t2 (fun _ _ _ f=>f));have T2:Hid (Touch No w1 w2):=T.out.trans t2;clear t2 C OW1;go_wp2_with (at_builtin;refine wpList_append1 rfl _ _ _ rfl w1.heap.size _ I _ 24 Tryz.underlying75 HI.out.1 HI.out.2.1 HI.out.2.2.1 HI.out.2.2.2 rfl _ _ _ OW.out rfl rfl rfl (by have:=Hvl.out;unfold maxLen;omega) (by have:=Hvl.out;omega) T2.out.size ?_;intro v' w3 hown3 ht3)
    go_roundg g'
    case measure=>omega
    case rel=>exact⟨k+1,v',by omega,by go_num,rfl,T2.out.then ht3 (fun i hi e=>absurd ((OW.out.block e).1) (by omega)),_,hown3,HVN.out⟩
  | zero =>
    obtain rfl:n=k:=by omega
    obtain⟨vs,OW0,HV0⟩:=HV.out;have hin:inn.length=n:=HX.out.il;rw[List.take_of_length_le (by omega)]at HV0;have hsl:(Me.ins acc inn).length=n:=by rw[Me.ins_length];exact hin
    obtain⟨a8,c8,rfl,hc8,_⟩:=OW0.form' (n:=n) (by rw[HV0.1,hsl]);have hokI:=HAC.out.2.2.ins HAH.out;have hS8:=HV0.ss OW0 T.out;obtain⟨Ss,hSs⟩:∃Ss,Me.ins acc inn=Ss:=⟨_,rfl⟩;rw[hSs]at hsl hokI hS8 HO;have HS:=Lib.hid (aI hS8 (aI hsl hokI));have HXr:=Lib.hid (HX.out.no TW.out);have y0:=(HR1.out.touch T.out id).cell 0;simp only[Lz0]at y0;have HRr:=Lib.hid (HR1.out.touch T.out id);clear OW0 HV0 HV hin hsl hokI hS8 hSs HX HR1 HT1 T HAH HAC HI;go_upto_block 2 with fail
    go_cut [4,23] (fun s4 s23 wx=>Hid (GsMid w wx O s4))
    case first =>
     have h1:=HAK.out.2.le;have h2:=HAK.out.2.me;have h3:=HAK.out.2.lo;have h4:=HAK.out.2.hi;have h5:=HAK.out.2.sh;have hA:=HAK.out.1;have hin:inn.length=n:=HXr.out.il;dsimp only at hA h1 h2 h3 h4 h5;rw[hin]at h1 h2
     have hk13:1≤kd∧kd≤13:=by
      rcases Nat.lt_or_ge 0 kd with h|h
      ·rcases Nat.lt_or_ge 13 kd with h'|h'
       ·rw[Me.asks_none (by omega)]at hA;cases hA
       ·omega
      ·rw[Me.asks_none (by omega)]at hA;cases hA
     have hc:kd=1∨kd=2∨kd=3∨kd=4∨kd=5∨kd=6∨kd=7∨kd=8∨kd=9∨kd=10∨kd=11∨kd=12∨kd=13:=by omega
     clear hk13 hin HAK;rcases hc with rfl|rfl|rfl|rfl|rfl|rfl|rfl|rfl|rfl|rfl|rfl|rfl|rfl <;> simp only[Me.asks]at hA <;> simp at hA <;> subst hA <;> simp[Me.ShapedOk]at h1 h2 h3 h4 h5
     ·have hO:O=some (Me.nats shape):=HO.out.symm
      have hz:=Me.ok_nats h5;have HG:Hid (GsMid w wr O (.slice sa n' c')):=gsMid_some hO hz.2 (by rw[Me.nats_length];exact HXr.out.sl) HXr.out.sc (by rw[← zs_ints,hz.1];exact HXr.out.sr) TW.out;have y2:=HRr.out.cell 2;simp only[Lz0,Ls0]at y2;clear hO hz h1 h2 h3 h4 h5;go_wp2_with fail;go_meet;exact HG
     ·have hO:O=some (Me.nats shape):=HO.out.symm
      have hz:=Me.ok_nats h5;have HG:Hid (GsMid w wr O (.slice sa n' c')):=gsMid_some hO hz.2 (by rw[Me.nats_length];exact HXr.out.sl) HXr.out.sc (by rw[← zs_ints,hz.1];exact HXr.out.sr) TW.out;have y2:=HRr.out.cell 2;simp only[Lz0,Ls0]at y2;clear hO hz h1 h2 h3 h4 h5;go_wp2_with fail;go_meet;exact HG
     ·have hk1:0<Ss.length:=by rw[HS.out.2.1];omega
      obtain⟨b8,o8,s0,n0,c0,rfl,q1,q2,q3,q4⟩:=HS.out.1 0 hk1;rw[Nat.add_zero]at q1;have hk0:(0:Int)<(n:Nat):=by omega
      have hk0n:0<n:=by omega
      have ok0:=HS.out.2.2 0 hk1;have hn04:n0≤4:=by rw[← q2];exact ok0.four
      have HQ:=Lib.hid (aI q1 (aI q2 (aI q3 q4)));have HOK0:=Lib.hid ok0;have hk2:1<Ss.length:=by rw[HS.out.2.1];omega
      obtain⟨b9,o9,s1,n1,c1,e,p1,p2,p3,p4⟩:=HS.out.1 1 hk2;cases e
      have hk1':(1:Int)<(n:Nat):=by omega
      have ok1:=HS.out.2.2 1 hk2;have HP:=Lib.hid (aI p1 (aI p2 (aI p3 p4)));have HOK1:=Lib.hid ok1;clear hk1 hk2 q2 q3 q4 ok0 p2 p3 p4 ok1;have hO:O=if Me.sh Ss 0=Me.sh Ss 1 then some (Me.sh Ss 0) else none:=HO.out.symm
      have HOO:=Lib.hid hO
      have C:Hid (∀p:KW wr,Calls Tryz.prog 46 #[.slice s0 n0 c0,.slice s1 n1 c1] p.wd fun e w'=>e = .returned (.bool (decide (Me.sh Ss 0=Me.sh Ss 1)))∧Touch No p.wd w'):=fun p=>by
       have:=equalI_any p.wd s0 s1 n0 c0 n1 c1 (Me.zs (Me.sh Ss 0)) (Me.zs (Me.sh Ss 1)) (by rw[zs_ints];exact HQ.out.2.2.2.no p.no) (by rw[Me.zs_length];exact HQ.out.2.1) (by rw[zs_ints];exact HP.out.2.2.2.no p.no) (by rw[Me.zs_length];exact HP.out.2.1) (by omega);rw[show decide (Me.zs (Me.sh Ss 0)=Me.zs (Me.sh Ss 1))=decide (Me.sh Ss 0=Me.sh Ss 1) from decide_eq_decide.2 ⟨Me.zs_inj,congrArg _⟩]at this;exact this
      have u0:=KW.cell q1;have u1:=KW.cell p1;clear hO h1 h2 h3 h4 h5 q1 p1;go_wp2_with fail;refine wp_region_kept (by kernel_rfl) (by kernel_rfl) ?_;repeat (first|go_big_quiet_step (with_reducible exact Calls.kept_of (C.out _))|quiet_step (with_reducible exact Calls.kept_of (C.out _)))
      refine wpQuiet_nil ?_;intro _ hw';obtain⟨kw,hw''⟩:=hw';subst hw'';obtain⟨wk,tk⟩:=kw;have tk:=Lib.hid tk;dsimp only;have TT:Hid (Touch No w wk):=TW.out.trans tk.out;have q1:=tk.out.cell id HQ.out.1;clear u0 u1 C
      by_cases hq:Me.sh Ss 0=Me.sh Ss 1
      ·have HG:Hid (GsMid w wk O (.slice s0 n0 c0)):=gsMid_some (by rw[HOO.out,if_pos hq]) HOK0.out HQ.out.2.1 HQ.out.2.2.1 (HQ.out.2.2.2.no tk.out) TT.out
       rw[decide_eq_true hq];clear hq;go_wp2_with fail;go_meet;exact HG
      ·have HG:Hid (GsMid w wk O (.slice none 0 0)):=gsMid_nil (by rw[HOO.out,if_neg hq]) TT.out
       rw[decide_eq_false hq];clear hq;go_wp2_with fail;go_meet;exact HG
     ·have hk1:0<Ss.length:=by rw[HS.out.2.1];omega
      obtain⟨b8,o8,s0,n0,c0,rfl,q1,q2,q3,q4⟩:=HS.out.1 0 hk1;rw[Nat.add_zero]at q1;have hk0:(0:Int)<(n:Nat):=by omega
      have hk0n:0<n:=by omega
      have ok0:=HS.out.2.2 0 hk1;have hn04:n0≤4:=by rw[← q2];exact ok0.four
      have HQ:=Lib.hid (aI q1 (aI q2 (aI q3 q4)));have HOK0:=Lib.hid ok0;have hk2:1<Ss.length:=by rw[HS.out.2.1];omega
      obtain⟨b9,o9,s1,n1,c1,e,p1,p2,p3,p4⟩:=HS.out.1 1 hk2;cases e
      have hk1':(1:Int)<(n:Nat):=by omega
      have ok1:=HS.out.2.2 1 hk2;have HP:=Lib.hid (aI p1 (aI p2 (aI p3 p4)));have HOK1:=Lib.hid ok1;clear hk1 hk2 q2 q3 q4 ok0 p2 p3 p4 ok1;have hO:O=if Me.sh Ss 0=Me.sh Ss 1 then some (Me.sh Ss 0) else none:=HO.out.symm
      have HOO:=Lib.hid hO
      have C:Hid (∀p:KW wr,Calls Tryz.prog 46 #[.slice s0 n0 c0,.slice s1 n1 c1] p.wd fun e w'=>e = .returned (.bool (decide (Me.sh Ss 0=Me.sh Ss 1)))∧Touch No p.wd w'):=fun p=>by
       have:=equalI_any p.wd s0 s1 n0 c0 n1 c1 (Me.zs (Me.sh Ss 0)) (Me.zs (Me.sh Ss 1)) (by rw[zs_ints];exact HQ.out.2.2.2.no p.no) (by rw[Me.zs_length];exact HQ.out.2.1) (by rw[zs_ints];exact HP.out.2.2.2.no p.no) (by rw[Me.zs_length];exact HP.out.2.1) (by omega);rw[show decide (Me.zs (Me.sh Ss 0)=Me.zs (Me.sh Ss 1))=decide (Me.sh Ss 0=Me.sh Ss 1) from decide_eq_decide.2 ⟨Me.zs_inj,congrArg _⟩]at this;exact this
      have u0:=KW.cell q1;have u1:=KW.cell p1;clear hO h1 h2 h3 h4 h5 q1 p1;go_wp2_with fail;refine wp_region_kept (by kernel_rfl) (by kernel_rfl) ?_;repeat (first|go_big_quiet_step (with_reducible exact Calls.kept_of (C.out _))|quiet_step (with_reducible exact Calls.kept_of (C.out _)))
      refine wpQuiet_nil ?_;intro _ hw';obtain⟨kw,hw''⟩:=hw';subst hw'';obtain⟨wk,tk⟩:=kw;have tk:=Lib.hid tk;dsimp only;have TT:Hid (Touch No w wk):=TW.out.trans tk.out;have q1:=tk.out.cell id HQ.out.1;clear u0 u1 C
      by_cases hq:Me.sh Ss 0=Me.sh Ss 1
      ·have HG:Hid (GsMid w wk O (.slice s0 n0 c0)):=gsMid_some (by rw[HOO.out,if_pos hq]) HOK0.out HQ.out.2.1 HQ.out.2.2.1 (HQ.out.2.2.2.no tk.out) TT.out
       rw[decide_eq_true hq];clear hq;go_wp2_with fail;go_meet;exact HG
      ·have HG:Hid (GsMid w wk O (.slice none 0 0)):=gsMid_nil (by rw[HOO.out,if_neg hq]) TT.out
       rw[decide_eq_false hq];clear hq;go_wp2_with fail;go_meet;exact HG
     ·have hk1:0<Ss.length:=by rw[HS.out.2.1];omega
      obtain⟨b8,o8,s0,n0,c0,rfl,q1,q2,q3,q4⟩:=HS.out.1 0 hk1;rw[Nat.add_zero]at q1;have hk0:(0:Int)<(n:Nat):=by omega
      have hk0n:0<n:=by omega
      have ok0:=HS.out.2.2 0 hk1;have hn04:n0≤4:=by rw[← q2];exact ok0.four
      have HQ:=Lib.hid (aI q1 (aI q2 (aI q3 q4)));have HOK0:=Lib.hid ok0;clear hk1 q2 q3 q4 ok0;have hO:O=some (Me.sh Ss 0):=HO.out.symm;have HG:Hid (GsMid w wr O (.slice s0 n0 c0)):=gsMid_some hO HOK0.out HQ.out.2.1 HQ.out.2.2.1 HQ.out.2.2.2 TW.out;clear hO h1 h2 h3 h4 h5;go_wp2_with fail;go_meet;exact HG
     ·have hk1:0<Ss.length:=by rw[HS.out.2.1];omega
      obtain⟨b8,o8,s0,n0,c0,rfl,q1,q2,q3,q4⟩:=HS.out.1 0 hk1;rw[Nat.add_zero]at q1;have hk0:(0:Int)<(n:Nat):=by omega
      have hk0n:0<n:=by omega
      have ok0:=HS.out.2.2 0 hk1;have hn04:n0≤4:=by rw[← q2];exact ok0.four
      have HQ:=Lib.hid (aI q1 (aI q2 (aI q3 q4)));have HOK0:=Lib.hid ok0;clear hk1 q2 q3 q4 ok0;have hO:O=some (Me.sh Ss 0):=HO.out.symm;have HG:Hid (GsMid w wr O (.slice s0 n0 c0)):=gsMid_some hO HOK0.out HQ.out.2.1 HQ.out.2.2.1 HQ.out.2.2.2 TW.out;clear hO h1 h2 h3 h4 h5;go_wp2_with fail;go_meet;exact HG
     ·have hk1:0<Ss.length:=by rw[HS.out.2.1];omega
      obtain⟨b8,o8,s0,n0,c0,rfl,q1,q2,q3,q4⟩:=HS.out.1 0 hk1;rw[Nat.add_zero]at q1;have hk0:(0:Int)<(n:Nat):=by omega
      have hk0n:0<n:=by omega
      have ok0:=HS.out.2.2 0 hk1;have hn04:n0≤4:=by rw[← q2];exact ok0.four
      have HQ:=Lib.hid (aI q1 (aI q2 (aI q3 q4)));have HOK0:=Lib.hid ok0;have hk2:1<Ss.length:=by rw[HS.out.2.1];omega
      obtain⟨b9,o9,s1,n1,c1,e,p1,p2,p3,p4⟩:=HS.out.1 1 hk2;cases e
      have hk1':(1:Int)<(n:Nat):=by omega
      have ok1:=HS.out.2.2 1 hk2;have HP:=Lib.hid (aI p1 (aI p2 (aI p3 p4)));have HOK1:=Lib.hid ok1;clear hk1 hk2 q2 q3 q4 ok0 p2 p3 p4 ok1;have hO:O=Me.prodS (Me.sh Ss 0) (Me.sh Ss 1):=HO.out.symm;have HOO:=Lib.hid hO;have C:Hid (∀wx:World,Touch No wr wx→Calls Tryz.prog 184 #[.slice s0 n0 c0,.slice s1 n1 c1] wx (ShOut wx (Me.prodS (Me.sh Ss 0) (Me.sh Ss 1)))):=fun wx t=>prodShape_in wx s0 s1 n0 c0 n1 c1 _ _ HOK0.out HOK1.out (HQ.out.2.2.2.no t) HQ.out.2.1 (HP.out.2.2.2.no t) HP.out.2.1
      have S0:Hid (∀wx:World,Touch No wr wx→wx.cell? ⟨b8,o8,none⟩=some (.slice s0 n0 c0)∧wx.cell? ⟨b8,o8+1,none⟩=some (.slice s1 n1 c1)):=fun wx t=>⟨t.cell id HQ.out.1,t.cell id HP.out.1⟩
      have HOKO:Hid (∀s,Me.prodS (Me.sh Ss 0) (Me.sh Ss 1)=some s→Me.Ok s):=fun s h=>(Me.prod_ok HOK0.out HOK1.out h).1
      obtain⟨oo,hoo⟩:∃oo,Me.prodS (Me.sh Ss 0) (Me.sh Ss 1)=oo:=⟨_,rfl⟩;rw[hoo]at C HOO HOKO;clear hO hoo h1 h2 h3 h4 h5 q1 p1;cases oo with
      | none =>
        go_wp2_with fail
        go_region_held3 (fun w'=>w'.cell? ⟨b8,o8,none⟩=some (.slice s0 n0 c0)∧w'.cell? ⟨b8,o8+1,none⟩=some (.slice s1 n1 c1)) (first|exact S0.out _ (Touch.refl No wr).drew|exact S0.out _ T5.out.2) (first|(go_at_call 184;refine(C.out _ (Touch.refl No wr).drew).mono ?_;rintro e w5 ⟨x,hx0,rfl,t5⟩;have T5:Hid (True∧Touch No wr w5):=⟨trivial,(Touch.refl No wr).drew.trans t5⟩;clear hx0 t5))
        all_goals
         go_wp2_with fail;go_meet;exact gsMid_nil HOO.out (TW.out.trans T5.out.2)
      | some s =>
        go_wp2_with fail
        go_region_held3 (fun w'=>w'.cell? ⟨b8,o8,none⟩=some (.slice s0 n0 c0)∧w'.cell? ⟨b8,o8+1,none⟩=some (.slice s1 n1 c1)) (first|exact S0.out _ (Touch.refl No wr).drew|exact S0.out _ T5.out.2) (first|(go_at_call 184;refine(C.out _ (Touch.refl No wr).drew).mono ?_;rintro e w5 ⟨a5,c5,rfl,g1,g2,t5,_⟩;have T5:Hid ((s.length≤c5∧Rd w5 a5 (nums .i64 s))∧Touch No wr w5):=⟨⟨g1,g2⟩,(Touch.refl No wr).drew.trans t5⟩;clear g1 g2 t5))
        all_goals
         go_wp2_with fail;go_meet;exact gsMid_some HOO.out (HOKO.out s rfl) rfl T5.out.1.1 T5.out.1.2 (TW.out.trans T5.out.2)
     ·have hk1:0<Ss.length:=by rw[HS.out.2.1];omega
      obtain⟨b8,o8,s0,n0,c0,rfl,q1,q2,q3,q4⟩:=HS.out.1 0 hk1;rw[Nat.add_zero]at q1;have hk0:(0:Int)<(n:Nat):=by omega
      have hk0n:0<n:=by omega
      have ok0:=HS.out.2.2 0 hk1;have hn04:n0≤4:=by rw[← q2];exact ok0.four
      have HQ:=Lib.hid (aI q1 (aI q2 (aI q3 q4)));have HOK0:=Lib.hid ok0;have hk2:1<Ss.length:=by rw[HS.out.2.1];omega
      obtain⟨b9,o9,s1,n1,c1,e,p1,p2,p3,p4⟩:=HS.out.1 1 hk2;cases e
      have hk1':(1:Int)<(n:Nat):=by omega
      have ok1:=HS.out.2.2 1 hk2;have HP:=Lib.hid (aI p1 (aI p2 (aI p3 p4)));have HOK1:=Lib.hid ok1;clear hk1 hk2 q2 q3 q4 ok0 p2 p3 p4 ok1;have hO:O=Me.winS (Me.sh Ss 0) (Me.sh Ss 1) N P:=HO.out.symm;have HOO:=Lib.hid hO;have C:Hid (∀wx:World,Touch No wr wx→Calls Tryz.prog 185 #[.slice s0 n0 c0,.slice s1 n1 c1,.int .i64 N,.int .i64 P] wx (ShOut wx (Me.winS (Me.sh Ss 0) (Me.sh Ss 1) N P))):=fun wx t=>winShape_in wx s0 s1 n0 c0 n1 c1 N P _ _ HOK0.out HOK1.out (HQ.out.2.2.2.no t) HQ.out.2.1 (HP.out.2.2.2.no t) HP.out.2.1
      have S0:Hid (∀wx:World,Touch No wr wx→wx.cell? ⟨b8,o8,none⟩=some (.slice s0 n0 c0)∧wx.cell? ⟨b8,o8+1,none⟩=some (.slice s1 n1 c1)∧wx.cell? ⟨w.heap.size,3,none⟩=some (.int .i64 N)∧wx.cell? ⟨w.heap.size,4,none⟩=some (.int .i64 P)):=fun wx t=>⟨t.cell id HQ.out.1,t.cell id HP.out.1,t.cell id (HRr.out.cell 3),t.cell id (HRr.out.cell 4)⟩
      have HOKO:Hid (∀s,Me.winS (Me.sh Ss 0) (Me.sh Ss 1) N P=some s→Me.Ok s):=fun s h=>(Me.win_ok h).2.2
      obtain⟨oo,hoo⟩:∃oo,Me.winS (Me.sh Ss 0) (Me.sh Ss 1) N P=oo:=⟨_,rfl⟩;rw[hoo]at C HOO HOKO;clear hO hoo h1 h2 h3 h4 h5 q1 p1;cases oo with
      | none =>
        go_wp2_with fail
        go_region_held3 (fun w'=>w'.cell? ⟨b8,o8,none⟩=some (.slice s0 n0 c0)∧w'.cell? ⟨b8,o8+1,none⟩=some (.slice s1 n1 c1)∧w'.cell? ⟨w.heap.size,3,none⟩=some (.int .i64 N)∧w'.cell? ⟨w.heap.size,4,none⟩=some (.int .i64 P)) (first|exact S0.out _ (Touch.refl No wr).drew|exact S0.out _ T5.out.2) (first|(go_at_call 185;refine(C.out _ (Touch.refl No wr).drew).mono ?_;rintro e w5 ⟨x,hx0,rfl,t5⟩;have T5:Hid (True∧Touch No wr w5):=⟨trivial,(Touch.refl No wr).drew.trans t5⟩;clear hx0 t5))
        all_goals
         go_wp2_with fail;go_meet;exact gsMid_nil HOO.out (TW.out.trans T5.out.2)
      | some s =>
        go_wp2_with fail
        go_region_held3 (fun w'=>w'.cell? ⟨b8,o8,none⟩=some (.slice s0 n0 c0)∧w'.cell? ⟨b8,o8+1,none⟩=some (.slice s1 n1 c1)∧w'.cell? ⟨w.heap.size,3,none⟩=some (.int .i64 N)∧w'.cell? ⟨w.heap.size,4,none⟩=some (.int .i64 P)) (first|exact S0.out _ (Touch.refl No wr).drew|exact S0.out _ T5.out.2) (first|(go_at_call 185;refine(C.out _ (Touch.refl No wr).drew).mono ?_;rintro e w5 ⟨a5,c5,rfl,g1,g2,t5,_⟩;have T5:Hid ((s.length≤c5∧Rd w5 a5 (nums .i64 s))∧Touch No wr w5):=⟨⟨g1,g2⟩,(Touch.refl No wr).drew.trans t5⟩;clear g1 g2 t5))
        all_goals
         go_wp2_with fail;go_meet;exact gsMid_some HOO.out (HOKO.out s rfl) rfl T5.out.1.1 T5.out.1.2 (TW.out.trans T5.out.2)
     ·have hk1:0<Ss.length:=by rw[HS.out.2.1];omega
      obtain⟨b8,o8,s0,n0,c0,rfl,q1,q2,q3,q4⟩:=HS.out.1 0 hk1;rw[Nat.add_zero]at q1;have hk0:(0:Int)<(n:Nat):=by omega
      have hk0n:0<n:=by omega
      have ok0:=HS.out.2.2 0 hk1;have hn04:n0≤4:=by rw[← q2];exact ok0.four
      have HQ:=Lib.hid (aI q1 (aI q2 (aI q3 q4)));have HOK0:=Lib.hid ok0;clear hk1 q2 q3 q4 ok0;have hO:O=Me.poolS (Me.sh Ss 0) N:=HO.out.symm;have HOO:=Lib.hid hO;have C:Hid (∀wx:World,Touch No wr wx→Calls Tryz.prog 186 #[.slice s0 n0 c0,.int .i64 N] wx (ShOut wx (Me.poolS (Me.sh Ss 0) N))):=fun wx t=>poolShape_in wx s0 n0 c0 N _ HOK0.out (HQ.out.2.2.2.no t) HQ.out.2.1
      have S0:Hid (∀wx:World,Touch No wr wx→wx.cell? ⟨b8,o8,none⟩=some (.slice s0 n0 c0)∧wx.cell? ⟨w.heap.size,3,none⟩=some (.int .i64 N)):=fun wx t=>⟨t.cell id HQ.out.1,t.cell id (HRr.out.cell 3)⟩
      have HOKO:Hid (∀s,Me.poolS (Me.sh Ss 0) N=some s→Me.Ok s):=fun s h=>(Me.poolS_ok HOK0.out h).2.2
      obtain⟨oo,hoo⟩:∃oo,Me.poolS (Me.sh Ss 0) N=oo:=⟨_,rfl⟩;rw[hoo]at C HOO HOKO;clear hO hoo h1 h2 h3 h4 h5 q1;cases oo with
      | none =>
        go_wp2_with fail
        go_region_held3 (fun w'=>w'.cell? ⟨b8,o8,none⟩=some (.slice s0 n0 c0)∧w'.cell? ⟨w.heap.size,3,none⟩=some (.int .i64 N)) (first|exact S0.out _ (Touch.refl No wr).drew|exact S0.out _ T5.out.2) (first|(go_at_call 186;refine(C.out _ (Touch.refl No wr).drew).mono ?_;rintro e w5 ⟨x,hx0,rfl,t5⟩;have T5:Hid (True∧Touch No wr w5):=⟨trivial,(Touch.refl No wr).drew.trans t5⟩;clear hx0 t5))
        all_goals
         go_wp2_with fail;go_meet;exact gsMid_nil HOO.out (TW.out.trans T5.out.2)
      | some s =>
        go_wp2_with fail
        go_region_held3 (fun w'=>w'.cell? ⟨b8,o8,none⟩=some (.slice s0 n0 c0)∧w'.cell? ⟨w.heap.size,3,none⟩=some (.int .i64 N)) (first|exact S0.out _ (Touch.refl No wr).drew|exact S0.out _ T5.out.2) (first|(go_at_call 186;refine(C.out _ (Touch.refl No wr).drew).mono ?_;rintro e w5 ⟨a5,c5,rfl,g1,g2,t5,_⟩;have T5:Hid ((s.length≤c5∧Rd w5 a5 (nums .i64 s))∧Touch No wr w5):=⟨⟨g1,g2⟩,(Touch.refl No wr).drew.trans t5⟩;clear g1 g2 t5))
        all_goals
         go_wp2_with fail;go_meet;exact gsMid_some HOO.out (HOKO.out s rfl) rfl T5.out.1.1 T5.out.1.2 (TW.out.trans T5.out.2)
     ·have hk1:0<Ss.length:=by rw[HS.out.2.1];omega
      obtain⟨b8,o8,s0,n0,c0,rfl,q1,q2,q3,q4⟩:=HS.out.1 0 hk1;rw[Nat.add_zero]at q1;have hk0:(0:Int)<(n:Nat):=by omega
      have hk0n:0<n:=by omega
      have ok0:=HS.out.2.2 0 hk1;have hn04:n0≤4:=by rw[← q2];exact ok0.four
      have HQ:=Lib.hid (aI q1 (aI q2 (aI q3 q4)));have HOK0:=Lib.hid ok0;clear hk1 q2 q3 q4 ok0;have hz:=Me.ok_nats h5;have hO:O=if Me.pr (Me.nats shape)=Me.pr (Me.sh Ss 0) then some (Me.nats shape) else none:=HO.out.symm
      have hL:(Me.nats shape).length=n':=by rw[Me.nats_length];exact HXr.out.sl
      have hr:Rd wr sa (nums .i64 (Me.nats shape)):=by rw[← zs_ints,hz.1];exact HXr.out.sr
      have HN:=Lib.hid (aI hz.2 (aI hL hr));obtain⟨x,hxx⟩:∃x,Me.pr (Me.sh Ss 0)=x:=⟨_,rfl⟩;obtain⟨y,hyy⟩:∃y,Me.pr (Me.nats shape)=y:=⟨_,rfl⟩;rw[hxx,hyy]at hO;have HOO:=Lib.hid hO;have D1:Hid (∀p:KW wr,Calls Tryz.prog 160 #[.slice s0 n0 c0] p.wd fun e w'=>e = .returned (.int .i64 ((x:Nat):Int))∧Touch No p.wd w'):=fun p=>(size_ok (c:=c0) (HQ.out.2.2.2.no p.no) HQ.out.2.1 HOK0.out hxx).mono fun e w' ⟨h,k⟩=>⟨h,k ▸ Touch.refl No _⟩
      have D2:Hid (∀p:KW wr,Calls Tryz.prog 160 #[.slice sa n' c'] p.wd fun e w'=>e = .returned (.int .i64 ((y:Nat):Int))∧Touch No p.wd w'):=fun p=>(size_ok (c:=c') (HN.out.2.2.no p.no) HN.out.2.1 HN.out.1 hyy).mono fun e w' ⟨h,k⟩=>⟨h,k ▸ Touch.refl No _⟩
      have u0:=KW.cell q1;have y2:=HRr.out.cell 2;simp only[Lz0,Ls0]at y2;have u2:=KW.cell y2;obtain⟨bb,hbb⟩:∃bb,((x:Int)==(y:Int))=bb:=⟨_,rfl⟩;clear hO h1 h2 h3 h4 h5 q1 hz hL hr hxx hyy y2;go_wp2_with fail;refine wp_region_kept (by kernel_rfl) (by kernel_rfl) ?_;repeat (first|go_big_quiet_step (first|with_reducible exact Calls.kept_of (D2.out _)|with_reducible exact Calls.kept_of (D1.out _))|quiet_step (first|with_reducible exact Calls.kept_of (D2.out _)|with_reducible exact Calls.kept_of (D1.out _)))
      refine wpQuiet_nil ?_;intro _ hw';obtain⟨kw,hw''⟩:=hw';subst hw'';obtain⟨wk,tk⟩:=kw;have tk:=Lib.hid tk;dsimp only;have TT:Hid (Touch No w wk):=TW.out.trans tk.out;have y2:=(HRr.out.touch tk.out id).cell 2;simp only[Lz0,Ls0]at y2;clear u0 u2 D1 D2
      by_cases hq:y=x
      ·have f1:bb=true:=by rw[← hbb];simp;omega
       subst f1;have HG:Hid (GsMid w wk O (.slice sa n' c')):=gsMid_some (by rw[HOO.out,if_pos hq]) HN.out.1 HN.out.2.1 HXr.out.sc (HN.out.2.2.no tk.out) TT.out;clear hq hbb;go_wp2_with fail;go_meet;exact HG
      ·have f1:bb=false:=by rw[← hbb];simp;omega
       subst f1;have HG:Hid (GsMid w wk O (.slice none 0 0)):=gsMid_nil (by rw[HOO.out,if_neg hq]) TT.out;clear hq hbb;go_wp2_with fail;go_meet;exact HG
     ·have hk1:0<Ss.length:=by rw[HS.out.2.1];omega
      obtain⟨b8,o8,s0,n0,c0,rfl,q1,q2,q3,q4⟩:=HS.out.1 0 hk1;rw[Nat.add_zero]at q1;have hk0:(0:Int)<(n:Nat):=by omega
      have hk0n:0<n:=by omega
      have ok0:=HS.out.2.2 0 hk1;have hn04:n0≤4:=by rw[← q2];exact ok0.four
      have HQ:=Lib.hid (aI q1 (aI q2 (aI q3 q4)));have HOK0:=Lib.hid ok0;clear hk1 q2 q3 q4 ok0;have hz:=Me.ord_nats h5;have hsl:shape.length=n':=HXr.out.sl;have hO:O=if shape.length=(Me.sh Ss 0).length then some (Me.turnS (Me.sh Ss 0) (Me.nats shape)) else none:=HO.out.symm
      rw[hsl,HQ.out.2.1]at hO;have HOO:=Lib.hid hO;have HZ:=Lib.hid hz;have Hsl:=Lib.hid hsl;have u0:=KW.cell q1;have y2:=HRr.out.cell 2;simp only[Lz0,Ls0]at y2;have u2:=KW.cell y2;clear hO h1 h2 h3 h4 h5 q1 hz hsl y2;go_wp2_with fail;refine wp_region_kept_tail 5 (by kernel_rfl) (by kernel_rfl) ?_;simp only[List.take_succ_cons,List.take_zero,List.drop_succ_cons,List.drop_zero];repeat (first|go_big_quiet_step (fail)|quiet_step (fail))
      refine wpQuiet_nil ?_;intro _ hw';obtain⟨kw,hw''⟩:=hw';subst hw'';obtain⟨wk,tk⟩:=kw;have tk:=Lib.hid tk;dsimp only;have TT:Hid (Touch No w wk):=TW.out.trans tk.out;clear u0 u2;go_wp2_with fail
      by_cases hq:n'=n0
      ·subst hq
       refine(grTurned_in wk s0 sa n' c0 c' (Me.sh Ss 0) (Me.nats shape) HQ.out.2.1 (by rw[Me.nats_length];exact Hsl.out) (by omega) (fun k hk=>by have:=HZ.out.2.lt k (by rw[Hsl.out];exact hk);rw[Hsl.out]at this;exact this) (HQ.out.2.2.2.no tk.out) (by rw[← zs_ints,HZ.out.1];exact HXr.out.sr.no tk.out)).mono ?_;rintro e w5 ⟨a5,c5,rfl,g1,g2,_,t5⟩;have HG:Hid (GsMid w w5 O (.slice a5 n' c5)):=gsMid_some (by rw[HOO.out,if_pos rfl]) (Me.ok_turnS HOK0.out (by rw[HQ.out.2.1];have:=HZ.out.2;rw[Hsl.out]at this;exact this)) (by rw[Me.turnS_length,Me.nats_length];exact Hsl.out) g1 g2 (TT.out.trans t5);clear g1 g2 t5;go_wp2_with fail;go_meet;exact HG
      ·refine(grTurned_no wk s0 sa n0 c0 n' c' (fun e=>hq e.symm)).mono ?_
       rintro e w5 ⟨rfl,rfl⟩;have HG:Hid (GsMid w wk O (.slice none 0 0)):=gsMid_nil (by rw[HOO.out,if_neg hq]) TT.out;clear hq;go_wp2_with fail;go_meet;exact HG
     ·have hO:O=Me.joinS Ss N.toNat:=HO.out.symm
      obtain⟨al,hal⟩:∃al,N.toNat=al:=⟨_,rfl⟩;have hN:N=((al:Nat):Int):=by omega
      rw[hal]at hO;clear hal;subst hN;have HOO:=Lib.hid hO;have y3:=HRr.out.cell 3;simp only[Lz0,Ls0]at y3;have C:=Lib.hid (joined_in wr a8 n c8 al Ss HS.out.1 HS.out.2.1 (by omega) hn4 hc8 (fun j hj=>HS.out.2.2 j (by rw[HS.out.2.1];exact hj)) (by omega));have hn1:0<n:=by omega
      clear hO h1 h2 h3 h4 h5;go_wp2_with fail;refine C.out.mono ?_;rintro e w5 ⟨⟨hP,a5,c5,rfl,g1,g2⟩|⟨hP,rfl⟩,t5⟩
      ·have HG:Hid (GsMid w w5 O (.slice a5 (Me.sh Ss 0).length c5)):=by
        have ok0:=HS.out.2.2 0 (by rw[HS.out.2.1];omega);refine⟨Me.joinT Ss al,a5,_,c5,rfl,by rw[Me.joinT,List.length_set],g1,ok0.four,fun e=>?_,g2,fun h=>?_,fun h=>?_,TW.out.trans t5⟩
        ·have h1:=ok0.one
         obtain⟨b,o,e2,_⟩:=g2.num (i:=0) (by rw[Me.joinT,List.length_set];omega);rw[e]at e2;cases e2
        ·rw[HOO.out];exact(Me.joinS_is Ss al).1 ⟨hP,Me.ok_iff.2 h⟩
        ·rw[HOO.out];exact(Me.joinS_is Ss al).2 fun k=>by rw[Me.ok_iff.1 k.2]at h;cases h
       clear hP g1 g2 t5;go_wp2_with fail;go_meet;exact HG
      ·have HG:Hid (GsMid w w5 O (.slice none 0 0)):=gsMid_nil (by rw[HOO.out];exact(Me.joinS_is Ss al).2 fun k=>hP k.1) (TW.out.trans t5)
       clear hP t5;go_wp2_with fail;go_meet;exact HG
     ·have hk1:0<Ss.length:=by rw[HS.out.2.1];omega
      obtain⟨b8,o8,s0,n0,c0,rfl,q1,q2,q3,q4⟩:=HS.out.1 0 hk1;rw[Nat.add_zero]at q1;have hk0:(0:Int)<(n:Nat):=by omega
      have hk0n:0<n:=by omega
      have ok0:=HS.out.2.2 0 hk1;have hn04:n0≤4:=by rw[← q2];exact ok0.four
      have HQ:=Lib.hid (aI q1 (aI q2 (aI q3 q4)));have HOK0:=Lib.hid ok0;clear hk1 q2 q3 q4 ok0;have hO:O=if N.toNat<(Me.sh Ss 0).length then some (Me.without (Me.sh Ss 0) N.toNat) else none:=HO.out.symm
      obtain⟨al,hal⟩:∃al,N.toNat=al:=⟨_,rfl⟩;have hN:N=((al:Nat):Int):=by omega
      rw[hal]at hO;clear hal;subst hN;have HOO:=Lib.hid hO;have hn01:1≤n0:=by rw[← HQ.out.2.1];exact HOK0.out.one
      have u0:=KW.cell q1;have y3:=HRr.out.cell 3;simp only[Lz0,Ls0]at y3;have u2:=KW.cell y3;have hal6:al≤1000000:=by omega
      clear hO h1 h2 h3 h4 h5 q1 y3;go_wp2_with fail;refine wp_region_kept_tail 5 (by kernel_rfl) (by kernel_rfl) ?_;simp only[List.take_succ_cons,List.take_zero,List.drop_succ_cons,List.drop_zero];repeat (first|go_big_quiet_step (fail)|quiet_step (fail))
      refine wpQuiet_nil ?_;intro _ hw';obtain⟨kw,hw''⟩:=hw';subst hw'';obtain⟨wk,tk⟩:=kw;have tk:=Lib.hid tk;dsimp only;have TT:Hid (Touch No w wk):=TW.out.trans tk.out;clear u0 u2;go_wp2_with fail;refine(without_in wk s0 n0 c0 al (Me.sh Ss 0) (HQ.out.2.2.2.no tk.out) HQ.out.2.1 hn01 hn04 hal6).mono ?_;rintro e w5 ⟨⟨hP,a5,c5,rfl,g1,g2⟩|⟨hP,rfl⟩,t5⟩
      ·have HG:Hid (GsMid w w5 O (.slice a5 (Me.without (Me.sh Ss 0) al).length c5)):=gsMid_some (by rw[HOO.out,if_pos hP]) (Me.ok_without HOK0.out hP) rfl g1 g2 (TT.out.trans t5)
       clear hP g1 g2 t5;go_wp2_with fail;go_meet;exact HG
      ·have HG:Hid (GsMid w w5 O (.slice none 0 0)):=gsMid_nil (by rw[HOO.out,if_neg hP]) (TT.out.trans t5)
       clear hP t5;go_wp2_with fail;go_meet;exact HG
    case rest =>
    obtain⟨l,sl,n4,c4,rfl,hl,hc4,hn44,hnil,hr,hy,hno,t⟩:=hcut.out;have HM:=Lib.hid (aI hl (aI hr (aI hy (aI hno t))));clear hcut hl hr hy hno t;cases sl with
    | none =>
      obtain⟨rfl,rfl⟩:=hnil rfl
      have C:∀wx:World,Calls Tryz.prog 91 #[.slice none 0 0] wx fun e w'=>e = .returned (.slice none 0 0)∧wx=w':=fun wx=>by
       have hq:=fun(w:World) (a:Option Addr) (n c n' c':Nat)=>Lib.run_eql_slice_nil (P:=Tryz.prog) w 48 3 a n c n' c' Tryz.underlying48
       go_enter Tryz.func91,Tryz.ntmps91;go_wp2;go_ret;exact⟨rfl,rfl⟩
      have C:=Lib.hid C;go_wp2_with fail;refine(C.out _).mono ?_;rintro e w' ⟨rfl,rfl⟩;go_wp2_with fail;refine(clipI_any _ none 0 0 (Nat.le_refl _)).mono ?_;rintro e w' ⟨rfl,rfl⟩;go_wp2;go_ret;exact⟨l,none,by rw[HM.out.1];rfl,⟨HM.out.2.1,fun ad e=>by cases e⟩,by rw[HM.out.1];exact hn44,HM.out.2.2⟩
    | some ad =>
      have C:=Lib.hid (cloneI_own wc (some ad) n4 c4 (Me.zs l) (by simp) (by rw[Me.ints_zs];exact HM.out.2.1) (by rw[Me.zs_length];exact HM.out.1) (by omega));go_wp2_with fail;refine C.out.mono ?_;rintro e w5 ⟨a5,c5,rfl,o5,hc5,t5⟩;rw[Me.ints_zs]at o5;have H5:Hid (TRd w5 3 a5 (nums .i64 l)∧Touch No w w5):=⟨TRd.of_own o5,HM.out.2.2.2.2.trans t5⟩;clear o5 t5 C;go_wp2_with fail;refine(clipI_any _ a5 n4 c5 hc5).mono ?_;rintro e w' ⟨rfl,rfl⟩;go_wp2;go_ret;exact⟨l,a5,by rw[HM.out.1];rfl,H5.out.1,by rw[HM.out.1];exact hn44,HM.out.2.2.1,HM.out.2.2.2.1,H5.out.2⟩
end
section
open Go Go.RowKit
section
variable {P:Program} {ops:Array Oper} {Q:Exit→Act→World→Prop} {md:Region.Mode}
theorem countP_less {l:List Nat}{p q:Nat→Bool}(h:∀j∈l,p j=true→q j=true){i:Nat}(hi:i∈l)(hq:q i=true)(hp:p i=false):l.countP p<l.countP q:=by
 induction l with
 | nil=>cases hi
 | cons x l ih =>
   have hle:l.countP p≤l.countP q:=List.countP_mono_left fun j hj=>h j (List.mem_cons_of_mem _ hj)
   rw[List.countP_cons,List.countP_cons];rcases List.mem_cons.1 hi with rfl|hi
   ·rw[if_pos hq,if_neg (by rw[hp];decide)];omega
   ·have h1:=ih (fun j hj=>h j (List.mem_cons_of_mem _ hj)) hi
    by_cases hx:p x=true
    ·rw[if_pos hx,if_pos (h x List.mem_cons_self hx)];omega
    ·rw[if_neg hx];split <;> omega
def upd (f:Nat→Bool)(i:Nat)(j:Nat):Bool:=f j||decide (j=i)
theorem upd_set {L:Array Bool}{i:Nat}(hi:i<L.size):(fun j=>(L.setIfInBounds i true).getD j false)=upd (fun j=>L.getD j false) i:=by
 funext j;unfold upd
 by_cases h:j=i
 ·subst h;simp[hi]
 ·have:(L.setIfInBounds i true).getD j false=L.getD j false:=by
   rw[Array.getD_eq_getD_getElem?,Array.getD_eq_getD_getElem?,Array.getElem?_setIfInBounds_ne (fun e=>h e.symm)]
  rw[this];simp[h]
def acB (ops:Array Oper):Bool:=(List.range ops.size).all fun i=>match ops[i]? with|some o=>o.after.toList.all (fun e=>decide (e.on<i))|none=>true
theorem acyclic_of (h:acB ops=true):∀(i:Nat) (o:Oper),ops[i]? = some o→∀e∈o.after,Region.binds md e=true→e.on<i:=fun i o ho e he _=>by
 unfold acB at h;rw[List.all_eq_true]at h;have h1:=h i (List.mem_range.2 (Array.getElem?_eq_some_iff.1 ho).1);rw[ho]at h1;dsimp only at h1;rw[List.all_eq_true]at h1;exact of_decide_eq_true (h1 e (by simpa using he))
theorem all_done {L:Array Bool}(hac:∀(i:Nat) (o:Oper),ops[i]? = some o→∀e∈o.after,Region.binds md e=true→e.on<i)(hL:L.size=ops.size)(hr:Region.ready md ops L=[]):∀i,i<ops.size→L.getD i false=true:=by
 intro i
 induction i using Nat.strongRecOn with
 | _ i ih =>
   intro hi;cases h:L.getD i false with
   | true=>rfl
   | false =>
     exfalso
     have hm:i∈Region.ready md ops L:=by
      unfold Region.ready;rw[List.mem_filter];refine⟨List.mem_range.2 hi,?_⟩
      have h1:L.getD i true=false:=by
       rw[Array.getD_eq_getD_getElem?,Array.getElem?_eq_getElem (by omega)]at h ⊢
       simpa using h
      rw[h1,Array.getElem?_eq_getElem hi];simp only[Bool.not_false,Bool.true_and,Option.map_some,Option.getD_some];rw[Array.all_eq_true];intro k hk;cases hb:Region.binds md ops[i].after[k] with
      | false=>rfl
      | true =>
        have hlt:=hac i _ (Array.getElem?_eq_getElem hi) ops[i].after[k] (Array.getElem_mem hk) hb;rw[ih _ hlt (by omega)];rfl
     rw[hr]at hm;cases hm
theorem wpAny_inv (Inv:(Nat→Bool)→Act→World→Prop)(hac:∀(i:Nat) (o:Oper),ops[i]? = some o→∀e∈o.after,Region.binds md e=true→e.on<i)
  (hstep:∀(f:Nat→Bool) (a:Act) (w:World) (i:Nat) (o:Oper),ops[i]? = some o→f i=false→(∀e∈o.after,Region.binds md e=true→f e.on=true)→Inv f a w→wpOp P ops Q i (Inv (upd f i)) a w)
  (hend:∀(f:Nat→Bool) (a:Act) (w:World),(∀i,i<ops.size→f i=true)→Inv f a w→Q .normal a w) :
  ∀(fuel:Nat) (L:Array Bool) (a:Act) (w:World),L.size=ops.size→(List.range ops.size).countP (fun j=>!L.getD j true)≤fuel→Inv (fun j=>L.getD j false) a w→wpAny P md ops Q fuel L a w:=by
 intro fuel
 induction fuel with
 | zero =>
   intro L a w hL hc hI
   have hr:Region.ready md ops L=[]:=by
    cases h:Region.ready md ops L with
    | nil=>rfl
    | cons i r =>
      exfalso;have hi:i∈Region.ready md ops L:=by rw[h];exact List.mem_cons_self
      obtain⟨h1,o,ho,_⟩:=mem_ready.1 hi;have hlt:i<ops.size:=(Array.getElem?_eq_some_iff.1 ho).1;have:0<(List.range ops.size).countP (fun j=>!L.getD j true):=List.countP_pos_iff.2 ⟨i,List.mem_range.2 hlt,by rw[h1];rfl⟩;omega
   exact⟨hr,hend _ _ _ (all_done hac hL hr) hI⟩
 | succ fuel ih =>
   intro L a w hL hc hI;refine⟨fun hr=>hend _ _ _ (all_done hac hL hr) hI,fun i hi=>?_⟩;obtain⟨h1,o,ho,hall⟩:=mem_ready.1 hi;have hlt:i<ops.size:=(Array.getElem?_eq_some_iff.1 ho).1
   have hf:L.getD i false=false:=by
    rw[Array.getD_eq_getD_getElem?,Array.getElem?_eq_getElem (by omega)]at h1 ⊢
    simpa using h1
   refine wpOp_mono (fun a' w' h=>?_) (hstep _ a w i o ho hf (fun e he hb=>?_) hI)
   ·refine ih _ a' w' (by simpa using hL) ?_ (by rw[upd_set (by omega)];exact h)
    have:(List.range ops.size).countP (fun j=>!(L.setIfInBounds i true).getD j true)<(List.range ops.size).countP (fun j=>!L.getD j true):=by
     refine countP_less (i:=i) (fun j _ hj=>?_) (List.mem_range.2 hlt) (by rw[h1];rfl) ?_
     ·by_cases hji:j=i
      ·subst hji;rw[h1];rfl
      ·rw[getD_set_ne true (fun e=>hji e.symm)]at hj;exact hj
     ·simp[Array.getD_eq_getD_getElem?,show i<L.size by omega]
    omega
   ·have:=hall e he hb
    exact this
theorem wp_region_inv {id:Nat}{a:Act}{w:World}(hm:P.follows .mixedOrders=true)(Inv:(Nat→Bool)→Act→World→Prop)(hac:∀(i:Nat) (o:Oper),ops[i]? = some o→∀e∈o.after,Region.binds .any e=true→e.on<i)
  (h0:Inv (fun _=>false) a w.drew)
  (hstep:∀(f:Nat→Bool) (a:Act) (w:World) (i:Nat) (o:Oper),ops[i]? = some o→f i=false→(∀e∈o.after,Region.binds .any e=true→f e.on=true)→Inv f a w→wpOp P ops Q i (Inv (upd f i)) a w)
  (hend:∀(f:Nat→Bool) (a:Act) (w:World),(∀i,i<ops.size→f i=true)→Inv f a w→Q .normal a w):(Code.region id ops true).wp P Q a w:=by
 refine wp_region_any hm (wpAny_inv Inv hac hstep hend _ _ _ _ (by simp) ?_ ?_)
 ·refine Nat.le_trans (List.countP_le_length) (by simp)
 ·have:(fun j=>(Array.replicate ops.size false).getD j false)=fun _=>false:=by
   funext j;rw[Array.getD_eq_getD_getElem?]
   by_cases h:j<ops.size <;> simp[h]
  rw[this];exact h0
end
end
end Go.Proofs.YtjlphmmalebgpaaGreat
