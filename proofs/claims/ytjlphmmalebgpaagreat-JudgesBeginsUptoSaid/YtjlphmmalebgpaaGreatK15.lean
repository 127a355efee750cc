/-
  A part of the proof.
-/
import Derived.Test.YtjlphmmalebgpaaGreatK14
set_option linter.unusedSimpArgs false
set_option linter.unusedVariables false
set_option maxHeartbeats 2000000
set_option maxRecDepth 100000
namespace Go.Proofs.YtjlphmmalebgpaaGreat
section
open Go Go.RowKit
namespace Me
def slide (n w s:Nat):Nat:=if n<w then 0 else (n-w) / s+1
def winT (S T:List Nat)(s p:Nat):List Nat:=[T.getD 0 0,slide (S.getD 1 0+2*p) (T.getD 2 0) s,slide (S.getD 2 0+2*p) (T.getD 3 0) s]
def WinOk (S T:List Nat)(st pd:Int):Prop:=(1≤st∧st≤8∧0≤pd∧pd≤8)∧(S.length=3∧T.length=4)∧S.getD 0 0=T.getD 1 0∧Ok (winT S T st.toNat pd.toNat)
open Classical in
noncomputable def winS (S T:List Nat) (st pd:Int):Option (List Nat):=if WinOk S T st pd then some (winT S T st.toNat pd.toNat) else none
theorem winS_some {S T:List Nat}{st pd:Int}(h:WinOk S T st pd):winS S T st pd=some (winT S T st.toNat pd.toNat):=if_pos h
theorem winS_none {S T:List Nat}{st pd:Int}(h:¬WinOk S T st pd):winS S T st pd=none:=if_neg h
end Me
theorem slides_in (w:World)(n k s v:Nat)(hn:n≤10000)(hk:k≤10000)(hs:1≤s)(hs2:s≤10000)(hv:Me.slide n k s=v) :
  Calls Tryz.prog 224 #[.int .i64 ((n:Nat):Int),.int .i64 ((k:Nat):Int),.int .i64 ((s:Nat):Int)] w fun e w'=>e = .returned (.int .i64 ((v:Nat):Int))∧w=w':=by
 have HV:=Lib.hid hv;clear hv
 by_cases h:n<k
 ·have f1:decide (n<k)=true:=by simp;omega
  have f2:decide ((n:Int)<(k:Nat))=true:=by simp;omega
  have HR:Hid (v=0):=by show _=_;rw[← HV.out,Me.slide,if_pos h]
  clear h;go_enter Tryz.func224,Tryz.ntmps224;go_wp2;go_ret;exact⟨by rw[HR.out];rfl,rfl⟩
 ·have f1:decide (n<k)=false:=by simp;omega
  have f2:decide ((n:Int)<(k:Nat))=false:=by simp;omega
  obtain⟨d,hd⟩:∃d,n-k=d:=⟨_,rfl⟩;obtain⟨q,hq⟩:∃q,d / s=q:=⟨_,rfl⟩;have hqd:q≤d:=by rw[← hq];exact Nat.div_le_self _ _
  have HR:Hid (v=q+1):=by show _=_;rw[← HV.out,Me.slide,if_neg h,hd,hq]
  have e1:IntKind.i64.wrap ((n:Int)-(k:Int))=((d:Nat):Int):=by rw[← hd,← Int.natCast_sub (by omega)];exact IntWalk.i64_in _ (by omega)
  have e2:(d:Int).tdiv (s:Int)=((q:Nat):Int):=by rw[Int.tdiv_eq_ediv_of_nonneg (by omega),← hq];omega
  have e2':(d:Int) / (s:Int)=((q:Nat):Int):=by rw[← hq];omega
  have e3:IntKind.i64.wrap ((q:Nat):Int)=((q:Nat):Int):=IntWalk.i64_in _ (by omega);have E4:Hid (wrap64 ((q:Int)+1)=(q:Int)+1):=by show wrap64 _=_;unfold wrap64;omega
  have s0:¬(s:Int)=0:=by omega
  have s0':¬s=0:=by omega
  clear h hd hq;go_enter Tryz.func224,Tryz.ntmps224;go_wp2;go_ret;exact⟨by rw[HR.out];simp;exact E4.out,rfl⟩
theorem winShape_in (w:World)(a b:Option Addr)(n c n' c':Nat)(st pd:Int)(S T:List Nat)(hS:Me.Ok S)(hT:Me.Ok T)(ha:Rd w a (nums .i64 S))(hn:S.length=n)(hb:Rd w b (nums .i64 T))(hn':T.length=n') :
  Calls Tryz.prog 185 #[.slice a n c,.slice b n' c',.int .i64 st,.int .i64 pd] w (ShOut w (Me.winS S T st pd)):=by
 have C1:=Lib.hid (shapeCheck_ok (c:=c) ha hn hS);have C2:=Lib.hid (shapeCheck_ok (c:=c') hb hn' hT)
 by_cases hg:1≤st∧st≤8∧0≤pd∧pd≤8
 ·obtain⟨s,rfl⟩:∃s:Nat,st=s:=⟨st.toNat,by omega⟩
  obtain⟨p,rfl⟩:∃p:Nat,pd=p:=⟨pd.toNat,by omega⟩;have g1:decide ((s:Int)<1)=false:=by simp;omega
  have g2:decide ((8:Int)<(s:Nat))=false:=by simp;omega
  have g3:decide ((p:Int)<0)=false:=by simp
  have g4:decide ((8:Int)<(p:Nat))=false:=by simp;omega
  have g5:decide (8<s)=false:=by simp;omega
  have g6:decide (8<p)=false:=by simp;omega
  by_cases hl:S.length=3∧T.length=4
  ·have q3:(0:Int)<(n:Nat):=by omega
   have q3a:(1:Int)<(n:Nat):=by omega
   have q3b:(2:Int)<(n:Nat):=by omega
   have q4:(0:Int)<(n':Nat):=by omega
   have q4a:(1:Int)<(n':Nat):=by omega
   have q4b:(2:Int)<(n':Nat):=by omega
   have q4c:(3:Int)<(n':Nat):=by omega
   have q1:((n:Int) != 3)=false:=by simp;omega
   have q2:((n':Int) != 4)=false:=by simp;omega
   obtain⟨ba,oa,rfl,x0⟩:=ha.num (i:=0) (by omega);obtain⟨_,_,he,x1⟩:=ha.num (i:=1) (by omega);injection he with he;injection he with e1 e2;subst e1 e2
   obtain⟨_,_,he,x2⟩:=ha.num (i:=2) (by omega);injection he with he;injection he with e1 e2;subst e1 e2
   obtain⟨bb,ob,rfl,y0⟩:=hb.num (i:=0) (by omega);obtain⟨_,_,he,y1⟩:=hb.num (i:=1) (by omega);injection he with he;injection he with e1 e2;subst e1 e2
   obtain⟨_,_,he,y2⟩:=hb.num (i:=2) (by omega);injection he with he;injection he with e1 e2;subst e1 e2
   obtain⟨_,_,he,y3⟩:=hb.num (i:=3) (by omega);injection he with he;injection he with e1 e2;subst e1 e2
   rw[Nat.add_zero]at x0 y0;have b1:=hS.get (k:=1) (by omega);have b2:=hS.get (k:=2) (by omega);have b3:=hT.get (k:=2) (by omega);have b4:=hT.get (k:=3) (by omega);obtain⟨v0,hv0⟩:∃v,S.getD 0 0=v:=⟨_,rfl⟩;obtain⟨v1,hv1⟩:∃v,S.getD 1 0=v:=⟨_,rfl⟩;obtain⟨v2,hv2⟩:∃v,S.getD 2 0=v:=⟨_,rfl⟩;obtain⟨u0,hu0⟩:∃v,T.getD 0 0=v:=⟨_,rfl⟩;obtain⟨u1,hu1⟩:∃v,T.getD 1 0=v:=⟨_,rfl⟩;obtain⟨u2,hu2⟩:∃v,T.getD 2 0=v:=⟨_,rfl⟩;obtain⟨u3,hu3⟩:∃v,T.getD 3 0=v:=⟨_,rfl⟩;rw[hv0]at x0;rw[hv1]at x1 b1;rw[hv2]at x2 b2;rw[hu0]at y0;rw[hu1]at y1;rw[hu2]at y2 b3;rw[hu3]at y3 b4;have z0:=KW.cell x0;have z1:=KW.cell x1;have z2:=KW.cell x2;have z3:=KW.cell y0;have z4:=KW.cell y1;have z5:=KW.cell y2;have z6:=KW.cell y3;have HL:=Lib.hid hl
   by_cases hd:v0=u1
   ·have r1:((v0:Int) != (u1:Int))=false:=by simp;omega
    obtain⟨t1,ht1⟩:∃t,Me.slide (v1+2*p) u2 s=t:=⟨_,rfl⟩;obtain⟨t2,ht2⟩:∃t,Me.slide (v2+2*p) u3 s=t:=⟨_,rfl⟩
    have HW:Hid (Me.winT S T ((s:Nat):Int).toNat ((p:Nat):Int).toNat=[u0,t1,t2]):=by
     show _=_
     rw[Me.winT,hv1,hv2,hu0,hu2,hu3,Int.toNat_natCast,Int.toNat_natCast,ht1,ht2]
    have HOK:Hid (Me.Ok [u0,t1,t2]→Me.winS S T s p=some [u0,t1,t2]):=fun ok=>by
     rw[← HW.out];exact Me.winS_some ⟨hg,hl,by rw[hv0,hu1,hd],by rw[HW.out];exact ok⟩
    have HNO:Hid (¬Me.Ok [u0,t1,t2]→Me.winS S T s p=none):=fun ok=>Me.winS_none fun h=>ok (by rw[← HW.out];exact h.2.2.2)
    obtain⟨p2,hp2⟩:∃p2,2*p=p2:=⟨_,rfl⟩;obtain⟨a1,ha1⟩:∃a1,v1+p2=a1:=⟨_,rfl⟩;obtain⟨a2,ha2⟩:∃a2,v2+p2=a2:=⟨_,rfl⟩;have i1:IntKind.i64.wrap (2*(p:Int))=((p2:Nat):Int):=by rw[← hp2];exact(IntWalk.i64_in _ (by omega)).trans (by simp)
    have i2:IntKind.i64.wrap ((v1:Int)+(p2:Int))=((a1:Nat):Int):=by rw[← ha1,← Int.natCast_add];exact IntWalk.i64_in _ (by omega)
    have i3:IntKind.i64.wrap ((v2:Int)+(p2:Int))=((a2:Nat):Int):=by rw[← ha2,← Int.natCast_add];exact IntWalk.i64_in _ (by omega)
    rw[hp2,ha1]at ht1;rw[hp2,ha2]at ht2;have hb1:p2≤16:=by omega
    have hb2:a1≤80:=by omega
    have hb3:a2≤80:=by omega
    have hs1:1≤s∧s≤8:=by omega
    have E1:Hid (∀wx:World,Calls Tryz.prog 224 #[.int .i64 ((a1:Nat):Int),.int .i64 ((u2:Nat):Int),.int .i64 ((s:Nat):Int)] wx fun e w'=>e = .returned (.int .i64 ((t1:Nat):Int))∧Touch No wx w'):=fun wx=>(slides_in wx a1 u2 s t1 (by omega) (by omega) (by omega) (by omega) ht1).mono fun e w' h=>⟨h.1,by rw[← h.2];exact Touch.refl _ _⟩
    have E2:Hid (∀wx:World,Calls Tryz.prog 224 #[.int .i64 ((a2:Nat):Int),.int .i64 ((u3:Nat):Int),.int .i64 ((s:Nat):Int)] wx fun e w'=>e = .returned (.int .i64 ((t2:Nat):Int))∧Touch No wx w'):=fun wx=>(slides_in wx a2 u3 s t2 (by omega) (by omega) (by omega) (by omega) ht2).mono fun e w' h=>⟨h.1,by rw[← h.2];exact Touch.refl _ _⟩
    clear hd ha hb hS hT hg hl hv0 hv1 hv2 hu0 hu1 hu2 hu3 hn hn' ht1 ht2 hp2 ha1 ha2 HW;go_enter Tryz.func185,Tryz.ntmps185;go_wp2_with fail;refine C1.out.mono ?_;rintro e w' ⟨rfl,rfl⟩;go_wp2_with fail;refine C2.out.mono ?_;rintro e w' ⟨rfl,rfl⟩;go_wp2_with fail;refine wp_region_kept (by kernel_rfl) (by kernel_rfl) ?_;repeat (first|go_big_quiet_step (fail)|quiet_step (fail))
    refine wpQuiet_nil ?_;intro _ hw';obtain⟨kw,hw''⟩:=hw';subst hw'';obtain⟨wk,tk⟩:=kw;have tk:=Lib.hid tk;dsimp only;obtain⟨wa,hwa⟩:∃wa,wa=wk:=⟨_,rfl⟩;subst hwa;have ta:=tk;have s0:=KW.cell (z0 ⟨wa,ta.out⟩);have s1:=KW.cell (z1 ⟨wa,ta.out⟩);have s2:=KW.cell (z2 ⟨wa,ta.out⟩);have s3:=KW.cell (z3 ⟨wa,ta.out⟩);have s4:=KW.cell (z4 ⟨wa,ta.out⟩);have s5:=KW.cell (z5 ⟨wa,ta.out⟩);have s6:=KW.cell (z6 ⟨wa,ta.out⟩);dsimp only at s0 s1 s2 s3 s4 s5 s6;clear z0 z1 z2 z3 z4 z5 z6 x0 x1 x2 y0 y1 y2 y3 tk;go_wp2_with fail;refine wp_region_kept_tail 25 (by kernel_rfl) (by kernel_rfl) ?_;simp only[List.take_succ_cons,List.take_zero,List.drop_succ_cons,List.drop_zero];repeat (first|go_big_quiet_step (first|with_reducible exact Calls.kept_of (E1.out _)|with_reducible exact Calls.kept_of (E2.out _))|quiet_step (first|with_reducible exact Calls.kept_of (E1.out _)|with_reducible exact Calls.kept_of (E2.out _)))
    refine wpQuiet_nil ?_;intro _ hw';obtain⟨kw,hw''⟩:=hw';subst hw'';obtain⟨wk,tk⟩:=kw;have tk:=Lib.hid tk;dsimp only;clear s0 s1 s2 s3 s4 s5 s6 E1 E2;have tk2:Hid (Touch No w wk):=ta.out.trans tk.out;go_wp2_with fail;have RW:=Row.new wk 3 #[.int .i64 ((u0:Nat):Int),.int .i64 ((t1:Nat):Int),.int .i64 ((t2:Nat):Int)];have RW2:Hid (Rd (wk.alloc (.cells #[.int .i64 ((u0:Nat):Int),.int .i64 ((t1:Nat):Int),.int .i64 ((t2:Nat):Int)] 3)) (some ⟨wk.heap.size,0,none⟩) (nums .i64 [u0,t1,t2])):=rd_row RW;have hsz:w.heap.size≤wk.heap.size:=tk2.out.size;clear RW;refine(shapeCheck_any _ _ 3 3 (Me.zs [u0,t1,t2]) rfl (by decide) (by rw[Me.ints_zs];exact RW2.out)).mono ?_;rintro e w' ⟨rfl,rfl⟩;rw[Ar.size_pos]
    by_cases hok:Ar.shape (Me.zs [u0,t1,t2])=true
    ·have HN:=Lib.hid (HOK.out (Me.ok_iff.2 hok))
     rw[hok];clear hok HOK HNO;go_wp2
     go_ret2
     rw[HN.out];exact⟨_,_,rfl,Nat.le_refl _,RW2.out,tk2.out.alloc _,fun ad e=>by cases e;exact hsz⟩
    ·have HN:=Lib.hid (HNO.out fun h=>hok (Me.ok_iff.1 h))
     have hokf:Ar.shape (Me.zs [u0,t1,t2])=false:=by simpa using hok
     rw[hokf];clear hok hokf HOK HNO;go_wp2
     go_ret2
     rw[HN.out];exact⟨10,by omega,rfl,tk2.out.alloc _⟩
   ·have HN:Hid (Me.winS S T s p=none):=Me.winS_none fun h=>hd (by have:=h.2.2.1;rw[hv0,hu1]at this;exact this)
    have r1:((v0:Int) != (u1:Int))=true:=by simp;omega
    clear hd ha hb hS hT hg hl hv0 hv1 hv2 hu0 hu1 hu2 hu3 x0 x1 x2 y0 y1 y2 y3 hn hn';go_enter Tryz.func185,Tryz.ntmps185;go_wp2_with fail;refine C1.out.mono ?_;rintro e w' ⟨rfl,rfl⟩;go_wp2_with fail;refine C2.out.mono ?_;rintro e w' ⟨rfl,rfl⟩;go_wp2_with fail;refine wp_region_kept (by kernel_rfl) (by kernel_rfl) ?_;repeat (first|go_big_quiet_step (fail)|quiet_step (fail))
    refine wpQuiet_nil ?_;intro _ hw';obtain⟨kw,hw''⟩:=hw';subst hw'';obtain⟨wk,tk⟩:=kw;have tk:=Lib.hid tk;dsimp only;go_wp2
    go_ret2
    rw[HN.out];exact⟨10,by omega,rfl,tk.out⟩
  ·have HN:Hid (Me.winS S T s p=none):=Me.winS_none fun h=>hl h.2.1
   rw[hn,hn']at hl
   have hcase:(((n:Int) != 3)=true)∨(((n:Int) != 3)=false∧((n':Int) != 4)=true):=by
    by_cases h3:n=3
    ·right;constructor <;> simp <;> omega
    ·left;simp;omega
   clear hl ha hb hS hT hg hn hn';rcases hcase with q1|⟨q1,q2⟩
   all_goals
    go_enter Tryz.func185,Tryz.ntmps185;go_wp2_with fail;refine C1.out.mono ?_;rintro e w' ⟨rfl,rfl⟩;go_wp2_with fail;refine C2.out.mono ?_;rintro e w' ⟨rfl,rfl⟩;go_wp2_with fail;refine wp_region_kept (by kernel_rfl) (by kernel_rfl) ?_;repeat (first|go_big_quiet_step (fail)|quiet_step (fail))
    refine wpQuiet_nil ?_;intro _ hw';obtain⟨kw,hw''⟩:=hw';subst hw'';obtain⟨wk,tk⟩:=kw;have tk:=Lib.hid tk;dsimp only;go_wp2
    go_ret2
    rw[HN.out];exact⟨10,by omega,rfl,tk.out⟩
 ·have HN:Hid (Me.winS S T st pd=none):=Me.winS_none fun h=>hg h.1
  have hcase:(decide (st<1)=true)∨(decide (st<1)=false∧decide (8<st)=true)∨(decide (st<1)=false∧decide (8<st)=false∧decide (pd<0)=true)∨(decide (st<1)=false∧decide (8<st)=false∧decide (pd<0)=false∧decide (8<pd)=true):=by
   simp only[decide_eq_true_eq,decide_eq_false_iff_not];omega
  clear hg ha hb hS hT hn hn';rcases hcase with g1|⟨g1,g2⟩|⟨g1,g2,g3⟩|⟨g1,g2,g3,g4⟩
  all_goals
   go_enter Tryz.func185,Tryz.ntmps185;go_wp2_with fail;refine C1.out.mono ?_;rintro e w' ⟨rfl,rfl⟩;go_wp2_with fail;refine C2.out.mono ?_;rintro e w' ⟨rfl,rfl⟩;go_wp2
   go_ret2
   rw[HN.out];exact⟨1,by omega,rfl,Touch.refl _ _⟩
theorem refWinShape_in (w:World)(a b:Option Addr)(n c n' c':Nat)(st pd:Int)(S T:List Nat)(hS:Me.Ok S)(hT:Me.Ok T)(ha:Rd w a (nums .i64 S))(hn:S.length=n)(hb:Rd w b (nums .i64 T))(hn':T.length=n') :
  Calls Tryz.prog 113 #[.slice a n c,.slice b n' c',.int .i64 st,.int .i64 pd] w (ShOut w (Me.winS S T st pd)):=by
 have C1:=Lib.hid (refShape_ok (c:=c) ha hn hS);have C2:=Lib.hid (refShape_ok (c:=c') hb hn' hT)
 by_cases hg:1≤st∧st≤8∧0≤pd∧pd≤8
 ·obtain⟨s,rfl⟩:∃s:Nat,st=s:=⟨st.toNat,by omega⟩
  obtain⟨p,rfl⟩:∃p:Nat,pd=p:=⟨pd.toNat,by omega⟩;have g1:decide ((s:Int)<1)=false:=by simp;omega
  have g2:decide ((8:Int)<(s:Nat))=false:=by simp;omega
  have g3:decide ((p:Int)<0)=false:=by simp
  have g4:decide ((8:Int)<(p:Nat))=false:=by simp;omega
  have g5:decide (8<s)=false:=by simp;omega
  have g6:decide (8<p)=false:=by simp;omega
  by_cases hl:S.length=3∧T.length=4
  ·have q3:(0:Int)<(n:Nat):=by omega
   have q3a:(1:Int)<(n:Nat):=by omega
   have q3b:(2:Int)<(n:Nat):=by omega
   have q4:(0:Int)<(n':Nat):=by omega
   have q4a:(1:Int)<(n':Nat):=by omega
   have q4b:(2:Int)<(n':Nat):=by omega
   have q4c:(3:Int)<(n':Nat):=by omega
   have q1:((n:Int) != 3)=false:=by simp;omega
   have q2:((n':Int) != 4)=false:=by simp;omega
   obtain⟨ba,oa,rfl,x0⟩:=ha.num (i:=0) (by omega);obtain⟨_,_,he,x1⟩:=ha.num (i:=1) (by omega);injection he with he;injection he with e1 e2;subst e1 e2
   obtain⟨_,_,he,x2⟩:=ha.num (i:=2) (by omega);injection he with he;injection he with e1 e2;subst e1 e2
   obtain⟨bb,ob,rfl,y0⟩:=hb.num (i:=0) (by omega);obtain⟨_,_,he,y1⟩:=hb.num (i:=1) (by omega);injection he with he;injection he with e1 e2;subst e1 e2
   obtain⟨_,_,he,y2⟩:=hb.num (i:=2) (by omega);injection he with he;injection he with e1 e2;subst e1 e2
   obtain⟨_,_,he,y3⟩:=hb.num (i:=3) (by omega);injection he with he;injection he with e1 e2;subst e1 e2
   rw[Nat.add_zero]at x0 y0;have b1:=hS.get (k:=1) (by omega);have b2:=hS.get (k:=2) (by omega);have b3:=hT.get (k:=2) (by omega);have b4:=hT.get (k:=3) (by omega);obtain⟨v0,hv0⟩:∃v,S.getD 0 0=v:=⟨_,rfl⟩;obtain⟨v1,hv1⟩:∃v,S.getD 1 0=v:=⟨_,rfl⟩;obtain⟨v2,hv2⟩:∃v,S.getD 2 0=v:=⟨_,rfl⟩;obtain⟨u0,hu0⟩:∃v,T.getD 0 0=v:=⟨_,rfl⟩;obtain⟨u1,hu1⟩:∃v,T.getD 1 0=v:=⟨_,rfl⟩;obtain⟨u2,hu2⟩:∃v,T.getD 2 0=v:=⟨_,rfl⟩;obtain⟨u3,hu3⟩:∃v,T.getD 3 0=v:=⟨_,rfl⟩;rw[hv0]at x0;rw[hv1]at x1 b1;rw[hv2]at x2 b2;rw[hu0]at y0;rw[hu1]at y1;rw[hu2]at y2 b3;rw[hu3]at y3 b4;have z0:=KW.cell x0;have z1:=KW.cell x1;have z2:=KW.cell x2;have z3:=KW.cell y0;have z4:=KW.cell y1;have z5:=KW.cell y2;have z6:=KW.cell y3;have HL:=Lib.hid hl
   by_cases hd:v0=u1
   ·have r1:((v0:Int) != (u1:Int))=false:=by simp;omega
    obtain⟨t1,ht1⟩:∃t,Me.slide (v1+2*p) u2 s=t:=⟨_,rfl⟩;obtain⟨t2,ht2⟩:∃t,Me.slide (v2+2*p) u3 s=t:=⟨_,rfl⟩
    have HW:Hid (Me.winT S T ((s:Nat):Int).toNat ((p:Nat):Int).toNat=[u0,t1,t2]):=by
     show _=_
     rw[Me.winT,hv1,hv2,hu0,hu2,hu3,Int.toNat_natCast,Int.toNat_natCast,ht1,ht2]
    have HOK:Hid (Me.Ok [u0,t1,t2]→Me.winS S T s p=some [u0,t1,t2]):=fun ok=>by
     rw[← HW.out];exact Me.winS_some ⟨hg,hl,by rw[hv0,hu1,hd],by rw[HW.out];exact ok⟩
    have HNO:Hid (¬Me.Ok [u0,t1,t2]→Me.winS S T s p=none):=fun ok=>Me.winS_none fun h=>ok (by rw[← HW.out];exact h.2.2.2)
    obtain⟨p2,hp2⟩:∃p2,2*p=p2:=⟨_,rfl⟩;obtain⟨a1,ha1⟩:∃a1,v1+p2=a1:=⟨_,rfl⟩;obtain⟨a2,ha2⟩:∃a2,v2+p2=a2:=⟨_,rfl⟩;have i1:IntKind.i64.wrap (2*(p:Int))=((p2:Nat):Int):=by rw[← hp2];exact(IntWalk.i64_in _ (by omega)).trans (by simp)
    have i2:IntKind.i64.wrap ((v1:Int)+(p2:Int))=((a1:Nat):Int):=by rw[← ha1,← Int.natCast_add];exact IntWalk.i64_in _ (by omega)
    have i3:IntKind.i64.wrap ((v2:Int)+(p2:Int))=((a2:Nat):Int):=by rw[← ha2,← Int.natCast_add];exact IntWalk.i64_in _ (by omega)
    rw[hp2,ha1]at ht1;rw[hp2,ha2]at ht2;have hb1:p2≤16:=by omega
    have hb2:a1≤80:=by omega
    have hb3:a2≤80:=by omega
    have hs1:1≤s∧s≤8:=by omega
    have hb1':¬(s:Int)=0:=by omega
    have hb1'':¬s=0:=by omega
    by_cases hlt1:a1<u2
    ·have HN:Hid (Me.winS S T s p=none):=HNO.out fun ok=>by have:=(ok.get (k:=1) (by simp)).1;rw[show [u0,t1,t2].getD 1 0=t1 from rfl,← ht1,Me.slide,if_pos hlt1]at this;omega
     have c1:decide (a1<u2)=true:=by simp;omega
     have c2:decide ((a1:Int)<(u2:Nat))=true:=by simp;omega
     clear hlt1 hd ha hb hS hT hg hl hv0 hv1 hv2 hu0 hu1 hu2 hu3 hn hn' ht1 ht2 hp2 ha1 ha2 HW x0 x1 x2 y0 y1 y2 y3;go_enter Tryz.func113,Tryz.ntmps113;go_wp2_with fail;refine C1.out.mono ?_;rintro e w' ⟨rfl,rfl⟩;go_wp2_with fail;refine C2.out.mono ?_;rintro e w' ⟨rfl,rfl⟩;go_wp2_with fail;refine wp_region_kept (by kernel_rfl) (by kernel_rfl) ?_;repeat (first|go_big_quiet_step (fail)|quiet_step (fail))
     refine wpQuiet_nil ?_;intro _ hw';obtain⟨kw,hw''⟩:=hw';subst hw'';obtain⟨wk,tk⟩:=kw;have tk:=Lib.hid tk;dsimp only;go_wp2
     go_ret2
     rw[HN.out];exact⟨10,by omega,rfl,tk.out⟩
    ·have c1:decide (a1<u2)=false:=by simp;omega
     have c2:decide ((a1:Int)<(u2:Nat))=false:=by simp;omega
     by_cases hlt2:a2<u3
     ·have HN:Hid (Me.winS S T s p=none):=HNO.out fun ok=>by have:=(ok.get (k:=2) (by simp)).1;rw[show [u0,t1,t2].getD 2 0=t2 from rfl,← ht2,Me.slide,if_pos hlt2]at this;omega
      have c3:decide (a2<u3)=true:=by simp;omega
      have c4:decide ((a2:Int)<(u3:Nat))=true:=by simp;omega
      clear hlt1 hlt2 hd ha hb hS hT hg hl hv0 hv1 hv2 hu0 hu1 hu2 hu3 hn hn' ht1 ht2 hp2 ha1 ha2 HW x0 x1 x2 y0 y1 y2 y3;go_enter Tryz.func113,Tryz.ntmps113;go_wp2_with fail;refine C1.out.mono ?_;rintro e w' ⟨rfl,rfl⟩;go_wp2_with fail;refine C2.out.mono ?_;rintro e w' ⟨rfl,rfl⟩;go_wp2_with fail;refine wp_region_kept (by kernel_rfl) (by kernel_rfl) ?_;repeat (first|go_big_quiet_step (fail)|quiet_step (fail))
      refine wpQuiet_nil ?_;intro _ hw';obtain⟨kw,hw''⟩:=hw';subst hw'';obtain⟨wk,tk⟩:=kw;have tk:=Lib.hid tk;dsimp only;go_wp2
      go_ret2
      rw[HN.out];exact⟨10,by omega,rfl,tk.out⟩
     ·have c3:decide (a2<u3)=false:=by simp;omega
      have c4:decide ((a2:Int)<(u3:Nat))=false:=by simp;omega
      obtain⟨d1,hd1⟩:∃d,a1-u2=d:=⟨_,rfl⟩;obtain⟨d2,hd2⟩:∃d,a2-u3=d:=⟨_,rfl⟩;obtain⟨q1',hq1'⟩:∃d,d1 / s=d:=⟨_,rfl⟩;obtain⟨q2',hq2'⟩:∃d,d2 / s=d:=⟨_,rfl⟩;have hd1b:d1≤80:=by omega
      have hd2b:d2≤80:=by omega
      have hq1b:q1'≤d1:=by rw[← hq1'];exact Nat.div_le_self _ _
      have hq2b:q2'≤d2:=by rw[← hq2'];exact Nat.div_le_self _ _
      rw[Me.slide,if_neg hlt1,hd1,hq1']at ht1;rw[Me.slide,if_neg hlt2,hd2,hq2']at ht2;have j1:IntKind.i64.wrap ((a1:Int)-(u2:Int))=((d1:Nat):Int):=by rw[← hd1,← Int.natCast_sub (by omega)];exact IntWalk.i64_in _ (by omega)
      have j2:IntKind.i64.wrap ((a2:Int)-(u3:Int))=((d2:Nat):Int):=by rw[← hd2,← Int.natCast_sub (by omega)];exact IntWalk.i64_in _ (by omega)
      have j3:(d1:Int).tdiv (s:Int)=((q1':Nat):Int):=by rw[Int.tdiv_eq_ediv_of_nonneg (by omega),← hq1'];omega
      have j4:(d2:Int).tdiv (s:Int)=((q2':Nat):Int):=by rw[Int.tdiv_eq_ediv_of_nonneg (by omega),← hq2'];omega
      have j3':(d1:Int) / (s:Int)=((q1':Nat):Int):=by rw[← hq1'];omega
      have j4':(d2:Int) / (s:Int)=((q2':Nat):Int):=by rw[← hq2'];omega
      have j5:IntKind.i64.wrap ((q1':Nat):Int)=((q1':Nat):Int):=IntWalk.i64_in _ (by omega);have j6:IntKind.i64.wrap ((q2':Nat):Int)=((q2':Nat):Int):=IntWalk.i64_in _ (by omega);have j7:IntKind.i64.wrap ((q1':Int)+1)=((t1:Nat):Int):=by rw[← ht1];exact(IntWalk.i64_in _ (by omega)).trans (by simp)
      have j8:IntKind.i64.wrap ((q2':Int)+1)=((t2:Nat):Int):=by rw[← ht2];exact(IntWalk.i64_in _ (by omega)).trans (by simp)
      clear hlt1 hlt2 hd ha hb hS hT hg hl hv0 hv1 hv2 hu0 hu1 hu2 hu3 hn hn' ht1 ht2 hp2 ha1 ha2 HW hd1 hd2 hq1' hq2';go_enter Tryz.func113,Tryz.ntmps113;go_wp2_with fail;refine C1.out.mono ?_;rintro e w' ⟨rfl,rfl⟩;go_wp2_with fail;refine C2.out.mono ?_;rintro e w' ⟨rfl,rfl⟩;go_wp2_with fail;refine wp_region_kept (by kernel_rfl) (by kernel_rfl) ?_;repeat (first|go_big_quiet_step (fail)|quiet_step (fail))
      refine wpQuiet_nil ?_;intro _ hw';obtain⟨kw,hw''⟩:=hw';subst hw'';obtain⟨wk,tk⟩:=kw;have tk:=Lib.hid tk;dsimp only;obtain⟨wa,hwa⟩:∃wa,wa=wk:=⟨_,rfl⟩;subst hwa;have ta:=tk;have s0:=KW.cell (z0 ⟨wa,ta.out⟩);have s1:=KW.cell (z1 ⟨wa,ta.out⟩);have s2:=KW.cell (z2 ⟨wa,ta.out⟩);have s3:=KW.cell (z3 ⟨wa,ta.out⟩);have s4:=KW.cell (z4 ⟨wa,ta.out⟩);have s5:=KW.cell (z5 ⟨wa,ta.out⟩);have s6:=KW.cell (z6 ⟨wa,ta.out⟩);dsimp only at s0 s1 s2 s3 s4 s5 s6;clear z0 z1 z2 z3 z4 z5 z6 x0 x1 x2 y0 y1 y2 y3 tk;go_wp2_with fail;refine wp_region_kept_tail 29 (by kernel_rfl) (by kernel_rfl) ?_;simp only[List.take_succ_cons,List.take_zero,List.drop_succ_cons,List.drop_zero];repeat (first|go_big_quiet_step (fail)|quiet_step (fail))
      refine wpQuiet_nil ?_;intro _ hw';obtain⟨kw,hw''⟩:=hw';subst hw'';obtain⟨wk,tk⟩:=kw;have tk:=Lib.hid tk;dsimp only;clear s0 s1 s2 s3 s4 s5 s6;have tk2:Hid (Touch No w wk):=ta.out.trans tk.out;go_wp2_with fail;have RW:=Row.new wk 3 #[.int .i64 ((u0:Nat):Int),.int .i64 ((t1:Nat):Int),.int .i64 ((t2:Nat):Int)];have RW2:Hid (Rd (wk.alloc (.cells #[.int .i64 ((u0:Nat):Int),.int .i64 ((t1:Nat):Int),.int .i64 ((t2:Nat):Int)] 3)) (some ⟨wk.heap.size,0,none⟩) (nums .i64 [u0,t1,t2])):=rd_row RW;have hsz:w.heap.size≤wk.heap.size:=tk2.out.size;clear RW;refine(refShape_any _ _ 3 3 (Me.zs [u0,t1,t2]) rfl (by decide) (by rw[Me.ints_zs];exact RW2.out)).mono ?_;rintro e w' ⟨rfl,rfl⟩
      by_cases hok:Ar.shape (Me.zs [u0,t1,t2])=true
      ·have HN:=Lib.hid (HOK.out (Me.ok_iff.2 hok))
       rw[hok];clear hok HOK HNO;go_wp2
       go_ret2
       rw[HN.out];exact⟨_,_,rfl,Nat.le_refl _,RW2.out,tk2.out.alloc _,fun ad e=>by cases e;exact hsz⟩
      ·have HN:=Lib.hid (HNO.out fun h=>hok (Me.ok_iff.1 h))
       have hokf:Ar.shape (Me.zs [u0,t1,t2])=false:=by simpa using hok
       rw[hokf];clear hok hokf HOK HNO;go_wp2
       go_ret2
       rw[HN.out];exact⟨10,by omega,rfl,tk2.out.alloc _⟩
   ·have HN:Hid (Me.winS S T s p=none):=Me.winS_none fun h=>hd (by have:=h.2.2.1;rw[hv0,hu1]at this;exact this)
    have r1:((v0:Int) != (u1:Int))=true:=by simp;omega
    clear hd ha hb hS hT hg hl hv0 hv1 hv2 hu0 hu1 hu2 hu3 x0 x1 x2 y0 y1 y2 y3 hn hn';go_enter Tryz.func113,Tryz.ntmps113;go_wp2_with fail;refine C1.out.mono ?_;rintro e w' ⟨rfl,rfl⟩;go_wp2_with fail;refine C2.out.mono ?_;rintro e w' ⟨rfl,rfl⟩;go_wp2_with fail;refine wp_region_kept (by kernel_rfl) (by kernel_rfl) ?_;repeat (first|go_big_quiet_step (fail)|quiet_step (fail))
    refine wpQuiet_nil ?_;intro _ hw';obtain⟨kw,hw''⟩:=hw';subst hw'';obtain⟨wk,tk⟩:=kw;have tk:=Lib.hid tk;dsimp only;go_wp2
    go_ret2
    rw[HN.out];exact⟨10,by omega,rfl,tk.out⟩
  ·have HN:Hid (Me.winS S T s p=none):=Me.winS_none fun h=>hl h.2.1
   rw[hn,hn']at hl
   have hcase:(((n:Int) != 3)=true)∨(((n:Int) != 3)=false∧((n':Int) != 4)=true):=by
    by_cases h3:n=3
    ·right;constructor <;> simp <;> omega
    ·left;simp;omega
   clear hl ha hb hS hT hg hn hn';rcases hcase with q1|⟨q1,q2⟩
   all_goals
    go_enter Tryz.func113,Tryz.ntmps113;go_wp2_with fail;refine C1.out.mono ?_;rintro e w' ⟨rfl,rfl⟩;go_wp2_with fail;refine C2.out.mono ?_;rintro e w' ⟨rfl,rfl⟩;go_wp2_with fail;refine wp_region_kept (by kernel_rfl) (by kernel_rfl) ?_;repeat (first|go_big_quiet_step (fail)|quiet_step (fail))
    refine wpQuiet_nil ?_;intro _ hw';obtain⟨kw,hw''⟩:=hw';subst hw'';obtain⟨wk,tk⟩:=kw;have tk:=Lib.hid tk;dsimp only;go_wp2
    go_ret2
    rw[HN.out];exact⟨10,by omega,rfl,tk.out⟩
 ·have HN:Hid (Me.winS S T st pd=none):=Me.winS_none fun h=>hg h.1
  have hcase:(decide (st<1)=true)∨(decide (st<1)=false∧decide (8<st)=true)∨(decide (st<1)=false∧decide (8<st)=false∧decide (pd<0)=true)∨(decide (st<1)=false∧decide (8<st)=false∧decide (pd<0)=false∧decide (8<pd)=true):=by
   simp only[decide_eq_true_eq,decide_eq_false_iff_not];omega
  clear hg ha hb hS hT hn hn';rcases hcase with g1|⟨g1,g2⟩|⟨g1,g2,g3⟩|⟨g1,g2,g3,g4⟩
  all_goals
   go_enter Tryz.func113,Tryz.ntmps113;go_wp2_with fail;refine C1.out.mono ?_;rintro e w' ⟨rfl,rfl⟩;go_wp2_with fail;refine C2.out.mono ?_;rintro e w' ⟨rfl,rfl⟩;go_wp2
   go_ret2
   rw[HN.out];exact⟨1,by omega,rfl,Touch.refl _ _⟩
end
end Go.Proofs.YtjlphmmalebgpaaGreat
