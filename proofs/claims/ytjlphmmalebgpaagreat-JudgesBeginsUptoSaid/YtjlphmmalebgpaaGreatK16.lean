/-
  A part of the proof.
-/
import Derived.Test.YtjlphmmalebgpaaGreatK15
set_option linter.unusedSimpArgs false
set_option linter.unusedVariables false
set_option maxHeartbeats 2000000
set_option maxRecDepth 100000
namespace Go.Proofs.YtjlphmmalebgpaaGreat
section
open Go Go.RowKit
namespace Me
def poolT (S:List Nat)(s:Nat):List Nat:=[S.getD 0 0,S.getD 1 0 / s,S.getD 2 0 / s]
def PoolOk (S:List Nat)(st:Int):Prop:=(1≤st∧st≤64)∧S.length=3∧st.toNat≤S.getD 1 0∧st.toNat≤S.getD 2 0
open Classical in
noncomputable def poolS (S:List Nat) (st:Int):Option (List Nat):=if PoolOk S st then some (poolT S st.toNat) else none
theorem poolS_some {S:List Nat}{st:Int}(h:PoolOk S st):poolS S st=some (poolT S st.toNat):=if_pos h
theorem poolS_none {S:List Nat}{st:Int}(h:¬PoolOk S st):poolS S st=none:=if_neg h
theorem slide_self {n s:Nat}(hs:1≤s):slide n s s=n / s:=by
 unfold slide
 by_cases h:n<s
 ·rw[if_pos h,Nat.div_eq_of_lt h]
 ·rw[if_neg h];exact(Nat.div_eq_sub_div (by omega) (by omega)).symm
theorem pool_ok {S:List Nat}{st:Int}(ok:Ok S)(h:PoolOk S st):Ok (poolT S st.toNat):=by
 obtain⟨h1,h2,h3,h4⟩:=h;have h1n:1≤st.toNat:=by omega
 generalize st.toNat=s at *
 have a0:=ok.get (k:=0) (by omega);have a1:=ok.get (k:=1) (by omega);have a2:=ok.get (k:=2) (by omega);have hm:=ok.most
 match S,h2 with
 | [x,y,z],_ =>
   simp[poolT,pr]at a0 a1 a2 hm h3 h4 ⊢;have d1:1≤y / s:=(Nat.one_le_div_iff (by omega)).2 h3;have d2:1≤z / s:=(Nat.one_le_div_iff (by omega)).2 h4;have d3:y / s≤y:=Nat.div_le_self _ _;have d4:z / s≤z:=Nat.div_le_self _ _;refine {one:=by simp,four:=by simp,each:=fun q hq=>?_,most:=?_}
   ·simp at hq;omega
   ·simp[pr]
    have:x*(y / s*(z / s))≤x*(y*z):=Nat.mul_le_mul_left _ (Nat.mul_le_mul d3 d4);omega
end Me
theorem poolShape_in (w:World)(a:Option Addr)(n c:Nat)(st:Int)(S:List Nat)(hS:Me.Ok S)(ha:Rd w a (nums .i64 S))(hn:S.length=n) :
  Calls Tryz.prog 186 #[.slice a n c,.int .i64 st] w (ShOut w (Me.poolS S st)):=by
 have C1:=Lib.hid (shapeCheck_ok (c:=c) ha hn hS)
 by_cases hg:1≤st∧st≤64
 ·obtain⟨s,rfl⟩:∃s:Nat,st=s:=⟨st.toNat,by omega⟩
  have g1:decide ((s:Int)<1)=false:=by simp;omega
  have g2:decide ((64:Int)<(s:Nat))=false:=by simp;omega
  have g5:decide (64<s)=false:=by simp;omega
  by_cases hl:S.length=3
  ·have q3a:(1:Int)<(n:Nat):=by omega
   have q3b:(2:Int)<(n:Nat):=by omega
   have q3:(0:Int)<(n:Nat):=by omega
   have q1:((n:Int) != 3)=false:=by simp;omega
   obtain⟨ba,oa,rfl,x0⟩:=ha.num (i:=0) (by omega);obtain⟨_,_,he,x1⟩:=ha.num (i:=1) (by omega);injection he with he;injection he with e1 e2;subst e1 e2
   obtain⟨_,_,he,x2⟩:=ha.num (i:=2) (by omega);injection he with he;injection he with e1 e2;subst e1 e2
   rw[Nat.add_zero]at x0;have b1:=hS.get (k:=1) (by omega);have b2:=hS.get (k:=2) (by omega);obtain⟨v0,hv0⟩:∃v,S.getD 0 0=v:=⟨_,rfl⟩;obtain⟨v1,hv1⟩:∃v,S.getD 1 0=v:=⟨_,rfl⟩;obtain⟨v2,hv2⟩:∃v,S.getD 2 0=v:=⟨_,rfl⟩;rw[hv0]at x0;rw[hv1]at x1 b1;rw[hv2]at x2 b2;have z0:=KW.cell x0;have z1:=KW.cell x1;have z2:=KW.cell x2;have hs1:1≤s∧s≤64:=by omega
   by_cases hd:s≤v1∧s≤v2
   ·obtain⟨t1,ht1⟩:∃t,v1 / s=t:=⟨_,rfl⟩
    obtain⟨t2,ht2⟩:∃t,v2 / s=t:=⟨_,rfl⟩
    have HN:Hid (Me.poolS S s=some [v0,t1,t2]):=by
     show _=_
     rw[Me.poolS_some ⟨hg,hl,by rw[hv1,Int.toNat_natCast];exact hd.1,by rw[hv2,Int.toNat_natCast];exact hd.2⟩,Me.poolT,hv0,hv1,hv2,Int.toNat_natCast,ht1,ht2]
    have m1:decide (v1<s)=false:=by simp;omega
    have m2:decide (v2<s)=false:=by simp;omega
    have m1':decide ((v1:Int)<(s:Nat))=false:=by simp;omega
    have m2':decide ((v2:Int)<(s:Nat))=false:=by simp;omega
    have E1:Hid (∀wx:World,Calls Tryz.prog 224 #[.int .i64 ((v1:Nat):Int),.int .i64 ((s:Nat):Int),.int .i64 ((s:Nat):Int)] wx fun e w'=>e = .returned (.int .i64 ((t1:Nat):Int))∧Touch No wx w'):=fun wx=>(slides_in wx v1 s s t1 (by omega) (by omega) (by omega) (by omega) (by rw[Me.slide_self hs1.1,ht1])).mono fun e w' h=>⟨h.1,by rw[← h.2];exact Touch.refl _ _⟩
    have E2:Hid (∀wx:World,Calls Tryz.prog 224 #[.int .i64 ((v2:Nat):Int),.int .i64 ((s:Nat):Int),.int .i64 ((s:Nat):Int)] wx fun e w'=>e = .returned (.int .i64 ((t2:Nat):Int))∧Touch No wx w'):=fun wx=>(slides_in wx v2 s s t2 (by omega) (by omega) (by omega) (by omega) (by rw[Me.slide_self hs1.1,ht2])).mono fun e w' h=>⟨h.1,by rw[← h.2];exact Touch.refl _ _⟩
    clear hd ha hS hg hl hv0 hv1 hv2 hn ht1 ht2;have hvv:v2<v1∨¬v2<v1:=by omega
    rcases hvv with k3|k3
    all_goals
     go_enter Tryz.func186,Tryz.ntmps186;go_wp2_with fail;refine C1.out.mono ?_;rintro e w' ⟨rfl,rfl⟩;go_wp2_with fail;refine wp_region_kept (by kernel_rfl) (by kernel_rfl) ?_;repeat (first|go_big_quiet_step (fail)|quiet_step (fail))
     refine wpQuiet_nil ?_;intro _ hw';obtain⟨kw,hw''⟩:=hw';subst hw'';obtain⟨wk,tk⟩:=kw;have tk:=Lib.hid tk;dsimp only;go_wp2_with fail;obtain⟨wa,hwa⟩:∃wa,wa=wk:=⟨_,rfl⟩;subst hwa;have ta:=tk;have s0:=KW.cell (z0 ⟨wa,ta.out⟩);have s1:=KW.cell (z1 ⟨wa,ta.out⟩);have s2:=KW.cell (z2 ⟨wa,ta.out⟩);dsimp only at s0 s1 s2;clear z0 z1 z2 tk;refine wp_region_kept_tail 15 (by kernel_rfl) (by kernel_rfl) ?_;simp only[List.take_succ_cons,List.take_zero,List.drop_succ_cons,List.drop_zero];repeat (first|go_big_quiet_step (first|with_reducible exact Calls.kept_of (E1.out _)|with_reducible exact Calls.kept_of (E2.out _))|quiet_step (first|with_reducible exact Calls.kept_of (E1.out _)|with_reducible exact Calls.kept_of (E2.out _)))
     refine wpQuiet_nil ?_;intro _ hw';obtain⟨kw,hw''⟩:=hw';subst hw'';obtain⟨wk,tk⟩:=kw;have tk:=Lib.hid tk;dsimp only;have z0:=s0;have z1:=s1;have z2:=s2;clear s0 s1 s2;have tk:Hid (Touch No w wk):=ta.out.trans tk.out;clear z0 z1 z2 x0 x1 x2;have hsz:w.heap.size≤wk.heap.size:=tk.out.size;go_wp2_with fail;have RW:=Row.new wk 3 #[.int .i64 ((v0:Nat):Int),.int .i64 ((t1:Nat):Int),.int .i64 ((t2:Nat):Int)];have RW2:Hid (Rd (wk.alloc (.cells #[.int .i64 ((v0:Nat):Int),.int .i64 ((t1:Nat):Int),.int .i64 ((t2:Nat):Int)] 3)) (some ⟨wk.heap.size,0,none⟩) (nums .i64 [v0,t1,t2])):=rd_row RW;clear RW
     go_ret2
     rw[HN.out];exact⟨_,_,rfl,Nat.le_refl _,RW2.out,tk.out.alloc _,fun ad e=>by cases e;exact hsz⟩
   ·have HN:Hid (Me.poolS S s=none):=Me.poolS_none fun h=>hd ⟨by have:=h.2.2.1;rw[hv1,Int.toNat_natCast]at this;exact this,by have:=h.2.2.2;rw[hv2,Int.toNat_natCast]at this;exact this⟩
    have hcase:(decide (v1<s)=true∧decide ((v1:Int)<(s:Nat))=true∧decide (v2<s)=true∧decide ((v2:Int)<(s:Nat))=true∧v2<v1)∨(decide (v1<s)=true∧decide ((v1:Int)<(s:Nat))=true∧decide (v2<s)=true∧decide ((v2:Int)<(s:Nat))=true∧¬v2<v1)∨(decide (v1<s)=true∧decide ((v1:Int)<(s:Nat))=true∧decide (v2<s)=false∧decide ((v2:Int)<(s:Nat))=false∧¬v2<v1)∨(decide (v1<s)=false∧decide ((v1:Int)<(s:Nat))=false∧decide (v2<s)=true∧decide ((v2:Int)<(s:Nat))=true∧v2<v1):=by
     simp only[decide_eq_true_eq,decide_eq_false_iff_not];omega
    clear hd ha hS hg hl hv0 hv1 hv2 hn;rcases hcase with⟨m1,m1',m2,m2',k3⟩|⟨m1,m1',m2,m2',k3⟩|⟨m1,m1',m2,m2',k3⟩|⟨m1,m1',m2,m2',k3⟩
    all_goals
     go_enter Tryz.func186,Tryz.ntmps186;go_wp2_with fail;refine C1.out.mono ?_;rintro e w' ⟨rfl,rfl⟩;go_wp2_with fail;refine wp_region_kept (by kernel_rfl) (by kernel_rfl) ?_;repeat (first|go_big_quiet_step (fail)|quiet_step (fail))
     refine wpQuiet_nil ?_;intro _ hw';obtain⟨kw,hw''⟩:=hw';subst hw'';obtain⟨wk,tk⟩:=kw;have tk:=Lib.hid tk;dsimp only;go_wp2
     go_ret2
     rw[HN.out];exact⟨10,by omega,rfl,tk.out⟩
  ·have HN:Hid (Me.poolS S s=none):=Me.poolS_none fun h=>hl h.2.1
   have q1:((n:Int) != 3)=true:=by simp;omega
   clear hl ha hS hg hn;go_enter Tryz.func186,Tryz.ntmps186;go_wp2_with fail;refine C1.out.mono ?_;rintro e w' ⟨rfl,rfl⟩;go_wp2_with fail;refine wp_region_kept (by kernel_rfl) (by kernel_rfl) ?_;repeat (first|go_big_quiet_step (fail)|quiet_step (fail))
   refine wpQuiet_nil ?_;intro _ hw';obtain⟨kw,hw''⟩:=hw';subst hw'';obtain⟨wk,tk⟩:=kw;have tk:=Lib.hid tk;dsimp only;go_wp2
   go_ret2
   rw[HN.out];exact⟨10,by omega,rfl,tk.out⟩
 ·have HN:Hid (Me.poolS S st=none):=Me.poolS_none fun h=>hg h.1
  have hcase:(decide (st<1)=true)∨(decide (st<1)=false∧decide (64<st)=true):=by
   simp only[decide_eq_true_eq,decide_eq_false_iff_not];omega
  clear hg ha hS hn;rcases hcase with g1|⟨g1,g2⟩
  all_goals
   go_enter Tryz.func186,Tryz.ntmps186;go_wp2_with fail;refine C1.out.mono ?_;rintro e w' ⟨rfl,rfl⟩;go_wp2
   go_ret2
   rw[HN.out];exact⟨1,by omega,rfl,Touch.refl _ _⟩
theorem refPoolShape_in (w:World)(a:Option Addr)(n c:Nat)(st:Int)(S:List Nat)(hS:Me.Ok S)(ha:Rd w a (nums .i64 S))(hn:S.length=n) :
  Calls Tryz.prog 114 #[.slice a n c,.int .i64 st] w (ShOut w (Me.poolS S st)):=by
 have C1:=Lib.hid (refShape_ok (c:=c) ha hn hS)
 by_cases hg:1≤st∧st≤64
 ·obtain⟨s,rfl⟩:∃s:Nat,st=s:=⟨st.toNat,by omega⟩
  have g1:decide ((s:Int)<1)=false:=by simp;omega
  have g2:decide ((64:Int)<(s:Nat))=false:=by simp;omega
  have g5:decide (64<s)=false:=by simp;omega
  by_cases hl:S.length=3
  ·have q3a:(1:Int)<(n:Nat):=by omega
   have q3b:(2:Int)<(n:Nat):=by omega
   have q3:(0:Int)<(n:Nat):=by omega
   have q1:((n:Int) != 3)=false:=by simp;omega
   obtain⟨ba,oa,rfl,x0⟩:=ha.num (i:=0) (by omega);obtain⟨_,_,he,x1⟩:=ha.num (i:=1) (by omega);injection he with he;injection he with e1 e2;subst e1 e2
   obtain⟨_,_,he,x2⟩:=ha.num (i:=2) (by omega);injection he with he;injection he with e1 e2;subst e1 e2
   rw[Nat.add_zero]at x0;have b1:=hS.get (k:=1) (by omega);have b2:=hS.get (k:=2) (by omega);obtain⟨v0,hv0⟩:∃v,S.getD 0 0=v:=⟨_,rfl⟩;obtain⟨v1,hv1⟩:∃v,S.getD 1 0=v:=⟨_,rfl⟩;obtain⟨v2,hv2⟩:∃v,S.getD 2 0=v:=⟨_,rfl⟩;rw[hv0]at x0;rw[hv1]at x1 b1;rw[hv2]at x2 b2;have z0:=KW.cell x0;have z1:=KW.cell x1;have z2:=KW.cell x2;have hs1:1≤s∧s≤64:=by omega
   by_cases hd:s≤v1∧s≤v2
   ·obtain⟨t1,ht1⟩:∃t,v1 / s=t:=⟨_,rfl⟩
    obtain⟨t2,ht2⟩:∃t,v2 / s=t:=⟨_,rfl⟩
    have HN:Hid (Me.poolS S s=some [v0,t1,t2]):=by
     show _=_
     rw[Me.poolS_some ⟨hg,hl,by rw[hv1,Int.toNat_natCast];exact hd.1,by rw[hv2,Int.toNat_natCast];exact hd.2⟩,Me.poolT,hv0,hv1,hv2,Int.toNat_natCast,ht1,ht2]
    have m1:decide (v1<s)=false:=by simp;omega
    have m2:decide (v2<s)=false:=by simp;omega
    have m1':decide ((v1:Int)<(s:Nat))=false:=by simp;omega
    have m2':decide ((v2:Int)<(s:Nat))=false:=by simp;omega
    have j3:(v1:Int).tdiv (s:Int)=((t1:Nat):Int):=by rw[Int.tdiv_eq_ediv_of_nonneg (by omega),← ht1];omega
    have j4:(v2:Int).tdiv (s:Int)=((t2:Nat):Int):=by rw[Int.tdiv_eq_ediv_of_nonneg (by omega),← ht2];omega
    have j3':(v1:Int) / (s:Int)=((t1:Nat):Int):=by rw[← ht1];omega
    have j4':(v2:Int) / (s:Int)=((t2:Nat):Int):=by rw[← ht2];omega
    have t1b:t1≤v1:=by rw[← ht1];exact Nat.div_le_self _ _
    have t2b:t2≤v2:=by rw[← ht2];exact Nat.div_le_self _ _
    have j5:IntKind.i64.wrap ((t1:Nat):Int)=((t1:Nat):Int):=IntWalk.i64_in _ (by omega);have j6:IntKind.i64.wrap ((t2:Nat):Int)=((t2:Nat):Int):=IntWalk.i64_in _ (by omega);have s00:¬(s:Int)=0:=by omega
    have s00':¬s=0:=by omega
    clear hd ha hS hg hl hv0 hv1 hv2 hn ht1 ht2;have hvv:v2<v1∨¬v2<v1:=by omega
    rcases hvv with k3|k3
    all_goals
     go_enter Tryz.func114,Tryz.ntmps114;go_wp2_with fail;refine C1.out.mono ?_;rintro e w' ⟨rfl,rfl⟩;go_wp2_with fail
     skip
     go_wp2_with fail;refine wp_region_kept_tail 13 (by kernel_rfl) (by kernel_rfl) ?_;simp only[List.take_succ_cons,List.take_zero,List.drop_succ_cons,List.drop_zero];repeat (first|go_big_quiet_step (fail)|quiet_step (fail))
     refine wpQuiet_nil ?_;intro _ hw';obtain⟨kw,hw''⟩:=hw';subst hw'';obtain⟨wk,tk⟩:=kw;have tk:=Lib.hid tk;dsimp only;clear z0 z1 z2 x0 x1 x2;have hsz:w.heap.size≤wk.heap.size:=tk.out.size;go_wp2_with fail;have RW:=Row.new wk 3 #[.int .i64 ((v0:Nat):Int),.int .i64 ((t1:Nat):Int),.int .i64 ((t2:Nat):Int)];have RW2:Hid (Rd (wk.alloc (.cells #[.int .i64 ((v0:Nat):Int),.int .i64 ((t1:Nat):Int),.int .i64 ((t2:Nat):Int)] 3)) (some ⟨wk.heap.size,0,none⟩) (nums .i64 [v0,t1,t2])):=rd_row RW;clear RW
     go_ret2
     rw[HN.out];exact⟨_,_,rfl,Nat.le_refl _,RW2.out,tk.out.alloc _,fun ad e=>by cases e;exact hsz⟩
   ·have HN:Hid (Me.poolS S s=none):=Me.poolS_none fun h=>hd ⟨by have:=h.2.2.1;rw[hv1,Int.toNat_natCast]at this;exact this,by have:=h.2.2.2;rw[hv2,Int.toNat_natCast]at this;exact this⟩
    have hcase:(decide (v1<s)=true∧decide ((v1:Int)<(s:Nat))=true∧decide (v2<s)=true∧decide ((v2:Int)<(s:Nat))=true∧v2<v1)∨(decide (v1<s)=true∧decide ((v1:Int)<(s:Nat))=true∧decide (v2<s)=true∧decide ((v2:Int)<(s:Nat))=true∧¬v2<v1)∨(decide (v1<s)=true∧decide ((v1:Int)<(s:Nat))=true∧decide (v2<s)=false∧decide ((v2:Int)<(s:Nat))=false∧¬v2<v1)∨(decide (v1<s)=false∧decide ((v1:Int)<(s:Nat))=false∧decide (v2<s)=true∧decide ((v2:Int)<(s:Nat))=true∧v2<v1):=by
     simp only[decide_eq_true_eq,decide_eq_false_iff_not];omega
    clear hd ha hS hg hl hv0 hv1 hv2 hn;rcases hcase with⟨m1,m1',m2,m2',k3⟩|⟨m1,m1',m2,m2',k3⟩|⟨m1,m1',m2,m2',k3⟩|⟨m1,m1',m2,m2',k3⟩
    all_goals
     go_enter Tryz.func114,Tryz.ntmps114;go_wp2_with fail;refine C1.out.mono ?_;rintro e w' ⟨rfl,rfl⟩;go_wp2_with fail
     skip
     go_wp2
     go_ret2
     rw[HN.out];exact⟨10,by omega,rfl,Touch.refl _ _⟩
  ·have HN:Hid (Me.poolS S s=none):=Me.poolS_none fun h=>hl h.2.1
   have q1:((n:Int) != 3)=true:=by simp;omega
   clear hl ha hS hg hn;go_enter Tryz.func114,Tryz.ntmps114;go_wp2_with fail;refine C1.out.mono ?_;rintro e w' ⟨rfl,rfl⟩;go_wp2_with fail
   skip
   go_wp2
   go_ret2
   rw[HN.out];exact⟨10,by omega,rfl,Touch.refl _ _⟩
 ·have HN:Hid (Me.poolS S st=none):=Me.poolS_none fun h=>hg h.1
  have hcase:(decide (st<1)=true)∨(decide (st<1)=false∧decide (64<st)=true):=by
   simp only[decide_eq_true_eq,decide_eq_false_iff_not];omega
  clear hg ha hS hn;rcases hcase with g1|⟨g1,g2⟩
  all_goals
   go_enter Tryz.func114,Tryz.ntmps114;go_wp2_with fail;refine C1.out.mono ?_;rintro e w' ⟨rfl,rfl⟩;go_wp2
   go_ret2
   rw[HN.out];exact⟨1,by omega,rfl,Touch.refl _ _⟩
end
section
open Go Go.RowKit
theorem gathers_any (w:World):Calls Tryz.prog 194 #[] w fun e w'=>e = .returned (.func (.func 226) #[] #[.pointer (some ⟨w.heap.size,0,none⟩)])∧w'=w.alloc (.cells #[.int .i32 0] 21):=by
 have hmf:∀(fn:Fn) (first cap:Array Value) (w:World),(Instr.makeFunc fn first cap).run Tryz.prog w = .ok (.func fn first cap) w:=fun _ _ _ _=>rfl
 go_enter Tryz.func194,Tryz.ntmps194;go_wp2;go_ret;exact⟨rfl,rfl⟩
theorem gathers1_any (w:World)(b:Nat)(s x y:Int)(k:w.cell? ⟨b,0,none⟩=some (.int .i32 s))(hz:w.frozen? ⟨b,0,none⟩=false) :
  Calls Tryz.prog 226 #[.int .i32 x,.int .i32 y,.pointer (some ⟨b,0,none⟩)] w fun e w'=>e = .returned (.int .i32 (wrap32 (s+wrap32 (x*y))))∧w'=w.setCell ⟨b,0,none⟩ (.int .i32 (wrap32 (s+wrap32 (x*y)))):=by
 have k2:∀v,(w.setCell ⟨b,0,none⟩ v).cell? ⟨b,0,none⟩=some v:=fun v=>cell_set k
 go_enter Tryz.func226,Tryz.ntmps226;go_wp2;go_ret;exact⟨rfl,rfl⟩
namespace Me
theorem go_in {f:Int→Nat→Int}{a:Int}(ha:-2147483648≤a∧a≤2147483647)(h:∀s k,-2147483648≤f s k∧f s k≤2147483647):∀n,-2147483648≤go f a n∧go f a n≤2147483647
 | 0=>ha
 | n+1=>h _ _
theorem prodL_in (A B:List Int)(r d c:Nat):∀y∈prodL A B r d c,-2147483648≤y∧y≤2147483647:=map_in fun _ _=>go_in (by omega) (fun _ _=>w32_in _) _
theorem mul_lt {a b c d:Nat}(h:a<b)(k:c<d):a*d+c<b*d:=by
 have:(a+1)*d≤b*d:=Nat.mul_le_mul_right _ h;rw[Nat.add_mul,Nat.one_mul]at this;omega
end Me
theorem fill_zero_set {L:List Int}{k:Nat}(hk:k<L.length):(fill (ints .i32 L) (.int .i32 0) k).set k (.int .i32 0)=fill (ints .i32 L) (.int .i32 0) k:=by
 refine List.ext_getElem? fun j=>?_
 by_cases h:k=j
 ·subst h
  have:=fill_get (vs:=ints .i32 L) (z:=.int .i32 0) (k:=k) (by rw[ints_length];exact hk)
  rw[this,List.getElem?_set_self (by
   rcases Nat.lt_or_ge k (fill (ints .i32 L) (.int .i32 0) k).length with h|h
   ·exact h
   ·rw[Lgn h]at this;cases this)]
 ·rw[List.getElem?_set_ne h]
theorem prodOf_in (w:World)(sa la sb lb:Option Addr)(n c m d n' c' m' d':Nat)(S T:List Nat)(A B:List Int)(hA:TIn w sa n c la m d S A)(hB:TIn w sb n' c' lb m' d' T B)(hn2:n=2)(hn2':n'=2)(hd:S.getD 1 0=T.getD 0 0)(okO:Me.Ok [S.getD 0 0,T.getD 1 0]) :
  Calls Tryz.prog 141 #[.agg #[.slice sa n c,.slice la m d],.agg #[.slice sb n' c',.slice lb m' d']] w (TOut w [S.getD 0 0,T.getD 1 0] (Me.prodL A B (S.getD 0 0) (T.getD 0 0) (T.getD 1 0))):=by
 have hps:Me.prodS S T=some [S.getD 0 0,T.getD 1 0]:=by rw[Me.prodS,if_pos ⟨by rw[hA.sn,hn2],by rw[hB.sn,hn2'],hd⟩]
 have hmA:m=S.getD 0 0*T.getD 0 0:=by
  have h1:=hA.len;have h2:=hA.sn
  match S,h2 with
  | [x,y],_=>simp[Me.pr]at h1 hd ⊢;rw[← hd,h1]
  | [],h=>simp at h;omega
  | [_],h=>simp at h;omega
  | _::_::_::_,h=>simp at h;omega
 have hmB:m'=T.getD 0 0*T.getD 1 0:=by
  have h1:=hB.len;have h2:=hB.sn
  match T,h2 with
  | [x,y],_=>simp[Me.pr]at h1 ⊢;rw[h1]
  | [],h=>simp at h;omega
  | [_],h=>simp at h;omega
  | _::_::_::_,h=>simp at h;omega
 obtain⟨b2,o2,rfl,kd⟩:=hB.dir (k:=0) (by omega);rw[Nat.add_zero]at kd;have hd1:=hB.ok.get (k:=0) (by rw[hB.sn];omega);obtain⟨r,hr⟩:∃r,S.getD 0 0=r:=⟨_,rfl⟩;obtain⟨dd,hdd⟩:∃dd,T.getD 0 0=dd:=⟨_,rfl⟩;obtain⟨cc,hcc⟩:∃cc,T.getD 1 0=cc:=⟨_,rfl⟩;have Hd:=Lib.hid hd;rw[hr,hdd]at hmA;rw[hdd,hcc]at hmB;rw[hdd]at kd hd1;rw[hr,hcc]at okO hps;rw[hr,hdd,hcc];have hrc:=okO.most;simp only[Me.pr,Nat.mul_one]at hrc;have hc1:=okO.each cc (by simp);have HA:=Lib.hid hA;have HB:=Lib.hid hB;have HO:=Lib.hid okO;have HP:=Lib.hid hps;have HmA:=Lib.hid hmA;have HmB:=Lib.hid hmB;have hm4:m≤4096:=hA.m4;have hm4':m'≤4096:=hB.m4;have q5:(0:Int)<(n':Nat):=by omega
 clear hA hB hn2 hn2' hd okO hps hmA hmB hr hdd hcc;go_enter Tryz.func141,Tryz.ntmps141;go_wp2_with fail;obtain⟨w1,hw1,t1,b2',b3,b4,hsz⟩:=three_rows w 51 #[.slice sa n c,.slice la m d] #[.slice (some ⟨b2,o2,none⟩) n' c',.slice lb m' d'] #[.slice none 0 0,.slice none 0 0];rw[← hw1];have H1:=Lib.hid (aI t1 (aI b2' (aI b3 b4)));clear hw1 t1 b2' b3 b4 hsz;refine(tenCheck_ok (HA.out.no H1.out.1)).mono ?_;rintro e w2 ⟨rfl,t2⟩;have H2:=Lib.hid (aI (H1.out.1.trans t2) (aI (H1.out.2.1.touch t2 id) (aI (H1.out.2.2.1.touch t2 id) (H1.out.2.2.2.touch t2 id))));have k0:=H2.out.2.2.1.c0;have k1:=H2.out.2.2.1.c1;clear t2 H1;go_wp2_with fail;refine(tenCheck_ok (HB.out.no H2.out.1)).mono ?_;rintro e w3 ⟨rfl,t2⟩;have H3:=Lib.hid (aI (H2.out.1.trans t2) (aI (H2.out.2.1.touch t2 id) (aI (H2.out.2.2.1.touch t2 id) (H2.out.2.2.2.touch t2 id))));clear t2 H2 k0 k1;have k0:=H3.out.2.1.c0;have k1:=H3.out.2.2.1.c0;go_wp2_with fail;have C:=prodShape_in w3 sa (some ⟨b2,o2,none⟩) n c n' c' S T HA.out.ok HB.out.ok (HA.out.no H3.out.1).sr HA.out.sn (HB.out.no H3.out.1).sr HB.out.sn;rw[HP.out]at C;refine C.mono ?_;clear C;rintro e w4 ⟨ss,ss_c,rfl,hssc,hss,t2,hnew⟩;have H4:=Lib.hid (aI (H3.out.1.trans t2) (aI (H3.out.2.1.touch t2 id) (aI (H3.out.2.2.1.touch t2 id) (H3.out.2.2.2.touch t2 id))));have HSS:=Lib.hid hss;clear t2 H3 k0 k1 hnew hssc hss;go_wp2_with fail;refine(tenNew_in w4 ss 2 ss_c [r,cc] HSS.out rfl HO.out).mono ?_;rintro e w5 ⟨sc,n3,d3,g,m3,rfl,hn3,hm3,hd3,hsr,hsc,hg,hrow,t3⟩;obtain rfl:n3=2:=by rw[← hn3];rfl
 obtain⟨Y,hY⟩:∃Y,Y=w5.heap.size:=⟨_,rfl⟩;obtain⟨w6,hw6⟩:∃w6,w6=w5.alloc (.cells #[.slice sc 2 d3,.slice (some ⟨g,0,none⟩) m3 m3] 51):=⟨_,rfl⟩;have FH:Hid (Fld w w6 (w.heap.size+1+1) g Y sc 2 d3 m3 [r,cc]):=by rw[hw6,hY];exact Fld.make H4.out.1 H4.out.2.2.2.lt (by omega) HO.out rfl hm3 hd3 hsr hsc hg hrow t3
 have hm3':r*cc=m3:=by simpa[Me.pr]using hm3
 have H6:Hid (Row w6 w.heap.size 51 [.slice sa n c,.slice la m d]∧Row w6 (w.heap.size+1) 51 [.slice (some ⟨b2,o2,none⟩) n' c',.slice lb m' d']∧Row w6 (w.heap.size+1+1) 51 [.slice none 0 0,.slice none 0 0]∧Rd w6 ss (nums .i64 [r,cc])):=by
  have t3:Touch No w4 w6:=by rw[hw6];exact t3.alloc _
  exact⟨H4.out.2.1.touch t3 id,H4.out.2.2.1.touch t3 id,H4.out.2.2.2.touch t3 id,HSS.out.no t3⟩
 clear hn3 hm3 hd3 hsr hsc hg hrow t3 H4 HSS;go_wp2_with fail;rw[← hw6,← hY];clear hw6 hY;have k1:=H6.out.2.1.c0;have kd6:=FH.out.t.cell id kd;obtain⟨bs,os,rfl,ks⟩:=H6.out.2.2.2.num (i:=1) (by simp);clear kd;refine wp_region_quiet_lit (by kernel_rfl) (by kernel_rfl) ?_;repeat (first|go_big_quiet_step (fail)|quiet_step (fail))
 refine wpQuiet_nil ?_;intro _ hw';obtain⟨nq,hw''⟩:=hw';subst hw'';clear k1 ks kd6;have ky0:=FH.out.rowY.c1;go_wp2_with fail;clear ky0;have Hl:=Lib.hid (show(Me.prodL A B r dd cc).length=m3 by rw[Me.prodL,List.length_map,List.length_range,hm3']);have Hl':=Lib.hid (show(ints .i32 (Me.prodL A B r dd cc)).length=m3 by rw[ints_length];exact Hl.out);have hm34:m3≤4096:=by omega
 have hXg:w.heap.size+1+1<g:=FH.out.Xg;have hgY:g<Y:=FH.out.gY
 go_loopg [53] m3 (fun gh s53 wr=>∃k:Nat,k+gh=m3∧s53 = .int .i64 ((k:Nat):Int)∧Hid (Touch (One g) w6 wr)∧Hid (Row wr g 21 (fill (ints .i32 (Me.prodL A B r dd cc)) (.int .i32 0) k)))
 case atStart=>exact⟨0,by omega,rfl,(Touch.refl _ _).drewN _,(FH.out.start Hl'.out).touch ((Touch.refl No _).drewN nq) id⟩
 case round =>
  obtain⟨k,hkg,rfl,T',R⟩:=hrel;cases gk with
  | zero =>
    obtain rfl:k=m3:=by omega
    have ky:=FH.out.cell T'.out;have kx:=H6.out.2.2.1.keep T'.out (by omega);have ky0:=FH.out.cell0 T'.out;have R:=Lib.hid (show Row wr g 21 (ints .i32 (Me.prodL A B r dd cc)) by have:=R.out;rw[fill_all _ _ Hl'.out]at this;exact this);go_wp2_with (refine wpList_store_mid rfl 51 _ _ rfl (w.heap.size+1+1) 0 51 [.slice none 0 0,.slice none 0 0] kx rfl [.slice sc 2 d3,.slice (some ⟨g,0,none⟩) k k] rfl (by kernel_rfl) (by simp) (by intro v hv;simp at hv;rcases hv with rfl|rfl <;> rfl) ?_);obtain⟨w9,hw9⟩:∃w9,w9=wr.setRow (w.heap.size+1+1) (splice [.slice none 0 0,.slice none 0 0] 0 [.slice sc 2 d3,.slice (some ⟨g,0,none⟩) k k]).toArray:=⟨_,rfl⟩;have R9:Row w9 (w.heap.size+1+1) 51 [.slice sc 2 d3,.slice (some ⟨g,0,none⟩) k k]:=by rw[hw9];exact kx.setRow _
    have HN:=Lib.hid (FH.out.done T'.out R.out Hl.out (Me.prodL_in A B r dd cc) (show Touch (One (w.heap.size+1+1)) wr w9 by rw[hw9];exact Touch.setOne _ _ _));have y0:=R9.c0;have y1:=R9.c1;rw[← hw9];clear hw9 kx R9;go_wp2;refine bodyPost_ret (v:=.tuple #[.agg #[.slice sc 2 d3,.slice (some ⟨g,0,none⟩) k k],.int .i64 0]) (by simp[results,Tryz.results141,go_sem,y0,y1]) rfl ?_;exact⟨sc,2,d3,_,k,k,rfl,HN.out.1,HN.out.2⟩
  | succ g' =>
    have hki:(k:Int)<(m3:Nat):=by omega
    have hc0:¬(cc:Int)=0:=by omega
    have hq1:(k:Int).tdiv (cc:Int)=((k / cc:Nat):Int):=by rw[Int.tdiv_eq_ediv_of_nonneg (by omega)];omega
    have hq2:(k:Int).tmod (cc:Int)=((k%cc:Nat):Int):=by rw[Int.tmod_eq_emod_of_nonneg (by omega)];omega
    have hkr:k / cc<r:=by rw[Nat.div_lt_iff_lt_mul (by omega)];omega
    have hkc:k%cc<cc:=Nat.mod_lt _ (by omega);have hrk:k / cc≤k:=Nat.div_le_self _ _;obtain⟨row,hrow⟩:∃row,k / cc=row:=⟨_,rfl⟩;obtain⟨col,hcol⟩:∃col,k%cc=col:=⟨_,rfl⟩;rw[hrow]at hq1 hkr hrk;rw[hcol]at hq2 hkc;have hq1':(k:Int) / (cc:Int)=((row:Nat):Int):=by rw[← hrow];omega
    have hq2':(k:Int)%(cc:Int)=((col:Nat):Int):=by rw[← hcol];omega
    have HV:Hid (Me.at_ (Me.prodL A B r dd cc) k=Me.go (Me.dot A B dd cc row col) 0 dd):=by
     show _=_
     rw[Me.prodL,Me.at_map _ (by omega),hrow,hcol]
    have hw1:IntKind.i64.wrap ((row:Nat):Int)=((row:Nat):Int):=IntWalk.i64_in _ (by omega);have hw2:IntKind.i64.wrap ((col:Nat):Int)=((col:Nat):Int):=IntWalk.i64_in _ (by omega);have z01m:((cc:Int)==0)=false:=by simp;omega
    have z02m:¬(cc:Int)=0:=by omega
    have z03m:¬cc=0:=by omega
    clear hrow hcol;go_upto_region 11 with fail
    go_cut [13,14,15] (fun s13 s14 s15 wx=>s13 = .func (.func 226) #[] #[.pointer (some ⟨wr.heap.size,0,none⟩)]∧s14 = .int .i64 ((row:Nat):Int)∧s15 = .int .i64 ((col:Nat):Int)∧Hid (wx=(wr.alloc (.cells #[.int .i32 0] 21)).drew))
    case first =>
     go_wp2_with fail
     go_region_held3 (fun _=>True) (trivial) (first|(go_at_call 194;refine(gathers_any _).mono ?_;rintro e w' ⟨rfl,rfl⟩))
     all_goals
      go_wp2_with fail;go_meet;exact⟨rfl,rfl,rfl,rfl⟩
    case rest =>
    obtain⟨rfl,rfl,rfl,hwc⟩:=hcut;obtain rfl:=hwc.out;clear hwc;go_wp2_with fail;obtain⟨b,hb⟩:∃b,b=wr.heap.size:=⟨_,rfl⟩;obtain⟨w8,hw8⟩:∃w8,w8=(wr.alloc (.cells #[.int .i32 0] 21)).drew:=⟨_,rfl⟩;have hbY:Y<b:=by rw[hb];exact(FH.out.rowY.keep T'.out (by omega)).lt
    have hbig:w6.heap.size≤b:=by rw[hb];exact T'.out.size
    have H8:Hid (Touch (One g) w6 w8∧Row w8 g 21 (fill (ints .i32 (Me.prodL A B r dd cc)) (.int .i32 0) k)∧Row w8 b 21 [.int .i32 0]):=by
     refine⟨by rw[hw8];exact(T'.out.alloc _).drew,by rw[hw8];exact(R.out.touch ((Touch.refl No _).alloc _) id).touch (Touch.refl No _).drew id,?_⟩;rw[hw8,hb];exact(Row.new wr 21 #[.int .i32 0]).touch (Touch.refl No _).drew id
    rw[← hw8,← hb];clear hw8 hb R T';obtain⟨wo,rfl⟩:∃wo:World,wo=wr:=⟨_,rfl⟩
    go_loopg [64] dd (fun gh s64 wr=>∃p:Nat,p+gh=dd∧s64 = .int .i64 ((p:Nat):Int)∧Hid (Touch (One g) w6 wr)∧Hid (Row wr g 21 ((fill (ints .i32 (Me.prodL A B r dd cc)) (.int .i32 0) k).set k (.int .i32 (Me.go (Me.dot A B dd cc row col) 0 p))))∧Hid (Row wr b 21 [.int .i32 (Me.go (Me.dot A B dd cc row col) 0 p)]))
    case atStart=>exact⟨0,by omega,rfl,H8.out.1,by show Row _ _ _ _;rw[show Me.go (Me.dot A B dd cc row col) 0 0=0 from rfl,fill_zero_set (by rw[Hl.out];omega)];exact H8.out.2.1,H8.out.2.2⟩
    case round =>
     obtain⟨p,hpg,rfl,Ti,Ri,Rb⟩:=hrel;cases gk with
     | zero =>
       obtain rfl:dd=p:=by omega
       have HN:Hid (Row wr g 21 (fill (ints .i32 (Me.prodL A B r dd cc)) (.int .i32 0) (k+1))):=by
        have:=Ri.out;rw[← HV.out,fill_ints_next (by rw[Hl.out];omega)]at this;exact this
       go_wp2
       go_roundg g'
       case measure=>omega
       case rel=>exact⟨k+1,by omega,by go_num,Ti.out,HN.out⟩
     | succ g2 =>
       have hpi:(p:Int)<(dd:Nat):=by omega
       obtain⟨s,hs⟩:∃s,Me.go (Me.dot A B dd cc row col) 0 p=s:=⟨_,rfl⟩;obtain⟨i,hi⟩:∃i,row*dd+p=i:=⟨_,rfl⟩;obtain⟨j,hj⟩:∃j,p*cc+col=j:=⟨_,rfl⟩;have him:i<m:=by rw[HmA.out,← hi];exact Me.mul_lt hkr (by omega)
       have hjm:j<m':=by rw[HmB.out,← hj];exact Me.mul_lt (by omega) hkc
       obtain⟨rd,hrd⟩:∃rd,row*dd=rd:=⟨_,rfl⟩;obtain⟨pc,hpc⟩:∃pc,p*cc=pc:=⟨_,rfl⟩;have e1:IntKind.i64.wrap ((row:Int)*(dd:Int))=((rd:Nat):Int):=by rw[← Int.natCast_mul,hrd];exact IntWalk.i64_in _ (by omega)
       have e2:IntKind.i64.wrap (((rd:Nat):Int)+(p:Int))=((i:Nat):Int):=by rw[← hi,hrd,← Int.natCast_add];exact IntWalk.i64_in _ (by omega)
       have e3:IntKind.i64.wrap ((p:Int)*(cc:Int))=((pc:Nat):Int):=by rw[← Int.natCast_mul,hpc];exact IntWalk.i64_in _ (by omega)
       have e4:IntKind.i64.wrap (((pc:Nat):Int)+(col:Int))=((j:Nat):Int):=by rw[← hj,hpc,← Int.natCast_add];exact IntWalk.i64_in _ (by omega)
       have ky:=FH.out.cell Ti.out;have k2:=(H6.out.1.keep Ti.out (by omega)).c1;have k3:=(H6.out.2.1.keep Ti.out (by omega)).c1;obtain⟨ga,oa,rfl,ca⟩:=HA.out.num (k:=i) (by omega);obtain⟨gb,ob,rfl,cb⟩:=HB.out.num (k:=j) (by omega);have hga:=lt_of_cell ca;have hgb:=lt_of_cell cb;have ca:=(FH.out.t.oneNo Ti.out (by omega)).cell id ca;have cb:=(FH.out.t.oneNo Ti.out (by omega)).cell id cb
       have HS:Hid (Me.go (Me.dot A B dd cc row col) 0 (p+1)=wrap32 (s+wrap32 (Me.at_ A i*Me.at_ B j))):=by
        show _=_
        rw[Me.go_succ,hs,Me.dot,hi,hj]
       obtain⟨x,hx⟩:∃x,Me.at_ A i=x:=⟨_,rfl⟩;obtain⟨y,hy⟩:∃y,Me.at_ B j=y:=⟨_,rfl⟩;rw[hx]at ca HS;rw[hy]at cb HS;rw[hs]at Ri Rb;obtain⟨v,hv⟩:∃v,wrap32 (s+wrap32 (x*y))=v:=⟨_,rfl⟩;rw[hv]at HS;have kb:=Rb.out.cell 0;have zb:=Rb.out.soft 0
       have hfl:k<(fill (ints .i32 (Me.prodL A B r dd cc)) (.int .i32 0) k).length:=by
        have:=fill_get (vs:=ints .i32 (Me.prodL A B r dd cc)) (z:=.int .i32 0) (k:=k) (by rw[Hl'.out];omega);rcases Nat.lt_or_ge k (fill (ints .i32 (Me.prodL A B r dd cc)) (.int .i32 0) k).length with h|h
        ·exact h
        ·rw[Lgn h]at this;cases this
       have cg:wr.cell? ⟨g,k,none⟩=some (.int .i32 s):=by rw[Ri.out.cell,List.getElem?_set_self hfl]
       have cz:wr.frozen? ⟨g,k,none⟩=false:=Ri.out.soft k
       have Q:Hid (∀W:World,Touch (TwoB g b) wr W→W.cell? ⟨Y,1,none⟩=some (.slice (some ⟨g,0,none⟩) m3 m3)∧W.cell? ⟨w.heap.size,1,none⟩=some (.slice (some ⟨ga,oa,none⟩) m d)∧W.cell? ⟨w.heap.size+1,1,none⟩=some (.slice (some ⟨gb,ob,none⟩) m' d')∧W.cell? ⟨ga,oa+i,none⟩=some (.int .i32 x)∧W.cell? ⟨gb,ob+j,none⟩=some (.int .i32 y)):=fun W t =>
        ⟨t.cell (fun e=>by rcases e with e|e <;> omega) ky,t.cell (fun e=>by rcases e with e|e <;> omega) k2,t.cell (fun e=>by rcases e with e|e <;> omega) k3,t.cell (fun e=>by rcases e with e|e <;> omega) ca,t.cell (fun e=>by rcases e with e|e <;> omega) cb⟩
       have C:Hid (∀W:World,W.cell? ⟨b,0,none⟩=some (.int .i32 s)→W.frozen? ⟨b,0,none⟩=false→Calls Tryz.prog 226 #[.int .i32 x,.int .i32 y,.pointer (some ⟨b,0,none⟩)] W fun e w'=>e = .returned (.int .i32 v)∧w'=W.setCell ⟨b,0,none⟩ (.int .i32 v)):=fun W h1 h2=>by
        rw[← hv];exact gathers1_any W b s x y h1 h2
       have hii:(i:Int)<(m:Nat):=by omega
       have hjj:(j:Int)<(m':Nat):=by omega
       have HN:Hid (Touch (One g) w6 ((wr.setCell ⟨b,0,none⟩ (.int .i32 v)).setCell ⟨g,k,none⟩ (.int .i32 v)).drew∧Row ((wr.setCell ⟨b,0,none⟩ (.int .i32 v)).setCell ⟨g,k,none⟩ (.int .i32 v)).drew g 21 ((fill (ints .i32 (Me.prodL A B r dd cc)) (.int .i32 0) k).set k (.int .i32 (Me.go (Me.dot A B dd cc row col) 0 (p+1))))∧Row ((wr.setCell ⟨b,0,none⟩ (.int .i32 v)).setCell ⟨g,k,none⟩ (.int .i32 v)).drew b 21 [.int .i32 (Me.go (Me.dot A B dd cc row col) 0 (p+1))]):=by
        have hb6:w6.heap.size≤b:=hbig;rw[HS.out];refine⟨((Ti.out.setCell (p:=⟨b,0,none⟩) (fun h=>absurd h (Nat.not_lt.2 hb6)) _).setCell (p:=⟨g,k,none⟩) (fun _=>rfl) _).drew,?_,?_⟩
        ·have h1:=Ri.out.touch (F:=One b) ((Touch.refl (One b) _).setCell (p:=⟨b,0,none⟩) (fun _=>(rfl:b=b)) (.int .i32 v)) (fun e=>by unfold One at e;omega)
         have h2:=h1.setCell k (.int .i32 v);rw[List.set_set]at h2;exact h2.touch (F:=No) (Touch.refl No _).drew id
        ·have h1:=Rb.out.setCell 0 (.int .i32 v)
         exact(h1.touch (F:=One g) ((Touch.refl (One g) _).setCell (p:=⟨g,k,none⟩) (fun _=>(rfl:g=g)) (.int .i32 v)) (fun e=>by unfold One at e;omega)).touch (F:=No) (Touch.refl No _).drew id
       clear hv hs hx hy hi hj hfl hrd hpc;go_wp2_with fail
       go_region_held3 (fun w'=>w'.cell? ⟨Y,1,none⟩=some (.slice (some ⟨g,0,none⟩) m3 m3)∧w'.cell? ⟨w.heap.size,1,none⟩=some (.slice (some ⟨ga,oa,none⟩) m d)∧w'.cell? ⟨w.heap.size+1,1,none⟩=some (.slice (some ⟨gb,ob,none⟩) m' d')∧w'.cell? ⟨ga,oa+i,none⟩=some (.int .i32 x)∧w'.cell? ⟨gb,ob+j,none⟩=some (.int .i32 y)) (exact Q.out _ (by repeat' (first|exact Touch.refl _ _|refine Touch.drew ?_|refine Touch.setCell ?_ (fun _=>Or.inl rfl) _|refine Touch.setCell ?_ (fun _=>Or.inr rfl) _))) (first|(go_at_call 226;refine(C.out wr.drew kb zb).mono ?_;rintro e w' ⟨rfl,rfl⟩))
       go_wp2
       go_roundg g2
       case measure=>omega
       case rel=>exact⟨p+1,by omega,by go_num,HN.out.1,HN.out.2.1,HN.out.2.2⟩
end
end Go.Proofs.YtjlphmmalebgpaaGreat
