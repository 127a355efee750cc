/-
  A part of the proof.
-/
import Derived.Test.YtjlphmmalebgpaaGreatK18
import Derived.Test.YtjlphmmalebgpaaGreatK19
set_option linter.unusedSimpArgs false
set_option linter.unusedVariables false
set_option maxHeartbeats 2000000
set_option maxRecDepth 100000
namespace Go.Proofs.YtjlphmmalebgpaaGreat
section
open Go Go.RowKit
def ShB (w:World)(o:Option (List Nat))(e:Ending)(w':World):Prop :=
 match o with
 | some s=>∃a c,e = .returned (.tuple #[.slice a s.length c,.bool true])∧s.length≤c∧Rd w' a (nums .i64 s)∧Touch No w w'
 | none=>∃v,e = .returned (.tuple #[v,.bool false])∧Touch No w w'
theorem zs_ints {l:List Nat}:ints .i64 (Me.zs l)=nums .i64 l:=Me.ints_zs _ _
theorem box_row (w:World)(v:List Value)(T:TypeId):∃w1,w1=w.alloc (.cells v.toArray T)∧Touch No w w1∧Row w1 w.heap.size T v:=⟨_,rfl,(Touch.refl No w).alloc _,by have:=Row.new w T v.toArray;simpa using this⟩
theorem refShape10_1 (w:World)(ia sa a:Option Addr)(n c n' c' k kc:Nat)(inn shape:List Int)(N P:Int)(Ss:List (List Nat))(hx:NIn w ia n c sa n' c' ⟨1,inn,shape,N,P⟩)(hS:SsIn w a Ss)(hk:Ss.length=k)(hokS:∀j,j<k→Me.Ok (Me.sh Ss j))(hs:Ar.shape shape=true) :
  Calls Tryz.prog 71 #[nodeV ia n c sa n' c' ⟨1,inn,shape,N,P⟩,.slice a k kc] w (ShB w (some (Me.nats shape))):=by
 have hz:=Me.ok_nats hs;have hL:(Me.nats shape).length=n':=by rw[Me.nats_length];exact hx.sl
 have hr:Rd w sa (nums .i64 (Me.nats shape)):=by rw[← zs_ints,hz.1];exact hx.sr
 have HN:=Lib.hid (aI hL (aI hx.sc hr));clear hz hL hr hx hS hokS;unfold nodeV;dsimp only;go_enter Tryz.func71,Tryz.ntmps71;go_wp2
 go_ret2
 exact⟨sa,c',by rw[HN.out.1];rfl,by rw[HN.out.1];exact HN.out.2.1,HN.out.2.2.no ((Touch.refl No w).alloc _),(Touch.refl No w).alloc _⟩
theorem refShape10_2 (w:World)(ia sa a:Option Addr)(n c n' c' k kc:Nat)(inn shape:List Int)(N P:Int)(Ss:List (List Nat))(hx:NIn w ia n c sa n' c' ⟨2,inn,shape,N,P⟩)(hS:SsIn w a Ss)(hk:Ss.length=k)(hokS:∀j,j<k→Me.Ok (Me.sh Ss j))(hs:Ar.shape shape=true) :
  Calls Tryz.prog 71 #[nodeV ia n c sa n' c' ⟨2,inn,shape,N,P⟩,.slice a k kc] w (ShB w (some (Me.nats shape))):=by
 have hz:=Me.ok_nats hs;have hL:(Me.nats shape).length=n':=by rw[Me.nats_length];exact hx.sl
 have hr:Rd w sa (nums .i64 (Me.nats shape)):=by rw[← zs_ints,hz.1];exact hx.sr
 have HN:=Lib.hid (aI hL (aI hx.sc hr));clear hz hL hr hx hS hokS;unfold nodeV;dsimp only;go_enter Tryz.func71,Tryz.ntmps71;go_wp2
 go_ret2
 exact⟨sa,c',by rw[HN.out.1];rfl,by rw[HN.out.1];exact HN.out.2.1,HN.out.2.2.no ((Touch.refl No w).alloc _),(Touch.refl No w).alloc _⟩
theorem refShape10_3 (w:World)(ia sa a:Option Addr)(n c n' c' k kc:Nat)(inn shape:List Int)(N P:Int)(Ss:List (List Nat))(hx:NIn w ia n c sa n' c' ⟨3,inn,shape,N,P⟩)(hS:SsIn w a Ss)(hk:Ss.length=k)(hokS:∀j,j<k→Me.Ok (Me.sh Ss j))(hk2:k=2) :
  Calls Tryz.prog 71 #[nodeV ia n c sa n' c' ⟨3,inn,shape,N,P⟩,.slice a k kc] w (ShB w (if Me.sh Ss 0=Me.sh Ss 1 then some (Me.sh Ss 0) else none)):=by
 obtain⟨b,o,s0,n0,c0,rfl,h1,h2,h3,h4⟩:=hS 0 (by omega);rw[Nat.add_zero]at h1;have hk0:(0:Int)<(k:Nat):=by omega
 have hk0n:0<k:=by omega
 have ok0:=hokS 0 (by omega);have hn04:n0≤4:=by rw[← h2];exact ok0.four
 obtain⟨b',o',s1,n1,c1,e,g1,g2,g3,g4⟩:=hS 1 (by omega);cases e
 have hk1:(1:Int)<(k:Nat):=by omega
 have ok1:=hokS 1 (by omega)
 have C:Hid (∀wx:World,Touch No w wx→Calls Tryz.prog 49 #[.slice s0 n0 c0,.slice s1 n1 c1] wx fun e w'=>e = .returned (.bool (decide (Me.sh Ss 0=Me.sh Ss 1)))∧Touch No wx w'):=fun wx t=>by
  have:=refSame_any wx s0 s1 n0 c0 n1 c1 (Me.zs (Me.sh Ss 0)) (Me.zs (Me.sh Ss 1)) (by rw[zs_ints];exact h4.no t) (by rw[Me.zs_length];exact h2) (by rw[zs_ints];exact g4.no t) (by rw[Me.zs_length];exact g2) (by omega);rw[show decide (Me.zs (Me.sh Ss 0)=Me.zs (Me.sh Ss 1))=decide (Me.sh Ss 0=Me.sh Ss 1) from decide_eq_decide.2 ⟨Me.zs_inj,congrArg _⟩]at this;exact this
 have HZ:=Lib.hid (aI h2 (aI h3 h4));have HC:=Lib.hid (aI h1 g1);obtain⟨oo,hoo⟩:∃oo,(if Me.sh Ss 0=Me.sh Ss 1 then some (Me.sh Ss 0) else none)=oo:=⟨_,rfl⟩;rw[hoo];have HOO:=Lib.hid hoo;clear hx hS hokS ok0 ok1 h1 h2 h3 h4 g1 g2 g3 g4 hk2 hk hoo;unfold nodeV;dsimp only;go_enter Tryz.func71,Tryz.ntmps71;go_wp2_with fail;obtain⟨w1,hw1,t1,R1⟩:=box_row w [.int .u8 (3:Int),.slice ia n c,.slice sa n' c',.int .i64 N,.int .i64 P] 55;rw[← hw1];have HT1:=Lib.hid t1;have HR1:=Lib.hid R1;clear hw1 t1 R1;have q0:=KW.cell (HT1.out.cell id HC.out.1);have q1:=KW.cell (HT1.out.cell id HC.out.2);have CC:Hid (∀p:KW w1,Calls Tryz.prog 49 #[.slice s0 n0 c0,.slice s1 n1 c1] p.wd fun e w'=>e = .returned (.bool (decide (Me.sh Ss 0=Me.sh Ss 1)))∧Touch No p.wd w'):=fun p=>C.out _ (HT1.out.trans p.no)
 refine wp_region_kept (by kernel_rfl) (by kernel_rfl) ?_;repeat (first|go_big_quiet_step (with_reducible exact Calls.kept_of (CC.out _))|quiet_step (with_reducible exact Calls.kept_of (CC.out _)))
 refine wpQuiet_nil ?_;intro _ hw';obtain⟨kw,hw''⟩:=hw';subst hw'';obtain⟨wk,tk⟩:=kw;have tk:=Lib.hid tk;dsimp only;have TT:Hid (Touch No w wk):=HT1.out.trans tk.out;clear q0 q1 CC
 by_cases hq:Me.sh Ss 0=Me.sh Ss 1
 ·have HR:Hid (oo=some (Me.sh Ss 0)):=by show _=_;rw[← HOO.out];exact if_pos hq
  rw[decide_eq_true hq];clear hq;go_wp2
  go_ret2
  rw[HR.out];exact⟨s0,c0,by rw[HZ.out.1];rfl,by rw[HZ.out.1];exact HZ.out.2.1,HZ.out.2.2.no TT.out,TT.out⟩
 ·have HR:Hid (oo=none):=by show _=_;rw[← HOO.out];exact if_neg hq
  rw[decide_eq_false hq];clear hq;go_wp2
  go_ret2
  rw[HR.out];exact⟨_,rfl,TT.out⟩
theorem refShape10_4 (w:World)(ia sa a:Option Addr)(n c n' c' k kc:Nat)(inn shape:List Int)(N P:Int)(Ss:List (List Nat))(hx:NIn w ia n c sa n' c' ⟨4,inn,shape,N,P⟩)(hS:SsIn w a Ss)(hk:Ss.length=k)(hokS:∀j,j<k→Me.Ok (Me.sh Ss j))(hk2:k=2) :
  Calls Tryz.prog 71 #[nodeV ia n c sa n' c' ⟨4,inn,shape,N,P⟩,.slice a k kc] w (ShB w (if Me.sh Ss 0=Me.sh Ss 1 then some (Me.sh Ss 0) else none)):=by
 obtain⟨b,o,s0,n0,c0,rfl,h1,h2,h3,h4⟩:=hS 0 (by omega);rw[Nat.add_zero]at h1;have hk0:(0:Int)<(k:Nat):=by omega
 have hk0n:0<k:=by omega
 have ok0:=hokS 0 (by omega);have hn04:n0≤4:=by rw[← h2];exact ok0.four
 obtain⟨b',o',s1,n1,c1,e,g1,g2,g3,g4⟩:=hS 1 (by omega);cases e
 have hk1:(1:Int)<(k:Nat):=by omega
 have ok1:=hokS 1 (by omega)
 have C:Hid (∀wx:World,Touch No w wx→Calls Tryz.prog 49 #[.slice s0 n0 c0,.slice s1 n1 c1] wx fun e w'=>e = .returned (.bool (decide (Me.sh Ss 0=Me.sh Ss 1)))∧Touch No wx w'):=fun wx t=>by
  have:=refSame_any wx s0 s1 n0 c0 n1 c1 (Me.zs (Me.sh Ss 0)) (Me.zs (Me.sh Ss 1)) (by rw[zs_ints];exact h4.no t) (by rw[Me.zs_length];exact h2) (by rw[zs_ints];exact g4.no t) (by rw[Me.zs_length];exact g2) (by omega);rw[show decide (Me.zs (Me.sh Ss 0)=Me.zs (Me.sh Ss 1))=decide (Me.sh Ss 0=Me.sh Ss 1) from decide_eq_decide.2 ⟨Me.zs_inj,congrArg _⟩]at this;exact this
 have HZ:=Lib.hid (aI h2 (aI h3 h4));have HC:=Lib.hid (aI h1 g1);obtain⟨oo,hoo⟩:∃oo,(if Me.sh Ss 0=Me.sh Ss 1 then some (Me.sh Ss 0) else none)=oo:=⟨_,rfl⟩;rw[hoo];have HOO:=Lib.hid hoo;clear hx hS hokS ok0 ok1 h1 h2 h3 h4 g1 g2 g3 g4 hk2 hk hoo;unfold nodeV;dsimp only;go_enter Tryz.func71,Tryz.ntmps71;go_wp2_with fail;obtain⟨w1,hw1,t1,R1⟩:=box_row w [.int .u8 (4:Int),.slice ia n c,.slice sa n' c',.int .i64 N,.int .i64 P] 55;rw[← hw1];have HT1:=Lib.hid t1;have HR1:=Lib.hid R1;clear hw1 t1 R1;have q0:=KW.cell (HT1.out.cell id HC.out.1);have q1:=KW.cell (HT1.out.cell id HC.out.2);have CC:Hid (∀p:KW w1,Calls Tryz.prog 49 #[.slice s0 n0 c0,.slice s1 n1 c1] p.wd fun e w'=>e = .returned (.bool (decide (Me.sh Ss 0=Me.sh Ss 1)))∧Touch No p.wd w'):=fun p=>C.out _ (HT1.out.trans p.no)
 refine wp_region_kept (by kernel_rfl) (by kernel_rfl) ?_;repeat (first|go_big_quiet_step (with_reducible exact Calls.kept_of (CC.out _))|quiet_step (with_reducible exact Calls.kept_of (CC.out _)))
 refine wpQuiet_nil ?_;intro _ hw';obtain⟨kw,hw''⟩:=hw';subst hw'';obtain⟨wk,tk⟩:=kw;have tk:=Lib.hid tk;dsimp only;have TT:Hid (Touch No w wk):=HT1.out.trans tk.out;clear q0 q1 CC
 by_cases hq:Me.sh Ss 0=Me.sh Ss 1
 ·have HR:Hid (oo=some (Me.sh Ss 0)):=by show _=_;rw[← HOO.out];exact if_pos hq
  rw[decide_eq_true hq];clear hq;go_wp2
  go_ret2
  rw[HR.out];exact⟨s0,c0,by rw[HZ.out.1];rfl,by rw[HZ.out.1];exact HZ.out.2.1,HZ.out.2.2.no TT.out,TT.out⟩
 ·have HR:Hid (oo=none):=by show _=_;rw[← HOO.out];exact if_neg hq
  rw[decide_eq_false hq];clear hq;go_wp2
  go_ret2
  rw[HR.out];exact⟨_,rfl,TT.out⟩
theorem refShape10_5 (w:World)(ia sa a:Option Addr)(n c n' c' k kc:Nat)(inn shape:List Int)(N P:Int)(Ss:List (List Nat))(hx:NIn w ia n c sa n' c' ⟨5,inn,shape,N,P⟩)(hS:SsIn w a Ss)(hk:Ss.length=k)(hokS:∀j,j<k→Me.Ok (Me.sh Ss j))(hk2:k=1) :
  Calls Tryz.prog 71 #[nodeV ia n c sa n' c' ⟨5,inn,shape,N,P⟩,.slice a k kc] w (ShB w (some (Me.sh Ss 0))):=by
 obtain⟨b,o,s0,n0,c0,rfl,h1,h2,h3,h4⟩:=hS 0 (by omega);rw[Nat.add_zero]at h1;have hk0:(0:Int)<(k:Nat):=by omega
 have hk0n:0<k:=by omega
 have ok0:=hokS 0 (by omega);have hn04:n0≤4:=by rw[← h2];exact ok0.four
 have k0:∀ob,(w.alloc ob).cell? ⟨b,o,none⟩=some (.slice s0 n0 c0):=fun ob=>((Touch.refl No w).alloc ob).cell id h1
 have HZ:=Lib.hid (aI h2 (aI h3 h4));clear hx hS hokS ok0 h1 h2 h3 h4 hk2 hk;unfold nodeV;dsimp only;go_enter Tryz.func71,Tryz.ntmps71;go_wp2
 go_ret2
 exact⟨s0,c0,by rw[HZ.out.1];rfl,by rw[HZ.out.1];exact HZ.out.2.1,HZ.out.2.2.no ((Touch.refl No w).alloc _),(Touch.refl No w).alloc _⟩
theorem refShape10_6 (w:World)(ia sa a:Option Addr)(n c n' c' k kc:Nat)(inn shape:List Int)(N P:Int)(Ss:List (List Nat))(hx:NIn w ia n c sa n' c' ⟨6,inn,shape,N,P⟩)(hS:SsIn w a Ss)(hk:Ss.length=k)(hokS:∀j,j<k→Me.Ok (Me.sh Ss j))(hk2:k=1) :
  Calls Tryz.prog 71 #[nodeV ia n c sa n' c' ⟨6,inn,shape,N,P⟩,.slice a k kc] w (ShB w (some (Me.sh Ss 0))):=by
 obtain⟨b,o,s0,n0,c0,rfl,h1,h2,h3,h4⟩:=hS 0 (by omega);rw[Nat.add_zero]at h1;have hk0:(0:Int)<(k:Nat):=by omega
 have hk0n:0<k:=by omega
 have ok0:=hokS 0 (by omega);have hn04:n0≤4:=by rw[← h2];exact ok0.four
 have k0:∀ob,(w.alloc ob).cell? ⟨b,o,none⟩=some (.slice s0 n0 c0):=fun ob=>((Touch.refl No w).alloc ob).cell id h1
 have HZ:=Lib.hid (aI h2 (aI h3 h4));clear hx hS hokS ok0 h1 h2 h3 h4 hk2 hk;unfold nodeV;dsimp only;go_enter Tryz.func71,Tryz.ntmps71;go_wp2
 go_ret2
 exact⟨s0,c0,by rw[HZ.out.1];rfl,by rw[HZ.out.1];exact HZ.out.2.1,HZ.out.2.2.no ((Touch.refl No w).alloc _),(Touch.refl No w).alloc _⟩
theorem refShape10_7 (w:World)(ia sa a:Option Addr)(n c n' c' k kc:Nat)(inn shape:List Int)(N P:Int)(Ss:List (List Nat))(hx:NIn w ia n c sa n' c' ⟨7,inn,shape,N,P⟩)(hS:SsIn w a Ss)(hk:Ss.length=k)(hokS:∀j,j<k→Me.Ok (Me.sh Ss j))(hk2:k=2) :
  Calls Tryz.prog 71 #[nodeV ia n c sa n' c' ⟨7,inn,shape,N,P⟩,.slice a k kc] w (ShB w (Me.prodS (Me.sh Ss 0) (Me.sh Ss 1))):=by
 obtain⟨b,o,s0,n0,c0,rfl,h1,h2,h3,h4⟩:=hS 0 (by omega);rw[Nat.add_zero]at h1;have hk0:(0:Int)<(k:Nat):=by omega
 have hk0n:0<k:=by omega
 have ok0:=hokS 0 (by omega);have hn04:n0≤4:=by rw[← h2];exact ok0.four
 obtain⟨b',o',s1,n1,c1,e,g1,g2,g3,g4⟩:=hS 1 (by omega);cases e
 have hk1:(1:Int)<(k:Nat):=by omega
 have ok1:=hokS 1 (by omega);have C:Hid (∀wx:World,Touch No w wx→Calls Tryz.prog 112 #[.slice s0 n0 c0,.slice s1 n1 c1] wx (ShOut wx (Me.prodS (Me.sh Ss 0) (Me.sh Ss 1)))):=fun wx t=>refProdShape_in wx s0 s1 n0 c0 n1 c1 _ _ ok0 ok1 (h4.no t) h2 (g4.no t) g2
 have HC:=Lib.hid (aI h1 g1);clear hx hS hokS ok0 h1 h2 h3 h4 hk2 hk ok1 g1 g2 g3 g4;obtain⟨oo,hoo⟩:∃oo,Me.prodS (Me.sh Ss 0) (Me.sh Ss 1)=oo:=⟨_,rfl⟩;rw[hoo]at C ⊢;clear hoo;unfold nodeV;dsimp only;go_enter Tryz.func71,Tryz.ntmps71;go_wp2_with fail;obtain⟨w1,hw1,t1,R1⟩:=box_row w [.int .u8 (7:Int),.slice ia n c,.slice sa n' c',.int .i64 N,.int .i64 P] 55;rw[← hw1];have HT1:=Lib.hid t1;have HR1:=Lib.hid R1;clear hw1 t1 R1;have S0:Hid (∀wx:World,Touch No w1 wx→wx.cell? ⟨b,o,none⟩=some (.slice s0 n0 c0)∧wx.cell? ⟨b,o+1,none⟩=some (.slice s1 n1 c1)):=fun wx t=>⟨t.cell id (HT1.out.cell id HC.out.1),t.cell id (HT1.out.cell id HC.out.2)⟩
 cases oo with
 | none =>
   go_region_held3 (fun w'=>w'.cell? ⟨b,o,none⟩=some (.slice s0 n0 c0)∧w'.cell? ⟨b,o+1,none⟩=some (.slice s1 n1 c1)) (first|exact S0.out _ (Touch.refl No w1).drew|exact S0.out _ T5.out.2) (first|(go_at_call 112;refine(C.out _ (HT1.out.trans (Touch.refl No w1).drew)).mono ?_;rintro e w5 ⟨x,hx0,rfl,t5⟩;have T5:Hid (True∧Touch No w1 w5):=⟨trivial,(Touch.refl No w1).drew.trans t5⟩;have f1:(x==0)=false:=(by simpa using hx0);clear hx0 t5))
   all_goals
    go_wp2
    go_ret2
    exact⟨_,rfl,HT1.out.trans T5.out.2⟩
 | some s =>
   go_region_held3 (fun w'=>w'.cell? ⟨b,o,none⟩=some (.slice s0 n0 c0)∧w'.cell? ⟨b,o+1,none⟩=some (.slice s1 n1 c1)) (first|exact S0.out _ (Touch.refl No w1).drew|exact S0.out _ T5.out.2) (first|(go_at_call 112;refine(C.out _ (HT1.out.trans (Touch.refl No w1).drew)).mono ?_;rintro e w5 ⟨a5,c5,rfl,h1,h2,t5,_⟩;have T5:Hid ((s.length≤c5∧Rd w5 a5 (nums .i64 s))∧Touch No w1 w5):=⟨⟨h1,h2⟩,(Touch.refl No w1).drew.trans t5⟩;clear h1 h2 t5))
   all_goals
    go_wp2
    go_ret2
    exact⟨a5,c5,rfl,T5.out.1.1,T5.out.1.2,HT1.out.trans T5.out.2⟩
theorem refShape10_8 (w:World)(ia sa a:Option Addr)(n c n' c' k kc:Nat)(inn shape:List Int)(N P:Int)(Ss:List (List Nat))(hx:NIn w ia n c sa n' c' ⟨8,inn,shape,N,P⟩)(hS:SsIn w a Ss)(hk:Ss.length=k)(hokS:∀j,j<k→Me.Ok (Me.sh Ss j))(hk2:k=2) :
  Calls Tryz.prog 71 #[nodeV ia n c sa n' c' ⟨8,inn,shape,N,P⟩,.slice a k kc] w (ShB w (Me.winS (Me.sh Ss 0) (Me.sh Ss 1) N P)):=by
 obtain⟨b,o,s0,n0,c0,rfl,h1,h2,h3,h4⟩:=hS 0 (by omega);rw[Nat.add_zero]at h1;have hk0:(0:Int)<(k:Nat):=by omega
 have hk0n:0<k:=by omega
 have ok0:=hokS 0 (by omega);have hn04:n0≤4:=by rw[← h2];exact ok0.four
 obtain⟨b',o',s1,n1,c1,e,g1,g2,g3,g4⟩:=hS 1 (by omega);cases e
 have hk1:(1:Int)<(k:Nat):=by omega
 have ok1:=hokS 1 (by omega);have C:Hid (∀wx:World,Touch No w wx→Calls Tryz.prog 113 #[.slice s0 n0 c0,.slice s1 n1 c1,.int .i64 N,.int .i64 P] wx (ShOut wx (Me.winS (Me.sh Ss 0) (Me.sh Ss 1) N P))):=fun wx t=>refWinShape_in wx s0 s1 n0 c0 n1 c1 N P _ _ ok0 ok1 (h4.no t) h2 (g4.no t) g2
 have HC:=Lib.hid (aI h1 g1);clear hx hS hokS ok0 h1 h2 h3 h4 hk2 hk ok1 g1 g2 g3 g4;obtain⟨oo,hoo⟩:∃oo,Me.winS (Me.sh Ss 0) (Me.sh Ss 1) N P=oo:=⟨_,rfl⟩;rw[hoo]at C ⊢;clear hoo;unfold nodeV;dsimp only;go_enter Tryz.func71,Tryz.ntmps71;go_wp2_with fail;obtain⟨w1,hw1,t1,R1⟩:=box_row w [.int .u8 (8:Int),.slice ia n c,.slice sa n' c',.int .i64 N,.int .i64 P] 55;rw[← hw1];have HT1:=Lib.hid t1;have HR1:=Lib.hid R1;clear hw1 t1 R1;have S0:Hid (∀wx:World,Touch No w1 wx→wx.cell? ⟨b,o,none⟩=some (.slice s0 n0 c0)∧wx.cell? ⟨b,o+1,none⟩=some (.slice s1 n1 c1)∧wx.cell? ⟨w.heap.size,3,none⟩=some (.int .i64 N)∧wx.cell? ⟨w.heap.size,4,none⟩=some (.int .i64 P)):=fun wx t=>⟨t.cell id (HT1.out.cell id HC.out.1),t.cell id (HT1.out.cell id HC.out.2),t.cell id (HR1.out.cell 3),t.cell id (HR1.out.cell 4)⟩
 cases oo with
 | none =>
   go_region_held3 (fun w'=>w'.cell? ⟨b,o,none⟩=some (.slice s0 n0 c0)∧w'.cell? ⟨b,o+1,none⟩=some (.slice s1 n1 c1)∧w'.cell? ⟨w.heap.size,3,none⟩=some (.int .i64 N)∧w'.cell? ⟨w.heap.size,4,none⟩=some (.int .i64 P)) (first|exact S0.out _ (Touch.refl No w1).drew|exact S0.out _ T5.out.2) (first|(go_at_call 113;refine(C.out _ (HT1.out.trans (Touch.refl No w1).drew)).mono ?_;rintro e w5 ⟨x,hx0,rfl,t5⟩;have T5:Hid (True∧Touch No w1 w5):=⟨trivial,(Touch.refl No w1).drew.trans t5⟩;have f1:(x==0)=false:=(by simpa using hx0);clear hx0 t5))
   all_goals
    go_wp2
    go_ret2
    exact⟨_,rfl,HT1.out.trans T5.out.2⟩
 | some s =>
   go_region_held3 (fun w'=>w'.cell? ⟨b,o,none⟩=some (.slice s0 n0 c0)∧w'.cell? ⟨b,o+1,none⟩=some (.slice s1 n1 c1)∧w'.cell? ⟨w.heap.size,3,none⟩=some (.int .i64 N)∧w'.cell? ⟨w.heap.size,4,none⟩=some (.int .i64 P)) (first|exact S0.out _ (Touch.refl No w1).drew|exact S0.out _ T5.out.2) (first|(go_at_call 113;refine(C.out _ (HT1.out.trans (Touch.refl No w1).drew)).mono ?_;rintro e w5 ⟨a5,c5,rfl,h1,h2,t5,_⟩;have T5:Hid ((s.length≤c5∧Rd w5 a5 (nums .i64 s))∧Touch No w1 w5):=⟨⟨h1,h2⟩,(Touch.refl No w1).drew.trans t5⟩;clear h1 h2 t5))
   all_goals
    go_wp2
    go_ret2
    exact⟨a5,c5,rfl,T5.out.1.1,T5.out.1.2,HT1.out.trans T5.out.2⟩
theorem refShape10_9 (w:World)(ia sa a:Option Addr)(n c n' c' k kc:Nat)(inn shape:List Int)(N P:Int)(Ss:List (List Nat))(hx:NIn w ia n c sa n' c' ⟨9,inn,shape,N,P⟩)(hS:SsIn w a Ss)(hk:Ss.length=k)(hokS:∀j,j<k→Me.Ok (Me.sh Ss j))(hk2:k=1) :
  Calls Tryz.prog 71 #[nodeV ia n c sa n' c' ⟨9,inn,shape,N,P⟩,.slice a k kc] w (ShB w (Me.poolS (Me.sh Ss 0) N)):=by
 obtain⟨b,o,s0,n0,c0,rfl,h1,h2,h3,h4⟩:=hS 0 (by omega);rw[Nat.add_zero]at h1;have hk0:(0:Int)<(k:Nat):=by omega
 have hk0n:0<k:=by omega
 have ok0:=hokS 0 (by omega);have hn04:n0≤4:=by rw[← h2];exact ok0.four
 have C:Hid (∀wx:World,Touch No w wx→Calls Tryz.prog 114 #[.slice s0 n0 c0,.int .i64 N] wx (ShOut wx (Me.poolS (Me.sh Ss 0) N))):=fun wx t=>refPoolShape_in wx s0 n0 c0 N _ ok0 (h4.no t) h2
 have HC:=Lib.hid (h1);clear hx hS hokS ok0 h1 h2 h3 h4 hk2 hk;obtain⟨oo,hoo⟩:∃oo,Me.poolS (Me.sh Ss 0) N=oo:=⟨_,rfl⟩;rw[hoo]at C ⊢;clear hoo;unfold nodeV;dsimp only;go_enter Tryz.func71,Tryz.ntmps71;go_wp2_with fail;obtain⟨w1,hw1,t1,R1⟩:=box_row w [.int .u8 (9:Int),.slice ia n c,.slice sa n' c',.int .i64 N,.int .i64 P] 55;rw[← hw1];have HT1:=Lib.hid t1;have HR1:=Lib.hid R1;clear hw1 t1 R1;have S0:Hid (∀wx:World,Touch No w1 wx→wx.cell? ⟨b,o,none⟩=some (.slice s0 n0 c0)∧wx.cell? ⟨w.heap.size,3,none⟩=some (.int .i64 N)):=fun wx t=>⟨t.cell id (HT1.out.cell id HC.out),t.cell id (HR1.out.cell 3)⟩
 cases oo with
 | none =>
   go_region_held3 (fun w'=>w'.cell? ⟨b,o,none⟩=some (.slice s0 n0 c0)∧w'.cell? ⟨w.heap.size,3,none⟩=some (.int .i64 N)) (first|exact S0.out _ (Touch.refl No w1).drew|exact S0.out _ T5.out.2) (first|(go_at_call 114;refine(C.out _ (HT1.out.trans (Touch.refl No w1).drew)).mono ?_;rintro e w5 ⟨x,hx0,rfl,t5⟩;have T5:Hid (True∧Touch No w1 w5):=⟨trivial,(Touch.refl No w1).drew.trans t5⟩;have f1:(x==0)=false:=(by simpa using hx0);clear hx0 t5))
   all_goals
    go_wp2
    go_ret2
    exact⟨_,rfl,HT1.out.trans T5.out.2⟩
 | some s =>
   go_region_held3 (fun w'=>w'.cell? ⟨b,o,none⟩=some (.slice s0 n0 c0)∧w'.cell? ⟨w.heap.size,3,none⟩=some (.int .i64 N)) (first|exact S0.out _ (Touch.refl No w1).drew|exact S0.out _ T5.out.2) (first|(go_at_call 114;refine(C.out _ (HT1.out.trans (Touch.refl No w1).drew)).mono ?_;rintro e w5 ⟨a5,c5,rfl,h1,h2,t5,_⟩;have T5:Hid ((s.length≤c5∧Rd w5 a5 (nums .i64 s))∧Touch No w1 w5):=⟨⟨h1,h2⟩,(Touch.refl No w1).drew.trans t5⟩;clear h1 h2 t5))
   all_goals
    go_wp2
    go_ret2
    exact⟨a5,c5,rfl,T5.out.1.1,T5.out.1.2,HT1.out.trans T5.out.2⟩
theorem refShape10_12 (w:World)(ia sa a:Option Addr)(n c n' c' k kc:Nat)(inn shape:List Int)(N P:Int)(Ss:List (List Nat))(hx:NIn w ia n c sa n' c' ⟨12,inn,shape,N,P⟩)(hS:SsIn w a Ss)(hk:Ss.length=k)(hokS:∀j,j<k→Me.Ok (Me.sh Ss j))(hk2:1≤k∧k≤4)(h0N:0≤N∧N≤3) :
  Calls Tryz.prog 71 #[nodeV ia n c sa n' c' ⟨12,inn,shape,N,P⟩,.slice a k kc] w (ShB w (Me.joinS Ss N.toNat)):=by
 have hN:N=((N.toNat:Nat):Int):=by omega
 obtain⟨al,hal⟩:∃al,N.toNat=al:=⟨_,rfl⟩;rw[hal]at hN ⊢;subst hN;have h1:=True.intro;have h2:=True.intro;have h3:=True.intro;have h4:=True.intro;have ok0:=True.intro;have Hal:=Lib.hid hal;have hal6:al≤1000000:=by omega
 have C:Hid (∀wx:World,Touch No w wx→Calls Tryz.prog 116 #[.slice a k kc,.int .i64 ((al:Nat):Int)] wx (ShOut wx (Me.joinS Ss al))):=fun wx t=>refJoined_in wx a k kc al Ss (hS.no t) hk hk2.1 hk2.2 hokS hal6
 clear hx hS hokS ok0 h1 h2 h3 h4 hk2 hk;obtain⟨oo,hoo⟩:∃oo,Me.joinS Ss al=oo:=⟨_,rfl⟩;rw[hoo]at C ⊢;clear hoo;unfold nodeV;dsimp only;go_enter Tryz.func71,Tryz.ntmps71;go_wp2_with fail;have TT:Hid (Touch No w (w.alloc (.cells #[.int .u8 (12:Int),.slice ia n c,.slice sa n' c',.int .i64 ((al:Nat):Int),.int .i64 P] 55))):=(Touch.refl No w).alloc _;have D:=C.out _ TT.out;cases oo with
 | none =>
   refine D.mono ?_;rintro e w5 ⟨x,hx0,rfl,t5⟩;have f1:(x==0)=false:=by simpa using hx0
   have T5:Hid (Touch No w w5):=TT.out.trans t5;clear hx0 D t5;go_wp2
   go_ret2
   exact⟨_,rfl,T5.out⟩
 | some s =>
   refine D.mono ?_;rintro e w5 ⟨a5,c5,rfl,h1,h2,t5,_⟩;have T5:Hid (s.length≤c5∧Rd w5 a5 (nums .i64 s)∧Touch No w w5):=⟨h1,h2,TT.out.trans t5⟩;clear D h1 h2 t5;go_wp2
   go_ret2
   exact⟨a5,c5,rfl,T5.out⟩
theorem refShape10_10 (w:World)(ia sa a:Option Addr)(n c n' c' k kc:Nat)(inn shape:List Int)(N P:Int)(Ss:List (List Nat))(hx:NIn w ia n c sa n' c' ⟨10,inn,shape,N,P⟩)(hS:SsIn w a Ss)(hk:Ss.length=k)(hokS:∀j,j<k→Me.Ok (Me.sh Ss j))(hk2:k=1)(hs:Ar.shape shape=true) :
  Calls Tryz.prog 71 #[nodeV ia n c sa n' c' ⟨10,inn,shape,N,P⟩,.slice a k kc] w (ShB w (if Me.pr (Me.nats shape)=Me.pr (Me.sh Ss 0) then some (Me.nats shape) else none)):=by
 obtain⟨b,o,s0,n0,c0,rfl,h1,h2,h3,h4⟩:=hS 0 (by omega);rw[Nat.add_zero]at h1;have hk0:(0:Int)<(k:Nat):=by omega
 have hk0n:0<k:=by omega
 have ok0:=hokS 0 (by omega);have hn04:n0≤4:=by rw[← h2];exact ok0.four
 have hz:=Me.ok_nats hs;have hL:(Me.nats shape).length=n':=by rw[Me.nats_length];exact hx.sl
 have hr:Rd w sa (nums .i64 (Me.nats shape)):=by rw[← zs_ints,hz.1];exact hx.sr
 have HN:=Lib.hid (aI hL (aI hx.sc hr));have C1:Hid (∀wx:World,Touch No w wx→Calls Tryz.prog 35 #[.slice s0 n0 c0] wx fun e w'=>e = .returned (.int .i64 ((Me.pr (Me.sh Ss 0):Nat):Int))∧Touch No wx w'):=fun wx t=>(refSize_ok (c:=c0) (h4.no t) h2 ok0 rfl).mono fun e w' ⟨h,k⟩=>⟨h,k ▸ Touch.refl No wx⟩
 have C2:Hid (∀wx:World,Touch No w wx→Calls Tryz.prog 35 #[.slice sa n' c'] wx fun e w'=>e = .returned (.int .i64 ((Me.pr (Me.nats shape):Nat):Int))∧Touch No wx w'):=fun wx t=>(refSize_ok (c:=c') (hr.no t) hL hz.2 rfl).mono fun e w' ⟨h,k⟩=>⟨h,k ▸ Touch.refl No wx⟩
 have HC:=Lib.hid h1;obtain⟨x,hxx⟩:∃x,Me.pr (Me.sh Ss 0)=x:=⟨_,rfl⟩;obtain⟨y,hyy⟩:∃y,Me.pr (Me.nats shape)=y:=⟨_,rfl⟩;rw[hxx]at C1 ⊢;rw[hyy]at C2 ⊢;obtain⟨oo,hoo⟩:∃oo,(if y=x then some (Me.nats shape) else none)=oo:=⟨_,rfl⟩;rw[hoo];have HOO:=Lib.hid hoo;clear hx hS hokS ok0 h1 h2 h3 h4 hk2 hk hs hz hL hr hxx hyy hoo;unfold nodeV;dsimp only;go_enter Tryz.func71,Tryz.ntmps71;go_wp2_with fail;obtain⟨w1,hw1,t1,R1⟩:=box_row w [.int .u8 (10:Int),.slice ia n c,.slice sa n' c',.int .i64 N,.int .i64 P] 55;rw[← hw1];have HT1:=Lib.hid t1;have HR1:=Lib.hid R1;clear hw1 t1 R1;have q0:=KW.cell (HT1.out.cell id HC.out);have z2:=KW.cell (HR1.out.cell 2);have D1:Hid (∀p:KW w1,Calls Tryz.prog 35 #[.slice s0 n0 c0] p.wd fun e w'=>e = .returned (.int .i64 ((x:Nat):Int))∧Touch No p.wd w'):=fun p=>C1.out _ (HT1.out.trans p.no)
 have D2:Hid (∀p:KW w1,Calls Tryz.prog 35 #[.slice sa n' c'] p.wd fun e w'=>e = .returned (.int .i64 ((y:Nat):Int))∧Touch No p.wd w'):=fun p=>C2.out _ (HT1.out.trans p.no)
 obtain⟨bb,hbb⟩:∃bb,((y:Int)==(x:Int))=bb:=⟨_,rfl⟩;refine wp_region_kept (by kernel_rfl) (by kernel_rfl) ?_;repeat (first|go_big_quiet_step (first|with_reducible exact Calls.kept_of (D2.out _)|with_reducible exact Calls.kept_of (D1.out _))|quiet_step (first|with_reducible exact Calls.kept_of (D2.out _)|with_reducible exact Calls.kept_of (D1.out _)))
 refine wpQuiet_nil ?_;intro _ hw';obtain⟨kw,hw''⟩:=hw';subst hw'';obtain⟨wk,tk⟩:=kw;have tk:=Lib.hid tk;dsimp only;have TT:Hid (Touch No w wk):=HT1.out.trans tk.out;clear q0 z2 D1 D2 C1 C2
 by_cases hq:y=x
 ·have HR:Hid (oo=some (Me.nats shape)):=by show _=_;rw[← HOO.out];exact if_pos hq
  have f1:bb=true:=by rw[← hbb];simp;omega
  subst f1;clear hq hbb;go_wp2
  go_ret2
  rw[HR.out];exact⟨sa,c',by rw[HN.out.1];rfl,by rw[HN.out.1];exact HN.out.2.1,HN.out.2.2.no TT.out,TT.out⟩
 ·have HR:Hid (oo=none):=by show _=_;rw[← HOO.out];exact if_neg hq
  have f1:bb=false:=by rw[← hbb];simp;omega
  subst f1;clear hq hbb;go_wp2
  go_ret2
  rw[HR.out];exact⟨_,rfl,TT.out⟩
theorem refShape10_11 (w:World)(ia sa a:Option Addr)(n c n' c' k kc:Nat)(inn shape:List Int)(N P:Int)(Ss:List (List Nat))(hx:NIn w ia n c sa n' c' ⟨11,inn,shape,N,P⟩)(hS:SsIn w a Ss)(hk:Ss.length=k)(hokS:∀j,j<k→Me.Ok (Me.sh Ss j))(hk2:k=1)(hs:Me.Order shape) :
  Calls Tryz.prog 71 #[nodeV ia n c sa n' c' ⟨11,inn,shape,N,P⟩,.slice a k kc] w (ShB w (if shape.length=(Me.sh Ss 0).length then some (Me.turnS (Me.sh Ss 0) (Me.nats shape)) else none)):=by
 obtain⟨b,o,s0,n0,c0,rfl,h1,h2,h3,h4⟩:=hS 0 (by omega);rw[Nat.add_zero]at h1;have hk0:(0:Int)<(k:Nat):=by omega
 have hk0n:0<k:=by omega
 have ok0:=hokS 0 (by omega);have hn04:n0≤4:=by rw[← h2];exact ok0.four
 have hz:=Me.ord_nats hs;have hsl:shape.length=n':=hx.sl;rw[hsl,h2];have HX:=Lib.hid hx;have HC:=Lib.hid h1;have H4:=Lib.hid (aI h2 (aI h3 h4));have HZ:=Lib.hid hz;have hs4:=hs.2;clear hx hS hokS ok0 h1 h2 h3 h4 hk2 hk hs hz;unfold nodeV;dsimp only
 by_cases hq:n'=n0
 case neg =>
  have f1:((n':Int) != (n0:Int))=true:=by simp;omega
  rw[if_neg hq];clear hq;go_enter Tryz.func71,Tryz.ntmps71;go_wp2_with fail;obtain⟨w1,hw1,t1,R1⟩:=box_row w [.int .u8 (11:Int),.slice ia n c,.slice sa n' c',.int .i64 N,.int .i64 P] 55;rw[← hw1];have HT1:=Lib.hid t1;have HR1:=Lib.hid R1;clear hw1 t1 R1;have q0:=KW.cell (HT1.out.cell id HC.out);have z2:=KW.cell (HR1.out.cell 2);refine wp_region_kept (by kernel_rfl) (by kernel_rfl) ?_;repeat (first|go_big_quiet_step (fail)|quiet_step (fail))
  refine wpQuiet_nil ?_;intro _ hw';obtain⟨kw,hw''⟩:=hw';subst hw'';obtain⟨wk,tk⟩:=kw;have tk:=Lib.hid tk;dsimp only;have TT:Hid (Touch No w wk):=HT1.out.trans tk.out;go_wp2
  go_ret2
  exact⟨_,rfl,TT.out⟩
 case pos =>
  subst hq;have f1:((n':Int) != (n':Int))=false:=by simp
  rw[if_pos rfl]
  have C:Hid (∀wx:World,Touch No w wx→Calls Tryz.prog 115 #[.slice s0 n' c0,.slice sa n' c'] wx fun e w'=>∃a' c',e = .returned (.slice a' n' c')∧n'≤c'∧Rd w' a' (nums .i64 (Me.turnS (Me.sh Ss 0) (Me.nats shape)))∧Touch No wx w'):=fun wx t=>by
   have:=refTurned_in wx s0 sa n' c0 c' (Me.sh Ss 0) (Me.nats shape) H4.out.1 (by omega) (by rw[Me.nats_length];exact hsl) (fun k hk=>by have:=HZ.out.2.lt k (by omega);omega) (H4.out.2.2.no t) (by rw[← zs_ints,HZ.out.1];exact HX.out.sr.no t);exact this.mono fun e w' ⟨a',d',h1,h2,h3,h4⟩=>⟨a',d',h1,h3,h2.rd,h4⟩
  have HL:Hid ((Me.turnS (Me.sh Ss 0) (Me.nats shape)).length=n'):=by show _=_;rw[Me.turnS_length,Me.nats_length,hsl]
  go_enter Tryz.func71,Tryz.ntmps71;go_wp2_with fail;obtain⟨w1,hw1,t1,R1⟩:=box_row w [.int .u8 (11:Int),.slice ia n c,.slice sa n' c',.int .i64 N,.int .i64 P] 55;rw[← hw1];have HT1:=Lib.hid t1;have HR1:=Lib.hid R1;clear hw1 t1 R1;have q0:=KW.cell (HT1.out.cell id HC.out);have z2:=KW.cell (HR1.out.cell 2);refine wp_region_kept (by kernel_rfl) (by kernel_rfl) ?_;repeat (first|go_big_quiet_step (fail)|quiet_step (fail))
  refine wpQuiet_nil ?_;intro _ hw';obtain⟨kw,hw''⟩:=hw';subst hw'';obtain⟨wk,tk⟩:=kw;have tk:=Lib.hid tk;dsimp only;have TT:Hid (Touch No w wk):=HT1.out.trans tk.out;have HR2:Hid (Row wk w.heap.size 55 [.int .u8 (11:Int),.slice ia n c,.slice sa n' c',.int .i64 N,.int .i64 P]):=HR1.out.touch tk.out id;clear q0 z2 HT1 HR1 tk;go_wp2_with fail;obtain⟨wa,hwa⟩:∃wa,wa=wk:=⟨_,rfl⟩;subst hwa;have q0:=KW.cell (TT.out.cell id HC.out);have z2:=KW.cell (HR2.out.cell 2);refine wp_region_kept_tail 5 (by kernel_rfl) (by kernel_rfl) ?_;simp only[List.take_succ_cons,List.take_zero,List.drop_succ_cons,List.drop_zero];repeat (first|go_big_quiet_step (fail)|quiet_step (fail))
  refine wpQuiet_nil ?_;intro _ hw';obtain⟨kw,hw''⟩:=hw';subst hw'';obtain⟨wk,tk⟩:=kw;have tk:=Lib.hid tk;dsimp only;have T2:Hid (Touch No w wk):=TT.out.trans tk.out;clear q0 z2;go_wp2_with fail;refine(C.out wk T2.out).mono ?_;rintro e w5 ⟨a5,c5,rfl,h1,h2,t5⟩;have T5:Hid (n'≤c5∧Rd w5 a5 (nums .i64 (Me.turnS (Me.sh Ss 0) (Me.nats shape)))∧Touch No w w5):=⟨h1,h2,T2.out.trans t5⟩;clear h1 h2 t5;go_wp2
  go_ret2
  exact⟨a5,c5,by rw[HL.out];rfl,by rw[HL.out];exact T5.out.1,T5.out.2⟩
theorem refShape10_13 (w:World)(ia sa a:Option Addr)(n c n' c' k kc:Nat)(inn shape:List Int)(N P:Int)(Ss:List (List Nat))(hx:NIn w ia n c sa n' c' ⟨13,inn,shape,N,P⟩)(hS:SsIn w a Ss)(hk:Ss.length=k)(hokS:∀j,j<k→Me.Ok (Me.sh Ss j))(hk2:k=1)(h0N:0≤N∧N≤3) :
  Calls Tryz.prog 71 #[nodeV ia n c sa n' c' ⟨13,inn,shape,N,P⟩,.slice a k kc] w (ShB w (if N.toNat<(Me.sh Ss 0).length then some (Me.without (Me.sh Ss 0) N.toNat) else none)):=by
 obtain⟨b,o,s0,n0,c0,rfl,h1,h2,h3,h4⟩:=hS 0 (by omega);rw[Nat.add_zero]at h1;have hk0:(0:Int)<(k:Nat):=by omega
 have hk0n:0<k:=by omega
 have ok0:=hokS 0 (by omega);have hn04:n0≤4:=by rw[← h2];exact ok0.four
 have hN:N=((N.toNat:Nat):Int):=by omega
 obtain⟨al,hal⟩:∃al,N.toNat=al:=⟨_,rfl⟩;rw[hal]at hN ⊢;subst hN;have hal6:al≤1000000:=by omega
 rw[h2];have C:Hid (∀wx:World,Touch No w wx→Calls Tryz.prog 117 #[.slice s0 n0 c0,.int .i64 ((al:Nat):Int)] wx fun e w'=>∃a' c',e = .returned (.slice a' (Me.wo (Me.sh Ss 0) al).length c')∧(Me.wo (Me.sh Ss 0) al).length≤c'∧Rd w' a' (nums .i64 (Me.wo (Me.sh Ss 0) al))∧NewA wx a'∧Touch No wx w'):=fun wx t=>refWithout_in wx s0 n0 c0 al (Me.sh Ss 0) h2 (by omega) hal6 (h4.no t)
 have HC:=Lib.hid h1;have HW:Hid (al<n0→Me.wo (Me.sh Ss 0) al=Me.without (Me.sh Ss 0) al):=fun h=>Me.wo_is (by rw[h2];exact h)
 have HT0:Hid (∀wx:World,Touch No w wx→wx.cell? ⟨b,o,none⟩=some (.slice s0 n0 c0)):=fun wx t=>t.cell id h1
 obtain⟨oo,hoo⟩:∃oo,(if al<n0 then some (Me.without (Me.sh Ss 0) al) else none)=oo:=⟨_,rfl⟩;rw[hoo];have HOO:=Lib.hid hoo;clear hx hS hokS ok0 h1 h2 h3 h4 hk2 hk hal h0N hoo;unfold nodeV;dsimp only;go_enter Tryz.func71,Tryz.ntmps71;go_wp2_with fail;obtain⟨w1,hw1,t1,R1⟩:=box_row w [.int .u8 (13:Int),.slice ia n c,.slice sa n' c',.int .i64 ((al:Nat):Int),.int .i64 P] 55;rw[← hw1];have HT1:=Lib.hid t1;have HR1:=Lib.hid R1;clear hw1 t1 R1;have S0:Hid (∀wx:World,Touch No w1 wx→wx.cell? ⟨b,o,none⟩=some (.slice s0 n0 c0)∧wx.cell? ⟨w.heap.size,3,none⟩=some (.int .i64 ((al:Nat):Int))):=fun wx t=>⟨HT0.out _ (HT1.out.trans t),t.cell id (HR1.out.cell 3)⟩
 by_cases hq:al<n0
 case pos =>
  have HR:Hid (oo=some (Me.without (Me.sh Ss 0) al)):=by show _=_;rw[← HOO.out];exact if_pos hq
  have f1:decide ((al:Int)<(n0:Nat))=true:=by simp;omega
  have f2:decide (al<n0)=true:=by simp;omega
  have HWW:=Lib.hid (HW.out hq);rw[HWW.out]at C;clear hq HOO HW
  go_region_held3 (fun w'=>w'.cell? ⟨b,o,none⟩=some (.slice s0 n0 c0)∧w'.cell? ⟨w.heap.size,3,none⟩=some (.int .i64 ((al:Nat):Int))) (first|exact S0.out _ (Touch.refl No w1).drew|exact S0.out _ T5.out.2.2) (first|(go_at_call 117;refine(C.out _ (HT1.out.trans (Touch.refl No w1).drew)).mono ?_;rintro e w5 ⟨a5,c5,rfl,h1,h2,h3,h4⟩;have T5:Hid ((Me.without (Me.sh Ss 0) al).length≤c5∧Rd w5 a5 (nums .i64 (Me.without (Me.sh Ss 0) al))∧Touch No w1 w5):=⟨h1,h2,(Touch.refl No w1).drew.trans h4⟩;clear h1 h2 h3 h4))
  all_goals
   go_wp2
   go_ret2
   rw[HR.out];exact⟨a5,c5,rfl,T5.out.1,T5.out.2.1,HT1.out.trans T5.out.2.2⟩
 case neg =>
  have HR:Hid (oo=none):=by show _=_;rw[← HOO.out];exact if_neg hq
  have f1:decide ((al:Int)<(n0:Nat))=false:=by simp;omega
  have f2:decide (al<n0)=false:=by simp;omega
  clear hq HOO HW
  go_region_held3 (fun w'=>w'.cell? ⟨b,o,none⟩=some (.slice s0 n0 c0)∧w'.cell? ⟨w.heap.size,3,none⟩=some (.int .i64 ((al:Nat):Int))) (first|exact S0.out _ (Touch.refl No w1).drew|exact S0.out _ T5.out) (first|(go_at_call 117;refine(C.out _ (HT1.out.trans (Touch.refl No w1).drew)).mono ?_;rintro e w5 ⟨a5,c5,rfl,h1,h2,h3,h4⟩;have T5:Hid (Touch No w1 w5):=(Touch.refl No w1).drew.trans h4;clear h1 h2 h3 h4))
  all_goals
   go_wp2
   go_ret2
   rw[HR.out];exact⟨_,rfl,HT1.out.trans T5.out⟩
end
end Go.Proofs.YtjlphmmalebgpaaGreat
