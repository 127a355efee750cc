/-
  A part of the proof.
-/
import Derived.Test.YtjlphmmalebgpaaGreatK08
set_option linter.unusedSimpArgs false
set_option linter.unusedVariables false
set_option maxHeartbeats 2000000
set_option maxRecDepth 100000
namespace Go.Proofs.YtjlphmmalebgpaaGreat
section
open Go Go.RowKit
namespace Me
theorem pr_drop_get {S:List Nat}{k:Nat}(hk:k<S.length):pr (S.drop k)=S.getD k 0*pr (S.drop (k+1)):=by
 rw[List.drop_eq_getElem_cons hk,pr,Lgd,Lge hk];rfl
theorem rankF_le {S at_:List Nat}(ok:Ok S)(hb:Box S at_){k:Nat}(hk:k≤S.length):rankF S at_ k<4096:=by
 have h1:=rankF_drop S at_ k hk hb.1
 have h2:=rank_lt hb;have h3:=ok.most;have h4:1≤pr (S.drop k):=pr_pos fun x hx=>ok.each x (List.mem_of_mem_drop hx)
 have h5:rankF S at_ k≤rankF S at_ k*pr (S.drop k):=Nat.le_mul_of_pos_right _ h4
 omega
theorem rankB_le {S at_:List Nat}(ok:Ok S)(hb:Box S at_){k:Nat}(hk:k≤S.length):rankB S at_ k<4096:=by
 rw[rankB_is S at_ k hk hb.1]
 have hbox:Box (S.drop (S.length-k)) (at_.drop (S.length-k)):=by
  refine⟨by rw[List.length_drop,List.length_drop,hb.1],fun j hj=>?_⟩;rw[List.length_drop]at hj;have:=hb.2 (S.length-k+j) (by omega)
  simpa[Lgd,List.getElem?_drop]using this
 have h1:=rank_lt hbox;have h2:=pr_drop_le ok.each (S.length-k);have h3:=ok.most;omega
end Me
theorem hmkI (m:Nat)(hm:m≤4096):∀wx:World,(Instr.makeSlice 48 (.int .i64 (m:Int)) (.int .i64 (m:Int))).run Tryz.prog wx = .ok (.slice (some ⟨wx.heap.size,0,none⟩) m m) (wx.alloc (.cells (List.replicate m (Value.int .i64 0)).toArray 3)):=fun wx=>by
 obtain⟨I,hi0,hi1,hi2,hi3⟩:=info_I;have:=run_make (P:=Tryz.prog) wx 48 3 I (.int .i64 0) Tryz.underlying48 hi0 hi1 .i64 .i64 (m:Int) (m:Int) (by omega) (by omega) (by rw[hi3];omega) (by omega);rw[this,hi2,Int.toNat_natCast,Nat.mul_one]
 show Result.ok _ (wx.alloc (.cells (madeCells #[Value.int .i64 0] _) _))=_
 rw[made_fill]
def AtOut (w:World)(n:Nat)(l:List Nat)(e:Ending)(w':World):Prop :=
 ∃g,e = .returned (.tuple #[.slice (some ⟨g,0,none⟩) n n,.int .i64 0])∧Row w' g 3 (nums .i64 l)∧w.heap.size≤g∧Touch No w w'
theorem backwards_in (w:World)(f:FuncId)(hf:∀(args:Array Value) (wx:World),(callFunc f args).run Tryz.prog wx = .ok (.enter f args) wx)(p1 p2 p3:Value)(a:Option Addr)(n c:Nat)(S:List Nat)(ok:Me.Ok S)(hn:S.length=n)(I:Nat→World→Prop)
  (hI:∀k W,I k W→Rd W a (nums .i64 S)) (h0:I 0 w)
  (hS:∀k W,k<n→I k W→Calls Tryz.prog f #[.int .i64 ((n:Int)-1-k),.int .i64 ((Me.pr (S.drop (n-k)):Nat):Int),p1,p2,p3] W fun e w'=>e = .returned (.bool true)∧I (k+1) w') :
  Calls Tryz.prog 241 #[.slice a n c,.func (.func f) #[] #[p1,p2,p3]] w fun e w'=>e = .returned (.bool true)∧I n w':=by
 have H0:=Lib.hid h0;have HS:=Lib.hid hS;have HI:=Lib.hid hI;have Hok:=Lib.hid ok;have Hn:=Lib.hid hn;have hn4:n≤4:=by rw[← hn];exact ok.four
 clear h0 hS hI ok hn;go_enter Tryz.func241,Tryz.ntmps241;go_wp2
 go_loopg [5,6] n (fun gh s5 s6 wr=>∃k p:Nat,k+gh=n∧s6 = .int .i64 ((n:Int)-1-k)∧s5 = .int .i64 ((p:Nat):Int)∧Hid (p=Me.pr (S.drop (n-k)))∧Hid (I k wr))
 case atStart=>exact⟨0,1,by omega,by simp,rfl,by show _=_;rw[Nat.sub_zero,List.drop_eq_nil_of_le (by rw[Hn.out];exact Nat.le_refl _)];rfl,H0.out⟩
 case round =>
  obtain⟨k,p,hkg,rfl,rfl,HP,HK⟩:=hrel;cases gk with
  | zero =>
    obtain rfl:k=n:=by omega
    have h1:¬(0:Int)≤(k:Int)-1-k:=by omega
    go_wp2;go_ret;exact⟨rfl,HK.out⟩
  | succ g' =>
    have h1:(0:Int)≤(n:Int)-1-k:=by omega
    go_wp2_with fail;have C:=HS.out k wr (by omega) HK.out;rw[← HP.out]at C;refine C.mono ?_;clear C;rintro e w2 ⟨rfl,hk2⟩;obtain⟨j,hj⟩:∃j:Nat,j=n-1-k:=⟨_,rfl⟩;have hjI:(n:Int)-1-k=((j:Nat):Int):=by omega
    obtain⟨b,o,rfl,cx⟩:=(HI.out (k+1) w2 hk2).num (i:=j) (by rw[Hn.out];omega);obtain⟨x,hx⟩:∃x,S.getD j 0=x:=⟨_,rfl⟩;have hxb:=Hok.out.get (k:=j) (by rw[Hn.out];omega);rw[hx]at cx hxb
    have hpp:p*x=Me.pr (S.drop (n-(k+1))):=by
     rw[HP.out,Me.pr_drop_get (k:=n-(k+1)) (by rw[Hn.out];omega),show n-(k+1)+1=n-k by omega,show n-(k+1)=j by omega,hx,Nat.mul_comm]
    obtain⟨q,hq⟩:∃q,p*x=q:=⟨_,rfl⟩
    have hq4:q≤4096:=by
     have h2:=Me.pr_drop_le Hok.out.each (n-(k+1));have h3:=Hok.out.most;omega
    have hw:IntKind.i64.wrap ((p:Int)*(x:Int))=((q:Nat):Int):=by rw[← hq,← Int.natCast_mul];exact IntWalk.i64_in _ (by omega)
    have hjn:(j:Int)<(n:Nat):=by omega
    have hN:(n:Int)-1-((k+1:Nat):Int)=(j:Int)-1:=by omega
    have HNX:=Lib.hid hN;have HQ:Hid (q=Me.pr (S.drop (n-(k+1)))):=by show _=_;rw[← hq,hpp]
    have HK2:=Lib.hid hk2;rw[hjI];clear hj hx hpp hq hk2 hN HK HP h1;go_wp2
    go_roundg g'
    case measure=>omega
    case rel=>exact⟨k+1,q,by omega,by rw[HNX.out],rfl,HQ,HK2⟩
theorem at1_in (W:World)(k p i x p1 p2 p3 g:Nat)(sa:Option Addr)(n c:Nat)(S l:List Nat)(hk:k<n)(hn:S.length=n)(hl:l.length=n)(hx:S.getD k 0=x)(hx1:1≤x∧x≤64)(hp:1≤p∧p≤4096)(hi:i≤4096)
  (k1:W.cell? ⟨p1,0,none⟩=some (.int .i64 ((i:Nat):Int))) (k2:W.cell? ⟨p2,0,none⟩=some (.slice sa n c)) (k3:W.cell? ⟨p3,0,none⟩=some (.slice (some ⟨g,0,none⟩) n n)) (hr:Rd W sa (nums .i64 S)) (hg:Row W g 3 (nums .i64 l)) :
  Calls Tryz.prog 242 #[.int .i64 ((k:Nat):Int),.int .i64 ((p:Nat):Int),.pointer (some ⟨p1,0,none⟩),.pointer (some ⟨p2,0,none⟩),.pointer (some ⟨p3,0,none⟩)] W fun e w'=>e = .returned (.bool true)∧w'=(W.setCell ⟨g,k,none⟩ (.int .i64 ((i / p%x:Nat):Int))).drew:=by
 obtain⟨b,o,rfl,cx⟩:=hr.num (i:=k) (by omega);rw[hx]at cx;have cg:W.cell? ⟨g,k,none⟩=some (.int .i64 ((l.getD k 0:Nat):Int)):=by rw[hg.cell];exact nums_get (by omega)
 have cz:=hg.soft k;obtain⟨q,hq⟩:∃q,i / p=q:=⟨_,rfl⟩;have hqi:q≤i:=by rw[← hq];exact Nat.div_le_self _ _
 obtain⟨r,hr2⟩:∃r,q%x=r:=⟨_,rfl⟩;have hrx:r≤q:=by rw[← hr2];exact Nat.mod_le _ _
 have q0:¬(p:Int)=0:=by omega
 have q0n:¬p=0:=by omega
 have q0n':¬x=0:=by omega
 have q0':¬(x:Int)=0:=by omega
 have q1:(i:Int).tdiv (p:Int)=((q:Nat):Int):=by rw[Int.tdiv_eq_ediv_of_nonneg (by omega),← hq];omega
 have q2:(q:Int).tmod (x:Int)=((r:Nat):Int):=by rw[Int.tmod_eq_emod_of_nonneg (by omega),← hr2];omega
 have q1':(i:Int) / (p:Int)=((q:Nat):Int):=by rw[← hq];omega
 have q2':(q:Int)%(x:Int)=((r:Nat):Int):=by rw[← hr2];omega
 have q3:IntKind.i64.wrap ((q:Nat):Int)=((q:Nat):Int):=IntWalk.i64_in _ (by omega);have q4:IntKind.i64.wrap ((r:Nat):Int)=((r:Nat):Int):=IntWalk.i64_in _ (by omega);have hkn:(k:Int)<(n:Nat):=by omega
 rw[hq,hr2];clear hq hr2 hr hg;go_enter Tryz.func242,Tryz.ntmps242;go_wp2_with fail
 go_still_tail 11,(by kernel_rfl)
 go_wp2;go_ret;exact⟨rfl,rfl⟩
theorem shapesAt_in (w:World)(sa:Option Addr)(n c i:Nat)(S:List Nat)(ok:Me.Ok S)(hn:S.length=n)(hr:Rd w sa (nums .i64 S))(hi:i<Me.pr S) :
  Calls Tryz.prog 229 #[.slice sa n c,.int .i64 ((i:Nat):Int)] w (AtOut w n (Me.unrank S i)):=by
 obtain⟨m,hm⟩:∃m,Me.pr S=m:=⟨_,rfl⟩;rw[hm]at hi;have hm4:m≤4096:=by rw[← hm];exact ok.most
 have hn4:n≤4:=by rw[← hn];exact ok.four
 have hmk:=hmkI n (by omega);have Hok:=Lib.hid ok;have Hn:=Lib.hid hn;have Hm:=Lib.hid hm;have Hr:=Lib.hid hr;have hf:∀(args:Array Value) (wx:World),(callFunc 242 args).run Tryz.prog wx = .ok (.enter 242 args) wx:=fun args wx=>by simp[callFunc,Tryz.func242,Tryz.f242]
 have Hf:=Lib.hid hf;have hmf:∀(fn:Fn) (first cap:Array Value) (w:World),(Instr.makeFunc fn first cap).run Tryz.prog w = .ok (.func fn first cap) w:=fun _ _ _ _=>rfl
 have q1:¬(i:Int)<0:=by omega
 have q2:¬(m:Int)≤(i:Int):=by omega
 clear ok hn hm hr hf;go_enter Tryz.func229,Tryz.ntmps229;go_wp2_with fail;obtain⟨w1,hw1⟩:∃w1,w1=(w.alloc (.cells #[.slice sa n c] 48)).alloc (.cells #[.int .i64 ((i:Nat):Int)] 3):=⟨_,rfl⟩;have T1:Hid (Touch No w w1):=by rw[hw1];exact((Touch.refl No w).alloc _).alloc _
 have B1:Row w1 w.heap.size 48 [.slice sa n c]:=by rw[hw1];exact(Row.new w _ _).touch ((Touch.refl No _).alloc _) id
 have B2:Row w1 (w.heap.size+1) 3 [.int .i64 ((i:Nat):Int)]:=by
  have:=Row.new (w.alloc (.cells #[.slice sa n c] 48)) 3 #[.int .i64 ((i:Nat):Int)];rw[size_alloc]at this;rw[hw1];exact this
 have hs1:w1.heap.size=w.heap.size+2:=by rw[hw1];simp
 have k1:=B1.cell 0;have k2:=B2.cell 0;have HB:=Lib.hid (aI B1 (aI B2 hs1));have C:=Lib.hid (fun j=>size_ok (c:=c) (Hr.out.no (T1.out.drewN j)) Hn.out Hok.out Hm.out);rw[← hw1];clear hw1 B1 B2 hs1;refine wp_region_quiet_lit (by kernel_rfl) (by kernel_rfl) ?_;repeat (first|go_big_quiet_step ((go_at_call 160;exact Calls.quiet_of_same ((C.out _).mono (fun _ _ h=>⟨h.1,h.2.symm⟩))))|quiet_step ((go_at_call 160;exact Calls.quiet_of_same ((C.out _).mono (fun _ _ h=>⟨h.1,h.2.symm⟩)))))
 refine wpQuiet_nil ?_;intro _ hw';obtain⟨nq,hw''⟩:=hw';subst hw'';clear C;obtain⟨w2,hw2⟩:∃w2,w2=w1.drewN nq:=⟨_,rfl⟩;have T2:Hid (Touch No w w2):=by rw[hw2];exact T1.out.drewN nq
 have HB2:Hid (Row w2 w.heap.size 48 [.slice sa n c]∧Row w2 (w.heap.size+1) 3 [.int .i64 ((i:Nat):Int)]∧w2.heap.size=w.heap.size+2):=by
  rw[hw2];exact⟨HB.out.1.touch ((Touch.refl No _).drewN nq) id,HB.out.2.1.touch ((Touch.refl No _).drewN nq) id,HB.out.2.2⟩
 rw[← hw2];clear hw2 k1 k2 HB T1
 have k2:∀ob ob':Obj,((w2.alloc ob).alloc ob').cell? ⟨w.heap.size,0,none⟩=some (.slice sa n c):=fun ob ob' =>
  (HB2.out.1.touch (((Touch.refl No w2).alloc ob).alloc ob') id).cell 0
 have k20:=HB2.out.1.cell 0;go_wp2_with fail;clear k2 k20;obtain⟨g,hg⟩:∃g,g=w2.heap.size:=⟨_,rfl⟩;obtain⟨w3,hw3⟩:∃w3,w3=(w2.alloc (.cells (Array.replicate n (Value.int .i64 0)) 3)).alloc (.cells #[.slice (some ⟨w2.heap.size,0,none⟩) n n] 48):=⟨_,rfl⟩;have hgX:w.heap.size+2≤g:=by rw[hg,HB2.out.2.2];exact Nat.le_refl _
 have t3:Touch No w2 w3:=by rw[hw3];exact((Touch.refl No w2).alloc _).alloc _
 have Rg:Row w3 g 3 (nums .i64 (List.replicate n 0)):=by
  have:=Row.new w2 3 (Array.replicate n (Value.int .i64 0));rw[hw3,hg];have:=this.touch (F:=No) ((Touch.refl No _).alloc (.cells #[.slice (some ⟨w2.heap.size,0,none⟩) n n] 48)) id
  simpa[nums]using this
 have Rb:Row w3 (g+1) 48 [.slice (some ⟨g,0,none⟩) n n]:=by
  have:=Row.new (w2.alloc (.cells (Array.replicate n (Value.int .i64 0)) 3)) 48 #[.slice (some ⟨w2.heap.size,0,none⟩) n n];rw[size_alloc]at this;rw[hw3,hg];exact this
 have H3:=Lib.hid (aI (T2.out.trans t3) (aI (HB2.out.1.touch t3 id) (aI (HB2.out.2.1.touch t3 id) (aI Rg Rb))));rw[← hw3,← hg];clear hw3 hg t3 Rg Rb HB2 T2
 have C:=backwards_in w3 242 Hf.out (.pointer (some ⟨w.heap.size+1,0,none⟩)) (.pointer (some ⟨w.heap.size,0,none⟩)) (.pointer (some ⟨g+1,0,none⟩)) sa n c S Hok.out Hn.out
  (fun k W=>Touch (One g) w3 W∧∃l,l.length=n∧Row W g 3 (nums .i64 l)∧∀j,n-k≤j→j<n→l.getD j 0=(Me.unrank S i).getD j 0)
  (fun k W h=>((Hr.out.no H3.out.1).keepR h.1 (fun ad e=>by
   obtain⟨b,o,e1,c1⟩:=Hr.out.num (i:=0) (by have:=Hok.out.one;omega);rw[e]at e1;cases e1;have:=lt_of_cell c1;simp only;omega)))
  ⟨Touch.refl _ _,List.replicate n 0,by simp,H3.out.2.2.2.1,fun j h1 h2=>by omega⟩
  (fun k W hk h=>by
   obtain⟨t,l,hl,hR,hv⟩:=h;obtain⟨j,hj⟩:∃j:Nat,j=n-1-k:=⟨_,rfl⟩;have hp:=Me.pr_drop_le Hok.out.each (n-k);have hp1:1≤Me.pr (S.drop (n-k)):=Me.pr_pos fun x hx=>Hok.out.each x (List.mem_of_mem_drop hx)
   have:=at1_in W j (Me.pr (S.drop (n-k))) i (S.getD j 0) (w.heap.size+1) w.heap.size (g+1) g sa n c S l (by omega) Hn.out hl rfl (Hok.out.get (by rw[Hn.out];omega)) ⟨hp1,by rw[Hm.out]at hp;omega⟩ (by omega)
    ((H3.out.2.2.1.keep t (by omega)).cell 0) ((H3.out.2.1.keep t (by omega)).cell 0) ((H3.out.2.2.2.2.keep t (by omega)).cell 0)
    ((Hr.out.no H3.out.1).keepR t (fun ad e=>by
      obtain⟨b,o,e1,c1⟩:=Hr.out.num (i:=0) (by have:=Hok.out.one;omega);rw[e]at e1;cases e1;have:=lt_of_cell c1;simp only;omega)) hR
   rw[show(n:Int)-1-k=((j:Nat):Int) by omega];refine this.mono ?_;rintro e W' ⟨rfl,rfl⟩;refine⟨rfl,(t.setCell (p:=⟨g,j,none⟩) (fun _=>rfl) _).drew,l.set j (i / Me.pr (S.drop (n-k))%S.getD j 0),by simpa using hl,?_,fun q h1 h2=>?_⟩
   ·have h3:=(hR.setCell j (.int .i64 ((i / Me.pr (S.drop (n-k))%S.getD j 0:Nat):Int))).touch (F:=No) (Touch.refl No _).drew id
    simpa[nums,List.map_set]using h3
   ·by_cases hq:q=j
    ·subst hq
     rw[Lgd,List.getElem?_set_self (by omega),Me.unrank_get S i q (by rw[Hn.out];omega),show q+1=n-k by omega];rfl
    ·rw[Lgd,List.getElem?_set_ne (by omega),← Lgd]
     exact hv q (by omega) h2)
 refine C.mono ?_;clear C;rintro e w4 ⟨rfl,t4,l,hl,hR,hv⟩
 have hlu:l=Me.unrank S i:=by
  refine List.ext_getElem? fun j=>?_
  by_cases hj:j<n
  ·have:=hv j (by omega) hj
   rw[Lgd,Lgd,Lge (by omega),Lge (by rw[Me.unrank_length,Hn.out];omega)]at this;rw[Lge (by omega),Lge (by rw[Me.unrank_length,Hn.out];omega)]
   simpa using this
  ·rw[Lgn (by omega),Lgn (by rw[Me.unrank_length,Hn.out];omega)]
 have k3:=(H3.out.2.2.2.2.keep t4 (by omega)).cell 0;have HN:Hid (Row w4 g 3 (nums .i64 (Me.unrank S i))∧w.heap.size≤g∧Touch No w w4):=⟨by rw[← hlu];exact hR,by omega,H3.out.1.oneNo t4 (by omega)⟩;clear t4 hl hR hv hlu H3;go_wp2
 go_ret2
 exact⟨g,rfl,HN.out⟩
theorem index1_in (W:World)(k p s a p1 p2 p3:Nat)(sa la:Option Addr)(n c c':Nat)(S L:List Nat)(hk:k<n)(hn:S.length=n)(hl:L.length=n)(ha:L.getD k 0=a)(hlt:a<S.getD k 0)(ha64:S.getD k 0≤64)(hp:p≤4096)(hs:s≤4096)
  (k1:W.cell? ⟨p1,0,none⟩=some (.int .i64 ((s:Nat):Int))) (z1:W.frozen? ⟨p1,0,none⟩=false) (k2:W.cell? ⟨p2,0,none⟩=some (.slice la n c')) (k3:W.cell? ⟨p3,0,none⟩=some (.slice sa n c)) (hr:Rd W sa (nums .i64 S)) (hr':Rd W la (nums .i64 L))
  (h2:p2≠p1) (h3:p3≠p1) (hsp:∀ad,sa=some ad→ad.block≠p1) (hlp:∀ad,la=some ad→ad.block≠p1) :
  Calls Tryz.prog 243 #[.int .i64 ((k:Nat):Int),.int .i64 ((p:Nat):Int),.pointer (some ⟨p1,0,none⟩),.pointer (some ⟨p2,0,none⟩),.pointer (some ⟨p3,0,none⟩)] W fun e w'=>e = .returned (.bool true)∧∃m,w'=(W.setCell ⟨p1,0,none⟩ (.int .i64 ((s+a*p:Nat):Int))).drewN m:=by
 obtain⟨b,o,rfl,cx⟩:=hr.num (i:=k) (by omega);obtain⟨b',o',rfl,ca⟩:=hr'.num (i:=k) (by omega);obtain⟨x,hx⟩:∃x,S.getD k 0=x:=⟨_,rfl⟩;rw[hx]at cx hlt ha64;rw[ha]at ca;obtain⟨ap,hap⟩:∃ap,a*p=ap:=⟨_,rfl⟩;have hapb:ap≤64*4096:=by rw[← hap];exact Nat.mul_le_mul (by omega) hp
 obtain⟨v,hv⟩:∃v,s+ap=v:=⟨_,rfl⟩;have q1:IntKind.i64.wrap ((a:Int)*(p:Int))=((ap:Nat):Int):=by rw[← Int.natCast_mul,hap];exact IntWalk.i64_in _ (by omega)
 have q2:IntKind.i64.wrap ((s:Int)+(ap:Int))=((v:Nat):Int):=by rw[← Int.natCast_add,hv];exact IntWalk.i64_in _ (by omega)
 have hkn:(k:Int)<(n:Nat):=by omega
 have hb:b≠p1:=hsp _ rfl;have hb':b'≠p1:=hlp _ rfl;have t:Touch (One p1) W ((W.setCell ⟨p1,0,none⟩ (.int .i64 ((v:Nat):Int))).drew):=((Touch.refl (One p1) W).setCell (p:=⟨p1,0,none⟩) (fun _=>rfl) _).drew;obtain⟨W2,hW2⟩:∃W2,W2=(W.setCell ⟨p1,0,none⟩ (.int .i64 ((v:Nat):Int))).drew:=⟨_,rfl⟩;rw[← hW2]at t;have d2:=t.cell (fun e=>h2 e) k2;have d3:=t.cell (fun e=>h3 e) k3;have dx:=t.cell (fun e=>hb e) cx;have da:=t.cell (fun e=>hb' e) ca;have f1:decide ((0:Int)≤((a:Nat):Int))=true:=by simp
 have f2:decide (((a:Nat):Int)<((x:Nat):Int))=true:=by simpa using hlt
 rw[hap,hv];have HW2:=Lib.hid hW2;clear hap hv hr hr' hx ha hb hb' t hW2;go_enter Tryz.func243,Tryz.ntmps243;go_wp2_with fail
 go_still_tail 8,(by kernel_rfl)
 go_wp2_with fail;rw[← HW2.out];refine wp_region_quiet_lit (by kernel_rfl) (by kernel_rfl) ?_;repeat (first|go_big_quiet_step (fail)|quiet_step (fail))
 refine wpQuiet_nil ?_;intro _ hw';obtain⟨nq,hw''⟩:=hw';subst hw'';go_wp2;go_ret;exact⟨rfl,1+nq,by rw[HW2.out,← World.drewN_drewN];rfl⟩
theorem shapesIndex_in (w:World)(sa la:Option Addr)(n c c':Nat)(S L:List Nat)(ok:Me.Ok S)(hn:S.length=n)(hb:Me.Box S L)(hr:Rd w sa (nums .i64 S))(hr':Rd w la (nums .i64 L)) :
  Calls Tryz.prog 232 #[.slice sa n c,.slice la n c'] w fun e w'=>e = .returned (.tuple #[.int .i64 ((Me.rank S L:Nat):Int),.int .i64 0])∧Touch No w w':=by
 have hl:L.length=n:=by rw[hb.1,hn]
 have hn4:n≤4:=by rw[← hn];exact ok.four
 have hnn:((n:Int) != (n:Int))=false:=by simp
 have Hok:=Lib.hid ok;have Hn:=Lib.hid hn;have Hl:=Lib.hid hl;have Hb:=Lib.hid hb;have Hr:=Lib.hid hr;have Hr':=Lib.hid hr';have hf:∀(args:Array Value) (wx:World),(callFunc 243 args).run Tryz.prog wx = .ok (.enter 243 args) wx:=fun args wx=>by simp[callFunc,Tryz.func243,Tryz.f243]
 have Hf:=Lib.hid hf;have hmf:∀(fn:Fn) (first cap:Array Value) (w:World),(Instr.makeFunc fn first cap).run Tryz.prog w = .ok (.func fn first cap) w:=fun _ _ _ _=>rfl
 clear ok hn hl hb hr hr' hf;go_enter Tryz.func232,Tryz.ntmps232;go_wp2_with fail;obtain⟨w1,hw1⟩:∃w1,w1=(w.alloc (.cells #[.slice sa n c] 48)).alloc (.cells #[.slice la n c'] 48):=⟨_,rfl⟩;have T1:Hid (Touch No w w1):=by rw[hw1];exact((Touch.refl No w).alloc _).alloc _
 have B1:Row w1 w.heap.size 48 [.slice sa n c]:=by rw[hw1];exact(Row.new w _ _).touch ((Touch.refl No _).alloc _) id
 have B2:Row w1 (w.heap.size+1) 48 [.slice la n c']:=by
  have:=Row.new (w.alloc (.cells #[.slice sa n c] 48)) 48 #[.slice la n c'];rw[size_alloc]at this;rw[hw1];exact this
 have hs1:w1.heap.size=w.heap.size+2:=by rw[hw1];simp
 have HB:=Lib.hid (aI B1 (aI B2 hs1));have k1:=B1.cell 0;have k2:=B2.cell 0;have k3:∀ob:Obj,(w1.alloc ob).cell? ⟨w.heap.size,0,none⟩=some (.slice sa n c):=fun ob=>(B1.touch ((Touch.refl No w1).alloc ob) id).cell 0
 rw[← hw1];clear hw1 B1 B2 hs1;refine(shapeCheck_ok (c:=c) (Hr.out.no T1.out) Hn.out Hok.out).mono ?_;rintro e w' ⟨rfl,rfl⟩;go_wp2_with fail;clear k1 k2 k3;obtain⟨b,hb⟩:∃b,b=w1.heap.size:=⟨_,rfl⟩;have hbX:w.heap.size+2≤b:=by rw[hb,HB.out.2.2];exact Nat.le_refl _
 obtain⟨w3,hw3⟩:∃w3,w3=w1.alloc (.cells #[.int .i64 0] 3):=⟨_,rfl⟩;have t3:Touch No w1 w3:=by rw[hw3];exact(Touch.refl No w1).alloc _
 have Rb:Row w3 b 3 [.int .i64 0]:=by rw[hw3,hb];exact Row.new w1 _ _
 have H3:=Lib.hid (aI (T1.out.trans t3) (aI (HB.out.1.touch t3 id) (aI (HB.out.2.1.touch t3 id) Rb)))
 have hold:Hid (∀(a:Option Addr) (l:List Nat),l.length=n→Rd w a (nums .i64 l)→∀ad,a=some ad→ad.block<w.heap.size):=fun a l hl hr ad e=>by
  obtain⟨b,o,e1,c1⟩:=hr.num (i:=0) (by have:=Hok.out.one;have:=Hn.out;omega);rw[e]at e1;cases e1;exact lt_of_cell c1
 rw[← hw3,← hb];clear hw3 hb t3 Rb HB T1
 have C:=backwards_in w3 243 Hf.out (.pointer (some ⟨b,0,none⟩)) (.pointer (some ⟨w.heap.size+1,0,none⟩)) (.pointer (some ⟨w.heap.size,0,none⟩)) sa n c S Hok.out Hn.out
  (fun k W=>Touch (One b) w3 W∧Row W b 3 [.int .i64 ((Me.rankB S L k:Nat):Int)])
  (fun k W h=>((Hr.out.no H3.out.1).keepR h.1 (fun ad e=>by have:=hold.out _ _ Hn.out Hr.out ad e;omega)))
  ⟨Touch.refl _ _,H3.out.2.2.2⟩
  (fun k W hk h=>by
   obtain⟨t,hR⟩:=h;obtain⟨j,hj⟩:∃j:Nat,j=n-1-k:=⟨_,rfl⟩;have hp:=Me.pr_drop_le Hok.out.each (n-k);have hp4:=Hok.out.most;have hbj:=Hb.out.2 j (by rw[Hn.out];omega);have hrk:=Me.rankB_le Hok.out Hb.out (k:=k) (by rw[Hn.out];omega)
   have:=index1_in W j (Me.pr (S.drop (n-k))) (Me.rankB S L k) (L.getD j 0) b (w.heap.size+1) w.heap.size sa la n c c' S L (by omega) Hn.out Hl.out rfl hbj (Hok.out.get (by rw[Hn.out];omega)).2 (by omega) (by omega)
    (hR.cell 0) (hR.soft 0) ((H3.out.2.2.1.keep t (by omega)).cell 0) ((H3.out.2.1.keep t (by omega)).cell 0)
    ((Hr.out.no H3.out.1).keepR t (fun ad e=>by have:=hold.out _ _ Hn.out Hr.out ad e;omega)) ((Hr'.out.no H3.out.1).keepR t (fun ad e=>by have:=hold.out _ _ Hl.out Hr'.out ad e;omega))
    (by omega) (by omega) (fun ad e=>by have:=hold.out _ _ Hn.out Hr.out ad e;omega) (fun ad e=>by have:=hold.out _ _ Hl.out Hr'.out ad e;omega)
   rw[show(n:Int)-1-k=((j:Nat):Int) by omega];refine this.mono ?_;rintro e W' ⟨rfl,m,rfl⟩;refine⟨rfl,(t.setCell (p:=⟨b,0,none⟩) (fun _=>rfl) _).drewN m,?_⟩;have h3:=(hR.setCell 0 (.int .i64 ((Me.rankB S L k+L.getD j 0*Me.pr (S.drop (n-k)):Nat):Int))).touch (F:=No) ((Touch.refl No _).drewN m) id;have e1:Me.rankB S L (k+1)=Me.rankB S L k+L.getD j 0*Me.pr (S.drop (n-k)):=by rw[Me.rankB,Hn.out,← hj]
   rw[e1]
   simpa using h3)
 refine C.mono ?_;clear C;rintro e w4 ⟨rfl,t4,hR⟩
 have hrk:Me.rankB S L n=Me.rank S L:=by
  rw[Me.rankB_is S L n (by rw[Hn.out];exact Nat.le_refl _) Hb.out.1,Hn.out,Nat.sub_self];rfl
 rw[hrk]at hR;have k3:=hR.cell 0;have HN:=Lib.hid (H3.out.1.oneNo t4 (by omega));clear t4 hR hrk H3;go_wp2
 go_ret2
 exact⟨rfl,HN.out⟩
theorem refAt_in (w:World)(sa:Option Addr)(n c i:Nat)(S:List Nat)(ok:Me.Ok S)(hn:S.length=n)(hr:Rd w sa (nums .i64 S))(hi:i<Me.pr S) :
  Calls Tryz.prog 166 #[.slice sa n c,.int .i64 ((i:Nat):Int)] w (AtOut w n (Me.unrank S i)):=by
 obtain⟨m,hm⟩:∃m,Me.pr S=m:=⟨_,rfl⟩;rw[hm]at hi;have hm4:m≤4096:=by rw[← hm];exact ok.most
 have hn4:n≤4:=by rw[← hn];exact ok.four
 have hmk:=hmkI n (by omega);have Hok:=Lib.hid ok;have Hn:=Lib.hid hn;have Hm:=Lib.hid hm;have Hr:=Lib.hid hr;have q1:¬(i:Int)<0:=by omega
 have q2:¬(m:Int)≤(i:Int):=by omega
 clear ok hn hm hr;go_enter Tryz.func166,Tryz.ntmps166;go_wp2_with fail;refine(refShape_ok (c:=c) Hr.out Hn.out Hok.out).mono ?_;rintro e w' ⟨rfl,rfl⟩;go_wp2_with fail;refine(refSize_ok (c:=c) Hr.out Hn.out Hok.out Hm.out).mono ?_;rintro e w' ⟨rfl,rfl⟩;go_wp2_with fail;obtain⟨g,hg⟩:∃g,g=w.heap.size:=⟨_,rfl⟩;obtain⟨w1,hw1⟩:∃w1,w1=w.alloc (.cells (Array.replicate n (Value.int .i64 0)) 3):=⟨_,rfl⟩
 have H1:Hid (Touch No w w1∧Row w1 g 3 (nums .i64 (List.replicate n 0))∧w.heap.size≤g):=by
  refine⟨by rw[hw1];exact(Touch.refl No w).alloc _,?_,by rw[hg];exact Nat.le_refl _⟩;have:=Row.new w 3 (Array.replicate n (Value.int .i64 0));rw[hw1,hg];simpa[nums]using this
 have hold:Hid (∀ad,sa=some ad→ad.block<w.heap.size):=fun ad e=>by
  obtain⟨b,o,e1,c1⟩:=Hr.out.num (i:=0) (by have:=Hok.out.one;omega);rw[e]at e1;cases e1;exact lt_of_cell c1
 rw[← hw1,← hg];clear hw1 hg q1 q2 hmk
 go_loopg [1,7] n (fun gh s1 s7 wr=>∃k q:Nat,k+gh=n∧s7 = .int .i64 ((n:Int)-1-k)∧s1 = .int .i64 ((q:Nat):Int)∧Hid (q=i / Me.pr (S.drop (n-k)))∧Hid (Touch (One g) w1 wr∧∃l,l.length=n∧Row wr g 3 (nums .i64 l)∧∀j,n-k≤j→j<n→l.getD j 0=(Me.unrank S i).getD j 0))
 case atStart =>
  refine⟨0,i,by omega,by simp,rfl,?_,Touch.refl _ _,List.replicate n 0,by simp,H1.out.2.1,fun j h1 h2=>by omega⟩
  show _=_
  rw[Nat.sub_zero,List.drop_eq_nil_of_le (by rw[Hn.out];exact Nat.le_refl _)];simp[Me.pr]
 case round =>
  obtain⟨k,q,hkg,rfl,rfl,HP,HK⟩:=hrel;cases gk with
  | zero =>
    obtain rfl:k=n:=by omega
    have h1:¬(0:Int)≤(k:Int)-1-k:=by omega
    have HN:Hid (Row wr g 3 (nums .i64 (Me.unrank S i))∧w.heap.size≤g∧Touch No w wr):=by
     obtain⟨t,l,hl,hR,hv⟩:=HK.out
     have hlu:l=Me.unrank S i:=by
      refine List.ext_getElem? fun j=>?_
      by_cases hj:j<k
      ·have:=hv j (by omega) hj
       rw[Lgd,Lgd,Lge (by omega),Lge (by rw[Me.unrank_length,Hn.out];omega)]at this;rw[Lge (by omega),Lge (by rw[Me.unrank_length,Hn.out];omega)]
       simpa using this
      ·rw[Lgn (by omega),Lgn (by rw[Me.unrank_length,Hn.out];omega)]
     exact⟨by rw[← hlu];exact hR,H1.out.2.2,H1.out.1.oneNo t H1.out.2.2⟩
    clear HK HP;go_wp2
    go_ret2
    exact⟨g,rfl,HN.out⟩
  | succ g' =>
    have h1:(0:Int)≤(n:Int)-1-k:=by omega
    obtain⟨j,hj⟩:∃j:Nat,j=n-1-k:=⟨_,rfl⟩;have hjI:(n:Int)-1-k=((j:Nat):Int):=by omega
    obtain⟨t,l,hl,hR,hv⟩:=HK.out;have hgw:=H1.out.2.2;obtain⟨b,o,rfl,cx⟩:=((Hr.out.no H1.out.1).keepR t (fun ad e=>by have:=hold.out ad e;omega)).num (i:=j) (by rw[Hn.out];omega);obtain⟨x,hx⟩:∃x,S.getD j 0=x:=⟨_,rfl⟩;have hxb:=Hok.out.get (k:=j) (by rw[Hn.out];omega);rw[hx]at cx hxb;have hbg:b≠g:=by have:=hold.out _ rfl;simp only at this;omega
    have cg:wr.cell? ⟨g,j,none⟩=some (.int .i64 ((l.getD j 0:Nat):Int)):=by rw[hR.cell];exact nums_get (by omega)
    have cz:=hR.soft j;have hqi:q≤i:=by rw[HP.out];exact Nat.div_le_self _ _
    obtain⟨r,hr2⟩:∃r,q%x=r:=⟨_,rfl⟩;obtain⟨d,hd⟩:∃d,q / x=d:=⟨_,rfl⟩;have hrx:r≤q:=by rw[← hr2];exact Nat.mod_le _ _
    have hdx:d≤q:=by rw[← hd];exact Nat.div_le_self _ _
    have q0:¬(x:Int)=0:=by omega
    have q0n:¬x=0:=by omega
    have q1:(q:Int).tmod (x:Int)=((r:Nat):Int):=by rw[Int.tmod_eq_emod_of_nonneg (by omega),← hr2];omega
    have q2:(q:Int).tdiv (x:Int)=((d:Nat):Int):=by rw[Int.tdiv_eq_ediv_of_nonneg (by omega),← hd];omega
    have q1':(q:Int)%(x:Int)=((r:Nat):Int):=by rw[← hr2];omega
    have q2':(q:Int) / (x:Int)=((d:Nat):Int):=by rw[← hd];omega
    have q3:IntKind.i64.wrap ((r:Nat):Int)=((r:Nat):Int):=IntWalk.i64_in _ (by omega);have q4:IntKind.i64.wrap ((d:Nat):Int)=((d:Nat):Int):=IntWalk.i64_in _ (by omega);have hjn:(j:Int)<(n:Nat):=by omega
    have e0:n-(k+1)+1=n-k:=by omega
    have e1:n-(k+1)=j:=by omega
    have HD:Hid (d=i / Me.pr (S.drop (n-(k+1)))):=by
     show _=_
     rw[← hd,HP.out,Me.pr_drop_get (k:=n-(k+1)) (by rw[Hn.out];omega),e0,e1,hx,Nat.div_div_eq_div_mul,Nat.mul_comm]
    have hrv:r=(Me.unrank S i).getD j 0:=by
     rw[Me.unrank_get S i j (by rw[Hn.out];omega),show j+1=n-k by omega,← HP.out,hx,hr2]
    have HN:Hid (Touch (One g) w1 (wr.setCell ⟨g,j,none⟩ (.int .i64 ((r:Nat):Int)))∧∃l,l.length=n∧Row (wr.setCell ⟨g,j,none⟩ (.int .i64 ((r:Nat):Int))) g 3 (nums .i64 l)∧∀q,n-(k+1)≤q→q<n→l.getD q 0=(Me.unrank S i).getD q 0):=by
     refine⟨t.setCell (p:=⟨g,j,none⟩) (fun _=>rfl) _,l.set j r,by simpa using hl,?_,fun q h1 h2=>?_⟩
     ·have h3:=hR.setCell j (.int .i64 ((r:Nat):Int))
      simpa[nums,List.map_set]using h3
     ·by_cases hq:q=j
      ·subst hq
       rw[Lgd,List.getElem?_set_self (by omega),hrv];rfl
      ·rw[Lgd,List.getElem?_set_ne (by omega),← Lgd]
       exact hv q (by omega) h2
    have cx2:∀v,(wr.setCell ⟨g,j,none⟩ v).cell? ⟨b,o+j,none⟩=some (.int .i64 ((x:Nat):Int)):=fun v=>by rw[cell_set_ne (Or.inl (Ne.symm hbg))];exact cx
    have HNX:=Lib.hid (show(n:Int)-1-((k+1:Nat):Int)=(j:Int)-1 by omega);rw[hjI];clear hj hx hr2 hd e0 e1 hrv hR hv t HK HP h1;go_wp2
    go_roundg g'
    case measure=>omega
    case rel=>exact⟨k+1,d,by omega,by rw[HNX.out],rfl,HD,HN⟩
theorem refIndex_in (w:World)(sa la:Option Addr)(n c c':Nat)(S L:List Nat)(ok:Me.Ok S)(hn:S.length=n)(hb:Me.Box S L)(hr:Rd w sa (nums .i64 S))(hr':Rd w la (nums .i64 L)) :
  Calls Tryz.prog 167 #[.slice sa n c,.slice la n c'] w fun e w'=>e = .returned (.tuple #[.int .i64 ((Me.rank S L:Nat):Int),.int .i64 0])∧Touch No w w':=by
 have hl:L.length=n:=by rw[hb.1,hn]
 have hn4:n≤4:=by rw[← hn];exact ok.four
 have hnn:((n:Int) != (n:Int))=false:=by simp
 have Hok:=Lib.hid ok;have Hn:=Lib.hid hn;have Hl:=Lib.hid hl;have Hb:=Lib.hid hb;have Hr:=Lib.hid hr;have Hr':=Lib.hid hr';clear ok hn hl hb hr hr';go_enter Tryz.func167,Tryz.ntmps167;go_wp2_with fail;refine(refShape_ok (c:=c) Hr.out Hn.out Hok.out).mono ?_;rintro e w' ⟨rfl,rfl⟩;go_wp2_with fail
 go_loopg [6,7] n (fun gh s6 s7 wr=>∃k q:Nat,k+gh=n∧s7 = .int .i64 ((k:Nat):Int)∧s6 = .int .i64 ((q:Nat):Int)∧Hid (q=Me.rankF S L k)∧Hid (Touch No w wr))
 case atStart=>exact⟨0,0,by omega,rfl,rfl,rfl,Touch.refl _ _⟩
 case round =>
  obtain⟨k,q,hkg,rfl,rfl,HP,T⟩:=hrel;cases gk with
  | zero =>
    obtain rfl:k=n:=by omega
    have HQ:Hid (q=Me.rank S L):=by
     show _=_
     rw[HP.out,← Me.rankF_is Hb.out.1,Hn.out]
    go_wp2
    go_ret2
    exact⟨by rw[HQ.out];rfl,T.out⟩
  | succ g' =>
    have hkn:(k:Int)<(n:Nat):=by omega
    obtain⟨b,o,rfl,cx⟩:=(Hr.out.no T.out).num (i:=k) (by rw[Hn.out];omega);obtain⟨b',o',rfl,ca⟩:=(Hr'.out.no T.out).num (i:=k) (by rw[Hl.out];omega);have hbk:=Hb.out.2 k (by rw[Hn.out];omega);have h1:=Me.rankF_le Hok.out Hb.out (k:=k) (by rw[Hn.out];omega);have h2:=Me.rankF_le Hok.out Hb.out (k:=k+1) (by rw[Hn.out];omega);rw[Me.rankF,← HP.out]at h2;rw[← HP.out]at h1;obtain⟨x,hx⟩:∃x,S.getD k 0=x:=⟨_,rfl⟩;obtain⟨a,ha⟩:∃a,L.getD k 0=a:=⟨_,rfl⟩;rw[hx]at cx hbk h2;rw[ha]at ca hbk h2;obtain⟨qx,hqx⟩:∃qx,q*x=qx:=⟨_,rfl⟩;obtain⟨v,hv⟩:∃v,qx+a=v:=⟨_,rfl⟩;rw[hqx,hv]at h2;have HV:Hid (v=Me.rankF S L (k+1)):=by show _=_;rw[Me.rankF,← HP.out,hx,ha,hqx,hv]
    have q1:IntKind.i64.wrap ((q:Int)*(x:Int))=((qx:Nat):Int):=by rw[← Int.natCast_mul,hqx];exact IntWalk.i64_in _ (by omega)
    have q2:IntKind.i64.wrap ((qx:Int)+(a:Int))=((v:Nat):Int):=by rw[← Int.natCast_add,hv];exact IntWalk.i64_in _ (by omega)
    have f1:decide (((a:Nat):Int)<0)=false:=by simp
    have f2:decide (((x:Nat):Int)≤((a:Nat):Int))=false:=by simpa using hbk
    clear hx ha hqx hv HP;go_wp2;refine wp_region_quiet_lit (by kernel_rfl) (by kernel_rfl) ?_;repeat (first|go_big_quiet_step (fail)|quiet_step (fail))
    refine wpQuiet_nil ?_;intro _ hw';obtain⟨nq,hw''⟩:=hw';subst hw'';go_wp2;refine wp_region_quiet_lit (by kernel_rfl) (by kernel_rfl) ?_;repeat (first|go_big_quiet_step (fail)|quiet_step (fail))
    refine wpQuiet_nil ?_;intro _ hw';obtain⟨nq,hw''⟩:=hw';subst hw'';go_wp2;have T2:Hid (∀j,Touch No w (wr.drewN j)):=fun j=>T.out.drewN j
    go_roundg g'
    case measure=>omega
    case rel=>exact⟨k+1,v,by omega,by go_num,rfl,HV,T2.out _⟩
end
end Go.Proofs.YtjlphmmalebgpaaGreat
