/-
  A part of the proof.
-/
import Derived.Test.YtjlphmmalebgpaaGreatK43
set_option linter.unusedSimpArgs false
set_option linter.unusedVariables false
set_option maxHeartbeats 4000000
set_option maxRecDepth 100000
namespace Go.Proofs.YtjlphmmalebgpaaGreat
section
open Go Go.RowKit
section
variable {F:Fence} {nf:Nat} {P:Program} {ops:Array Oper} {md:Region.Mode} {Q:Exit→Act→World→Prop} {D:World→Prop}
def YD (F:Fence)(nf:Nat)(P:Program)(ops:Array Oper)(D:World→Prop)(o:Oper)(v:Value)(a:Act):Prop:=∀w1,D w1→YieldsQuiet F nf P ops (KC w1) o v a
def wpAnyD (F:Fence)(nf:Nat)(P:Program)(md:Region.Mode)(ops:Array Oper)(Q:Exit→Act→World→Prop)(D:World→Prop):Nat→Array Bool→Act→World→Prop
 | 0,listed,a,w=>D w∧∀w',Touch No w w'→Region.ready md ops listed=[]∧Q .normal a w'
 | fuel+1,listed,a,w=>D w∧∀w',Touch No w w'→(Region.ready md ops listed=[]→Q .normal a w')∧
   ∀i∈Region.ready md ops listed,wpOpIn F nf P ops Q i (wpAnyD F nf P md ops Q D fuel (listed.setIfInBounds i true)) a w'
theorem wpAnyD.no (hD:∀{w w':World},D w→Touch No w w'→D w'):∀{fuel:Nat} {listed:Array Bool} {a:Act} {w w':World},wpAnyD F nf P md ops Q D fuel listed a w→Touch No w w'→wpAnyD F nf P md ops Q D fuel listed a w'
 | 0,_,_,_,_,h,t=>⟨hD h.1 t,fun w2 t2=>h.2 w2 (t.trans t2)⟩
 | _+1,_,_,_,_,h,t=>⟨hD h.1 t,fun w2 t2=>h.2 w2 (t.trans t2)⟩
theorem wpAnyIn_of_D:∀(fuel:Nat) (listed:Array Bool) (a:Act) (w:World),wpAnyD F nf P md ops Q D fuel listed a w→wpAnyIn F nf P md ops Q fuel listed a w
 | 0,_,_,w,h=>h.2 w (Touch.refl _ _)
 | f+1,_,_,w,h=>⟨(h.2 w (Touch.refl _ _)).1,fun i hi=>wpOpIn_mono (fun a' w'=>wpAnyIn_of_D f _ a' w') ((h.2 w (Touch.refl _ _)).2 i hi)⟩
theorem YD.step {i:Nat}{oi:Oper}{v:Value}{a:Act}{w:World}{K:Act→World→Prop}(hdf:NoDefer ops)(hi:ops[i]? = some oi)(hy:YD F nf P ops D oi v a)(hw:D w)(h:∀w',Touch No w w'→K (a.put oi.dst v) w') :
  wpOpIn F nf P ops Q i K a w:=by
 have hy':=hy w hw;unfold Go.wpOpIn;simp only[hi];obtain⟨ha,hy'⟩:=hy';rcases hy' with⟨hwt,hv⟩|⟨hwt,rfl⟩
 ·simp only[hwt,if_true]
  have h3:=hv w (KC.refl w);unfold Oper.quietAtIn at h3;unfold Oper.wpIn;refine⟨ha w (KC.refl w),?_⟩;rw[Oper.semAt_plain F _ _ (hdf i oi hi)]
  generalize (execOp a.eval oi).run P w=r at *
  cases r with
  | ok x w' =>
    cases x <;> simp only[Oper.quietUponIn]at h3 <;> simp only[Oper.uponIn]
    case value u=>obtain⟨e1,e2⟩:=h3;rw[e1,e2];exact h _ (Touch.refl _ _)
    case skip=>obtain⟨e1,e2⟩:=h3;rw[e1,← e2];exact h _ (Touch.refl _ _)
    case enter f args =>
     obtain⟨e1,hd,hc⟩:=h3;rw[e1];exact⟨hd,hc.mono fun e w'' ⟨he,p,hp⟩=>by subst he;subst hp;exact h _ p.no⟩
  | halt x w'=>simp only[Oper.quietUponIn]at h3
 ·simp only[hwt,Bool.false_eq_true,if_false]
  exact⟨ha w (KC.refl w),h _ (Touch.refl _ _)⟩
theorem wpOpInD_put {j:Nat}{oi oj:Oper}{v:Value}(hdf:NoDefer ops)(hj:ops[j]? = some oj)(hap:oi.apart ops oj=true)
  (hsi:∀cs b,oi.op≠.select cs b) (hsj:∀cs b,oj.op≠.select cs b)
  (hQ:∀c a w,Q (.panic c) (a.put oi.dst v) w→Q (.panic c) a w) {K:Act→World→Prop} {a:Act} {w:World}
  (hy:YD F nf P ops D oi v a) (h:wpOpIn F nf P ops Q j K (a.put oi.dst v) w) :
  wpOpIn F nf P ops Q j (fun a' w'=>YD F nf P ops D oi v a'∧K (a'.put oi.dst v) w') a w:=by
 obtain⟨h1,h2,h3⟩:=Oper.apart_spec hap
 have keep:∀(a:Act),YD F nf P ops D oi v a→∀u,YD F nf P ops D oi v (a.put oj.dst u):=fun a hy u w1 t1 =>
  (hy w1 t1).of_same (execOp_put oi hsi a oj.dst u h3) (wanted_put oi a oj.dst u h3) (fun w=>about_put oi w a oj.dst u h3)
 have keepD:∀d,YD F nf P ops D oi v {a with defers:=d::a.defers}:=fun d w1 t1=>(hy w1 t1).of_same rfl rfl (fun _=>rfl)
 have hnd:=hdf j oj hj;unfold wpOpIn at *;simp only[hj]at *;rw[wanted_put oj a oi.dst v h1,about_put oj w a oi.dst v h1]at h;split
 ·rename_i hw
  simp only[hw,if_true]at h;unfold Oper.wpIn at *;rw[about_put oj w a oi.dst v h1]at h;refine⟨h.1,?_⟩;have h:=h.2;rw[Oper.semAt_plain F _ _ hnd,execOp_put oj hsj a oi.dst v h1]at h;rw[Oper.semAt_plain F _ _ hnd]
  generalize (execOp a.eval oj).run P w=r at *
  cases r with
  | ok x w' =>
    cases x <;> simp only[Oper.uponIn]at h ⊢
    case value u=>exact⟨keep a hy u,by rw[← Act.put_comm a v u h2];exact h⟩
    case skip=>exact⟨keep a hy _,by rw[← Act.put_comm a v undef h2];exact h⟩
    case defer d =>
     refine⟨keep _ (keepD d) _,?_⟩;rw[← Act.put_comm _ v undef h2,← Act.put_defers];exact h
    case enter f args =>
     refine⟨h.1,CallsIn.mono h.2 fun e w'' he=>?_⟩;cases e with
     | returned u=>exact⟨keep a hy u,by rw[← Act.put_comm a v u h2];exact he⟩
     | panicked c=>exact hQ _ _ _ he
     | outgrown=>exact he
    case row row args=>exact⟨h.1,RowsIn.mono h.2 fun u w'' he=>⟨keep a hy u,by rw[← Act.put_comm a v u h2];exact he⟩⟩
    case round l f tmps assign body =>
     refine⟨h.1,RoundIn.mono h.2 fun e w'' he=>?_⟩;cases e with
     | returned u=>exact⟨keep a hy u,by rw[← Act.put_comm a v u h2];exact he⟩
     | panicked c=>exact hQ _ _ _ he
     | outgrown=>exact he
  | halt x w' =>
    cases x <;> simp only[Oper.uponIn]at h ⊢
    case panic u=>exact hQ _ _ _ h
 ·rename_i hw
  simp only[hw]at h;exact⟨h.1,keep a hy _,by rw[← Act.put_comm a v undef h2];exact h.2⟩
theorem wpAnyD_first (hD:∀{w w':World},D w→Touch No w w'→D w'){i:Nat}{oi:Oper}{v:Value}(hdf:NoDefer ops)(hi:ops[i]? = some oi)(hsel:∀(j:Nat) (o:Oper) cs b,ops[j]? = some o→o.op≠.select cs b)
  (hQ:∀c a w,Q (.panic c) (a.put oi.dst v) w→Q (.panic c) a w) :
  ∀(fuel:Nat) (listed:Array Bool) (a:Act) (w:World),
   (∀j oj,ops[j]? = some oj→j≠i→listed.getD j true=false→(∀e∈oj.after,Region.binds md e=true→e.on≠i)→oi.apart ops oj=true)→
   i∈Region.ready md ops listed→YD F nf P ops D oi v a→
   wpAnyD F nf P md ops Q D fuel (listed.setIfInBounds i true) (a.put oi.dst v) w→wpAnyD F nf P md ops Q D (fuel+1) listed a w:=by
 intro fuel
 induction fuel with
 | zero =>
   intro listed a w _ hr hy H;refine⟨H.1,fun w' t=>⟨fun h=>(by rw[h]at hr;cases hr),fun j hj=>?_⟩⟩
   by_cases hji:j=i
   ·subst hji;exact hy.step hdf hi (hD H.1 t) fun w2 t2=>H.no hD (t.trans t2)
   ·have:=ready_mono hj hji
    rw[(H.2 w' t).1]at this;cases this
 | succ fuel ih =>
   intro listed a w hfree hr hy H;refine⟨H.1,fun w' t=>⟨fun h=>(by rw[h]at hr;cases hr),fun j hj=>?_⟩⟩
   by_cases hji:j=i
   ·subst hji;exact hy.step hdf hi (hD H.1 t) fun w2 t2=>H.no hD (t.trans t2)
   ·have h1:=(H.2 w' t).2 j (ready_mono hj hji)
    obtain⟨hjun,oj,hoj,hall⟩:=mem_ready.1 hj
    have hnot:∀e∈oj.after,Region.binds md e=true→e.on≠i:=fun e he hb heq=>by
     have h1:=hall e he hb;have h0:=(mem_ready.1 hr).1;rw[heq]at h1;rcases Nat.lt_or_ge i listed.size with h'|h'
     ·simp[h']at h0 h1;rw[h0]at h1;cases h1
     ·simp[Array.getElem?_eq_none h']at h1
    have h2:=wpOpInD_put hdf hoj (hfree j oj hoj hji hjun hnot) (fun cs b=>hsel i oi cs b hi) (fun cs b=>hsel j oj cs b hoj) hQ hy h1
    have hfree':∀k ok,ops[k]? = some ok→k≠i→(listed.setIfInBounds j true).getD k true=false→
      (∀e∈ok.after,Region.binds md e=true→e.on≠i)→oi.apart ops ok=true:=fun k ok hk hki hun hno=>by
     refine hfree k ok hk hki ?_ hno
     by_cases hjk:j=k
     ·subst hjk;exact hjun
     ·rw[getD_set_ne true hjk]at hun;exact hun
    refine wpOpIn_mono (fun a' w' h3=>ih (listed.setIfInBounds j true) a' w' hfree' (ready_mono hr (Ne.symm hji)) h3.1 ?_) h2;rw[Array.setIfInBounds_comm _ _ hji];exact h3.2
theorem wpAnyD_take (hD:∀{w w':World},D w→Touch No w w'→D w'){i:Nat}{oi:Oper}{d:Tmp}{fuel:Nat}{listed:Array Bool}{a:Act}{w:World}(hi:ops[i]? = some oi)(hd:oi.dst=some d)(hds:Nat.blt d a.tmps.size=true)(hdf:noDeferB ops=true)
  (hs:Region.noSelect ops=true) (hf:Region.free md ops listed i=true) (hr:(Region.ready md ops listed).contains i=true) (h0:D w)
  (hQ:∀v c a w,Q (.panic c) (a.put oi.dst v) w→Q (.panic c) a w)
  (h:∃a1,(∀w1,D w1→wpQuietIn F nf P ops (KC w1) (fun a'=>a'=a1) [oi] a)∧wpAnyD F nf P md ops Q D fuel (listed.setIfInBounds i true) a1 w):wpAnyD F nf P md ops Q D (fuel+1) listed a w:=by
 obtain⟨a1,hq,H⟩:=h
 have one:∀w1,D w1→∃v,YieldsQuiet F nf P ops (KC w1) oi v a∧a.put oi.dst v=a1:=fun w1 t1=>by
  have h1:=hq w1 t1
  have h2:qOpIn F nf P ops (KC w1) i (fun a'=>a'=a1) a:=by
   unfold qOpIn;rw[hi];exact h1
  exact yieldsQuiet_of_qOpIn hi h2
 obtain⟨v,hv,hva⟩:=one w h0;have hsz:d<a.tmps.size:=by simpa using hds
 have hy:YD F nf P ops D oi v a:=fun w1 t1=>by
  obtain⟨v1,hv1,hva1⟩:=one w1 t1
  have e:v1=v:=by
   have h3:(a.put oi.dst v1).tmps[d]? = (a.put oi.dst v).tmps[d]?:=by rw[hva,hva1]
   rw[hd]at h3
   simpa[Act.put,hsz]using h3
  rw[← e];exact hv1
 refine wpAnyD_first hD (noDefer_of hdf) hi (Region.noSelect_spec hs) (hQ v) fuel listed a w (Region.free_spec hi hf) (by simpa using hr) hy ?_;rw[hva];exact H
def AllReadyD (F:Fence)(nf:Nat)(P:Program)(md:Region.Mode)(ops:Array Oper)(Q:Exit→Act→World→Prop)(D:World→Prop)(fuel:Nat)(listed:Array Bool)(a:Act)(w:World)(rs:List Nat):Prop :=
 ∀i∈rs,wpOpIn F nf P ops Q i (wpAnyD F nf P md ops Q D fuel (listed.setIfInBounds i true)) a w
theorem AllReadyD.nil {fuel:Nat}{listed:Array Bool}{a:Act}{w:World}:AllReadyD F nf P md ops Q D fuel listed a w []:=fun _ h=>by cases h
theorem AllReadyD.cons {fuel:Nat}{listed:Array Bool}{a:Act}{w:World}{i:Nat}{o:Oper}{rs:List Nat}(ho:ops[i]? = some o)
  (h:∀K':Act→World→Prop,(∀a w,wpAnyD F nf P md ops Q D fuel (listed.setIfInBounds i true) a w→K' a w)→if Region.wanted o (yielded ops a.tmps)=true then Oper.wpIn F nf P o a w K' Q else (∀f,o.about P w a.eval=some f→F.fn f)∧K' (a.put o.dst undef) w)
  (hs:AllReadyD F nf P md ops Q D fuel listed a w rs):AllReadyD F nf P md ops Q D fuel listed a w (i::rs):=fun j hj=>by
 rcases List.mem_cons.1 hj with rfl|hj
 ·exact wpOpIn_step ho h
 ·exact hs j hj
theorem wpAnyD_ready {rs:List Nat}{fuel:Nat}{listed:Array Bool}{a:Act}{w:World}(h0:D w)(hr:Region.ready md ops listed=rs)(hne:rs≠[])
  (h:∀w',Touch No w w'→AllReadyD F nf P md ops Q D fuel listed a w' rs):wpAnyD F nf P md ops Q D (fuel+1) listed a w :=
 ⟨h0,fun w' t=>⟨fun e=>absurd (hr.symm.trans e) hne,fun i hi=>h w' t i (hr ▸ hi)⟩⟩
theorem wpAnyD_done {listed:Array Bool}{a:Act}{w:World}(h0:D w)(hr:Region.ready md ops listed=[])(h:∀w',Touch No w w'→Q .normal a w'):∀fuel,wpAnyD F nf P md ops Q D fuel listed a w
 | 0=>⟨h0,fun w' t=>⟨hr,h w' t⟩⟩
 | _+1=>⟨h0,fun w' t=>⟨fun _=>h w' t,by rw[hr];simp⟩⟩
theorem wpAnyD_end {listed:Array Bool}{a:Act}{w:World}{fuel:Nat}(h0:D w)(hr:Region.ready md ops listed=[])(h:∀w',Touch No w w'→Q .normal a w'):wpAnyD F nf P md ops (Calm Q) D fuel listed a w :=
 wpAnyD_done (Q:=Calm Q) h0 hr (fun w' t=>(h w' t:Calm Q .normal a w')) fuel
theorem wpIn_region_d {id:Nat}{a:Act}{w:World}{l:List Oper}(D:World→Prop)(n:Nat)(LN:Array Bool)(hm:P.follows .mixedOrders=true)(hn:l.length=n)(hL:Array.replicate n false=LN)
  (h:∀w1,Touch No w w1→wpAnyD F nf P .any l.toArray (Calm Q) D n LN a w1):(Code.region id l.toArray true).wpIn F nf P Q a w:=by
 subst hn hL;refine wpIn_mono (Q:=Calm Q) (wpIn_region_any hm (wpAnyIn_of_D _ _ _ _ (h _ ((Touch.refl No w).drew)))) ?_;intro e a' w' hq;cases e with
 | panic c=>exact hq.elim
 | normal=>exact hq
 | exit id=>exact hq
 | goto l=>exact hq
 | ret=>exact hq
 | outgrown=>exact hq
end
end
section
open Go Go.RowKit
def TwinTen (w:World)(s l:List Int)(e:Ending)(w':World):Prop :=
 ∃sa c la d,e = .returned (.agg #[.slice sa s.length c,.slice la l.length d])∧Touch No w w'∧s.length<c∧l.length<d∧Rd w' sa (ints .i64 s ++ [.int .i64 77])∧Rd w' la (ints .i32 l ++ [.int .i32 77])∧NewA w sa∧NewA w la
theorem twinTen_in (w:World)(sa la:Option Addr)(n c m d:Nat)(s l:List Int)(hs:s.length=n)(hn:(n:Int)≤10000000)(hr:Rd w sa (ints .i64 s))(hl:l.length=m)(hm:(m:Int)≤10000000)(hr2:Rd w la (ints .i32 l)) :
  Calls Tryz.prog 23 #[.agg #[.slice sa n c,.slice la m d]] w (TwinTen w s l):=by
 obtain⟨w1,hw1⟩:∃w1,w1=(w.alloc (.cells #[.slice sa n c,.slice la m d] 51)).alloc (.cells #[.slice none 0 0,.slice none 0 0] 51):=⟨_,rfl⟩;have t1:Touch No w w1:=by rw[hw1];exact((Touch.refl No w).alloc _).alloc _
 have B:=(Row.new w 51 #[.slice sa n c,.slice la m d]).touch ((Touch.refl No _).alloc (.cells #[.slice none 0 0,.slice none 0 0] 51)) id;have B':=Row.new (w.alloc (.cells #[.slice sa n c,.slice la m d] 51)) 51 #[.slice none 0 0,.slice none 0 0];obtain⟨X,hX⟩:∃X,X=w.heap.size:=⟨_,rfl⟩;have hX2:(w.alloc (.cells #[.slice sa n c,.slice la m d] 51)).heap.size=X+1:=by rw[hX];simp
 rw[hX2]at B';rw[← hX]at B;rw[← hw1]at B B';have HBx:=Lib.hid B;have HBy:=Lib.hid B';have HXX:=Lib.hid hX;have C1:=Lib.hid (fun(wx:World) (t:Touch No w wx)=>twinInts_any wx sa n c s hs hn (hr.no t));have C2:=Lib.hid (fun(wx:World) (t:Touch No w wx)=>twinNumbers_any wx la m d l hl hm (hr2.no t));have T1:=Lib.hid t1;have Hs:=Lib.hid hs;have Hl:=Lib.hid hl;clear hr hr2 hs hl t1 B B' hX2;go_enter Tryz.func23,Tryz.ntmps23;go_wp2_with fail;rw[← hw1,← hX];clear hw1 hX;have T1d:=T1.out.drew;have Q:Hid (∀wx,Touch (fun k=>k=X+1) w1 wx→wx.cell? ⟨X,0,none⟩=some (.slice sa n c)∧wx.cell? ⟨X,1,none⟩=some (.slice la m d)):=fun wx t=>⟨(HBx.out.touch t (by omega)).cell 0,(HBx.out.touch t (by omega)).cell 1⟩
 have Q0:=Q.out w1 (Touch.refl _ w1)
 go_region_held3 (fun w'=>w'.cell? ⟨X,0,none⟩=some (.slice sa n c)∧w'.cell? ⟨X,1,none⟩=some (.slice la m d)) (first|exact Q0|exact Q.out _ ((((q5.no:Touch (fun k=>k=X+1) w1 w5).setCell (p:=⟨X+1,0,none⟩) (fun _=>rfl) _).setCell (p:=⟨X+1,1,none⟩) (fun _=>rfl) _).drew)|exact Q.out _ (((q5.no:Touch (fun k=>k=X+1) w1 w5).setCell (p:=⟨X+1,0,none⟩) (fun _=>rfl) _).setCell (p:=⟨X+1,1,none⟩) (fun _=>rfl) _)|exact Q.out _ q5.no|exact Q.out _ q3.no|exact Q.out _ ((Touch.refl _ w1).drew)) (first
  | (go_at_call 42;refine(C1.out _ T1d).mono ?_;rintro e w3 ⟨a3,c3,rfl,hc3,o3,t3⟩;have q3:=((Touch.refl No w1).drew).trans t3)
  | (go_at_call 43;refine(C2.out _ (T1d.trans t3)).mono ?_;rintro e w5 ⟨a5,c5,rfl,hc5,o5,t5⟩;have q5:=q3.trans t5;have y0:w5.cell? ⟨X+1,0,none⟩=some (.slice none 0 0):=(HBy.out.touch q5 id).cell 0;have y1:w5.cell? ⟨X+1,1,none⟩=some (.slice none 0 0):=(HBy.out.touch q5 id).cell 1;have z0:=(HBy.out.touch q5 id).soft 0;have z1:=(HBy.out.touch q5 id).soft 1))
 have hy:=HBy.out.lt;have HY:=Lib.hid hy
 have HE:Hid (∀wx,Touch (fun k=>k=X+1) w5 wx→TwinTen w s l (.returned (.agg #[.slice a3 n c3,.slice a5 m c5])) wx):=fun wx t=>by
  have b3:∀ad,a3=some ad→w1.heap.size≤ad.block∧ad.block<w3.heap.size:=fun ad e=>o3.block (by rw[e];rfl)
  have b5:∀ad,a5=some ad→w3.heap.size≤ad.block∧ad.block<w5.heap.size:=fun ad e=>o5.block (by rw[e];rfl)
  have h01:=T1.out.size;have h13:w1.heap.size≤w3.heap.size:=q3.size;have h35:=t5.size;have hyy:=HY.out;have hd:w1.drew.heap.size=w1.heap.size:=rfl;have r3:=((o3.touch t5 (fun _ _ _ f=>f)).touch t (fun i hi _ e=>by omega));have r5:=(o5.touch t (fun i hi _ e=>by omega));refine⟨a3,c3,a5,c5,by rw[Hs.out,Hl.out],?_,by rw[Hs.out];exact hc3,by rw[Hl.out];exact hc5,r3.rd,r5.rd,fun ad e=>?_,fun ad e=>?_⟩
  ·exact((T1.out.trans q3).trans t5).then t (fun i hi e=>by
   have h:=HXX.out;omega)
  ·have:=b3 ad e;omega
  ·have:=b5 ad e;omega
 clear o3 o5 hc3 hc5 t3 t5 q3 q5 Q Q0 T1d hy;go_wp2;refine bodyPost_ret (v:=.agg #[.slice a3 n c3,.slice a5 m c5]) (by simp[results,Tryz.results23,go_sem,y0,y1]) rfl ?_;exact HE.out _ (((Touch.refl (fun k=>k=X+1) w5).setCell (p:=⟨X+1,0,none⟩) (fun _=>rfl) _).setCell (p:=⟨X+1,1,none⟩) (fun _=>rfl) _)
theorem leftT_any (w:World)(sa la sb lb:Option Addr)(n c m d c' d':Nat)(s l:List Int)(hs:s.length=n)(hn:(n:Int)≤10000000)(hc:n<c)(hr:Rd w sa (ints .i64 s ++ [.int .i64 77]))(hl:l.length=m)(hm:(m:Int)≤10000000)(hd:m<d)(hr2:Rd w la (ints .i32 l ++ [.int .i32 77]))
  (hr':Rd w sb (ints .i64 s)) (hr2':Rd w lb (ints .i32 l)) :
  Calls Tryz.prog 31 #[.agg #[.slice sa n c,.slice la m d],.agg #[.slice sb n c',.slice lb m d']] w fun e w'=>e = .returned (.bool true)∧Touch No w w':=by
 have hb:∀o:Obj,∀o':Obj,Touch No w ((w.alloc o).alloc o'):=fun o o'=>((Touch.refl No w).alloc o).alloc o'
 have C1:=Lib.hid (fun(wx:World) (t:Touch No w wx)=>leftInts_any wx sa n c sb c' s hs hn hc (hr.no t) (hr'.no t));have C2:=Lib.hid (fun(wx:World) (t:Touch No w wx)=>leftNumbers_any wx la m d lb d' l hl hm hd (hr2.no t) (hr2'.no t));have HB:=Lib.hid hb;clear hr hr' hr2 hr2' hs hl hb hc hd;go_enter Tryz.func31,Tryz.ntmps31;go_wp2_with fail;refine(C1.out _ (HB.out _ _)).mono ?_;rintro e w1 ⟨rfl,t1⟩;have r1:=(Row.new w 51 #[.slice sa n c,.slice la m d]).touch (((Touch.refl No _).alloc (.cells #[.slice sb n c',.slice lb m d'] 51)).trans t1) id;have r2:=(Row.new (w.alloc (.cells #[.slice sa n c,.slice la m d] 51)) 51 #[.slice sb n c',.slice lb m d']).touch t1 id;have k1:w1.cell? ⟨w.heap.size,1,none⟩=some (.slice la m d):=r1.cell 1;have k2:w1.cell? ⟨w.heap.size+1,1,none⟩=some (.slice lb m d'):=by have:=r2.cell 1;simpa using this
 have T1:=Lib.hid ((HB.out _ _).trans t1);clear t1 r1 r2;go_wp2_with fail;refine(C2.out _ T1.out).mono ?_;rintro e w2 ⟨rfl,t2⟩;have T2:=Lib.hid (T1.out.trans t2);clear t2;go_wp2;go_ret;exact⟨rfl,T2.out⟩
theorem twinRec_in (w:World)(sa la:Option Addr)(n c m d:Nat)(ix:Int)(s l:List Int)(hs:s.length=n)(hn:(n:Int)≤10000000)(hr:Rd w sa (ints .i64 s))(hl:l.length=m)(hm:(m:Int)≤10000000)(hr2:Rd w la (ints .i32 l)) :
  Calls Tryz.prog 24 #[.agg #[.int .u32 ix,.slice sa n c,.slice la m d]] w fun e w'=>∃sa' c' la' d',e = .returned (.agg #[.int .u32 ix,.slice sa' n c',.slice la' m d'])∧Touch No w w'∧n<c'∧m<d'∧Rd w' sa' (ints .i64 s ++ [.int .i64 77])∧Rd w' la' (ints .i32 l ++ [.int .i32 77])∧NewA w sa'∧NewA w la':=by
 obtain⟨w1,hw1,t1,R1,R2,hs1⟩:=rows_2 w [.int .u32 ix,.slice sa n c,.slice la m d] [.int .u32 0,.slice none 0 0,.slice none 0 0] 58 58;obtain⟨X,hX⟩:∃X,X=w.heap.size:=⟨_,rfl⟩;rw[← hX]at R1 R2 hs1
 have C1:Hid (∀wx,Touch No w wx→Calls Tryz.prog 23 #[.agg #[.slice sa n c,.slice la m d]] wx fun e w'=>∃sa c la d,e = .returned (.agg #[.slice sa n c,.slice la m d])∧Touch No wx w'∧n<c∧m<d∧Rd w' sa (ints .i64 s ++ [.int .i64 77])∧Rd w' la (ints .i32 l ++ [.int .i32 77])∧NewA wx sa∧NewA wx la):=fun wx t=>by
  have h:=twinTen_in wx sa la n c m d s l hs hn (hr.no t) hl hm (hr2.no t);unfold TwinTen at h;rw[hs,hl]at h;exact h
 have HT1:=Lib.hid t1;have HB:=Lib.hid R1;have HX:=Lib.hid (aI hX hs1);have RR:=R2;clear hs hl hr hr2 t1 R1 R2 hs1;go_enter Tryz.func24,Tryz.ntmps24;go_upto_region 1 with fail;rw[← hw1,← hX];clear hw1 hX;obtain⟨D,hDD⟩:∃D:World→Prop,D=fun wx=>Touch (One (X+1)) w1 wx:=⟨_,rfl⟩
 have hD:∀{w w':World},D w→Touch No w w'→D w':=fun {wx wy} d t=>by rw[hDD]at d ⊢;exact Touch.trans d t.no
 have hDs:∀{w w':World},D w→Touch (One (X+1)) w w'→D w':=fun {wx wy} d t=>by rw[hDD]at d ⊢;exact Touch.trans d t
 have hDt:∀wx,D wx→Touch No w wx:=fun wx d=>by rw[hDD]at d;exact HT1.out.then d (fun i hi e=>by have e':i=X+1:=e;have:=HX.out.1;omega)
 have hDz:∀wx,D wx→w1.heap.size≤wx.heap.size:=fun wx d=>by rw[hDD]at d;exact d.size
 have k0:∀wx,D wx→wx.cell? ⟨X,0,none⟩=some (.int .u32 ix):=fun wx d=>by rw[hDD]at d;exact(HB.out.touch d (fun e=>by have e':X=X+1:=e;omega)).cell 0
 have k1:∀wx,D wx→wx.cell? ⟨X,1,none⟩=some (.slice sa n c):=fun wx d=>by rw[hDD]at d;exact(HB.out.touch d (fun e=>by have e':X=X+1:=e;omega)).cell 1
 have k2:∀wx,D wx→wx.cell? ⟨X,2,none⟩=some (.slice la m d):=fun wx d=>by rw[hDD]at d;exact(HB.out.touch d (fun e=>by have e':X=X+1:=e;omega)).cell 2
 have hD0:D w1:=by rw[hDD];exact Touch.refl _ _
 clear hDD;refine(wpIn_wide (n:=12)).1 ?_;refine wpIn_region_d D 7 #[false,false,false,false,false,false,false] (by kernel_rfl) rfl rfl fun wu tu=>?_
 have dw:D wu:=hD hD0 tu;have RR:=RR.touch tu id;clear tu hD0;refine wpAnyD_take hD (i:=0) rfl rfl rfl (by kernel_rfl) (by kernel_rfl) (by kernel_rfl) (by kernel_rfl) dw (fun _ _ _ _ h=>h) ?_;apply Exists.intro;refine⟨fun w1 d1=>?_,?_⟩
 ·skip
  first|gi_big_quiet_step (fail)|quiet_step_in (fail)
  refine wpQuietIn_nil ?_;rfl
 try dsimp only
 refine wpAnyD_take hD (i:=1) rfl rfl rfl (by kernel_rfl) (by kernel_rfl) (by kernel_rfl) (by kernel_rfl) dw (fun _ _ _ _ h=>h) ?_;apply Exists.intro;refine⟨fun w1 d1=>?_,?_⟩
 ·have k0:∀p:KW w1,p.wd.cell? _=_:=fun p=>k0 _ (hD d1 p.no)
  first|gi_big_quiet_step (fail)|quiet_step_in (fail)
  refine wpQuietIn_nil ?_;rfl
 try dsimp only
 refine wpAnyD_take hD (i:=2) rfl rfl rfl (by kernel_rfl) (by kernel_rfl) (by kernel_rfl) (by kernel_rfl) dw (fun _ _ _ _ h=>h) ?_;apply Exists.intro;refine⟨fun w1 d1=>?_,?_⟩
 ·skip
  first|gi_big_quiet_step (fail)|quiet_step_in (fail)
  refine wpQuietIn_nil ?_;rfl
 try dsimp only
 refine wpAnyD_take hD (i:=3) rfl rfl rfl (by kernel_rfl) (by kernel_rfl) (by kernel_rfl) (by kernel_rfl) dw (fun _ _ _ _ h=>h) ?_;apply Exists.intro;refine⟨fun w1 d1=>?_,?_⟩
 ·have k1:∀p:KW w1,p.wd.cell? _=_:=fun p=>k1 _ (hD d1 p.no)
  have k2:∀p:KW w1,p.wd.cell? _=_:=fun p=>k2 _ (hD d1 p.no)
  first|gi_big_quiet_step (fail)|quiet_step_in (fail)
  refine wpQuietIn_nil ?_;rfl
 try dsimp only
 clear k0 k1 k2
 repeat' first
  | (refine wpAnyD_end (by assumption) (by decide +kernel) ?_;intro wz tz)
  | ((first
      | refine wpAnyD_ready (rs:=[4]) (by assumption) (by decide +kernel) (by simp) ?_
      | refine wpAnyD_ready (rs:=[5]) (by assumption) (by decide +kernel) (by simp) ?_
      | refine wpAnyD_ready (rs:=[6]) (by assumption) (by decide +kernel) (by simp) ?_)
     intro wz tz;have RR:=RR.touch tz id;have dw:=hD dw tz;try have g3:=g3.no tz
     try have g4:=g4.no tz
     try have c0':=RR.cell 0
     try have f0':=RR.soft 0
     try have c1':=RR.cell 1
     try have f1':=RR.soft 1
     try have c2':=RR.cell 2
     try have f2':=RR.soft 2)
  | exact AllReadyD.nil
  | (refine AllReadyD.cons rfl (fun K hK=>?_) ?_
     go_simp;first
     | (refine hK _ _ ?_
        clear hK K
        first
         | (show wpAnyD _ _ _ _ _ _ _ _ _ _ wz;skip)
         | (obtain⟨wy,hwy⟩:∃wy,wy=((wz.setCell ⟨X+1,0,none⟩ (.int .u32 ix)).setCell ⟨X+1,1,none⟩ (.slice sa' n c')).setCell ⟨X+1,2,none⟩ (.slice la' m d'):=⟨_,rfl⟩
            rw[← hwy];have ty:Touch (One (X+1)) wz wy:=by rw[hwy];exact((((Touch.refl (One (X+1)) wz).setCell (p:=⟨X+1,0,none⟩) (fun _=>rfl) _).setCell (p:=⟨X+1,1,none⟩) (fun _=>rfl) _).setCell (p:=⟨X+1,2,none⟩) (fun _=>rfl) _)
            have g3:=g3.one ty (fun ad e he=>by have:=NN.out ad (.inl e);omega);have g4:=g4.one ty (fun ad e he=>by have:=NN.out ad (.inr e);omega);have RR:Row wy (X+1) 58 [.int .u32 ix,.slice sa' n c',.slice la' m d']:=by rw[hwy];exact(((RR.setCell 0 _).setCell 1 _).setCell 2 _)
            have dw:=hDs dw ty;clear hwy ty))
     | (refine⟨trivial,(callsIn_wide.2 (C1.out _ (hDt _ dw))).mono ?_⟩;rintro e wy ⟨sa',c',la',d',rfl,ty,g1,g2,g3,g4,g5,g6⟩;have NN:Hid (∀ad,sa'=some ad∨la'=some ad→X+2≤ad.block):=(fun ad e=>by have h1:=HX.out.2;have h2:=hDz _ dw;rcases e with e|e;· {have:=g5 ad e;omega};· {have:=g6 ad e;omega});have dw:=hD dw ty;have RR:=RR.touch ty id;clear ty g5 g6;dsimp only
        refine hK _ _ ?_;clear hK K))
 all_goals
  have RRF:=RR.touch tz id;have HF:=Lib.hid (aI g1 (aI g2 (aI (g3.no tz) (aI (g4.no tz) (hDt _ (hD dw tz))))));have y0:wz.cell? ⟨X+1,0,none⟩=some (.int .u32 ix):=RRF.cell 0;have y1:wz.cell? ⟨X+1,1,none⟩=some (.slice sa' n c'):=RRF.cell 1;have y2:wz.cell? ⟨X+1,2,none⟩=some (.slice la' m d'):=RRF.cell 2;clear RR RRF g1 g2 g3 g4 dw;go_wp2;refine bodyPost_ret (v:=.agg #[.int .u32 ix,.slice sa' n c',.slice la' m d']) (by simp[results,Tryz.results24,go_sem,y0,y1,y2]) rfl ?_;have hx:=HX.out.1;exact⟨sa',c',la',d',rfl,HF.out.2.2.2.2,HF.out.1,HF.out.2.1,HF.out.2.2.1,HF.out.2.2.2.1,fun ad e=>by have:=NN.out ad (.inl e);omega,fun ad e=>by have:=NN.out ad (.inr e);omega⟩
theorem twinNode_in (w:World)(ia sa:Option Addr)(n c m d:Nat)(kd N P:Int)(s l:List Int)(hs:s.length=n)(hn:(n:Int)≤10000000)(hr:Rd w ia (ints .i64 s))(hl:l.length=m)(hm:(m:Int)≤10000000)(hr2:Rd w sa (ints .i64 l)) :
  Calls Tryz.prog 41 #[.agg #[.int .u8 kd,.slice ia n c,.slice sa m d,.int .i64 N,.int .i64 P]] w fun e w'=>∃sa' c' la' d',e = .returned (.agg #[.int .u8 kd,.slice sa' n c',.slice la' m d',.int .i64 N,.int .i64 P])∧Touch No w w'∧n<c'∧m<d'∧Rd w' sa' (ints .i64 s ++ [.int .i64 77])∧Rd w' la' (ints .i64 l ++ [.int .i64 77])∧NewA w sa'∧NewA w la':=by
 obtain⟨w1,hw1,t1,R1,R2,hs1⟩:=rows_2 w [.int .u8 kd,.slice ia n c,.slice sa m d,.int .i64 N,.int .i64 P] [.int .u8 0,.slice none 0 0,.slice none 0 0,.int .i64 0,.int .i64 0] 55 55;obtain⟨X,hX⟩:∃X,X=w.heap.size:=⟨_,rfl⟩;rw[← hX]at R1 R2 hs1;have C1:=Lib.hid (fun(wx:World) (t:Touch No w wx)=>twinInts_any wx ia n c s hs hn (hr.no t));have C2:=Lib.hid (fun(wx:World) (t:Touch No w wx)=>twinInts_any wx sa m d l hl hm (hr2.no t));have HT1:=Lib.hid t1;have HB:=Lib.hid R1;have HX:=Lib.hid (aI hX hs1);have RR:=R2;clear hs hl hr hr2 t1 R1 R2 hs1;go_enter Tryz.func41,Tryz.ntmps41;go_upto_region 1 with fail;rw[← hw1,← hX];clear hw1 hX;obtain⟨D,hDD⟩:∃D:World→Prop,D=fun wx=>Touch (One (X+1)) w1 wx:=⟨_,rfl⟩
 have hD:∀{w w':World},D w→Touch No w w'→D w':=fun {wx wy} d t=>by rw[hDD]at d ⊢;exact Touch.trans d t.no
 have hDs:∀{w w':World},D w→Touch (One (X+1)) w w'→D w':=fun {wx wy} d t=>by rw[hDD]at d ⊢;exact Touch.trans d t
 have hDt:∀wx,D wx→Touch No w wx:=fun wx d=>by rw[hDD]at d;exact HT1.out.then d (fun i hi e=>by have e':i=X+1:=e;have:=HX.out.1;omega)
 have hDz:∀wx,D wx→w1.heap.size≤wx.heap.size:=fun wx d=>by rw[hDD]at d;exact d.size
 have k0:∀wx,D wx→wx.cell? ⟨X,0,none⟩=some (.int .u8 kd):=fun wx d=>by rw[hDD]at d;exact(HB.out.touch d (fun e=>by have e':X=X+1:=e;omega)).cell 0
 have k1:∀wx,D wx→wx.cell? ⟨X,1,none⟩=some (.slice ia n c):=fun wx d=>by rw[hDD]at d;exact(HB.out.touch d (fun e=>by have e':X=X+1:=e;omega)).cell 1
 have k2:∀wx,D wx→wx.cell? ⟨X,2,none⟩=some (.slice sa m d):=fun wx d=>by rw[hDD]at d;exact(HB.out.touch d (fun e=>by have e':X=X+1:=e;omega)).cell 2
 have k3:∀wx,D wx→wx.cell? ⟨X,3,none⟩=some (.int .i64 N):=fun wx d=>by rw[hDD]at d;exact(HB.out.touch d (fun e=>by have e':X=X+1:=e;omega)).cell 3
 have k4:∀wx,D wx→wx.cell? ⟨X,4,none⟩=some (.int .i64 P):=fun wx d=>by rw[hDD]at d;exact(HB.out.touch d (fun e=>by have e':X=X+1:=e;omega)).cell 4
 have hD0:D w1:=by rw[hDD];exact Touch.refl _ _
 clear hDD;refine(wpIn_wide (n:=12)).1 ?_;refine wpIn_region_d D 14 #[false,false,false,false,false,false,false,false,false,false,false,false,false,false] (by kernel_rfl) rfl rfl fun wu tu=>?_
 have dw:D wu:=hD hD0 tu;have RR:=RR.touch tu id;clear tu hD0;refine wpAnyD_take hD (i:=0) rfl rfl rfl (by kernel_rfl) (by kernel_rfl) (by kernel_rfl) (by kernel_rfl) dw (fun _ _ _ _ h=>h) ?_;apply Exists.intro;refine⟨fun w1 d1=>?_,?_⟩
 ·skip
  first|gi_big_quiet_step (fail)|quiet_step_in (fail)
  refine wpQuietIn_nil ?_;rfl
 try dsimp only
 refine wpAnyD_take hD (i:=1) rfl rfl rfl (by kernel_rfl) (by kernel_rfl) (by kernel_rfl) (by kernel_rfl) dw (fun _ _ _ _ h=>h) ?_;apply Exists.intro;refine⟨fun w1 d1=>?_,?_⟩
 ·have k0:∀p:KW w1,p.wd.cell? _=_:=fun p=>k0 _ (hD d1 p.no)
  first|gi_big_quiet_step (fail)|quiet_step_in (fail)
  refine wpQuietIn_nil ?_;rfl
 try dsimp only
 refine wpAnyD_take hD (i:=2) rfl rfl rfl (by kernel_rfl) (by kernel_rfl) (by kernel_rfl) (by kernel_rfl) dw (fun _ _ _ _ h=>h) ?_;apply Exists.intro;refine⟨fun w1 d1=>?_,?_⟩
 ·skip
  first|gi_big_quiet_step (fail)|quiet_step_in (fail)
  refine wpQuietIn_nil ?_;rfl
 try dsimp only
 refine wpAnyD_take hD (i:=3) rfl rfl rfl (by kernel_rfl) (by kernel_rfl) (by kernel_rfl) (by kernel_rfl) dw (fun _ _ _ _ h=>h) ?_;apply Exists.intro;refine⟨fun w1 d1=>?_,?_⟩
 ·have k1:∀p:KW w1,p.wd.cell? _=_:=fun p=>k1 _ (hD d1 p.no)
  first|gi_big_quiet_step (fail)|quiet_step_in (fail)
  refine wpQuietIn_nil ?_;rfl
 try dsimp only
 refine wpAnyD_take hD (i:=5) rfl rfl rfl (by kernel_rfl) (by kernel_rfl) (by kernel_rfl) (by kernel_rfl) dw (fun _ _ _ _ h=>h) ?_;apply Exists.intro;refine⟨fun w1 d1=>?_,?_⟩
 ·skip
  first|gi_big_quiet_step (fail)|quiet_step_in (fail)
  refine wpQuietIn_nil ?_;rfl
 try dsimp only
 refine wpAnyD_take hD (i:=6) rfl rfl rfl (by kernel_rfl) (by kernel_rfl) (by kernel_rfl) (by kernel_rfl) dw (fun _ _ _ _ h=>h) ?_;apply Exists.intro;refine⟨fun w1 d1=>?_,?_⟩
 ·have k2:∀p:KW w1,p.wd.cell? _=_:=fun p=>k2 _ (hD d1 p.no)
  first|gi_big_quiet_step (fail)|quiet_step_in (fail)
  refine wpQuietIn_nil ?_;rfl
 try dsimp only
 refine wpAnyD_take hD (i:=8) rfl rfl rfl (by kernel_rfl) (by kernel_rfl) (by kernel_rfl) (by kernel_rfl) dw (fun _ _ _ _ h=>h) ?_;apply Exists.intro;refine⟨fun w1 d1=>?_,?_⟩
 ·skip
  first|gi_big_quiet_step (fail)|quiet_step_in (fail)
  refine wpQuietIn_nil ?_;rfl
 try dsimp only
 refine wpAnyD_take hD (i:=9) rfl rfl rfl (by kernel_rfl) (by kernel_rfl) (by kernel_rfl) (by kernel_rfl) dw (fun _ _ _ _ h=>h) ?_;apply Exists.intro;refine⟨fun w1 d1=>?_,?_⟩
 ·have k3:∀p:KW w1,p.wd.cell? _=_:=fun p=>k3 _ (hD d1 p.no)
  first|gi_big_quiet_step (fail)|quiet_step_in (fail)
  refine wpQuietIn_nil ?_;rfl
 try dsimp only
 refine wpAnyD_take hD (i:=10) rfl rfl rfl (by kernel_rfl) (by kernel_rfl) (by kernel_rfl) (by kernel_rfl) dw (fun _ _ _ _ h=>h) ?_;apply Exists.intro;refine⟨fun w1 d1=>?_,?_⟩
 ·skip
  first|gi_big_quiet_step (fail)|quiet_step_in (fail)
  refine wpQuietIn_nil ?_;rfl
 try dsimp only
 refine wpAnyD_take hD (i:=11) rfl rfl rfl (by kernel_rfl) (by kernel_rfl) (by kernel_rfl) (by kernel_rfl) dw (fun _ _ _ _ h=>h) ?_;apply Exists.intro;refine⟨fun w1 d1=>?_,?_⟩
 ·have k4:∀p:KW w1,p.wd.cell? _=_:=fun p=>k4 _ (hD d1 p.no)
  first|gi_big_quiet_step (fail)|quiet_step_in (fail)
  refine wpQuietIn_nil ?_;rfl
 try dsimp only
 clear k0 k1 k2 k3 k4
 repeat' first
  | (refine wpAnyD_end (by assumption) (by decide +kernel) ?_;intro wz tz)
  | ((first
      | refine wpAnyD_ready (rs:=[4]) (by assumption) (by decide +kernel) (by simp) ?_
      | refine wpAnyD_ready (rs:=[7]) (by assumption) (by decide +kernel) (by simp) ?_
      | refine wpAnyD_ready (rs:=[12]) (by assumption) (by decide +kernel) (by simp) ?_
      | refine wpAnyD_ready (rs:=[13]) (by assumption) (by decide +kernel) (by simp) ?_)
     intro wz tz;have RR:=RR.touch tz id;have dw:=hD dw tz;try have g3:=g3.no tz
     try have g4:=g4.no tz
     try have c0':=RR.cell 0
     try have f0':=RR.soft 0
     try have c1':=RR.cell 1
     try have f1':=RR.soft 1
     try have c2':=RR.cell 2
     try have f2':=RR.soft 2
     try have c3':=RR.cell 3
     try have f3':=RR.soft 3
     try have c4':=RR.cell 4
     try have f4':=RR.soft 4)
  | exact AllReadyD.nil
  | (refine AllReadyD.cons rfl (fun K hK=>?_) ?_
     go_simp;first
     | (refine hK _ _ ?_
        clear hK K
        first
         | (show wpAnyD _ _ _ _ _ _ _ _ _ _ wz;skip)
         | (obtain⟨wy,hwy⟩:∃wy,wy=((((wz.setCell ⟨X+1,0,none⟩ (.int .u8 kd)).setCell ⟨X+1,1,none⟩ (.slice sa' n c')).setCell ⟨X+1,2,none⟩ (.slice la' m d')).setCell ⟨X+1,3,none⟩ (.int .i64 N)).setCell ⟨X+1,4,none⟩ (.int .i64 P):=⟨_,rfl⟩
            rw[← hwy];have ty:Touch (One (X+1)) wz wy:=by rw[hwy];exact((((((Touch.refl (One (X+1)) wz).setCell (p:=⟨X+1,0,none⟩) (fun _=>rfl) _).setCell (p:=⟨X+1,1,none⟩) (fun _=>rfl) _).setCell (p:=⟨X+1,2,none⟩) (fun _=>rfl) _).setCell (p:=⟨X+1,3,none⟩) (fun _=>rfl) _).setCell (p:=⟨X+1,4,none⟩) (fun _=>rfl) _)
            have g3:=g3.one ty (fun ad e he=>by have:=NN.out ad (.inl e);omega);have g4:=g4.one ty (fun ad e he=>by have:=NN.out ad (.inr e);omega);have RR:Row wy (X+1) 55 [.int .u8 kd,.slice sa' n c',.slice la' m d',.int .i64 N,.int .i64 P]:=by rw[hwy];exact(((((RR.setCell 0 _).setCell 1 _).setCell 2 _).setCell 3 _).setCell 4 _)
            have dw:=hDs dw ty;clear hwy ty))
     | (first
         | (refine⟨trivial,(callsIn_wide.2 (C1.out _ (hDt _ dw))).mono ?_⟩;rintro e wy ⟨sa',c',rfl,g1,o3,ty⟩;have N1:Hid (∀ad,sa'=some ad→X+2≤ad.block):=(fun ad e=>by have h1:=HX.out.2;have h2:=hDz _ dw;have:=(o3.block (k:=ad.block) (by rw[e];rfl)).1;omega);have g3:=o3.rd;have dw:=hD dw ty;have RR:=RR.touch ty id;clear ty o3 C1;dsimp only)
         | (refine⟨trivial,(callsIn_wide.2 (C2.out _ (hDt _ dw))).mono ?_⟩;rintro e wy ⟨la',d',rfl,g2,o4,ty⟩;have NN:Hid (∀ad,sa'=some ad∨la'=some ad→X+2≤ad.block):=(fun ad e=>by rcases e with e|e;· {exact N1.out ad e};· {have h1:=HX.out.2;have h2:=hDz _ dw;have:=(o4.block (k:=ad.block) (by rw[e];rfl)).1;omega});have g4:=o4.rd;have g3:=g3.no ty;have dw:=hD dw ty;have RR:=RR.touch ty id;clear ty o4 C2;dsimp only)
        refine hK _ _ ?_;clear hK K))
 all_goals
  have RRF:=RR.touch tz id;have HF:=Lib.hid (aI g1 (aI g2 (aI (g3.no tz) (aI (g4.no tz) (hDt _ (hD dw tz))))));have y0:wz.cell? ⟨X+1,0,none⟩=some (.int .u8 kd):=RRF.cell 0;have y1:wz.cell? ⟨X+1,1,none⟩=some (.slice sa' n c'):=RRF.cell 1;have y2:wz.cell? ⟨X+1,2,none⟩=some (.slice la' m d'):=RRF.cell 2;have y3:wz.cell? ⟨X+1,3,none⟩=some (.int .i64 N):=RRF.cell 3;have y4:wz.cell? ⟨X+1,4,none⟩=some (.int .i64 P):=RRF.cell 4;clear RR RRF g1 g2 g3 g4 dw;go_wp2;refine bodyPost_ret (v:=.agg #[.int .u8 kd,.slice sa' n c',.slice la' m d',.int .i64 N,.int .i64 P]) (by simp[results,Tryz.results41,go_sem,y0,y1,y2,y3,y4]) rfl ?_;have hx:=HX.out.1;exact⟨sa',c',la',d',rfl,HF.out.2.2.2.2,HF.out.1,HF.out.2.1,HF.out.2.2.1,HF.out.2.2.2.1,fun ad e=>by have:=NN.out ad (.inl e);omega,fun ad e=>by have:=NN.out ad (.inr e);omega⟩
end
end Go.Proofs.YtjlphmmalebgpaaGreat
