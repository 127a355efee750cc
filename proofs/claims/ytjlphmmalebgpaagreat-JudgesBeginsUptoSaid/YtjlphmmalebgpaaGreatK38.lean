/-
  A part of the proof.
-/
import Derived.Test.YtjlphmmalebgpaaGreatK37
import Derived.Laws.EntriesVeiled
set_option linter.unusedSimpArgs false
set_option linter.unusedVariables false
set_option maxHeartbeats 4000000
set_option maxRecDepth 100000
namespace Go.Proofs.YtjlphmmalebgpaaGreat
section
open Go Go.RowKit
section
variable {F:Fence} {nf:Nat} {P:Program} {ops:Array Oper} {md:Region.Mode} {Q:Exit→Act→World→Prop} {w0:World}
abbrev KC (w1:World):World→Prop:=fun w'=>∃p:KW w1,w'=p.wd
theorem KC.refl (w:World):KC w w:=⟨⟨w,Touch.refl _ _⟩,rfl⟩
def YU (F:Fence)(nf:Nat)(P:Program)(ops:Array Oper)(w0:World)(o:Oper)(v:Value)(a:Act):Prop:=∀w1,Touch No w0 w1→YieldsQuiet F nf P ops (KC w1) o v a
def wpAnyU (F:Fence)(nf:Nat)(P:Program)(md:Region.Mode)(ops:Array Oper)(Q:Exit→Act→World→Prop)(w0:World):Nat→Array Bool→Act→World→Prop
 | 0,listed,a,w=>Touch No w0 w∧∀w',Touch No w w'→Region.ready md ops listed=[]∧Q .normal a w'
 | fuel+1,listed,a,w=>Touch No w0 w∧∀w',Touch No w w'→(Region.ready md ops listed=[]→Q .normal a w')∧
   ∀i∈Region.ready md ops listed,wpOpIn F nf P ops Q i (wpAnyU F nf P md ops Q w0 fuel (listed.setIfInBounds i true)) a w'
theorem wpAnyU.no:∀{fuel:Nat} {listed:Array Bool} {a:Act} {w w':World},wpAnyU F nf P md ops Q w0 fuel listed a w→Touch No w w'→wpAnyU F nf P md ops Q w0 fuel listed a w'
 | 0,_,_,_,_,h,t=>⟨h.1.trans t,fun w2 t2=>h.2 w2 (t.trans t2)⟩
 | _+1,_,_,_,_,h,t=>⟨h.1.trans t,fun w2 t2=>h.2 w2 (t.trans t2)⟩
theorem wpAnyIn_of_U:∀(fuel:Nat) (listed:Array Bool) (a:Act) (w:World),wpAnyU F nf P md ops Q w0 fuel listed a w→wpAnyIn F nf P md ops Q fuel listed a w
 | 0,_,_,w,h=>h.2 w (Touch.refl _ _)
 | f+1,_,_,w,h=>⟨(h.2 w (Touch.refl _ _)).1,fun i hi=>wpOpIn_mono (fun a' w'=>wpAnyIn_of_U f _ a' w') ((h.2 w (Touch.refl _ _)).2 i hi)⟩
theorem YU.step {i:Nat}{oi:Oper}{v:Value}{a:Act}{w:World}{K:Act→World→Prop}(hdf:NoDefer ops)(hi:ops[i]? = some oi)(hy:YU F nf P ops w0 oi v a)(hw:Touch No w0 w)(h:∀w',Touch No w w'→K (a.put oi.dst v) w') :
  wpOpIn F nf P ops Q i K a w:=by
 have hy':=hy w hw;unfold Go.wpOpIn;simp only[hi];obtain⟨ha,hy'⟩:=hy';rcases hy' with⟨hwt,hv⟩|⟨hwt,rfl⟩
 ·simp only[hwt,if_true]
  have h3:=hv w (KC.refl w);unfold Oper.quietAtIn at h3;unfold Oper.wpIn;refine⟨ha w (KC.refl w),?_⟩;rw[Oper.semAt_plain F _ _ (hdf i oi hi)]
  generalize (execOp a.eval oi).run P w=r at *
  cases r with
  | ok x w' =>
    cases x <;> simp only[Oper.quietUponIn]at h3 <;> simp only[Oper.uponIn]
    case value u=>obtain⟨e1,e2⟩:=h3;rw[e1,e2];exact h _ (Touch.refl _ _)
    case skip=>obtain⟨e1,e2⟩:=h3;rw[e1,← e2];exact h _ (Touch.refl _ _)
    case enter f args =>
     obtain⟨e1,hd,hc⟩:=h3;rw[e1];exact⟨hd,hc.mono fun e w'' ⟨he,p,hp⟩=>by subst he;subst hp;exact h _ p.no⟩
  | halt x w'=>simp only[Oper.quietUponIn]at h3
 ·simp only[hwt,Bool.false_eq_true,if_false]
  exact⟨ha w (KC.refl w),h _ (Touch.refl _ _)⟩
theorem wpOpInU_put {j:Nat}{oi oj:Oper}{v:Value}(hdf:NoDefer ops)(hj:ops[j]? = some oj)(hap:oi.apart ops oj=true)
  (hsi:∀cs b,oi.op≠.select cs b) (hsj:∀cs b,oj.op≠.select cs b)
  (hQ:∀c a w,Q (.panic c) (a.put oi.dst v) w→Q (.panic c) a w) {K:Act→World→Prop} {a:Act} {w:World}
  (hy:YU F nf P ops w0 oi v a) (h:wpOpIn F nf P ops Q j K (a.put oi.dst v) w) :
  wpOpIn F nf P ops Q j (fun a' w'=>YU F nf P ops w0 oi v a'∧K (a'.put oi.dst v) w') a w:=by
 obtain⟨h1,h2,h3⟩:=Oper.apart_spec hap
 have keep:∀(a:Act),YU F nf P ops w0 oi v a→∀u,YU F nf P ops w0 oi v (a.put oj.dst u):=fun a hy u w1 t1 =>
  (hy w1 t1).of_same (execOp_put oi hsi a oj.dst u h3) (wanted_put oi a oj.dst u h3) (fun w=>about_put oi w a oj.dst u h3)
 have keepD:∀d,YU F nf P ops w0 oi v {a with defers:=d::a.defers}:=fun d w1 t1=>(hy w1 t1).of_same rfl rfl (fun _=>rfl)
 have hnd:=hdf j oj hj;unfold wpOpIn at *;simp only[hj]at *;rw[wanted_put oj a oi.dst v h1,about_put oj w a oi.dst v h1]at h;split
 ·rename_i hw
  simp only[hw,if_true]at h;unfold Oper.wpIn at *;rw[about_put oj w a oi.dst v h1]at h;refine⟨h.1,?_⟩;have h:=h.2;rw[Oper.semAt_plain F _ _ hnd,execOp_put oj hsj a oi.dst v h1]at h;rw[Oper.semAt_plain F _ _ hnd]
  generalize (execOp a.eval oj).run P w=r at *
  cases r with
  | ok x w' =>
    cases x <;> simp only[Oper.uponIn]at h ⊢
    case value u=>exact⟨keep a hy u,by rw[← Act.put_comm a v u h2];exact h⟩
    case skip=>exact⟨keep a hy _,by rw[← Act.put_comm a v undef h2];exact h⟩
    case defer d =>
     refine⟨keep _ (keepD d) _,?_⟩;rw[← Act.put_comm _ v undef h2,← Act.put_defers];exact h
    case enter f args =>
     refine⟨h.1,CallsIn.mono h.2 fun e w'' he=>?_⟩;cases e with
     | returned u=>exact⟨keep a hy u,by rw[← Act.put_comm a v u h2];exact he⟩
     | panicked c=>exact hQ _ _ _ he
     | outgrown=>exact he
    case row row args=>exact⟨h.1,RowsIn.mono h.2 fun u w'' he=>⟨keep a hy u,by rw[← Act.put_comm a v u h2];exact he⟩⟩
    case round l f tmps assign body =>
     refine⟨h.1,RoundIn.mono h.2 fun e w'' he=>?_⟩;cases e with
     | returned u=>exact⟨keep a hy u,by rw[← Act.put_comm a v u h2];exact he⟩
     | panicked c=>exact hQ _ _ _ he
     | outgrown=>exact he
  | halt x w' =>
    cases x <;> simp only[Oper.uponIn]at h ⊢
    case panic u=>exact hQ _ _ _ h
 ·rename_i hw
  simp only[hw]at h;exact⟨h.1,keep a hy _,by rw[← Act.put_comm a v undef h2];exact h.2⟩
theorem wpAnyU_first {i:Nat}{oi:Oper}{v:Value}(hdf:NoDefer ops)(hi:ops[i]? = some oi)(hsel:∀(j:Nat) (o:Oper) cs b,ops[j]? = some o→o.op≠.select cs b)
  (hQ:∀c a w,Q (.panic c) (a.put oi.dst v) w→Q (.panic c) a w) :
  ∀(fuel:Nat) (listed:Array Bool) (a:Act) (w:World),
   (∀j oj,ops[j]? = some oj→j≠i→listed.getD j true=false→(∀e∈oj.after,Region.binds md e=true→e.on≠i)→oi.apart ops oj=true)→
   i∈Region.ready md ops listed→YU F nf P ops w0 oi v a→
   wpAnyU F nf P md ops Q w0 fuel (listed.setIfInBounds i true) (a.put oi.dst v) w→wpAnyU F nf P md ops Q w0 (fuel+1) listed a w:=by
 intro fuel
 induction fuel with
 | zero =>
   intro listed a w _ hr hy H;refine⟨H.1,fun w' t=>⟨fun h=>(by rw[h]at hr;cases hr),fun j hj=>?_⟩⟩
   by_cases hji:j=i
   ·subst hji;exact hy.step hdf hi (H.1.trans t) fun w2 t2=>H.no (t.trans t2)
   ·have:=ready_mono hj hji
    rw[(H.2 w' t).1]at this;cases this
 | succ fuel ih =>
   intro listed a w hfree hr hy H;refine⟨H.1,fun w' t=>⟨fun h=>(by rw[h]at hr;cases hr),fun j hj=>?_⟩⟩
   by_cases hji:j=i
   ·subst hji;exact hy.step hdf hi (H.1.trans t) fun w2 t2=>H.no (t.trans t2)
   ·have h1:=(H.2 w' t).2 j (ready_mono hj hji)
    obtain⟨hjun,oj,hoj,hall⟩:=mem_ready.1 hj
    have hnot:∀e∈oj.after,Region.binds md e=true→e.on≠i:=fun e he hb heq=>by
     have h1:=hall e he hb;have h0:=(mem_ready.1 hr).1;rw[heq]at h1;rcases Nat.lt_or_ge i listed.size with h'|h'
     ·simp[h']at h0 h1;rw[h0]at h1;cases h1
     ·simp[Array.getElem?_eq_none h']at h1
    have h2:=wpOpInU_put hdf hoj (hfree j oj hoj hji hjun hnot) (fun cs b=>hsel i oi cs b hi) (fun cs b=>hsel j oj cs b hoj) hQ hy h1
    have hfree':∀k ok,ops[k]? = some ok→k≠i→(listed.setIfInBounds j true).getD k true=false→
      (∀e∈ok.after,Region.binds md e=true→e.on≠i)→oi.apart ops ok=true:=fun k ok hk hki hun hno=>by
     refine hfree k ok hk hki ?_ hno
     by_cases hjk:j=k
     ·subst hjk;exact hjun
     ·rw[getD_set_ne true hjk]at hun;exact hun
    refine wpOpIn_mono (fun a' w' h3=>ih (listed.setIfInBounds j true) a' w' hfree' (ready_mono hr (Ne.symm hji)) h3.1 ?_) h2;rw[Array.setIfInBounds_comm _ _ hji];exact h3.2
theorem wpAnyU_take {i:Nat}{oi:Oper}{d:Tmp}{fuel:Nat}{listed:Array Bool}{a:Act}{w:World}(hi:ops[i]? = some oi)(hd:oi.dst=some d)(hds:Nat.blt d a.tmps.size=true)(hdf:noDeferB ops=true)
  (hs:Region.noSelect ops=true) (hf:Region.free md ops listed i=true) (hr:(Region.ready md ops listed).contains i=true) (h0:Touch No w0 w)
  (hQ:∀v c a w,Q (.panic c) (a.put oi.dst v) w→Q (.panic c) a w)
  (h:∃a1,(∀w1,Touch No w0 w1→wpQuietIn F nf P ops (KC w1) (fun a'=>a'=a1) [oi] a)∧wpAnyU F nf P md ops Q w0 fuel (listed.setIfInBounds i true) a1 w):wpAnyU F nf P md ops Q w0 (fuel+1) listed a w:=by
 obtain⟨a1,hq,H⟩:=h
 have one:∀w1,Touch No w0 w1→∃v,YieldsQuiet F nf P ops (KC w1) oi v a∧a.put oi.dst v=a1:=fun w1 t1=>by
  have h1:=hq w1 t1
  have h2:qOpIn F nf P ops (KC w1) i (fun a'=>a'=a1) a:=by
   unfold qOpIn;rw[hi];exact h1
  exact yieldsQuiet_of_qOpIn hi h2
 obtain⟨v,hv,hva⟩:=one w h0;have hsz:d<a.tmps.size:=by simpa using hds
 have hy:YU F nf P ops w0 oi v a:=fun w1 t1=>by
  obtain⟨v1,hv1,hva1⟩:=one w1 t1
  have e:v1=v:=by
   have h3:(a.put oi.dst v1).tmps[d]? = (a.put oi.dst v).tmps[d]?:=by rw[hva,hva1]
   rw[hd]at h3
   simpa[Act.put,hsz]using h3
  rw[← e];exact hv1
 refine wpAnyU_first (noDefer_of hdf) hi (Region.noSelect_spec hs) (hQ v) fuel listed a w (Region.free_spec hi hf) (by simpa using hr) hy ?_;rw[hva];exact H
def AllReadyU (F:Fence)(nf:Nat)(P:Program)(md:Region.Mode)(ops:Array Oper)(Q:Exit→Act→World→Prop)(w0:World)(fuel:Nat)(listed:Array Bool)(a:Act)(w:World)(rs:List Nat):Prop :=
 ∀i∈rs,wpOpIn F nf P ops Q i (wpAnyU F nf P md ops Q w0 fuel (listed.setIfInBounds i true)) a w
theorem AllReadyU.nil {fuel:Nat}{listed:Array Bool}{a:Act}{w:World}:AllReadyU F nf P md ops Q w0 fuel listed a w []:=fun _ h=>by cases h
theorem AllReadyU.cons {fuel:Nat}{listed:Array Bool}{a:Act}{w:World}{i:Nat}{o:Oper}{rs:List Nat}(ho:ops[i]? = some o)
  (h:∀K':Act→World→Prop,(∀a w,wpAnyU F nf P md ops Q w0 fuel (listed.setIfInBounds i true) a w→K' a w)→if Region.wanted o (yielded ops a.tmps)=true then Oper.wpIn F nf P o a w K' Q else (∀f,o.about P w a.eval=some f→F.fn f)∧K' (a.put o.dst undef) w)
  (hs:AllReadyU F nf P md ops Q w0 fuel listed a w rs):AllReadyU F nf P md ops Q w0 fuel listed a w (i::rs):=fun j hj=>by
 rcases List.mem_cons.1 hj with rfl|hj
 ·exact wpOpIn_step ho h
 ·exact hs j hj
theorem wpAnyU_ready {rs:List Nat}{fuel:Nat}{listed:Array Bool}{a:Act}{w:World}(h0:Touch No w0 w)(hr:Region.ready md ops listed=rs)(hne:rs≠[])
  (h:∀w',Touch No w w'→AllReadyU F nf P md ops Q w0 fuel listed a w' rs):wpAnyU F nf P md ops Q w0 (fuel+1) listed a w :=
 ⟨h0,fun w' t=>⟨fun e=>absurd (hr.symm.trans e) hne,fun i hi=>h w' t i (hr ▸ hi)⟩⟩
theorem wpAnyU_done {listed:Array Bool}{a:Act}{w:World}(h0:Touch No w0 w)(hr:Region.ready md ops listed=[])(h:∀w',Touch No w w'→Q .normal a w'):∀fuel,wpAnyU F nf P md ops Q w0 fuel listed a w
 | 0=>⟨h0,fun w' t=>⟨hr,h w' t⟩⟩
 | _+1=>⟨h0,fun w' t=>⟨fun _=>h w' t,by rw[hr];simp⟩⟩
def Calm (Q:Exit→Act→World→Prop):Exit→Act→World→Prop
 | .panic _,_,_=>False
 | e,a,w=>Q e a w
theorem wpAnyU_end {listed:Array Bool}{a:Act}{w:World}{fuel:Nat}(h0:Touch No w0 w)(hr:Region.ready md ops listed=[])(h:∀w',Touch No w w'→Q .normal a w'):wpAnyU F nf P md ops (Calm Q) w0 fuel listed a w :=
 wpAnyU_done (Q:=Calm Q) h0 hr (fun w' t=>(h w' t:Calm Q .normal a w')) fuel
theorem wpIn_region_u {id:Nat}{a:Act}{w:World}{l:List Oper}(n:Nat)(LN:Array Bool)(hm:P.follows .mixedOrders=true)(hn:l.length=n)(hL:Array.replicate n false=LN)
  (h:∀w1,Touch No w w1→wpAnyU F nf P .any l.toArray (Calm Q) w n LN a w1):(Code.region id l.toArray true).wpIn F nf P Q a w:=by
 subst hn hL;refine wpIn_mono (Q:=Calm Q) (wpIn_region_any hm (wpAnyIn_of_U _ _ _ _ (h _ ((Touch.refl No w).drew)))) ?_;intro e a' w' hq;cases e with
 | panic c=>exact hq.elim
 | normal=>exact hq
 | exit id=>exact hq
 | goto l=>exact hq
 | ret=>exact hq
 | outgrown=>exact hq
end
theorem Row.ne {w:World}{g g':Nat}{T T':TypeId}{l l':List Value}(h:Row w g T l)(h':Row w g' T' l')(hT:T≠T'):g≠g':=fun e=>by
 subst e;have h2:=Option.some.inj (h.symm.trans h');injection h2 with _ h3 _
 exact hT h3
end
section
open Go Go.RowKit Go.Shelf
def CellsAt (w:World)(k:Nat):Prop:=∃c t fr,w.heap[k]? = some (.cells c t fr)
theorem Row.cellsAt {w:World}{g:Nat}{T:TypeId}{l:List Value}(h:Row w g T l):CellsAt w g:=⟨_,_,_,h⟩
theorem cellsAt_of {w:World}{b o:Nat}{v:Value}(h:w.cell? ⟨b,o,none⟩=some v):CellsAt w b:=by
 simp only[World.cell?]at h;split at h
 ·rename_i c t fr e;exact⟨c,t,fr,e⟩
 ·cases h
theorem rowCells {w:World}{base e size n:Nat}{v:Value}{xs:List Value}(h:w.ownsRow base e size v n xs){k:Nat}(hk:InBlock v k):CellsAt w k:=by
 obtain⟨hl,h⟩:=h;rcases h with⟨rfl,_⟩|⟨g,cap,cur,rfl,hg,hh,r⟩
 ·cases hk
 ·have e:g=k:=by simpa[InBlock,Value.ownBlock]using hk
  subst e;exact⟨_,_,_,hh⟩
theorem Touch.keeps {F:Nat→Prop}{w w':World}(t:Touch F w w')(hF:∀k,F k→k<w.heap.size→CellsAt w k):KeepsOthers w w' :=
 ⟨t.size,fun k o hk ho=>by
  have hlt:k<w.heap.size:=(Array.getElem?_eq_some_iff.1 hk).1
  rw[t.block k hlt (fun f=>by
   obtain⟨c,T,fr,e⟩:=hF k f hlt;rw[hk]at e;cases e
   cases ho)]
  exact hk⟩
theorem touch_grown {w w':World}{row:Option Nat}(hg:w.grownBy w' row):Touch (fun k=>row=some k) w w' :=
 (Touch.refl _ w).grown hg (fun _ e _=>e)
theorem Own.off {w:World}{base:Nat}{T T':TypeId}{v:Value}{vs l:List Value}{g:Nat}(o:Own w base T v vs)(r:Row w g T' l)(hT:T'≠T):¬InBlock v g:=fun hk=>by
 obtain⟨hl,h⟩:=o;rcases h with⟨rfl,_⟩|⟨g',cap,cur,rfl,hg,hh,q⟩
 ·cases hk
 ·have e:g'=g:=by simpa[InBlock,Value.ownBlock]using hk
  subst e;have h2:=Option.some.inj (r.symm.trans hh);injection h2 with _ h3 _
  exact hT h3
abbrev RowT:=Nat × TypeId × List Value
structure KI (w:World) (Rs:List RowT) (G:Nat) (TG TE:TypeId) (base b o:Nat) (sh out:List Value) (W:World):Prop where
 t:Touch No w W
 rows:∀r∈Rs,Row W r.1 r.2.1 r.2.2
 acc:∃v,Row W G TG [v]∧Own W base TE v out
 shp:Rd W (some ⟨b,o,none⟩) sh
theorem Own.cells {F:Nat→Prop}{W W':World}{base:Nat}{T:TypeId}{v:Value}{vs:List Value}(h:Own W base T v vs)(t:Touch F W W')(hF:∀k,CellsAt W k→¬F k):Own W' base T v vs:=by
 obtain⟨hl,hh⟩:=h;refine⟨hl,?_⟩;rcases hh with hh|⟨g,cap,cur,hv,hg,hgt,q⟩
 ·exact Or.inl hh
 ·exact Or.inr ⟨g,cap,cur,hv,hg,by rw[t.block g (Array.getElem?_eq_some_iff.1 hgt).1 (hF g ⟨_,_,_,hgt⟩)];exact hgt,q⟩
theorem Own.away {F:Nat→Prop}{W W':World}{base:Nat}{T:TypeId}{v:Value}{vs:List Value}(h:Own W base T v vs)(t:Touch F W W')(hF:∀k,InBlock v k→¬F k):Own W' base T v vs:=by
 obtain⟨hl,hh⟩:=h;refine⟨hl,?_⟩;rcases hh with hh|⟨g,cap,cur,hv,hg,hgt,q⟩
 ·exact Or.inl hh
 ·exact Or.inr ⟨g,cap,cur,hv,hg,by rw[t.block g (Array.getElem?_eq_some_iff.1 hgt).1 (hF g (by rw[hv];rfl))];exact hgt,q⟩
theorem Rd.cells {F:Nat→Prop}{W W':World}{a:Option Addr}{vs:List Value}(h:Rd W a vs)(t:Touch F W W')(hF:∀k,CellsAt W k→¬F k):Rd W' a vs:=fun i v hi=>by
 obtain⟨b,o,e,hc⟩:=h i v hi;exact⟨b,o,e,t.cell (hF _ (cellsAt_of hc)) hc⟩
section
variable {w W W':World} {Rs:List RowT} {G:Nat} {TG TE:TypeId} {base b o:Nat} {sh out:List Value}
theorem KI.touch {F:Nat→Prop}(h:KI w Rs G TG TE base b o sh out W)(t:Touch F W W')(hF:∀k,CellsAt W k→¬F k)(hw:∀k,k<w.heap.size→¬F k):KI w Rs G TG TE base b o sh out W':=by
 obtain⟨ht,hr,⟨v,h1,h2⟩,hs⟩:=h;exact⟨ht.then t (fun i hi f=>absurd f (hw i hi)),fun r hm=>(hr r hm).touch t (hF _ (hr r hm).cellsAt),⟨v,h1.touch t (hF _ h1.cellsAt),h2.cells t hF⟩,hs.cells t hF⟩
theorem KI.no (h:KI w Rs G TG TE base b o sh out W)(t:Touch No W W'):KI w Rs G TG TE base b o sh out W':=h.touch t (fun _ _ f=>f) (fun _ _ f=>f)
theorem KI.own {B:Nat}{α:Type}(f:α→List Value)(hB:w.heap.size≤B):OwnFrom B (fun(s:α) W=>KI w Rs G TG TE base b o sh (f s) W):=fun s A Z row hs hg hr=>by
 refine hs.touch (touch_grown hg) (fun k ⟨cc,tt,fr,e⟩ e2=>?_) (fun k hk e2=>?_)
 ·obtain⟨_,o,h1,h2⟩:=hr k e2
  rw[e]at h1;cases h1;cases h2
 ·have:=(hr k e2).1
  omega
theorem KI.step {us:List Value}{v v':Value}{W2:World}(h:KI w Rs G TG TE base b o sh out W)(hRs:∀r∈Rs,r.2.1≠TG∧r.2.1≠TE)(hTT:TG≠TE)(hG:w.heap.size≤G)(hbase:w.heap.size≤base)(hb:b<base)(hbG:b≠G)
  (hv:Row W G TG [v]) (hO:Own W base TE v out) (t2:Touch (InBlock v) W W2) (hO2:Own W2 base TE v' (out++us)) :
  KI w Rs G TG TE base b o sh (out++us) (W2.setCell ⟨G,0,none⟩ v')∧KeepsOthers W (W2.setCell ⟨G,0,none⟩ v')∧(∀r∈Rs,∀B,r.1=B→(W2.setCell ⟨G,0,none⟩ v').heap[B]? = W.heap[B]?)∧(b<W.heap.size→(W2.setCell ⟨G,0,none⟩ v').heap[b]? = W.heap[b]?):=by
 obtain⟨W3,hW3⟩:∃W3,W3=W2.setCell ⟨G,0,none⟩ v':=⟨_,rfl⟩;have t3:Touch (One G) W2 W3:=by rw[hW3];exact(Touch.refl (One G) W2).setCell (p:=⟨G,0,none⟩) (fun _=>rfl) _
 have hnb:¬InBlock v G:=hO.off hv hTT;have hv2:=hv.touch t2 hnb;have nb2:∀k,k<base→¬InBlock v k:=fun k hk hi=>by have:=(hO.block hi).1;omega
 have hv3:Row W3 G TG [v']:=by rw[hW3];exact hv2.setCell 0 v'
 have hO3:Own W3 base TE v' (out++us):=hO2.away t3 (fun k h1 h3=>hO2.off hv2 hTT (by have e:k=G:=h3;rw[← e];exact h1));have r2:∀r∈Rs,¬InBlock v r.1∧¬One G r.1:=fun r hm=>⟨hO.off (h.rows r hm) (hRs r hm).2,fun e=>(h.rows r hm).ne hv (hRs r hm).1 e⟩
 rw[← hW3];refine⟨⟨(h.t.then t2 (fun i hi hI=>absurd hI (nb2 i (by omega)))).then t3 (fun i hi e=>by have e':i=G:=e;omega),fun r hm=>((h.rows r hm).touch t2 (r2 r hm).1).touch t3 (r2 r hm).2,⟨v',hv3,hO3⟩,?_⟩,?_,fun r hm B e=>?_,fun hlt=>?_⟩
 ·refine(h.shp.touch t2 (fun b' o' e _ hI=>?_)).touch t3 (fun b' o' e _ hI=>?_)
  ·cases e;exact nb2 _ hb hI
  ·cases e;exact hbG hI
 ·refine(t2.keeps fun k hk _=>rowCells hO hk).trans (t3.keeps fun k hk _=>?_)
  have e:k=G:=hk;rw[e];exact hv2.cellsAt
 ·subst e
  rw[t3.block _ ((h.rows r hm).touch t2 (r2 r hm).1).lt (r2 r hm).2,t2.block _ (h.rows r hm).lt (r2 r hm).1]
 ·rw[t3.block _ (Nat.lt_of_lt_of_le hlt t2.size) (fun e=>hbG e),t2.block _ hlt (nb2 _ hb)]
end
end
section
open Go Go.RowKit Go.Shelf
attribute [local go_sem] Oper.semAt_some
structure TA where
 sa:Option Addr
 n:Nat
 c:Nat
 la:Option Addr
 m:Nat
 d:Nat
def TA.v (t:TA):Value:=.agg #[.slice t.sa t.n t.c,.slice t.la t.m t.d]
def TA.r (t:TA)(i:Int):Value:=.agg #[.int .u32 i,.slice t.sa t.n t.c,.slice t.la t.m t.d]
def RcIn (w:World)(a:Option Addr)(Rc:List (Int × Me.Raw)):Prop :=
 ∀j,j<Rc.length→∃b o sa n c la m d,a=some ⟨b,o,none⟩∧w.cell? ⟨b,o+j*3,none⟩=some (.int .u32 (Rc.getD j (0,[],[])).1)∧w.cell? ⟨b,o+j*3+1,none⟩=some (.slice sa n c)∧w.cell? ⟨b,o+j*3+2,none⟩=some (.slice la m d)∧RIn w sa n c la m d (Rc.getD j (0,[],[])).2
theorem RcIn.no {w w':World}{a:Option Addr}{Rc:List (Int × Me.Raw)}(h:RcIn w a Rc)(t:Touch No w w'):RcIn w' a Rc:=fun j hj=>by
 obtain⟨b,o,sa,n,c,la,m,d,e,h0,h1,h2,h3⟩:=h j hj;exact⟨b,o,sa,n,c,la,m,d,e,t.cell id h0,t.cell id h1,t.cell id h2,h3.no t⟩
theorem RcIn.pick {w:World}{a:Option Addr}{Rc:List (Int × Me.Raw)}(h:RcIn w a Rc):∃T:Nat→TA,∀j,j<Rc.length→∃b o,a=some ⟨b,o,none⟩∧w.cell? ⟨b,o+j*3,none⟩=some (.int .u32 (Rc.getD j (0,[],[])).1)∧w.cell? ⟨b,o+j*3+1,none⟩=some (.slice (T j).sa (T j).n (T j).c)∧w.cell? ⟨b,o+j*3+2,none⟩=some (.slice (T j).la (T j).m (T j).d)∧RIn w (T j).sa (T j).n (T j).c (T j).la (T j).m (T j).d (Rc.getD j (0,[],[])).2:=by
 have:=Classical.axiomOfChoice (r:=fun(j:Nat) (T:TA)=>j<Rc.length→∃b o,a=some ⟨b,o,none⟩∧w.cell? ⟨b,o+j*3,none⟩=some (.int .u32 (Rc.getD j (0,[],[])).1)∧w.cell? ⟨b,o+j*3+1,none⟩=some (.slice T.sa T.n T.c)∧w.cell? ⟨b,o+j*3+2,none⟩=some (.slice T.la T.m T.d)∧RIn w T.sa T.n T.c T.la T.m T.d (Rc.getD j (0,[],[])).2) (fun j=>by
  by_cases hj:j<Rc.length
  ·obtain⟨b,o,sa,n,c,la,m,d,e,h0,h1,h2,h3⟩:=h j hj
   exact⟨⟨sa,n,c,la,m,d⟩,fun _=>⟨b,o,e,h0,h1,h2,h3⟩⟩
  ·exact⟨⟨none,0,0,none,0,0⟩,fun hh=>absurd hh hj⟩)
 exact this
theorem WsIn.pick {w:World}{a:Option Addr}{Ws:List Me.Raw}(h:WsIn w a Ws):∃T:Nat→TA,∀j,j<Ws.length→∃b o,a=some ⟨b,o,none⟩∧w.cell? ⟨b,o+j*2,none⟩=some (.slice (T j).sa (T j).n (T j).c)∧w.cell? ⟨b,o+j*2+1,none⟩=some (.slice (T j).la (T j).m (T j).d)∧RIn w (T j).sa (T j).n (T j).c (T j).la (T j).m (T j).d (Me.rawAt Ws j):=by
 have:=Classical.axiomOfChoice (r:=fun(j:Nat) (T:TA)=>j<Ws.length→∃b o,a=some ⟨b,o,none⟩∧w.cell? ⟨b,o+j*2,none⟩=some (.slice T.sa T.n T.c)∧w.cell? ⟨b,o+j*2+1,none⟩=some (.slice T.la T.m T.d)∧RIn w T.sa T.n T.c T.la T.m T.d (Me.rawAt Ws j)) (fun j=>by
  by_cases hj:j<Ws.length
  ·obtain⟨b,o,sa,n,c,la,m,d,e,h1,h2,h3⟩:=h j hj
   exact⟨⟨sa,n,c,la,m,d⟩,fun _=>⟨b,o,e,h1,h2,h3⟩⟩
  ·exact⟨⟨none,0,0,none,0,0⟩,fun hh=>absurd hh hj⟩)
 exact this
theorem both_any (w:World)(a b:Option Addr)(n c n' c':Nat) :
  Calls Tryz.prog 25 #[.slice a n c,.slice b n' c'] w fun e w'=>e = .returned (.func (.func 44) #[] #[.pointer (some ⟨w.heap.size,0,none⟩),.pointer (some ⟨w.heap.size+1,0,none⟩)])∧w'=(w.alloc (.cells #[.slice a n c] 29)).alloc (.cells #[.slice b n' c'] 25):=by
 have hmf:∀(fn:Fn) (first cap:Array Value) (w:World),(Instr.makeFunc fn first cap).run Tryz.prog w = .ok (.func fn first cap) w:=fun _ _ _ _=>rfl
 go_enter Tryz.func25,Tryz.ntmps25;go_wp2;go_ret;exact⟨rfl,rfl⟩
def KeepZ (Z A B:Nat)(W W':World):Prop:=(∀k,k<Z→W'.heap[k]? = W.heap[k]?)∧W'.heap[A]? = W.heap[A]?∧W'.heap[B]? = W.heap[B]?
theorem keepZ_t {Z A B:Nat}{U V W:World}(h:KeepZ Z A B U V)(k:KeepZ Z A B V W):KeepZ Z A B U W:=⟨fun i hi=>(k.1 i hi).trans (h.1 i hi),k.2.1.trans h.2.1,k.2.2.trans h.2.2⟩
theorem KeepZ.refl {Z A B:Nat}(W:World):KeepZ Z A B W W:=⟨fun _ _=>rfl,rfl,rfl⟩
theorem keepZ_b {Z A B Y:Nat}(hZ:Z≤Y)(hA:A<Y)(hB:B<Y)(W:World)(l:Nat)(o o':Obj)(hl:Y≤l)(_:W.heap[l]? = some o)(_:o.isCells=false)(_:o.isWalk=false):KeepZ Z A B W (W.putObj l o') :=
 ⟨fun k hk=>World.putObj_heap_other (by omega),World.putObj_heap_other (by omega),World.putObj_heap_other (by omega)⟩
theorem KeepZ.cellZ {Z A B:Nat}{W W':World}(h:KeepZ Z A B W W'){b:Nat}(hb:b<Z)(o:Nat):W'.cell? ⟨b,o,none⟩=W.cell? ⟨b,o,none⟩:=World.cell?_of_block (a:=⟨b,o,none⟩) (h.1 b hb)
theorem KeepZ.cellA {Z A B:Nat}{W W':World}(h:KeepZ Z A B W W')(o:Nat):W'.cell? ⟨A,o,none⟩=W.cell? ⟨A,o,none⟩:=World.cell?_of_block (a:=⟨A,o,none⟩) h.2.1
theorem KeepZ.cellB {Z A B:Nat}{W W':World}(h:KeepZ Z A B W W')(o:Nat):W'.cell? ⟨B,o,none⟩=W.cell? ⟨B,o,none⟩:=World.cell?_of_block (a:=⟨B,o,none⟩) h.2.2
theorem KeepZ.no {Z A B:Nat}{W W':World}(t:Touch No W W')(hZ:Z≤W.heap.size)(hA:A<W.heap.size)(hB:B<W.heap.size):KeepZ Z A B W W' :=
 ⟨fun k hk=>t.block k (by omega) id,t.block A hA id,t.block B hB id⟩
theorem KeepZ.le {Z A B:Nat}{W W':World}(h:KeepZ Z A B W W')(hZ:Z≤W.heap.size):Z≤W'.heap.size:=by
 cases Z with
 | zero=>exact Nat.zero_le _
 | succ z =>
   have h1:=h.1 z (by omega);have h2:z<W.heap.size:=by omega
   rw[Array.getElem?_eq_getElem h2]at h1;have:=(Array.getElem?_eq_some_iff.1 h1).1;omega
theorem both1_in (n:Nat)(hn:1≤n)(l A B Z:Nat)(a b:Option Addr)(N N' ca cb:Nat)(Rc:List (Int × Me.Raw))(T T':Nat→TA)(hN:N≤N')(hN6:N'≤2000000)(J Jx:List (Fin N)→World→Prop)
  (hY:∀pre (x:Fin N) W,J pre W→pre.length<N→YieldAt Fence.wide (n-1) Tryz.prog l #[(T x.val).r (Rc.getD x.val (0,[],[])).1,(T' x.val).v] W fun e W' =>
   (e = .returned (.bool true)∧J (pre ++ [x]) W'∧KeepZ Z A B W W')∨(e = .returned (.bool false)∧Jx (pre ++ [x]) W'))
  (hdr:∀pre W W',J pre W→(∃p:KW W,W'=p.wd)→J pre W')
  (W:World) (hZ:Z≤W.heap.size) (hkA:W.cell? ⟨A,0,none⟩=some (.slice a N ca)) (hkB:W.cell? ⟨B,0,none⟩=some (.slice b N' cb))
  (hA:∀j,j<N→∃b o,a=some ⟨b,o,none⟩∧b<Z∧W.cell? ⟨b,o+j*3,none⟩=some (.int .u32 (Rc.getD j (0,[],[])).1)∧W.cell? ⟨b,o+j*3+1,none⟩=some (.slice (T j).sa (T j).n (T j).c)∧W.cell? ⟨b,o+j*3+2,none⟩=some (.slice (T j).la (T j).m (T j).d))
  (hB:∀j,j<N→∃b' o,b=some ⟨b',o,none⟩∧b'<Z∧W.cell? ⟨b',o+j*2,none⟩=some (.slice (T' j).sa (T' j).n (T' j).c)∧W.cell? ⟨b',o+j*2+1,none⟩=some (.slice (T' j).la (T' j).m (T' j).d))
  (h0:J [] W) :
  CallsIn Fence.wide n Tryz.prog 44 #[.func (.yield l) #[] #[],.pointer (some ⟨A,0,none⟩),.pointer (some ⟨B,0,none⟩)] W fun e W'=>(∃v,e = .returned v)∧
   ((∃ys,ys=firstN N N∧J ys W')∨(∃pre,(∃k,k<N∧pre=firstN N (k+1))∧Jx pre W')):=by
 have HA:=Lib.hid hA;have HB:=Lib.hid hB;have HkB:=Lib.hid hkB;have HkA:=Lib.hid hkA;have HJd:=Lib.hid hdr;have hY':=Lib.hid hY;have HZ:=Lib.hid hZ;clear hA hB hkB hdr hY hZ;refine callsIn_of_wp Tryz.func44 rfl trivial ?_ rfl;simp only[Tryz.ntmps44,List.size_toArray,List.length_cons,List.length_nil,Nat.reduceAdd,Nat.reduceSub,Array.replicate_succ,Array.replicate_zero,List.push_toArray,List.append_toArray,List.nil_append,List.cons_append];gi_wp2;clear hkA
 gi_loopw [8] (fun i wr=>∃k:Nat,k≤N∧i = .int .i64 ((k:Nat):Int)∧J (firstN _ k) wr∧Hid (KeepZ Z A B W wr)∧Hid (Z≤wr.heap.size))
  (fun i _=>N-(intOf i).toNat)
 case atStart=>exact⟨0,Nat.zero_le _,rfl,h0,KeepZ.refl _,HZ.out⟩
 case round =>
  obtain⟨k,hkN,rfl,hJ,hB,hZr⟩:=hrel;have HJ:=Lib.hid hJ;clear hJ
  by_cases hlt:k<N
  ·have hlt':(k:Int)<(N:Nat):=by omega
   have hltN:(k:Int)<(N':Nat):=by omega
   have hk0:(0:Int)≤(k:Nat):=by omega
   obtain⟨ba,oa,rfl,hba,a0,a1,a2⟩:=HA.out k hlt;obtain⟨bb,ob,rfl,hbb,b0,b1⟩:=HB.out k hlt;obtain⟨ix,hix⟩:∃z,(Rc.getD k (0,[],[])).1=z:=⟨_,rfl⟩;obtain⟨Tk,hTk⟩:∃z,T k=z:=⟨_,rfl⟩;obtain⟨Tk',hTk'⟩:∃z,T' k=z:=⟨_,rfl⟩;rw[hix]at a0;rw[hTk]at a1 a2;rw[hTk']at b0 b1;have HV:Hid (#[(T k).r (Rc.getD k (0,[],[])).1,(T' k).v]=#[.agg #[.int .u32 ix,.slice Tk.sa Tk.n Tk.c,.slice Tk.la Tk.m Tk.d],.agg #[.slice Tk'.sa Tk'.n Tk'.c,.slice Tk'.la Tk'.m Tk'.d]]):=by show _=_;rw[hix,hTk,hTk'];rfl
   clear hix hTk hTk';obtain⟨sa,n1,c1,la,m1,d1⟩:=Tk;obtain⟨sa',n1',c1',la',m1',d1'⟩:=Tk';dsimp only at HV a1 a2 b0 b1;have y0:=(hB.out.cellZ hba (oa+k*3)).trans a0;have y1:=(hB.out.cellZ hba (oa+k*3+1)).trans a1;have y2:=(hB.out.cellZ hba (oa+k*3+2)).trans a2;clear a0 a1 a2;gi_upto_region 2 with fail;refine wpIn_wide.2 ?_;go_wp2_with fail;obtain⟨wA,hwA,tA,RA⟩:=box_row wr [.int .u32 ix,.slice sa n1 c1,.slice la m1 d1] 58;rw[← hwA];obtain⟨G,hG⟩:∃G,G=wr.heap.size:=⟨_,rfl⟩;rw[← hG]at RA ⊢;have q0:=KW.cell (v:=.int .u32 ix) (RA.cell 0);have q1:=KW.cell (v:=.slice sa n1 c1) (RA.cell 1);have q2:=KW.cell (v:=.slice la m1 d1) (RA.cell 2);have cB:=(hB.out.cellB 0).trans HkB.out;have cA:=(hB.out.cellA 0).trans HkA.out;have q3:=KW.cell (tA.cell id cB);have q4:=KW.cell (tA.cell id ((hB.out.cellZ hbb (ob+k*2)).trans b0));have q5:=KW.cell (tA.cell id ((hB.out.cellZ hbb (ob+k*2+1)).trans b1));have HtA:=Lib.hid tA;have hAl:=lt_of_cell cA;have hBl:=lt_of_cell cB;have HKZ:Hid (∀wx,Touch No wr wx→KeepZ Z A B W wx∧Z≤wx.heap.size):=fun wx t=>⟨keepZ_t hB.out (KeepZ.no t hZr.out hAl hBl),Nat.le_trans hZr.out t.size⟩
   clear y0 y1 y2 b0 b1 cA cB tA RA hwA hG hAl hBl;gi_upto_region 3 with fail;refine wpIn_region_kept_tail 6 (by kernel_rfl) (by kernel_rfl) (by kernel_rfl) ?_;simp only[List.take_succ_cons,List.take_zero,List.drop_succ_cons,List.drop_zero];repeat (first|gi_big_quiet_step (fail)|quiet_step_in (fail))
   refine wpQuietIn_nil ?_;intro _ hw';obtain⟨kw,hw''⟩:=hw';subst hw'';obtain⟨wk,tk⟩:=kw;have tk:=Lib.hid tk;dsimp only;have HJk:=Lib.hid (HJd.out _ _ _ HJ.out ⟨⟨wk,HtA.out.trans tk.out⟩,rfl⟩);obtain⟨fn,tmps,assign,body,hy,hR⟩:=hY'.out (firstN N k) ⟨k,hlt⟩ wk HJk.out (by rw[firstN_length hkN];exact hlt);rw[HV.out]at hy;have hkb:=Lib.hid (HKZ.out wk (HtA.out.trans tk.out));clear q0 q1 q2 q3 q4 q5;gi_wp2;refine hR.mono ?_;rintro e W3 (⟨rfl,hJ3,hk3⟩|⟨rfl,hJx3⟩)
   ·have hB3:Hid (KeepZ Z A B W W3):=keepZ_t hkb.out.1 hk3
    have HJ3:=Lib.hid hJ3;have hZ3:Hid (Z≤W3.heap.size):=hk3.le hkb.out.2;clear hk3 hJ3 hy hR;gi_wp2
    go_roundw
    case rel=>exact⟨k+1,by omega,by go_num,by rw[firstN_next hlt];exact HJ3.out,hB3,hZ3⟩
    case measure=>simp[intOf];omega
   ·gi_wp2
    refine bodyPost_ret (results_none rfl _ _ _) rfl ?_;exact⟨⟨_,rfl⟩,.inr ⟨_,⟨k,hlt,(firstN_next hlt).symm⟩,hJx3⟩⟩
  ·obtain rfl:k=N:=by omega
   gi_wp2
   go_end0
   exact⟨⟨_,rfl⟩,.inl ⟨_,rfl,HJ.out⟩⟩
theorem both_stops (n:Nat)(hn:1≤n)(A B Z:Nat)(a b:Option Addr)(N N' ca cb:Nat)(Rc:List (Int × Me.Raw))(T T':Nat→TA)(hN:N≤N')(hN6:N'≤2000000)(w:World)(hZ:Z≤w.heap.size)
  (hkA:w.cell? ⟨A,0,none⟩=some (.slice a N ca)) (hkB:w.cell? ⟨B,0,none⟩=some (.slice b N' cb))
  (hA:∀j,j<N→∃b o,a=some ⟨b,o,none⟩∧b<Z∧w.cell? ⟨b,o+j*3,none⟩=some (.int .u32 (Rc.getD j (0,[],[])).1)∧w.cell? ⟨b,o+j*3+1,none⟩=some (.slice (T j).sa (T j).n (T j).c)∧w.cell? ⟨b,o+j*3+2,none⟩=some (.slice (T j).la (T j).m (T j).d))
  (hB:∀j,j<N→∃b' o,b=some ⟨b',o,none⟩∧b'<Z∧w.cell? ⟨b',o+j*2,none⟩=some (.slice (T' j).sa (T' j).n (T' j).c)∧w.cell? ⟨b',o+j*2+1,none⟩=some (.slice (T' j).la (T' j).m (T' j).d)) :
  SeqStopsK Fence.wide n Tryz.prog 44 #[.pointer (some ⟨A,0,none⟩),.pointer (some ⟨B,0,none⟩)] (fun x:Fin N=>#[(T x.val).r (Rc.getD x.val (0,[],[])).1,(T' x.val).v]) (KeepZ Z A B) (fun ys=>ys=firstN N N) (fun pre=>∃k,k<N∧pre=firstN N (k+1)) N w:=fun l J Jx W hW hJ hJx hY h0 =>
 both1_in n hn l A B Z a b N N' ca cb Rc T T' hN hN6 J Jx hY (fun pre W1 W2 h1 ⟨p,e⟩=>by
  subst e;exact hJ pre W1 p.wd none h1 ⟨p.no.os,p.no.tape,p.no.output,p.no.size,fun k hk _=>p.no.block k hk id⟩ (fun r e=>by cases e)) W (Nat.le_trans hZ hW.size) ((hW.cell (p:=⟨A,0,none⟩) (lt_of_cell hkA)).trans hkA) ((hW.cell (p:=⟨B,0,none⟩) (lt_of_cell hkB)).trans hkB)
  (fun j hj=>by
   obtain⟨b',o,e,h1,h2,h3,h4⟩:=hA j hj;exact⟨b',o,e,h1,(hW.cell (p:=⟨b',o+j*3,none⟩) (lt_of_cell h2)).trans h2,(hW.cell (p:=⟨b',o+j*3+1,none⟩) (lt_of_cell h3)).trans h3,(hW.cell (p:=⟨b',o+j*3+2,none⟩) (lt_of_cell h4)).trans h4⟩)
  (fun j hj=>by
   obtain⟨b',o,e,h1,h2,h3⟩:=hB j hj;exact⟨b',o,e,h1,(hW.cell (p:=⟨b',o+j*2,none⟩) (lt_of_cell h2)).trans h2,(hW.cell (p:=⟨b',o+j*2+1,none⟩) (lt_of_cell h3)).trans h3⟩) h0
end
end Go.Proofs.YtjlphmmalebgpaaGreat
