/-
  A part of the proof.
-/
import Derived.Test.YtjlphmmalebgpaaGreatRows
import Derived.Deep.DeepHandedRow
import Derived.WalkSpells
import Derived.WalkLawsBesides
import Derived.BigQuiet
import Derived.Lib.Hide
import Derived.Lib.SmallJoins
set_option linter.unusedSimpArgs false
set_option maxHeartbeats 4000000
set_option maxRecDepth 100000
namespace Go.Proofs.YtjlphmmalebgpaaGreat
theorem Lz0 {α : Type _} {a : α} {l : List α} : (a :: l)[0]? = some a := List.getElem?_cons_zero
theorem Ls0 {α : Type _} {a : α} {l : List α} {i : Nat} : (a :: l)[i + 1]? = l[i]? := List.getElem?_cons_succ
theorem Lgd {α : Type _} {l : List α} {i : Nat} {a : α} : l.getD i a = l[i]?.getD a := List.getD_eq_getElem?_getD
theorem Lge {α : Type _} {l : List α} {i : Nat} (h : i < l.length) : l[i]? = some l[i] := List.getElem?_eq_getElem h
theorem Lgn {α : Type _} {l : List α} {i : Nat} (h : l.length ≤ i) : l[i]? = none := List.getElem?_eq_none h
theorem aI {a b : Prop} (x : a) (y : b) : a ∧ b := ⟨x, y⟩
section
open Go.ChangeShapes Go.WideShapes Go.ChangeAt Go.RowKit
section
variable {H:Type} {enc:TypeId × Value→H} {P:Program}
theorem trodAll_below (hl:laidOutB P=true){W W':World}(hb:Below W.heap.size W W'):∀(ts:List TypeId) (vs:List Value) (ds:List (DataW H)) (ps:List MemPlace),
  (∀t∈ts,P.readableRec t=true∧t<P.types.size)→DataW.TrodAll enc P W 0 (fun _=>true) true ts vs ds ps→(∀x∈ps,x.block<W.heap.size)→
  DataW.TrodAll enc P W' 0 (fun b=>decide (b<W.heap.size)) true ts vs ds ps
 | [],vs,ds,ps,_,h,_=>by
   obtain⟨rfl,rfl,rfl⟩:=trodAll_nil h;exact trodAll_mk0
 | t::ts,vs,ds,ps,ht,h,hlt=>by
   obtain⟨v0,vs0,d0,ds0,p0,q0,rfl,rfl,rfl,h0,r0⟩:=trodAll_cons h
   exact trodAll_cons_mk (Below.trod hl (ht t (by simp)).1 (ht t (by simp)).2 h0 hb fun x hx=>hlt x (by simp[hx]))
    (trodAll_below hl hb ts vs0 ds0 q0 (fun t h=>ht t (by simp[h])) r0 fun x hx=>hlt x (by simp[hx]))
theorem law_post {f:Func}{s:ChangeSpec}{tb:TypeId}(hl:laidOutB P=true)(hr:f.params.toList.all (fun t=>P.readableRec t&&decide (t<P.types.size))=true)(hv:s.vars=[])
  (hres:f.resultTypes=#[tb]) (htb:P.underlying tb=some .bool) {W W':World} {args:Array Value} {ds gs:List (DataW H)} {before:List MemPlace}
  (hW:DataW.Whole enc P f.params.toList s.vars false W args.toList ds gs before) (hfn:s.fn H ds = {results:=[.lit (.bool true)],args:=ds}) (hb:Below W.heap.size W W') :
  s.post enc P f false true false false W args (.bool true) W':=by
 have hlt:=hW.lt;have hW0:=hW;obtain⟨p,q,hA,hV,rfl,_,_⟩:=hW0;rw[hv]at hV;obtain⟨rfl,rfl⟩:=trodVars_none hV
 have hA':DataW.TrodAll enc P W' 0 (fun b=>decide (b<W.heap.size)) true f.params.toList args.toList ds p :=
  trodAll_below hl hb _ _ _ _ (fun t ht=>by simpa using List.all_eq_true.1 hr t ht) hA (fun x hx=>by simpa using hlt x (by simpa using hx))
 refine⟨ds,[],p ++ [],[],p,[],hW,?_,?_,?_,hb.frame _,fun h=>by cases h⟩
 ·rw[List.append_nil,hfn,hres]
  exact trodAll_cons_mk (shut_bool htb _) trodAll_mk0
 ·rw[List.append_nil,hfn];exact hA'
 ·rw[List.append_nil,hfn,hv]
  exact rfl
end
end
section
open Go Go.RowKit
structure Touch (F:Nat→Prop) (w w':World):Prop where
 os:w'.os=w.os
 tape:w'.tape=w.tape
 output:w'.output=w.output
 size:w.heap.size≤w'.heap.size
 block:∀k,k<w.heap.size→¬F k→w'.heap[k]? = w.heap[k]?
def No (_:Nat):Prop:=False
def One (b:Nat)(k:Nat):Prop:=k=b
theorem Touch.refl (F:Nat→Prop)(w:World):Touch F w w:=⟨rfl,rfl,rfl,Nat.le_refl _,fun _ _ _=>rfl⟩
theorem Touch.drew {F:Nat→Prop}{a w:World}(h:Touch F a w):Touch F a w.drew:=⟨h.os,h.tape,h.output,h.size,h.block⟩
theorem Touch.drewN {F:Nat→Prop}{a w:World}(h:Touch F a w)(n:Nat):Touch F a (w.drewN n):=⟨h.os,h.tape,h.output,h.size,h.block⟩
theorem Touch.trans {F:Nat→Prop}{a b c:World}(h:Touch F a b)(k:Touch F b c):Touch F a c :=
 ⟨k.os.trans h.os,k.tape.trans h.tape,k.output.trans h.output,Nat.le_trans h.size k.size,fun i hi hF=>(k.block i (Nat.lt_of_lt_of_le hi h.size) hF).trans (h.block i hi hF)⟩
theorem Touch.mono {F G:Nat→Prop}{a b:World}(h:Touch F a b)(hg:∀k,k<a.heap.size→F k→G k):Touch G a b :=
 ⟨h.os,h.tape,h.output,h.size,fun i hi hG=>h.block i hi (fun hF=>hG (hg i hi hF))⟩
theorem Touch.no {F:Nat→Prop}{a b:World}(h:Touch No a b):Touch F a b:=h.mono (fun _ _ f=>f.elim)
theorem Touch.then {F G:Nat→Prop}{a b c:World}(h:Touch F a b)(k:Touch G b c)(hg:∀i,i<a.heap.size→G i→F i):Touch F a c :=
 ⟨k.os.trans h.os,k.tape.trans h.tape,k.output.trans h.output,Nat.le_trans h.size k.size,
  fun i hi hF=>(k.block i (Nat.lt_of_lt_of_le hi h.size) (fun hG=>hF (hg i hi hG))).trans (h.block i hi hF)⟩
theorem Touch.alloc {F:Nat→Prop}{a w:World}(h:Touch F a w)(o:Obj):Touch F a (w.alloc o) :=
 ⟨h.os,h.tape,h.output,by have:=h.size;simp;omega,fun k hk hF=>(Below.heap_alloc _ _ _ (Nat.lt_of_lt_of_le hk h.size)).trans (h.block k hk hF)⟩
theorem Touch.setCell {F:Nat→Prop}{a w:World}(h:Touch F a w){p:Addr}(hp:p.block<a.heap.size→F p.block)(u:Value):Touch F a (w.setCell p u) :=
 ⟨h.os,h.tape,h.output,by simpa[World.setCell]using h.size,
  fun k hk hF=>(Below.heap_setCell _ _ _ _ (fun e=>hF (by subst e;exact hp hk))).trans (h.block k hk hF)⟩
theorem Touch.grown {F:Nat→Prop}{a w w':World}{row:Option Nat}(h:Touch F a w)(hg:w.grownBy w' row)(hr:∀k,row=some k→k<a.heap.size→F k):Touch F a w' :=
 ⟨hg.os.trans h.os,hg.tape.trans h.tape,hg.output.trans h.output,Nat.le_trans h.size hg.size,
  fun k hk hF=>(hg.block k (Nat.lt_of_lt_of_le hk h.size) (fun e=>hF (hr k e.symm hk))).trans (h.block k hk hF)⟩
theorem Touch.below {F:Nat→Prop}{w w':World}(h:Touch F w w'){B:Nat}(hB:B≤w.heap.size)(hF:∀k,k<B→¬F k):Below B w w' :=
 ⟨h.os,h.tape,h.output,h.size,fun k hk=>h.block k (Nat.lt_of_lt_of_le hk hB) (hF k hk)⟩
theorem lt_of_cell {w:World}{b o:Nat}{v:Value}(h:w.cell? ⟨b,o,none⟩=some v):b<w.heap.size:=by
 by_cases hb:b<w.heap.size
 ·exact hb
 ·simp[World.cell?,Array.getElem?_eq_none (Nat.le_of_not_lt hb)]at h
theorem Touch.cell {F:Nat→Prop}{w w':World}(h:Touch F w w'){b o:Nat}{v:Value}(hF:¬F b)(hc:w.cell? ⟨b,o,none⟩=some v):w'.cell? ⟨b,o,none⟩=some v:=by
 rw[← hc];exact World.cell?_of_block (a:=⟨b,o,none⟩) (h.block b (lt_of_cell hc) hF)
theorem Touch.frozen {F:Nat→Prop}{w w':World}(h:Touch F w w'){b:Nat}(hb:b<w.heap.size)(hF:¬F b)(o:Nat):w'.frozen? ⟨b,o,none⟩=w.frozen? ⟨b,o,none⟩ :=
 World.frozen?_of_block (a:=⟨b,o,none⟩) (h.block b hb hF)
theorem cell_old (w:World)(o:Obj){b f:Nat}(h:b<w.heap.size):(w.alloc o).cell? ⟨b,f,none⟩=w.cell? ⟨b,f,none⟩ :=
 World.cell?_of_block (a:=⟨b,f,none⟩) (Below.heap_alloc _ _ _ h)
theorem cell_new (w:World)(c:Array Value)(T:TypeId)(fr:Nat × Nat)(f:Nat):(w.alloc (.cells c T fr)).cell? ⟨w.heap.size,f,none⟩=c[f]?:=by
 show(match (w.heap.push (.cells c T fr))[w.heap.size]? with|some (.cells c _ _)=>if (none:Option Nat).isSome then none else c[f]? | _=>none)=_
 simp
theorem size_alloc (w:World)(o:Obj):(w.alloc o).heap.size=w.heap.size+1:=by simp
theorem frozen_old (w:World)(o:Obj){b f:Nat}(h:b<w.heap.size):(w.alloc o).frozen? ⟨b,f,none⟩=w.frozen? ⟨b,f,none⟩ :=
 World.frozen?_of_block (a:=⟨b,f,none⟩) (Below.heap_alloc _ _ _ h)
theorem frozen_new (w:World)(c:Array Value)(T:TypeId)(f:Nat):(w.alloc (.cells c T)).frozen? ⟨w.heap.size,f,none⟩=false:=by
 show(match (w.heap.push (.cells c T))[w.heap.size]? with|some (.cells _ _ (lo,hi))=>decide (lo≤f)&&decide (f<hi)|_=>false)=_
 simp
theorem cell_set {w:World}{b o:Nat}{u v:Value}(h:w.cell? ⟨b,o,none⟩=some u):(w.setCell ⟨b,o,none⟩ v).cell? ⟨b,o,none⟩=some v :=
 World.cell?_setCell_same w _ v h
theorem cell_set_ne {w:World}{b o b' o':Nat}{v:Value}(h:b≠b'∨o≠o'):(w.setCell ⟨b,o,none⟩ v).cell? ⟨b',o',none⟩=w.cell? ⟨b',o',none⟩ :=
 World.cell?_setCell_other w _ _ v (fun e=>by simp only[Addr.mk.injEq,and_true]at e;rcases h with h|h;exact h e.1;exact h e.2)
def Rd (w:World)(a:Option Addr)(vs:List Value):Prop :=
 ∀(i:Nat) (v:Value),vs[i]? = some v→∃b o,a=some ⟨b,o,none⟩∧w.cell? ⟨b,o+i,none⟩=some v
theorem Rd.touch {F:Nat→Prop}{w w':World}{a:Option Addr}{vs:List Value}(h:Rd w a vs)(t:Touch F w w')(hF:∀b o,a=some ⟨b,o,none⟩→b<w.heap.size→¬F b):Rd w' a vs:=by
 intro i v hi;obtain⟨b,o,e,hc⟩:=h i v hi;exact⟨b,o,e,t.cell (hF b o e (lt_of_cell hc)) hc⟩
theorem Rd.no {w w':World}{a:Option Addr}{vs:List Value}(h:Rd w a vs)(t:Touch No w w'):Rd w' a vs:=h.touch t (fun _ _ _ _ f=>f)
theorem Rd.nil (w:World)(a:Option Addr):Rd w a []:=fun i v hi=>by simp at hi
def nums (k:IntKind)(xs:List Nat):List Value:=xs.map fun(x:Nat)=>.int k (x:Int)
theorem nums_length (k:IntKind)(xs:List Nat):(nums k xs).length=xs.length:=by simp[nums]
theorem nums_append (k:IntKind)(xs ys:List Nat):nums k (xs++ys)=nums k xs++nums k ys:=by simp[nums]
theorem nums_get {k:IntKind}{xs:List Nat}{i:Nat}(h:i<xs.length):(nums k xs)[i]? = some (.int k ((xs.getD i 0:Nat):Int)):=by
 simp[nums,List.getElem?_map,Lge h,Lgd]
theorem nums_one (k:IntKind)(xs:List Nat):∀u∈nums k xs,u.oneCell'=true:=by
 intro u hu;obtain⟨x,_,rfl⟩:=List.mem_map.1 hu;rfl
theorem Rd.num {w:World}{k:IntKind}{a:Option Addr}{xs:List Nat}(h:Rd w a (nums k xs)){i:Nat}(hi:i<xs.length) :
 ∃b o,a=some ⟨b,o,none⟩∧w.cell? ⟨b,o+i,none⟩=some (.int k ((xs.getD i 0:Nat):Int)):=h i _ (nums_get hi)
def Own (w:World)(base:Nat)(T:TypeId)(v:Value)(vs:List Value):Prop:=w.ownsRow base T 1 v vs.length vs
theorem Own.form {w:World}{base:Nat}{T:TypeId}{v:Value}{vs:List Value}(h:Own w base T v vs) :
  ∃a cap,v = .slice a vs.length cap∧vs.length≤cap∧Rd w a vs∧(∀ad,a=some ad→base≤ad.block∧ad.off=0∧ad.spot=none∧ad.block<w.heap.size)∧vs.length≤maxLen:=by
 obtain⟨hl,h⟩:=h;rcases h with⟨rfl,h0⟩|⟨g,cap,cur,rfl,hg,hh,hn,hc,hs,ht⟩
 ·refine⟨none,0,by rw[h0],by omega,fun i v hi=>?_,fun ad e=>(by cases e),by rw[h0];exact Nat.zero_le _⟩
  rw[Lgn (by omega)]at hi;cases hi
 ·have hb:g<w.heap.size:=by
   by_cases hb:g<w.heap.size
   ·exact hb
   ·simp[Array.getElem?_eq_none (Nat.le_of_not_lt hb)]at hh
  refine⟨_,cap,rfl,hn,fun i v hi=>⟨g,0,rfl,?_⟩,fun ad e=>?_,by omega⟩
  ·rw[← ht,List.getElem?_take]at hi
   split at hi
   ·simp only[World.cell?,hh,Nat.zero_add];simpa using hi
   ·cases hi
  ·cases e;exact⟨hg,rfl,rfl,hb⟩
theorem Own.touch {F:Nat→Prop}{w w':World}{base:Nat}{T:TypeId}{v:Value}{vs:List Value}(h:Own w base T v vs)(t:Touch F w w')(hF:∀b,base≤b→b<w.heap.size→¬F b):Own w' base T v vs:=by
 obtain⟨hl,h⟩:=h;refine⟨hl,?_⟩;rcases h with h|⟨g,cap,cur,hv,hg,hh,r⟩
 ·exact Or.inl h
 ·have hb:g<w.heap.size:=by
   by_cases hb:g<w.heap.size
   ·exact hb
   ·simp[Array.getElem?_eq_none (Nat.le_of_not_lt hb)]at hh
  exact Or.inr ⟨g,cap,cur,hv,hg,by rw[t.block g hb (hF g hg hb)];exact hh,r⟩
theorem Own.nil (w:World)(base:Nat)(T:TypeId):Own w base T (.slice none 0 0) []:=⟨rfl,Or.inl ⟨rfl,rfl⟩⟩
def InBlock (v:Value)(k:Nat):Prop:=v.ownBlock=some k
theorem Own.block {w:World}{base:Nat}{T:TypeId}{v:Value}{vs:List Value}(h:Own w base T v vs){k:Nat}(hk:InBlock v k):base≤k∧k<w.heap.size:=by
 obtain⟨a,cap,rfl,_,_,hb,_⟩:=h.form;cases a with
 | none=>cases hk
 | some ad =>
   have e:ad.block=k:=by simpa[InBlock,Value.ownBlock]using hk
   obtain⟨h1,_,_,h4⟩:=hb ad rfl;omega
theorem wpList_append1 {P:Program}{w:World}{ops:Array Oper}{rest:List Oper}{o:Oper}{a:Act}{Q:Exit→Act→World→Prop}(hgd:o.guard=none)(s x:Operand)(t:TypeId)
  (ho:o.op = .call {callee:=.builtin .append,args:=#[s,x],argTypes:=#[t,t]})
  (base:Nat) (e:TypeId) (i:TypeInfo) (z:Value) (bytes:Nat) (ht:P.underlying t=some (.slice e)) (hi:P.info? e=some i) (hz:i.zero=some z) (hsize:i.size=1) (hby:i.bytes=bytes) (hzs:z.cells.size=1)
  (v:Value) (vs:List Value) (u:Value) (hown:Own w base e v vs) (hs:a.eval s=v) (hx:a.eval x = .slice (some ⟨w.heap.size,0,none⟩) 1 1) (hu:u.oneCell'=true)
  (h63:vs.length+1≤maxLen) (hbytes:(vs.length+1)*bytes≤140737488355328) (hbase:base≤w.heap.size)
  (h:∀v' w',Own w' base e v' (vs ++ [u])→Touch (InBlock v) w w'→wpList P ops Q rest (a.put o.dst v') w'):wpList P ops Q (o::rest) a (w.alloc (.cells #[u] e)):=by
 have hown1:(w.alloc (.cells #[u] e)).ownsRow base e 1 v vs.length vs :=
  hown.touch (F:=No) ((Touch.refl No w).alloc _) (fun _ _ _ f=>f)
 refine wpList_append_own _ hgd s x t ho base e i z 1 bytes ht hi hz hsize hby hzs (by decide) v vs.length vs hs hown1 ⟨w.heap.size,0,none⟩ 1 1 [u] hx rfl ?_ ?_ h63 hbytes (by simp;omega) ?_
 ·intro j y hj
  match j,hj with
  | 0,hj =>
    have:u=y:=by simpa using hj
    subst this;show(w.alloc _).cell? (Addr.add ⟨w.heap.size,0,none⟩ 0)=_
    simp only[Addr.add,if_true];rw[cell_new];rfl
 ·intro y hy
  have:y=u:=by simpa using hy
  subst this;exact hu
 ·intro v' w' h1 h2 _
  refine h v' w' ?_ ?_
  ·have:(vs ++ [u]).length=vs.length+1:=by simp
   rw[Own,this];exact h1
  ·exact((Touch.refl (InBlock v) w).alloc _).grown h2 (fun k hk _=>hk)
theorem Own.form' {w:World}{base:Nat}{T:TypeId}{v:Value}{vs:List Value}(h:Own w base T v vs){n:Nat}(hn:vs.length=n) :
  ∃a cap,v = .slice a n cap∧n≤cap∧Rd w a vs∧(∀ad,a=some ad→base≤ad.block∧ad.off=0∧ad.spot=none∧ad.block<w.heap.size)∧n≤maxLen:=by
 subst hn;exact h.form
def cutAddr (a:Option Addr)(cap l:Nat):Option Addr:=if cap=l then a else a.map (·.add l)
theorem run_cut {P:Program}{t e:TypeId}{i:TypeInfo}(ht:P.underlying t=some (.slice e))(hi:P.info? e=some i)(hs:i.size=1)(a:Option Addr)(len cap l:Nat)(k:IntKind)(h1:l≤len)(w:World) :
  (Instr.slice t (.slice a len cap) (some (.int k (l:Nat))) none none).run P w = .ok (.slice (cutAddr a cap l) (len-l) (cap-l)) w:=by
 have e1:¬((l:Int)<0):=by omega
 simp[Instr.slice,Instr.sliceBounds,Instr.sliceBound,asIntOf,run_underlying ht,sizeOf,typeInfo,hi,hs,cutAddr,h1]
theorem add_zero (a:Option Addr):a.map (fun x=>x.add 0)=a:=by cases a <;> simp[Addr.add]
theorem run_head {P:Program}{t e:TypeId}{i:TypeInfo}(ht:P.underlying t=some (.slice e))(hi:P.info? e=some i)(_hs:i.size=1)(a:Option Addr)(len cap h:Nat)(k':IntKind)(h2:h≤cap)(w:World) :
  (Instr.slice t (.slice a len cap) none (some (.int k' (h:Nat))) none).run P w = .ok (.slice a h cap) w:=by
 simp[Instr.slice,Instr.sliceBounds,Instr.sliceBound,asIntOf,run_underlying ht,sizeOf,typeInfo,hi,h2,add_zero]
theorem Rd.cut {w:World}{a:Option Addr}{vs:List Value}(h:Rd w a vs){cap l:Nat}(hcap:vs.length≤cap):Rd w (cutAddr a cap l) (vs.drop l):=by
 intro i v hi;rw[List.getElem?_drop]at hi;obtain⟨b,o,rfl,hc⟩:=h _ v hi
 have hlt:l+i<vs.length:=by
  rcases Nat.lt_or_ge (l+i) vs.length with h|h
  ·exact h
  ·rw[Lgn h]at hi;cases hi
 refine⟨b,o+l,?_,by rw[Nat.add_assoc];exact hc⟩;rw[cutAddr,if_neg (by omega)];simp only[Option.map_some,Addr.add];split
 ·rename_i h0;subst h0;rfl
 ·rfl
theorem Rd.take {w:World}{a:Option Addr}{vs:List Value}(h:Rd w a vs)(k:Nat):Rd w a (vs.take k):=by
 intro i v hi;rw[List.getElem?_take]at hi;split at hi
 ·exact h i v hi
 ·cases hi
theorem ret_bool {a b:Bool}(h:a=b):Ending.returned (.bool a) = .returned (.bool b):=by rw[h]
end
section
open Go.ChangeShapes Go.WideShapes Go.ChangeAt Go.RowKit
def ints (k:IntKind)(zs:List Int):List Value:=zs.map fun z=>.int k z
theorem ints_length (k:IntKind)(zs:List Int):(ints k zs).length=zs.length:=by simp[ints]
theorem list_choose {α:Type}{Q:Nat→α→Prop}:∀(n:Nat),(∀i,i<n→∃x,Q i x)→∃l:List α,l.length=n∧∀i x,l[i]? = some x→Q i x
 | 0,_=>⟨[],rfl,fun i x h=>by simp at h⟩
 | n+1,h=>by
   obtain⟨l,hl,hq⟩:=list_choose n (fun i hi=>h i (by omega));obtain⟨x,hx⟩:=h n (by omega);refine⟨l ++ [x],by simp[hl],fun i y hy=>?_⟩
   by_cases hi:i<l.length
   ·rw[List.getElem?_append_left hi]at hy;exact hq i y hy
   ·rw[List.getElem?_append_right (by omega)]at hy
    have:i-l.length=0:=by
     by_cases h0:i-l.length=0
     ·exact h0
     ·rw[Lgn (by simp;omega)]at hy;cases hy
    rw[this]at hy;have e:i=n:=by omega
    subst e;have:x=y:=by simpa using hy
    subst this;exact hx
section
variable {H:Type} {enc:TypeId × Value→H} {P:Program} {w:World} {base:Nat} {spare:Nat→Bool} {held:Bool}
theorem spot_of_cell {a:Addr}{v:Value}(h:w.cell? a=some v):a=⟨a.block,a.off,none⟩:=by
 unfold World.cell? at h;split at h
 ·cases hs:a.spot with
  | none=>cases a;simp_all
  | some s=>simp[hs]at h
 ·cases h
theorem spot_add {a:Addr}{i:Nat}{v:Value}(h:w.cell? (a.add i)=some v)(h0:∃u,w.cell? a=some u):a=⟨a.block,a.off,none⟩∧w.cell? ⟨a.block,a.off+i,none⟩=some v:=by
 obtain⟨u,hu⟩:=h0;have e:=spot_of_cell hu;refine⟨e,?_⟩;rw[e]at h;simp only[Addr.add]at h;split at h
 ·rename_i hi;subst hi;exact h
 ·exact h
theorem open_list {t e:TypeId}{k:IntKind}{fuel:Nat}{cs:List Value}{x:DataW H × List MemPlace}(ht:P.underlying t=some (.slice e))(he:P.underlying e=some (.int k))(hc:P.cellsOf e=1)
  (h:DataW.trod enc P w base (fun _=>true) held fuel t cs=some x) :
  ∃a cap zs,cs=[.slice a zs.length cap]∧zs.length≤cap∧cap≤maxLen∧Rd w a (ints k zs)∧(∀z∈zs,(Lit.int k z).wf=true)∧(cap=0∨cap*P.bytesOf e∈DataW.weights P t x.1)∧(∀ad,a=some ad→base≤ad.block):=by
 rcases open_ints ht he hc h with⟨rfl,rfl⟩|⟨a,len,cap,zs,rfl,hb,hl,hm,hz,rfl,hcell,hwf⟩
 ·exact⟨none,0,[],rfl,Nat.le_refl _,Nat.zero_le _,fun i v hi=>by simp[ints]at hi,by simp,Or.inl rfl,fun ad e=>by cases e⟩
 ·simp only[if_true]at hz
  have hlen:(zs.take len).length=len:=by rw[List.length_take];omega
  refine⟨some a,cap,zs.take len,by rw[hlen],by rw[hlen];exact hl,hm,fun i v hi=>?_,fun z hz'=>hwf z (List.mem_of_mem_take hz'),Or.inr ?_,fun ad e=>by cases e;exact hb⟩
  ·have hi':i<len:=by
    rcases Nat.lt_or_ge i len with h|h
    ·exact h
    ·rw[Lgn (by rw[ints_length,hlen];exact h)]at hi;cases hi
   have h0:=hcell 0 (by omega);have h1:=hcell i (by omega);obtain⟨e1,e2⟩:=spot_add h1 ⟨_,by simpa[Addr.add]using h0⟩;refine⟨a.block,a.off,by rw[← e1],?_⟩;rw[e2,← hi];simp only[ints,List.getElem?_map,List.getElem?_take_of_lt hi',Lgd,Lge (show i<zs.length by omega)];rfl
  ·simp only[DataW.weights,ht,List.mem_cons]
   left
   have:(lits (H:=H) k (zs.take len)).length+(lits (H:=H) k (zs.drop len)).length=cap:=by
    simp[lits];omega
   rw[this]
theorem cells_elem {a:Addr}{n:Nat}{cs:List Value}(h:w.cells? base a n=some cs)(hn:0<n):cs.length=n∧a=⟨a.block,a.off,none⟩∧∀j,j<n→w.cell? ⟨a.block,a.off+j,none⟩=cs[j]?:=by
 obtain⟨_,hl,hc⟩:=World.cells?_some h;have h0:=hc 0 hn;rw[Lge (by omega)]at h0;have hsp:=spot_of_cell (by simpa[Addr.add]using h0);refine⟨hl,hsp,fun j hj=>?_⟩;have h1:=hc j hj;rw[← h1,hsp];simp only[Addr.add];split
 ·rename_i hj0;subst hj0;rfl
 ·rfl
end
end
section
open Go.ChangeShapes Go.WideShapes Go.ChangeAt Go.RowKit
theorem own:ownKnob Tryz.prog.godebug=none:=by kernel_rfl
theorem laidOut:laidOutB Tryz.prog=true:=by kernel_rfl
end
section
open Go Go.RowKit
structure NdDeed where
 kind:Nat
 inn:List Int
 inn_a:Option Addr
 inn_cap:Nat
 shape:List Int
 shape_a:Option Addr
 shape_cap:Nat
 n:Int
 pad:Int
def NdDeed.cells (x:NdDeed):List Value:=[.int .u8 (x.kind:Nat),.slice x.inn_a x.inn.length x.inn_cap,.slice x.shape_a x.shape.length x.shape_cap,.int .i64 x.n,.int .i64 x.pad]
structure NdDeedAt (w:World) (c o:Nat) (x:NdDeed):Prop where
 cell:∀j,j<5→w.cell? ⟨c,o+j,none⟩=x.cells[j]?
 kind_lt:x.kind<256
 inn_rd:Rd w x.inn_a (ints .i64 x.inn)
 inn_le:x.inn.length≤x.inn_cap
 inn_max:(x.inn_cap:Int)*8≤140737488355328
 inn_each:∀y∈x.inn,(Lit.int .i64 y).wf=true
 shape_rd:Rd w x.shape_a (ints .i64 x.shape)
 shape_le:x.shape.length≤x.shape_cap
 shape_max:(x.shape_cap:Int)*8≤140737488355328
 shape_each:∀y∈x.shape,(Lit.int .i64 y).wf=true
 n_in:-9223372036854775808≤x.n∧x.n≤9223372036854775807
 pad_in:-9223372036854775808≤x.pad∧x.pad≤9223372036854775807
def IsNdDeeds (w:World)(ad:Option Addr)(acts:List NdDeed):Prop:=∀i x,acts[i]? = some x→∃c o,ad=some ⟨c,o,none⟩∧NdDeedAt w c (o+i*5) x
end
section
open Go.ChangeShapes Go.WideShapes Go.ChangeAt Go.RowKit
section
variable {H:Type} {enc:TypeId × Value→H} {w:World}
theorem cells_nd_act:Tryz.prog.cellsOf 55=5:=by kernel_rfl
theorem cells_nd_nk:Tryz.prog.cellsOf 53=1:=by kernel_rfl
theorem cells_nd_ints:Tryz.prog.cellsOf 48=1:=by kernel_rfl
theorem cells_nd_int:Tryz.prog.cellsOf 3=1:=by kernel_rfl
theorem cells_nd_ints_e:Tryz.prog.cellsOf 3=1:=by kernel_rfl
theorem bytes_nd_ints:Tryz.prog.bytesOf 3=8:=by kernel_rfl
theorem open_nd_deed {fuel:Nat}{cs:List Value}{x:DataW H × List MemPlace}{c o:Nat}(hc:∀j,j<5→w.cell? ⟨c,o+j,none⟩=cs[j]?)
  (h:DataW.trod enc Tryz.prog w 0 (fun _=>true) true fuel 55 cs=some x) (hz:∀n∈DataW.weights Tryz.prog 55 x.1,n≤reachBytes) :
  ∃d:NdDeed,NdDeedAt w c o d:=by
 obtain⟨xs,n,rfl,rfl,hlen,hxs,hf⟩:=DataW.trod_struct Tryz.underlying55 h;rw[cells_nd_act]at hlen;have f0:DataW.trod enc Tryz.prog w 0 (fun _=>true) true n 53 (List.take (Tryz.prog.cellsOf 53) (List.drop 0 cs))=xs[0]?:=hf 0 _ rfl;rw[cells_nd_nk]at f0;have f1:DataW.trod enc Tryz.prog w 0 (fun _=>true) true n 48 (List.take (Tryz.prog.cellsOf 48) (List.drop 1 cs))=xs[1]?:=hf 1 _ rfl;rw[cells_nd_ints]at f1;have f2:DataW.trod enc Tryz.prog w 0 (fun _=>true) true n 48 (List.take (Tryz.prog.cellsOf 48) (List.drop 2 cs))=xs[2]?:=hf 2 _ rfl;rw[cells_nd_ints]at f2;have f3:DataW.trod enc Tryz.prog w 0 (fun _=>true) true n 3 (List.take (Tryz.prog.cellsOf 3) (List.drop 3 cs))=xs[3]?:=hf 3 _ rfl;rw[cells_nd_int]at f3;have f4:DataW.trod enc Tryz.prog w 0 (fun _=>true) true n 3 (List.take (Tryz.prog.cellsOf 3) (List.drop 4 cs))=xs[4]?:=hf 4 _ rfl;rw[cells_nd_int]at f4
 match xs,hxs with
 | [x0,x1,x2,x3,x4],_ =>
 match cs,hlen with
 | [c0,c1,c2,c3,c4],_ =>
   obtain⟨i0,e0,_,w0⟩:=DataW.trod_int Tryz.underlying53 (show DataW.trod enc Tryz.prog w 0 (fun _=>true) true _ 53 [c0]=some x0 from f0);obtain⟨a1,cap1,z1,e1,hl1,hm1,hr1,hwf1,hwt1,_⟩:=open_list Tryz.underlying48 Tryz.underlying3 cells_nd_ints_e (show DataW.trod enc Tryz.prog w 0 (fun _=>true) true _ 48 [c1]=some x1 from f1);obtain⟨a2,cap2,z2,e2,hl2,hm2,hr2,hwf2,hwt2,_⟩:=open_list Tryz.underlying48 Tryz.underlying3 cells_nd_ints_e (show DataW.trod enc Tryz.prog w 0 (fun _=>true) true _ 48 [c2]=some x2 from f2);obtain⟨i3,e3,_,w3⟩:=DataW.trod_int Tryz.underlying3 (show DataW.trod enc Tryz.prog w 0 (fun _=>true) true _ 3 [c3]=some x3 from f3);obtain⟨i4,e4,_,w4⟩:=DataW.trod_int Tryz.underlying3 (show DataW.trod enc Tryz.prog w 0 (fun _=>true) true _ 3 [c4]=some x4 from f4);simp only[List.cons.injEq,and_true]at e0 e1 e2 e3 e4;subst e0 e1 e2 e3 e4;have b0:=bounds_u8 w0;have b3:=bounds_i64 w3;have b4:=bounds_i64 w4
   have hcap1:(cap1:Int)*8≤140737488355328:=by
    rcases hwt1 with h0|h0
    ·omega
    ·have:cap1*Tryz.prog.bytesOf 3≤reachBytes:=hz _ (by
      simp only[DataW.weights,Tryz.underlying55,DataW.weightsEach,List.map_cons,List.map_nil,List.mem_append];exact Or.inr (Or.inl h0))
     rw[bytes_nd_ints]at this;unfold reachBytes at this;omega
   have hcap2:(cap2:Int)*8≤140737488355328:=by
    rcases hwt2 with h0|h0
    ·omega
    ·have:cap2*Tryz.prog.bytesOf 3≤reachBytes:=hz _ (by
      simp only[DataW.weights,Tryz.underlying55,DataW.weightsEach,List.map_cons,List.map_nil,List.mem_append];exact Or.inr (Or.inr (Or.inl h0)))
     rw[bytes_nd_ints]at this;unfold reachBytes at this;omega
   refine⟨⟨i0.toNat,z1,a1,cap1,z2,a2,cap2,i3,i4⟩,{cell:=?_,kind_lt:=?_,inn_rd:=?_,inn_le:=?_,inn_max:=?_,inn_each:=?_,shape_rd:=?_,shape_le:=?_,shape_max:=?_,shape_each:=?_,n_in:=?_,pad_in:=?_}⟩
   ·intro j hj
    rw[hc j hj];simp only[NdDeed.cells,List.length_map,Int.toNat_of_nonneg b0.1]
   ·show i0.toNat<256
    omega
   ·exact hr1
   ·exact hl1
   ·exact hcap1
   ·exact hwf1
   ·exact hr2
   ·exact hl2
   ·exact hcap2
   ·exact hwf2
   ·exact b3
   ·exact b4
end
end
section
open Go Go.RowKit
structure TnDeed where
 s:List Int
 s_a:Option Addr
 s_cap:Nat
 l:List Int
 l_a:Option Addr
 l_cap:Nat
def TnDeed.cells (x:TnDeed):List Value:=[.slice x.s_a x.s.length x.s_cap,.slice x.l_a x.l.length x.l_cap]
structure TnDeedAt (w:World) (c o:Nat) (x:TnDeed):Prop where
 cell:∀j,j<2→w.cell? ⟨c,o+j,none⟩=x.cells[j]?
 s_rd:Rd w x.s_a (ints .i64 x.s)
 s_le:x.s.length≤x.s_cap
 s_max:(x.s_cap:Int)*8≤140737488355328
 s_each:∀y∈x.s,(Lit.int .i64 y).wf=true
 l_rd:Rd w x.l_a (ints .i32 x.l)
 l_le:x.l.length≤x.l_cap
 l_max:(x.l_cap:Int)*4≤140737488355328
 l_each:∀y∈x.l,(Lit.int .i32 y).wf=true
def IsTnDeeds (w:World)(ad:Option Addr)(acts:List TnDeed):Prop:=∀i x,acts[i]? = some x→∃c o,ad=some ⟨c,o,none⟩∧TnDeedAt w c (o+i*2) x
end
section
open Go.ChangeShapes Go.WideShapes Go.ChangeAt Go.RowKit
section
variable {H:Type} {enc:TypeId × Value→H} {w:World}
theorem cells_tn_act:Tryz.prog.cellsOf 51=2:=by kernel_rfl
theorem cells_tn_ints:Tryz.prog.cellsOf 48=1:=by kernel_rfl
theorem cells_tn_n32:Tryz.prog.cellsOf 49=1:=by kernel_rfl
theorem cells_tn_ints_e:Tryz.prog.cellsOf 3=1:=by kernel_rfl
theorem bytes_tn_ints:Tryz.prog.bytesOf 3=8:=by kernel_rfl
theorem cells_tn_n32_e:Tryz.prog.cellsOf 21=1:=by kernel_rfl
theorem bytes_tn_n32:Tryz.prog.bytesOf 21=4:=by kernel_rfl
theorem open_tn_deed {fuel:Nat}{cs:List Value}{x:DataW H × List MemPlace}{c o:Nat}(hc:∀j,j<2→w.cell? ⟨c,o+j,none⟩=cs[j]?)
  (h:DataW.trod enc Tryz.prog w 0 (fun _=>true) true fuel 51 cs=some x) (hz:∀n∈DataW.weights Tryz.prog 51 x.1,n≤reachBytes) :
  ∃d:TnDeed,TnDeedAt w c o d:=by
 obtain⟨xs,n,rfl,rfl,hlen,hxs,hf⟩:=DataW.trod_struct Tryz.underlying51 h;rw[cells_tn_act]at hlen;have f0:DataW.trod enc Tryz.prog w 0 (fun _=>true) true n 48 (List.take (Tryz.prog.cellsOf 48) (List.drop 0 cs))=xs[0]?:=hf 0 _ rfl;rw[cells_tn_ints]at f0;have f1:DataW.trod enc Tryz.prog w 0 (fun _=>true) true n 49 (List.take (Tryz.prog.cellsOf 49) (List.drop 1 cs))=xs[1]?:=hf 1 _ rfl;rw[cells_tn_n32]at f1
 match xs,hxs with
 | [x0,x1],_ =>
 match cs,hlen with
 | [c0,c1],_ =>
   obtain⟨a0,cap0,z0,e0,hl0,hm0,hr0,hwf0,hwt0,_⟩:=open_list Tryz.underlying48 Tryz.underlying3 cells_tn_ints_e (show DataW.trod enc Tryz.prog w 0 (fun _=>true) true _ 48 [c0]=some x0 from f0);obtain⟨a1,cap1,z1,e1,hl1,hm1,hr1,hwf1,hwt1,_⟩:=open_list Tryz.underlying49 Tryz.underlying21 cells_tn_n32_e (show DataW.trod enc Tryz.prog w 0 (fun _=>true) true _ 49 [c1]=some x1 from f1);simp only[List.cons.injEq,and_true]at e0 e1;subst e0 e1
   have hcap0:(cap0:Int)*8≤140737488355328:=by
    rcases hwt0 with h0|h0
    ·omega
    ·have:cap0*Tryz.prog.bytesOf 3≤reachBytes:=hz _ (by
      simp only[DataW.weights,Tryz.underlying51,DataW.weightsEach,List.map_cons,List.map_nil,List.mem_append];exact Or.inl h0)
     rw[bytes_tn_ints]at this;unfold reachBytes at this;omega
   have hcap1:(cap1:Int)*4≤140737488355328:=by
    rcases hwt1 with h0|h0
    ·omega
    ·have:cap1*Tryz.prog.bytesOf 21≤reachBytes:=hz _ (by
      simp only[DataW.weights,Tryz.underlying51,DataW.weightsEach,List.map_cons,List.map_nil,List.mem_append];exact Or.inr (Or.inl h0))
     rw[bytes_tn_n32]at this;unfold reachBytes at this;omega
   refine⟨⟨z0,a0,cap0,z1,a1,cap1⟩,{cell:=?_,s_rd:=?_,s_le:=?_,s_max:=?_,s_each:=?_,l_rd:=?_,l_le:=?_,l_max:=?_,l_each:=?_}⟩
   ·intro j hj
    rw[hc j hj];simp only[TnDeed.cells,List.length_map]
   ·exact hr0
   ·exact hl0
   ·exact hcap0
   ·exact hwf0
   ·exact hr1
   ·exact hl1
   ·exact hcap1
   ·exact hwf1
end
end
section
open Go Go.RowKit
structure RdDeed where
 ix:Nat
 t_s:List Int
 t_s_a:Option Addr
 t_s_cap:Nat
 t_l:List Int
 t_l_a:Option Addr
 t_l_cap:Nat
def RdDeed.cells (x:RdDeed):List Value:=[.int .u32 (x.ix:Nat),.slice x.t_s_a x.t_s.length x.t_s_cap,.slice x.t_l_a x.t_l.length x.t_l_cap]
structure RdDeedAt (w:World) (c o:Nat) (x:RdDeed):Prop where
 cell:∀j,j<3→w.cell? ⟨c,o+j,none⟩=x.cells[j]?
 ix_lt:x.ix<4294967296
 t_s_rd:Rd w x.t_s_a (ints .i64 x.t_s)
 t_s_le:x.t_s.length≤x.t_s_cap
 t_s_max:(x.t_s_cap:Int)*8≤140737488355328
 t_s_each:∀y∈x.t_s,(Lit.int .i64 y).wf=true
 t_l_rd:Rd w x.t_l_a (ints .i32 x.t_l)
 t_l_le:x.t_l.length≤x.t_l_cap
 t_l_max:(x.t_l_cap:Int)*4≤140737488355328
 t_l_each:∀y∈x.t_l,(Lit.int .i32 y).wf=true
def IsRdDeeds (w:World)(ad:Option Addr)(acts:List RdDeed):Prop:=∀i x,acts[i]? = some x→∃c o,ad=some ⟨c,o,none⟩∧RdDeedAt w c (o+i*3) x
end
end Go.Proofs.YtjlphmmalebgpaaGreat
