/-
  A part of the proof.
-/
import Derived.Test.YtjlphmmalebgpaaGreatK01
import Derived.Deep.LoopGhost
import Derived.Laws.CopyOwn
set_option linter.unusedSimpArgs false
namespace Go.Proofs.YtjlphmmalebgpaaGreat
section
open Go Go.RowKit
theorem Own.rd {w:World}{base:Nat}{T:TypeId}{a:Option Addr}{n c:Nat}{vs:List Value}(h:Own w base T (.slice a n c) vs):Rd w a vs:=by
 obtain⟨a',c',e,_,hr,_⟩:=h.form;cases e;exact hr
section
variable {P:Program} {w:World}
theorem run_append_rd (base:Nat)(t ty e:TypeId)(i:TypeInfo)(z:Value)(bytes:Nat)(ht:P.underlying t=some (.slice e))(hi:P.info? e=some i)(hz:i.zero=some z)(hsize:i.size=1)(hby:i.bytes=bytes)(hzs:z.cells.size=1)
  (v:Value) (vs:List Value) (hown:Own w base e v vs) (a:Option Addr) (m c:Nat) (us:List Value) (hl:us.length=m) (hr:Rd w a us) (h1:∀u∈us,u.oneCell'=true)
  (h63:vs.length+m≤maxLen) (hbytes:(vs.length+m)*bytes≤140737488355328) (hbase:base≤w.heap.size) :
  ∃v' w',(Builtin.append_ #[t,t] ty #[v,.slice a m c]).run P w = .ok v' w'∧Own w' base e v' (vs++us)∧Touch (InBlock v) w w':=by
 cases a with
 | some ad =>
   have hnews:∀j u,us[j]? = some u→w.cell? (ad.add j)=some u:=fun j u hj=>by
    obtain⟨b,o,e1,hc⟩:=hr j u hj;cases e1
    unfold Addr.add;split
    ·rename_i h0;subst h0;exact hc
    ·exact hc
   obtain⟨v',w',h2,h3,h4,_⟩:=run_append_own (P:=P) w base t ty e i z 1 bytes ht hi hz hsize hby hzs (by decide) v vs.length vs hown ad m c us (by omega) hnews h1 h63 hbytes hbase;refine⟨v',w',h2,?_,(Touch.refl _ w).grown h4 (fun k hk _=>hk)⟩;rw[Own,List.length_append,hl];exact h3
 | none =>
   have hus:us=[]:=by
    cases us with
    | nil=>rfl
    | cons u r=>obtain⟨b,o,e1,_⟩:=hr 0 u rfl;cases e1
   subst hus;obtain rfl:m=0:=by simpa using hl.symm
   obtain⟨b,cap,rfl,hcap,_,_,_⟩:=hown.form;refine⟨.slice b vs.length cap,w,?_,by rw[List.append_nil];exact hown,Touch.refl _ _⟩;cases b <;> simp[Builtin.append_,run_underlying ht,sizeOf,typeInfo,hi,Builtin.lenOf,hcap,Builtin.firstCells,storeCells]
theorem zeroCells_one (z:Value)(u:Value)(hzs:z.cells=#[u])(n:Nat):Builtin.zeroCells z.cells n=(List.replicate n u).toArray:=by
 rw[hzs];apply Array.ext';unfold Builtin.zeroCells;refine List.ext_getElem? (fun j=>?_)
 by_cases hj:j<n
 ·simp[hj,List.getElem?_replicate,Nat.mod_one]
 ·simp[hj,List.getElem?_replicate]
theorem run_zero {e:TypeId}{i:TypeInfo}{z:Value}(hi:P.info? e=some i)(hz:i.zero=some z):(zeroValue e).run P w = .ok z w:=by
 simp[zeroValue,typeInfo,hi,hz]
theorem run_append_zeros (base:Nat)(t t2 ty e:TypeId)(i:TypeInfo)(z u:Value)(bytes:Nat)(ht:P.underlying t=some (.slice e))(ht2:P.underlying t2=some (.int .i64))(hi:P.info? e=some i)(hz:i.zero=some z)(hsize:i.size=1)(hby:i.bytes=bytes)(hzs:z.cells=#[u])(hu:u.oneCell'=true)
  (v:Value) (vs:List Value) (hown:Own w base e v vs) (m:Nat)
  (h63:vs.length+m≤maxLen) (hbytes:(vs.length+m)*bytes≤140737488355328) (hbase:base≤w.heap.size) :
  ∃v' w',(Builtin.append_ #[t,t2] ty #[v,.int .i64 (m:Nat)]).run P w = .ok v' w'∧Own w' base e v' (vs++List.replicate m u)∧Touch (InBlock v) w w':=by
 have hmm:(m:Int)≤9223372036854775807:=by unfold maxLen at h63;omega
 have hwrap:IntKind.i64.wrap (m:Int)=(m:Int):=IntWalk.i64_in _ (by omega);have hneg:¬((m:Int)<0):=by omega
 have hw0:IntKind.i64.wrap 0=0:=rfl;have hmb:m*bytes≤140737488355328:=Nat.le_trans (Nat.mul_le_mul_right _ (by omega)) hbytes
 have hbig:¬(281474976710656<(m:Int)*(i.bytes:Int)):=by
  have h:m*i.bytes≤140737488355328:=by rw[hby];exact hmb
  have e2:(m:Int)*(i.bytes:Int)=((m*i.bytes:Nat):Int):=by push_cast;rfl
  rw[e2];omega
 have hzc:=zeroCells_one z u hzs
 have grown:∀(old:Nat) (olds:List Value),olds=vs→old<vs.length+m→
   Own (w.drew.alloc (.cells (olds.toArray++(List.replicate m u).toArray++Builtin.zeroCells z.cells (grownCap w (vs.length+m) old e-(vs.length+m))) e)) base e
    (.slice (some ⟨w.heap.size,0,none⟩) (vs.length+m) (grownCap w (vs.length+m) old e)) (vs++List.replicate m u)∧
   Touch (InBlock v) w (w.drew.alloc (.cells (olds.toArray++(List.replicate m u).toArray++Builtin.zeroCells z.cells (grownCap w (vs.length+m) old e-(vs.length+m))) e)):=by
  intro old olds ho _;subst ho;have hge:=grownCap_ge w (olds.length+m) old e;have hcm:grownCap w (olds.length+m) old e≤maxLen:=grownCap_le_maxLen w (olds.length+m) old e h63;have hlen:(olds++List.replicate m u).length=olds.length+m:=by simp
  refine⟨⟨by rw[hlen];omega,.inr ⟨w.heap.size,_,_,by rw[hlen],hbase,heap_alloc_new w.drew _,by rw[hlen];exact hge,hcm,?_,?_⟩⟩,(Touch.refl _ w).drew.alloc _⟩
  ·simp only[Array.size_append,List.size_toArray,size_zeroCells,hzs,List.length_replicate]
   show olds.length+m+(_-(olds.length+m))*1=_*1
   omega
  ·rw[Nat.mul_one]
   simp only[Array.toList_append,List.append_assoc];rw[← List.append_assoc];exact List.take_left
 obtain⟨b,cap,rfl,hcap,hrd,hb,hmax⟩:=hown.form
 by_cases hroom:vs.length+m≤cap
 ·rcases hown.2 with⟨h0,hvs⟩|⟨g,cap',cur,h0,hbg,hg,hnc,hcm,hcs,htake⟩
  ·have hvs:vs.length=0:=hvs
   have hb0:b=none:=by simp at h0;exact h0.1
   have hc0:cap=0:=by simp at h0;exact h0.2.2
   subst hb0 hc0;obtain rfl:m=0:=by omega
   refine⟨.slice none vs.length 0,w,?_,by simpa using hown,Touch.refl _ _⟩;simp[Builtin.append_,run_underlying ht,run_underlying ht2,sizeOf,typeInfo,hi,asInt,asIntOf,hw0,hsize,hvs]
  ·cases h0
   have hfit:vs.length*1+(List.replicate m u).length≤cur.size:=by rw[hcs];simp;omega
   have hst:=run_storeCells_at P g (vs.length*1) e (List.replicate m u) 0 cur w hg (by simpa using hfit) (fun x hx=>by rw[List.eq_of_mem_replicate hx];exact hu);simp only[Nat.add_zero]at hst;refine⟨.slice (some ⟨g,0,none⟩) (vs.length+m) cap,w.setRow g (cur.toList.take (vs.length*1)++List.replicate m u++cur.toList.drop (vs.length*1+(List.replicate m u).length)).toArray,?_,?_,?_⟩
   ·have hzr:∀wx:World,(zeroValue e).run P wx = .ok z wx:=fun wx=>run_zero hi hz
    have hadd:(⟨g,0,none⟩:Addr).add (vs.length*1)=⟨g,vs.length*1,none⟩:=by unfold Addr.add;split <;> simp_all
    by_cases hm0:m=0
    ·subst hm0
     have hst':w.setRow g (cur.toList.take (vs.length*1)++List.replicate 0 u++cur.toList.drop (vs.length*1+(List.replicate 0 u).length)).toArray=w:=by
      have:=hst;simp only[List.replicate_zero,storeCells,Sem.run_pure,Result.ok.injEq,true_and]at this;exact this.symm
     rw[hst'];simp[Builtin.append_,run_underlying ht,run_underlying ht2,sizeOf,typeInfo,hi,asInt,asIntOf,hw0,hsize,hcap,storeCells]
    ·simp[Builtin.append_,run_underlying ht,run_underlying ht2,sizeOf,typeInfo,hi,asInt,asIntOf,hwrap,hsize,hroom,hbig,hm0,hzr,hzc]
     rw[Nat.mul_one]at hadd hst;rw[hadd,hst];simp;intro h;exact absurd h hneg
   ·refine⟨by simp,.inr ⟨g,cap,_,by simp,hbg,setRow_heap w g cur _ e _ hg,by simpa using hroom,hcm,?_,?_⟩⟩
    ·simp only[List.size_toArray,List.length_append,List.length_take,List.length_drop,Array.length_toList]
     omega
    ·simp only[Nat.mul_one]at htake ⊢
     rw[htake];exact List.take_left
   ·exact⟨rfl,rfl,rfl,by simp[World.setRow],fun k _ hk=>setRow_other w g k _ (fun e=>hk (by simp[InBlock,Value.ownBlock,e]))⟩
 ·have hg:cap<vs.length+m:=by omega
  have hn:¬(vs.length+m≤cap):=hroom;have h63':¬(9223372036854775807<((vs.length:Int)+(m:Int))):=by unfold maxLen at h63;omega
  have h48':¬(281474976710656<Builtin.nextslicecap (vs.length+m) cap*i.bytes):=by
   have:=growslice_fits (need:=vs.length+m) (old:=cap) (bytes:=i.bytes) (by omega) (by rw[hby];exact hbytes);omega
  have hm0:m≠0:=by omega
  have hzr:∀wx:World,(zeroValue e).run P wx = .ok z wx:=fun wx=>run_zero hi hz
  obtain⟨g1,g2⟩:=grown cap vs rfl hg;refine⟨_,_,?_,g1,g2⟩
  have hfo:(Builtin.firstCells 1 vs.length (.slice b vs.length cap)).run P w.drew = .ok vs.toArray w.drew:=by
   cases b with
   | none =>
     have:vs=[]:=by
      cases vs with
      | nil=>rfl
      | cons x r=>obtain⟨b,o,e1,_⟩:=hrd 0 x rfl;cases e1
     subst this;rfl
   | some ad =>
     refine run_firstCells_some (P:=P) w.drew 1 vs.length ad vs.length cap vs (by omega) (fun j x hj=>?_);obtain⟨b',o',e1,hc⟩:=hrd j x hj;cases e1
     unfold Addr.add;split
     ·rename_i h0;subst h0;exact hc
     ·exact hc
  simp[Builtin.append_,run_underlying ht,run_underlying ht2,sizeOf,typeInfo,hi,asInt,asIntOf,hwrap,hsize,hn,h63',h48',hbig,hm0,hzr,hzc,Question.forced,hfo,newRow,grownCap];intro h;exact absurd h hneg
theorem wp_append_run {o:Oper}{a:Act}{K:Act→World→Prop}{Q:Exit→Act→World→Prop}(s x:Operand)(t t2:TypeId)(ho:o.op = .call {callee:=.builtin .append,args:=#[s,x],argTypes:=#[t,t2]})(v u:Value)(hs:a.eval s=v)(hx:a.eval x=u)
  {R:Value→World→Prop} (hr:∃v' w',(Builtin.append_ #[t,t2] o.type #[v,u]).run P w = .ok v' w'∧R v' w') (h:∀v' w',R v' w'→K (a.put o.dst v') w'):o.wp P a w K Q:=by
 obtain⟨v',w',h1,h2⟩:=hr;unfold Oper.wp execOp;simp only[ho,resolve,invoke,builtin,Sem.run_bind,Sem.run_pure,Result.andThen_ok,List.map_toArray,List.map_cons,List.map_nil,hs,hx,h1];exact h v' w' h2
theorem wpList_append_rd {ops:Array Oper}{rest:List Oper}{o:Oper}{a:Act}{Q:Exit→Act→World→Prop}(hgd:o.guard=none)(s x:Operand)(t:TypeId)(ho:o.op = .call {callee:=.builtin .append,args:=#[s,x],argTypes:=#[t,t]})
  (base:Nat) (e:TypeId) (i:TypeInfo) (z:Value) (bytes:Nat) (ht:P.underlying t=some (.slice e)) (hi:P.info? e=some i) (hz:i.zero=some z) (hsize:i.size=1) (hby:i.bytes=bytes) (hzs:z.cells.size=1)
  (v:Value) (vs:List Value) (hown:Own w base e v vs) (hs:a.eval s=v) (ad:Option Addr) (m c:Nat) (us:List Value) (hx:a.eval x = .slice ad m c) (hl:us.length=m) (hr:Rd w ad us) (h1:∀u∈us,u.oneCell'=true)
  (h63:vs.length+m≤maxLen) (hbytes:(vs.length+m)*bytes≤140737488355328) (hbase:base≤w.heap.size)
  (h:∀v' w',Own w' base e v' (vs++us)→Touch (InBlock v) w w'→wpList P ops Q rest (a.put o.dst v') w'):wpList P ops Q (o::rest) a w :=
 wpList_plain hgd fun _ hK=>wp_append_run s x t t ho v _ hs hx (R:=fun v' w'=>Own w' base e v' (vs++us)∧Touch (InBlock v) w w') (run_append_rd base t _ e i z bytes ht hi hz hsize hby hzs v vs hown ad m c us hl hr h1 h63 hbytes hbase) fun v' w' hh=>hK _ _ (h v' w' hh.1 hh.2)
theorem step_append_rd {ops:Array Oper}{o:Oper}{a:Act}{K:Act→World→Prop}{Q:Exit→Act→World→Prop}{E:Prop}(hw:Region.wanted o (yielded ops a.tmps)=true)(s x:Operand)(t:TypeId)(ho:o.op = .call {callee:=.builtin .append,args:=#[s,x],argTypes:=#[t,t]})
  (base:Nat) (e:TypeId) (i:TypeInfo) (z:Value) (bytes:Nat) (ht:P.underlying t=some (.slice e)) (hi:P.info? e=some i) (hz:i.zero=some z) (hsize:i.size=1) (hby:i.bytes=bytes) (hzs:z.cells.size=1)
  (v:Value) (vs:List Value) (hown:Own w base e v vs) (hs:a.eval s=v) (ad:Option Addr) (m c:Nat) (us:List Value) (hx:a.eval x = .slice ad m c) (hl:us.length=m) (hr:Rd w ad us) (h1:∀u∈us,u.oneCell'=true)
  (h63:vs.length+m≤maxLen) (hbytes:(vs.length+m)*bytes≤140737488355328) (hbase:base≤w.heap.size)
  (h:∀v' w',Own w' base e v' (vs++us)→Touch (InBlock v) w w'→K (a.put o.dst v') w'):if Region.wanted o (yielded ops a.tmps)=true then Oper.wp P o a w K Q else E:=by
 rw[if_pos hw];exact wp_append_run s x t t ho v _ hs hx (R:=fun v' w'=>Own w' base e v' (vs++us)∧Touch (InBlock v) w w') (run_append_rd base t _ e i z bytes ht hi hz hsize hby hzs v vs hown ad m c us hl hr h1 h63 hbytes hbase) fun v' w' hh=>h v' w' hh.1 hh.2
theorem step_append_rds {ops:Array Oper}{o:Oper}{a:Act}{K:Act→World→Prop}{Q:Exit→Act→World→Prop}{E:Prop}(hw:Region.wanted o (yielded ops a.tmps)=true)(s x:Operand)(t:TypeId)(ho:o.op = .call {callee:=.builtin .append,args:=#[s,x],argTypes:=#[t,t]})
  (base:Nat) (e:TypeId) (i:TypeInfo) (z:Value) (bytes:Nat) (ht:P.underlying t=some (.slice e)) (hi:P.info? e=some i) (hz:i.zero=some z) (hsize:i.size=1) (hby:i.bytes=bytes) (hzs:z.cells.size=1)
  (v:Value) (vs:List Value) (hown:Own w base e v vs) (hs:a.eval s=v) (ad:Option Addr) (m c n':Nat) (us:List Value) (hx:a.eval x = .slice ad m c) (hl:us.length=m) (hr:Rd w ad us) (h1:∀u∈us,u.oneCell'=true) (hn:vs.length+m=n')
  (h63:n'≤maxLen) (hbytes:n'*bytes≤140737488355328) (hbase:base≤w.heap.size)
  (h:∀a' c' w',Own w' base e (.slice a' n' c') (vs++us)→Touch (InBlock v) w w'→K (a.put o.dst (.slice a' n' c')) w'):if Region.wanted o (yielded ops a.tmps)=true then Oper.wp P o a w K Q else E:=by
 subst hn;refine step_append_rd hw s x t ho base e i z bytes ht hi hz hsize hby hzs v vs hown hs ad m c us hx hl hr h1 h63 hbytes hbase fun v' w' ho ht=>?_
 obtain⟨a',c',rfl,_⟩:=ho.form' (n:=vs.length+m) (by simp[hl]);exact h a' c' w' ho ht
theorem wpList_append_zeros {ops:Array Oper}{rest:List Oper}{o:Oper}{a:Act}{Q:Exit→Act→World→Prop}(hgd:o.guard=none)(s x:Operand)(t t2:TypeId)(ho:o.op = .call {callee:=.builtin .append,args:=#[s,x],argTypes:=#[t,t2]})
  (base:Nat) (e:TypeId) (i:TypeInfo) (z u:Value) (bytes:Nat) (ht:P.underlying t=some (.slice e)) (ht2:P.underlying t2=some (.int .i64)) (hi:P.info? e=some i) (hz:i.zero=some z) (hsize:i.size=1) (hby:i.bytes=bytes) (hzs:z.cells=#[u]) (hu:u.oneCell'=true)
  (v:Value) (vs:List Value) (hown:Own w base e v vs) (hs:a.eval s=v) (m:Nat) (hx:a.eval x = .int .i64 (m:Nat))
  (h63:vs.length+m≤maxLen) (hbytes:(vs.length+m)*bytes≤140737488355328) (hbase:base≤w.heap.size)
  (h:∀v' w',Own w' base e v' (vs++List.replicate m u)→Touch (InBlock v) w w'→wpList P ops Q rest (a.put o.dst v') w'):wpList P ops Q (o::rest) a w :=
 wpList_plain hgd fun _ hK=>wp_append_run s x t t2 ho v _ hs hx (R:=fun v' w'=>Own w' base e v' (vs++List.replicate m u)∧Touch (InBlock v) w w') (run_append_zeros base t t2 _ e i z u bytes ht ht2 hi hz hsize hby hzs hu v vs hown m h63 hbytes hbase) fun v' w' hh=>hK _ _ (h v' w' hh.1 hh.2)
end
end
section
open Go Go.RowKit
namespace Rt
def four (n:Nat):List Nat:=[n%256,n / 256%256,n / 65536%256,n / 16777216%256]
def unfour (b:List Nat):Nat:=b.getD 0 0+256*b.getD 1 0+65536*b.getD 2 0+16777216*b.getD 3 0
theorem four_length (n:Nat):(four n).length=4:=rfl
def half1 (r:Nat):Nat:=if r%2=1 then r / 2 ^^^ 3988292384 else r / 2
def halves:Nat→Nat→Nat
 | 0,r=>r
 | k+1,r=>halves k (half1 r)
def tab (n:Nat):Nat:=halves 8 n
def step (r c:Nat):Nat:=tab (r%256 ^^^ c) ^^^ r / 256
def neg (r:Nat):Nat:=4294967295-r
def run (r:Nat):List Nat→Nat
 | []=>r
 | c::b=>run (step r c) b
def on (sum:Nat)(b:List Nat):Nat:=neg (run (neg sum) b)
def of (b:List Nat):Nat:=on 0 b
structure Root where
 epoch:Nat
 first:Nat
 bytes:Nat
def mark:List Nat:=[82,79,79,84]
def head (r:Root):List Nat:=mark++four r.epoch++four r.first++four r.bytes
def put (r:Root):List Nat:=head r++four (of (head r))++List.replicate 44 0
def nought (b:List Nat):Bool:=b.all (· == 0)
end Rt
end
section
open Go Go.RowKit
def Row (w:World)(g:Nat)(T:TypeId)(l:List Value):Prop:=w.heap[g]? = some (.cells l.toArray T (0,0))
def splice (l:List Value)(o:Nat)(vs:List Value):List Value:=l.take o++vs++l.drop (o+vs.length)
theorem Row.lt {w:World}{g:Nat}{T:TypeId}{l:List Value}(h:Row w g T l):g<w.heap.size:=by
 by_cases hb:g<w.heap.size
 ·exact hb
 ·rw[Row,Array.getElem?_eq_none (Nat.le_of_not_lt hb)]at h;cases h
theorem Row.touch {F:Nat→Prop}{w w':World}{g:Nat}{T:TypeId}{l:List Value}(h:Row w g T l)(t:Touch F w w')(hF:¬F g):Row w' g T l:=by
 rw[Row,t.block g h.lt hF];exact h
theorem Row.cell {w:World}{g:Nat}{T:TypeId}{l:List Value}(h:Row w g T l)(o:Nat):w.cell? ⟨g,o,none⟩=l[o]?:=by
 simp only[World.cell?];rw[h];simp
theorem Row.soft {w:World}{g:Nat}{T:TypeId}{l:List Value}(h:Row w g T l)(o:Nat):w.frozen? ⟨g,o,none⟩=false:=by
 simp only[World.frozen?];rw[h];simp
theorem Row.new (w:World)(T:TypeId)(c:Array Value):Row (w.alloc (.cells c T)) w.heap.size T c.toList:=by
 rw[Row,Array.toArray_toList];exact heap_alloc_new w _
theorem Row.setRow {w:World}{g:Nat}{T:TypeId}{l:List Value}(h:Row w g T l)(l':List Value):Row (w.setRow g l'.toArray) g T l':=setRow_heap w g _ _ _ _ h
theorem Row.setCell {w:World}{g:Nat}{T:TypeId}{l:List Value}(h:Row w g T l)(o:Nat)(v:Value):Row (w.setCell ⟨g,o,none⟩ v) g T (l.set o v):=by
 rw[setCell_eq_setRow w g o _ T (0,0) v h];have:=setRow_heap w g l.toArray (l.toArray.setIfInBounds o v) T (0,0) h;rw[Row,this];simp
theorem Touch.setRow {F:Nat→Prop}{a w:World}(h:Touch F a w){g:Nat}(hg:g<a.heap.size→F g)(c:Array Value):Touch F a (w.setRow g c) :=
 ⟨h.os,h.tape,h.output,by simpa[World.setRow]using h.size,fun k hk hF=>by
  have hne:g≠k:=fun e=>hF (e ▸ hg (e ▸ hk))
  rw[← h.block k hk hF];simp only[World.setRow,Array.getElem?_modify];rw[if_neg hne]⟩
section
variable {P:Program}
theorem run_store_mid {w:World}{g o:Nat}{T ty:TypeId}{l:List Value}(hg:Row w g T l)(vs:List Value)(hi:(P.info? ty).map (·.size)=some vs.length)(ho:o+vs.length≤l.length)(h1:∀v∈vs,v.oneCell'=true) :
  (storeVar ty ⟨g,o,none⟩ (.agg vs.toArray)).run P w = .ok () (w.setRow g (splice l o vs).toArray):=by
 have hst:=run_storeCells_at P g o T vs 0 l.toArray w hg (by simpa using ho) h1;cases hq:P.info? ty with
 | none=>simp[hq]at hi
 | some i =>
   have hs:i.size=vs.length:=by simpa[hq]using hi
   simp only[Nat.add_zero]at hst;simp[storeVar,Sem.run_bind,sizeOf,typeInfo,hq,hs,Value.cells,hst,splice]
theorem wp_store_mid {o:Oper}{a:Act}{w:World}{K:Act→World→Prop}{Q:Exit→Act→World→Prop}(ty:TypeId)(x y:Operand)(hop:o.op = .store ty x y)(g off:Nat)(T:TypeId)(l:List Value)(hg:Row w g T l)
  (hx:a.eval x = .pointer (some ⟨g,off,none⟩)) (vs:List Value) (hy:a.eval y = .agg vs.toArray)
  (hi:(P.info? ty).map (·.size)=some vs.length) (ho:off+vs.length≤l.length) (h1:∀v∈vs,v.oneCell'=true) (h:K (a.put o.dst undef) (w.setRow g (splice l off vs).toArray)):o.wp P a w K Q:=by
 unfold Oper.wp execOp;simp only[hop,hx,hy,Instr.storeAt,Instr.sureAddr,Sem.run_bind,Sem.run_pure,Result.andThen_ok,run_store_mid hg vs hi ho h1];exact h
theorem wpList_store_mid {ops:Array Oper}{rest:List Oper}{o:Oper}{a:Act}{w:World}{Q:Exit→Act→World→Prop}(hgd:o.guard=none)(ty:TypeId)(x y:Operand)(hop:o.op = .store ty x y)(g off:Nat)(T:TypeId)(l:List Value)(hg:Row w g T l)
  (hx:a.eval x = .pointer (some ⟨g,off,none⟩)) (vs:List Value) (hy:a.eval y = .agg vs.toArray)
  (hi:(P.info? ty).map (·.size)=some vs.length) (ho:off+vs.length≤l.length) (h1:∀v∈vs,v.oneCell'=true) (h:wpList P ops Q rest (a.put o.dst undef) (w.setRow g (splice l off vs).toArray)):wpList P ops Q (o::rest) a w :=
 wpList_plain hgd fun _ hK=>wp_store_mid ty x y hop g off T l hg hx vs hy hi ho h1 (hK _ _ h)
end
end
section
open Go Go.RowKit
theorem one_info {T:TypeId}{k:IntKind}{bytes:Nat}(h:(Tryz.prog.info? T).map (fun i=>(i.zero,i.size,i.bytes))=some (some (.int k 0),1,bytes)) :
  ∃i,Tryz.prog.info? T=some i∧i.zero=some (.int k 0)∧i.size=1∧i.bytes=bytes:=by
 cases hi:Tryz.prog.info? T with
 | none=>simp[hi]at h
 | some i =>
   rw[hi]at h;simp only[Option.map_some,Option.some.injEq,Prod.mk.injEq]at h;exact⟨i,rfl,h.1,h.2.1,h.2.2⟩
end
section
open Go Go.RowKit
namespace Nm
def u (z:Int):Nat:=(z%4294967296).toNat
def i (n:Nat):Int:=if n<2147483648 then(n:Int) else (n:Int)-4294967296
def put (l:List Int):List Nat:=Rt.four (l.length%4294967296)++(l.map u).flatMap Rt.four
def many (b:List Nat):Nat:=Rt.unfour b
def err (b:List Nat):Nat:=if b.length<4 then 5 else if 4096<many b then 3 else if b.length<4+4*many b then 5 else 0
def nth (b:List Nat)(k:Nat):Int:=i (Rt.unfour (b.drop (4+4*k)))
def get (b:List Nat):List Int:=if err b=0 then(List.range (many b)).map (nth b) else []
theorem flat_length (q:List Nat):(q.flatMap Rt.four).length=4*q.length:=by
 induction q with
 | nil=>rfl
 | cons y q ih=>rw[List.flatMap_cons,List.length_append,ih,Rt.four_length,List.length_cons];omega
end Nm
end
section
open Go Go.RowKit
theorem own_of_row {w:World}{B base:Nat}{T:TypeId}{vs:List Value}(h:Row w B T vs)(hb:base≤B){n:Nat}(hn:vs.length=n)(hl:n≤maxLen):Own w base T (.slice (some ⟨B,0,none⟩) n n) vs:=by
 subst hn;exact⟨by omega,.inr ⟨B,vs.length,vs.toArray,rfl,hb,h,Nat.le_refl _,hl,by simp,by simp⟩⟩
theorem Own.head {w:World}{base:Nat}{T:TypeId}{a:Option Addr}{n c:Nat}{vs:List Value}(h:Own w base T (.slice a n c) vs){k:Nat}(hk:k≤n):Own w base T (.slice a k c) (vs.take k):=by
 obtain⟨a',c',e,_⟩:=h.form;have hn:vs.length=n:=by cases e;rfl
 have hkl:(vs.take k).length=k:=by rw[List.length_take];omega
 obtain⟨hl,h⟩:=h;refine⟨by omega,?_⟩;rcases h with⟨h1,h0⟩|⟨g,cap,cur,hv,hg,hh,h1,h2,h3,h4⟩
 ·left
  simp only[Value.slice.injEq]at h1;obtain⟨rfl,h2,rfl⟩:=h1;have:k=0:=by omega
  subst this;exact⟨rfl,by simp⟩
 ·right
  simp only[Value.slice.injEq]at hv;obtain⟨rfl,h5,rfl⟩:=hv;refine⟨g,c,cur,by rw[hkl],hg,hh,by omega,h2,h3,?_⟩;rw[hkl,Nat.mul_one];rw[Nat.mul_one]at h4;rw[← h4,List.take_take,Nat.min_eq_left (by omega)]
theorem made_fill (v:Value)(n:Nat):madeCells #[v] n=(List.replicate n v).toArray:=by
 apply Array.ext';refine List.ext_getElem? (fun j=>?_);unfold madeCells
 by_cases hj:j<n
 ·simp[hj,List.getElem?_replicate,Nat.mod_one]
 ·simp[hj,List.getElem?_replicate]
def fill (vs:List Value)(z:Value)(k:Nat):List Value:=vs.take k++List.replicate (vs.length-k) z
theorem fill_zero (vs:List Value)(z:Value):fill vs z 0=List.replicate vs.length z:=by simp[fill]
theorem fill_all (vs:List Value)(z:Value){k:Nat}(hk:vs.length=k):fill vs z k=vs:=by subst hk;simp[fill]
theorem fill_get {vs:List Value}{z:Value}{k:Nat}(hk:k<vs.length):(fill vs z k)[k]? = some z:=by
 have h1:(vs.take k).length=k:=by rw[List.length_take];omega
 rw[fill,List.getElem?_append_right (by omega),h1,Nat.sub_self,List.getElem?_replicate];simp;omega
theorem fill_next {vs:List Value}{z v:Value}{k:Nat}(hv:vs[k]? = some v):(fill vs z k).set k v=fill vs z (k+1):=by
 have hk:k<vs.length:=by
  rcases Nat.lt_or_ge k vs.length with h|h
  ·exact h
  ·rw[Lgn h]at hv;cases hv
 have h1:(vs.take k).length=k:=by rw[List.length_take];omega
 rw[fill,fill,List.set_append_right _ _ (by omega),h1,Nat.sub_self,show vs.length-k=(vs.length-(k+1))+1 by omega,List.replicate_succ,List.set_cons_zero];rw[Lge hk]at hv;cases hv
 rw[List.take_succ_eq_append_getElem hk,List.append_assoc];rfl
theorem i32_info:∃i,Tryz.prog.info? 21=some i∧i.zero=some (.int .i32 0)∧i.size=1∧i.bytes=4:=one_info (by kernel_rfl)
theorem ints_get {k:IntKind}{zs:List Int}{i:Nat}(h:i<zs.length):(ints k zs)[i]? = some (.int k (zs.getD i 0)):=by
 simp[ints,List.getElem?_map,Lge h,Lgd]
theorem Rd.int {w:World}{k:IntKind}{a:Option Addr}{zs:List Int}(h:Rd w a (ints k zs)){i:Nat}(hi:i<zs.length) :
 ∃b o,a=some ⟨b,o,none⟩∧w.cell? ⟨b,o+i,none⟩=some (.int k (zs.getD i 0)):=h i _ (ints_get hi)
theorem ints_one (k:IntKind)(xs:List Int):∀v∈ints k xs,v.oneCell'=true:=by
 intro v hv;obtain⟨x,_,rfl⟩:=List.mem_map.1 hv;rfl
def pieces (g o m:Nat):List Value:=(List.range m).map fun k=>.slice (some ⟨g,o+4*k,none⟩) 4 4
end
end Go.Proofs.YtjlphmmalebgpaaGreat
