/-
  A part of the proof.
-/
import Derived.Test.YtjlphmmalebgpaaGreatK36
import Derived.RangeFuncNested
import Derived.RangeFuncBound
import Derived.Shelf.RegionOpen
import Derived.LoopNIn
import Derived.Sort.CutIn
set_option linter.unusedSimpArgs false
set_option linter.unusedVariables false
set_option maxHeartbeats 2000000
set_option maxRecDepth 100000
namespace Go.Proofs.YtjlphmmalebgpaaGreat
section
open Go Go.RowKit
theorem TIn.apart {w:World}{sa la:Option Addr}{n c m d X:Nat}{T:TypeId}{l:List Value}{S:List Nat}{L:List Int}(h:TIn w sa n c la m d S L)(r:Row w X T l)(hl:∀v∈l,∀k z,v≠.int k z):Off sa X∧Off la X:=by
 have h1:=h.n1;have h2:=h.m1;refine⟨fun ad e he=>?_,fun ad e he=>?_⟩
 ·obtain⟨b,o,e',hc⟩:=h.dir (k:=0) (by omega)
  rw[e]at e';cases e';have he':b=X:=he;rw[he',r.cell]at hc;exact hl _ (List.mem_of_getElem? hc) _ _ rfl
 ·obtain⟨b,o,e',hc⟩:=h.num (k:=0) (by omega)
  rw[e]at e';cases e';have he':b=X:=he;rw[he',r.cell]at hc;exact hl _ (List.mem_of_getElem? hc) _ _ rfl
def RunOut (w:World)(O:Option (List Me.Ten))(e:Ending)(w':World):Prop :=
 match O with
 | none=>e = .returned (.tuple #[.agg #[.slice none 0 0,.slice none 0 0],.int .i64 1])∧Touch No w w'
 | some Ts=>∃sa n c la m d,e = .returned (.tuple #[.agg #[.slice sa n c,.slice la m d],.int .i64 0])∧TIn w' sa n c la m d (Me.tn Ts (Ts.length-1)).1 (Me.tn Ts (Ts.length-1)).2∧Touch No w w'
theorem meansRun_in (HW:WinHas)(HPo:PoolHas)(w:World)(a wa sa la:Option Addr)(mm cap wn wc n c m d:Nat)(Ns:List Me.Node)(Ws:List Me.Raw)(input:Me.Raw)(hN:NsIn w a Ns)(hm:Ns.length=mm)(hm6:mm≤1000)(hW:WsIn w wa Ws)(hWl:Ws.length=wn)(hWc:wn≤wc)(hW6:wn≤2000000)(hI:RIn w sa n c la m d input) :
  Calls Tryz.prog 26 #[.agg #[.slice a mm cap],.slice wa wn wc,.agg #[.slice sa n c,.slice la m d]] w (RunOut w (Me.all Ns Ws input)):=by
 obtain⟨w1,hw1,t1,R1,R2,R3,hs1⟩:=rows_3 w [.slice a mm cap] [.slice sa n c,.slice la m d] [.slice none 0 0,.slice none 0 0] 24 51 51;have C:=Lib.hid (meansAll_in HW HPo w1 a wa sa la mm cap wn wc n c m d Ns Ws input (hN.no t1) hm hm6 (hW.no t1) hWl hWc hW6 (hI.no t1));obtain⟨Z,hZ⟩:∃Z,Me.all Ns Ws input=Z:=⟨_,rfl⟩;rw[hZ]at C ⊢;obtain⟨X,hX⟩:∃X,X=w.heap.size:=⟨_,rfl⟩;rw[← hX]at R1 R2 R3 hs1;have y0:w1.cell? ⟨X,0,none⟩=some (.slice a mm cap):=R1.cell 0;have y1:w1.cell? ⟨X+1,0,none⟩=some (.slice sa n c):=R2.cell 0;have y2:w1.cell? ⟨X+1,1,none⟩=some (.slice la m d):=R2.cell 1;have HT1:=Lib.hid t1;have HR3:=Lib.hid R3;have HX1:Hid (w1.heap.size=X+3∧w.heap.size=X):=⟨hs1,hX.symm⟩
 have HL:Hid (∀O,Z=some O→O.length=mm∧1≤mm):=fun O h=>by
  rw[← hZ]at h;have:=Me.all_len h;rw[hm]at this;exact this
 clear hN hm hW hWl hI hZ t1 R1 R2 R3 hs1;go_enter Tryz.func26,Tryz.ntmps26;go_wp2_with fail;rw[← hw1,← hX];clear hw1 hX;refine C.out.mono ?_;clear y0 y1 y2 C;cases Z with
 | none =>
   rintro e w2 ⟨rfl,t2⟩;have HR:=Lib.hid (HR3.out.touch t2 id);have T2:=Lib.hid (HT1.out.trans t2);clear t2;go_wp2_with (refine wpList_store_mid rfl 51 _ _ rfl (X+1+1) 0 51 [.slice none 0 0,.slice none 0 0] HR.out rfl [.slice none 0 0,.slice none 0 0] rfl (by kernel_rfl) (by simp) (by intro v hv;simp at hv;rcases hv with rfl|rfl <;> rfl) ?_);obtain⟨w9,hw9⟩:∃w9,w9=w2.setRow (X+1+1) (splice [.slice none 0 0,.slice none 0 0] 0 [.slice none 0 0,.slice none 0 0]).toArray:=⟨_,rfl⟩;have R9:Row w9 (X+1+1) 51 [.slice none 0 0,.slice none 0 0]:=by rw[hw9];exact HR.out.setRow _
   have T9:Hid (Touch No w w9):=T2.out.then (show Touch (One (X+1+1)) w2 w9 by rw[hw9];exact Touch.setOne _ _ _) (fun i hi e=>by have e':i=X+1+1:=e;have:=HX1.out.2;omega);have z0:w9.cell? ⟨X+1+1,0,none⟩=some (.slice none 0 0):=R9.cell 0;have z1:w9.cell? ⟨X+1+1,1,none⟩=some (.slice none 0 0):=R9.cell 1;rw[← hw9];clear hw9 R9;go_wp2;refine bodyPost_ret (v:=.tuple #[.agg #[.slice none 0 0,.slice none 0 0],.int .i64 1]) (by simp[results,Tryz.results26,go_sem,z0,z1]) rfl ?_;exact⟨rfl,T9.out⟩
 | some O =>
   rintro e w2 ⟨a2,c2,rfl,hc2,hT2,t2⟩;obtain⟨hOl,h1⟩:=HL.out O rfl;obtain⟨b,o,ta,tn,tc,tl,tm,td,rfl,p0,p1,hT0⟩:=hT2 (mm-1) (by omega);have HR:=Lib.hid (HR3.out.touch t2 id);have T2:=Lib.hid (HT1.out.trans t2);have HOl:Hid (O.length=mm):=hOl;have HT0:=Lib.hid (aI hT0 hT0.lt);have hs12:Hid (w1.heap.size≤w2.heap.size):=t2.size;rw[hOl];have f1:(1:Int)≤(mm:Int):=by omega
   have f2:(mm:Int)≤1000:=by omega
   have f3:mm-1<mm:=by omega
   clear t2 hT2 hOl hT0;go_wp2_with (refine wpList_store_mid rfl 51 _ _ rfl (X+1+1) 0 51 [.slice none 0 0,.slice none 0 0] HR.out rfl [.slice ta tn tc,.slice tl tm td] rfl (by kernel_rfl) (by simp) (by intro v hv;simp at hv;rcases hv with rfl|rfl <;> rfl) ?_);obtain⟨w9,hw9⟩:∃w9,w9=w2.setRow (X+1+1) (splice [.slice none 0 0,.slice none 0 0] 0 [.slice ta tn tc,.slice tl tm td]).toArray:=⟨_,rfl⟩;have R9:Row w9 (X+1+1) 51 [.slice ta tn tc,.slice tl tm td]:=by rw[hw9];exact HR.out.setRow _
   have t9:Touch (One (X+1+1)) w2 w9:=by rw[hw9];exact Touch.setOne _ _ _
   have T9:Hid (Touch No w w9):=T2.out.then t9 (fun i hi e=>by have e':i=X+1+1:=e;have:=HX1.out.2;omega);have z0:w9.cell? ⟨X+1+1,0,none⟩=some (.slice ta tn tc):=R9.cell 0;have z1:w9.cell? ⟨X+1+1,1,none⟩=some (.slice tl tm td):=R9.cell 1;obtain⟨ho1,ho2⟩:=HT0.out.1.apart HR.out (by intro v hv k z;simp at hv;rw[hv];exact fun h=>by cases h)
   have HTE:Hid (TIn w9 ta tn tc tl tm td (Me.tn O (O.length-1)).1 (Me.tn O (O.length-1)).2):=by
    rw[HOl.out];exact HT0.out.1.off t9 (fun k hk=>by have e:k=X+1+1:=hk;rw[e];exact ho1) (fun k hk=>by have e:k=X+1+1:=hk;rw[e];exact ho2)
   rw[← hw9];clear hw9 R9 t9 ho1 ho2;go_wp2;refine bodyPost_ret (v:=.tuple #[.agg #[.slice ta tn tc,.slice tl tm td],.int .i64 0]) (by simp[results,Tryz.results26,go_sem,z0,z1]) rfl ?_;exact⟨ta,tn,tc,tl,tm,td,rfl,HTE.out,T9.out⟩
theorem ref13Run_in (w:World)(a wa sa la:Option Addr)(mm cap wn wc n c m d:Nat)(Ns:List Me.Node)(Ws:List Me.Raw)(input:Me.Raw)(hN:NsIn w a Ns)(hm:Ns.length=mm)(hm6:mm≤1000)(hW:WsIn w wa Ws)(hWl:Ws.length=wn)(hW6:wn≤2000000)(hI:RIn w sa n c la m d input) :
  Calls Tryz.prog 28 #[.agg #[.slice a mm cap],.slice wa wn wc,.agg #[.slice sa n c,.slice la m d]] w (RunOut w (Me.all Ns Ws input)):=by
 obtain⟨w1,hw1,t1,R1,R2,R3,hs1⟩:=rows_3 w [.slice a mm cap] [.slice sa n c,.slice la m d] [.slice none 0 0,.slice none 0 0] 24 51 51;have C:=Lib.hid (ref13All_in w1 a wa sa la mm cap wn wc n c m d Ns Ws input (hN.no t1) hm hm6 (hW.no t1) hWl hW6 (hI.no t1));obtain⟨Z,hZ⟩:∃Z,Me.all Ns Ws input=Z:=⟨_,rfl⟩;rw[hZ]at C ⊢;obtain⟨X,hX⟩:∃X,X=w.heap.size:=⟨_,rfl⟩;rw[← hX]at R1 R2 R3 hs1;have y0:w1.cell? ⟨X,0,none⟩=some (.slice a mm cap):=R1.cell 0;have y1:w1.cell? ⟨X+1,0,none⟩=some (.slice sa n c):=R2.cell 0;have y2:w1.cell? ⟨X+1,1,none⟩=some (.slice la m d):=R2.cell 1;have HT1:=Lib.hid t1;have HR3:=Lib.hid R3;have HX1:Hid (w1.heap.size=X+3∧w.heap.size=X):=⟨hs1,hX.symm⟩
 have HL:Hid (∀O,Z=some O→O.length=mm∧1≤mm):=fun O h=>by
  rw[← hZ]at h;have:=Me.all_len h;rw[hm]at this;exact this
 clear hN hm hW hWl hI hZ t1 R1 R2 R3 hs1;go_enter Tryz.func28,Tryz.ntmps28;go_wp2_with fail;rw[← hw1,← hX];clear hw1 hX;refine C.out.mono ?_;clear y0 y1 y2 C;cases Z with
 | none =>
   rintro e w2 ⟨rfl,t2⟩;have HR:=Lib.hid (HR3.out.touch t2 id);have T2:=Lib.hid (HT1.out.trans t2);clear t2;go_wp2_with (refine wpList_store_mid rfl 51 _ _ rfl (X+1+1) 0 51 [.slice none 0 0,.slice none 0 0] HR.out rfl [.slice none 0 0,.slice none 0 0] rfl (by kernel_rfl) (by simp) (by intro v hv;simp at hv;rcases hv with rfl|rfl <;> rfl) ?_);obtain⟨w9,hw9⟩:∃w9,w9=w2.setRow (X+1+1) (splice [.slice none 0 0,.slice none 0 0] 0 [.slice none 0 0,.slice none 0 0]).toArray:=⟨_,rfl⟩;have R9:Row w9 (X+1+1) 51 [.slice none 0 0,.slice none 0 0]:=by rw[hw9];exact HR.out.setRow _
   have T9:Hid (Touch No w w9):=T2.out.then (show Touch (One (X+1+1)) w2 w9 by rw[hw9];exact Touch.setOne _ _ _) (fun i hi e=>by have e':i=X+1+1:=e;have:=HX1.out.2;omega);have z0:w9.cell? ⟨X+1+1,0,none⟩=some (.slice none 0 0):=R9.cell 0;have z1:w9.cell? ⟨X+1+1,1,none⟩=some (.slice none 0 0):=R9.cell 1;rw[← hw9];clear hw9 R9;go_wp2;refine bodyPost_ret (v:=.tuple #[.agg #[.slice none 0 0,.slice none 0 0],.int .i64 1]) (by simp[results,Tryz.results28,go_sem,z0,z1]) rfl ?_;exact⟨rfl,T9.out⟩
 | some O =>
   rintro e w2 ⟨a2,c2,rfl,hc2,hT2,t2⟩;obtain⟨hOl,h1⟩:=HL.out O rfl;obtain⟨b,o,ta,tn,tc,tl,tm,td,rfl,p0,p1,hT0⟩:=hT2 (mm-1) (by omega);have HR:=Lib.hid (HR3.out.touch t2 id);have T2:=Lib.hid (HT1.out.trans t2);have HOl:Hid (O.length=mm):=hOl;have HT0:=Lib.hid (aI hT0 hT0.lt);have hs12:Hid (w1.heap.size≤w2.heap.size):=t2.size;rw[hOl];have f1:(1:Int)≤(mm:Int):=by omega
   have f2:(mm:Int)≤1000:=by omega
   have f3:mm-1<mm:=by omega
   clear t2 hT2 hOl hT0;go_wp2_with (refine wpList_store_mid rfl 51 _ _ rfl (X+1+1) 0 51 [.slice none 0 0,.slice none 0 0] HR.out rfl [.slice ta tn tc,.slice tl tm td] rfl (by kernel_rfl) (by simp) (by intro v hv;simp at hv;rcases hv with rfl|rfl <;> rfl) ?_);obtain⟨w9,hw9⟩:∃w9,w9=w2.setRow (X+1+1) (splice [.slice none 0 0,.slice none 0 0] 0 [.slice ta tn tc,.slice tl tm td]).toArray:=⟨_,rfl⟩;have R9:Row w9 (X+1+1) 51 [.slice ta tn tc,.slice tl tm td]:=by rw[hw9];exact HR.out.setRow _
   have t9:Touch (One (X+1+1)) w2 w9:=by rw[hw9];exact Touch.setOne _ _ _
   have T9:Hid (Touch No w w9):=T2.out.then t9 (fun i hi e=>by have e':i=X+1+1:=e;have:=HX1.out.2;omega);have z0:w9.cell? ⟨X+1+1,0,none⟩=some (.slice ta tn tc):=R9.cell 0;have z1:w9.cell? ⟨X+1+1,1,none⟩=some (.slice tl tm td):=R9.cell 1;obtain⟨ho1,ho2⟩:=HT0.out.1.apart HR.out (by intro v hv k z;simp at hv;rw[hv];exact fun h=>by cases h)
   have HTE:Hid (TIn w9 ta tn tc tl tm td (Me.tn O (O.length-1)).1 (Me.tn O (O.length-1)).2):=by
    rw[HOl.out];exact HT0.out.1.off t9 (fun k hk=>by have e:k=X+1+1:=hk;rw[e];exact ho1) (fun k hk=>by have e:k=X+1+1:=hk;rw[e];exact ho2)
   rw[← hw9];clear hw9 R9 t9 ho1 ho2;go_wp2;refine bodyPost_ret (v:=.tuple #[.agg #[.slice ta tn tc,.slice tl tm td],.int .i64 0]) (by simp[results,Tryz.results28,go_sem,z0,z1]) rfl ?_;exact⟨ta,tn,tc,tl,tm,td,rfl,HTE.out,T9.out⟩
end
section
open Go Go.RowKit
theorem spots_any (w:World)(a:Option Addr)(n c:Nat) :
  Calls Tryz.prog 202 #[.slice a n c] w fun e w'=>e = .returned (.func (.func 227) #[] #[.pointer (some ⟨w.heap.size,0,none⟩)])∧w'=w.alloc (.cells #[.slice a n c] 48):=by
 have hmf:∀(fn:Fn) (first cap:Array Value) (w:World),(Instr.makeFunc fn first cap).run Tryz.prog w = .ok (.func fn first cap) w:=fun _ _ _ _=>rfl
 go_enter Tryz.func202,Tryz.ntmps202;go_wp2;go_ret;exact⟨rfl,rfl⟩
end
section
open Go Go.RowKit
section
variable {F:Fence} {nf:Nat} {P:Program} {ops:Array Oper} {md:Region.Mode} {C:World→Prop}
def NoDefer (ops:Array Oper):Prop:=∀(j:Nat) (o:Oper),ops[j]? = some o→∀c,o.op≠.defer c
def noDeferB (ops:Array Oper):Bool:=ops.toList.all fun o=>match o.op with | .defer _=>false|_=>true
theorem noDefer_of (h:noDeferB ops=true):NoDefer ops:=fun j o ho c hc=>by
 unfold noDeferB at h;rw[List.all_eq_true]at h
 have:=h o (by
  obtain⟨hj,rfl⟩:=Array.getElem?_eq_some_iff.1 ho;exact Array.getElem_mem_toList hj)
 rw[hc]at this;cases this
theorem Oper.wpIn_of_quiet2 {o:Oper}{a:Act}{K:Act→Prop}{K':Act→World→Prop}{Q':Exit→Act→World→Prop}{w:World}(hdf:∀c,o.op≠.defer c)(hw:C w)(h:∀a w',C w'→K a→K' a w')
  (ha:o.askedIn F P a C) (hh:o.quietIn F nf P a C K):o.wpIn F nf P a w K' Q':=by
 obtain⟨v,h1,h2⟩:=hh;have h3:=h1 w hw;unfold Oper.quietAtIn at h3;unfold Oper.wpIn;refine⟨ha w hw,?_⟩;rw[Oper.semAt_plain F _ _ hdf]
 generalize (execOp a.eval o).run P w=r at *
 cases r with
 | ok x w' =>
   cases x <;> simp only[Oper.quietUponIn]at h3 <;> simp only[Oper.uponIn]
   case value u =>
    obtain⟨e1,e2⟩:=h3;rw[e1,e2];exact h _ _ hw h2
   case skip =>
    obtain⟨e1,e2⟩:=h3;rw[e1,← e2];exact h _ _ hw h2
   case enter f args =>
    obtain⟨e1,hd,hc⟩:=h3;rw[e1];exact⟨hd,hc.mono fun e w'' ⟨he,hw''⟩=>by subst he;exact h _ _ hw'' h2⟩
 | halt x w'=>simp only[Oper.quietUponIn]at h3
theorem wpOpIn_of_qOpIn2 {i:Nat}{a:Act}{K:Act→Prop}{K':Act→World→Prop}{Q':Exit→Act→World→Prop}{w:World}(hdf:NoDefer ops)(hC:C w)(h:∀a w',C w'→K a→K' a w')
  (hh:qOpIn F nf P ops C i K a):wpOpIn F nf P ops Q' i K' a w:=by
 unfold qOpIn at hh;unfold wpOpIn;split
 ·rename_i ho;simp only[ho]at hh;exact h _ _ hC hh
 ·rename_i o ho
  simp only[ho]at hh;obtain⟨ha,hh⟩:=hh;split
  ·rename_i hw;simp only[hw,if_true]at hh;exact Oper.wpIn_of_quiet2 (hdf i o ho) hC h ha hh
  ·rename_i hw;simp only[hw]at hh;exact⟨ha w hC,h _ _ hC hh⟩
def qHeadIn (F:Fence)(nf:Nat)(P:Program)(md:Region.Mode)(ops:Array Oper)(C:World→Prop)(n:Nat)(L:Array Bool→Act→Prop):Nat→Array Bool→Act→Prop
 | 0,listed,a=>L listed a
 | f+1,listed,a=>Region.ready md ops listed≠[]∧∀i∈Region.ready md ops listed,i<n∧qOpIn F nf P ops C i (qHeadIn F nf P md ops C n L f (listed.setIfInBounds i true)) a
theorem wpAnyIn_of_qHeadIn (hdf:NoDefer ops){n g:Nat}{L:Array Bool→Act→Prop}{Q':Exit→Act→World→Prop}(hL:∀listed a w,C w→L listed a→wpAnyIn F nf P md ops Q' g listed a w) :
  ∀(f:Nat) (listed:Array Bool) (a:Act) (w:World),C w→qHeadIn F nf P md ops C n L f listed a→wpAnyIn F nf P md ops Q' (f+g) listed a w
 | 0,listed,a,w,hw,h=>by rw[Nat.zero_add];exact hL _ _ _ hw h
 | f+1,listed,a,w,hw,h=>by
   rw[show f+1+g=(f+g)+1 by omega];exact⟨fun h0=>absurd h0 h.1,fun i hi=>wpOpIn_of_qOpIn2 hdf hw (fun a' w' hw' h'=>wpAnyIn_of_qHeadIn hdf hL f _ a' w' hw' h') (h.2 i hi).2⟩
theorem qHeadIn_first {n i:Nat}{oi:Oper}{v:Value}{L:Array Bool→Act→Prop}(hi:ops[i]? = some oi)(hsel:∀(j:Nat) (o:Oper) cs b,ops[j]? = some o→o.op≠.select cs b)
  (hs:Region.sinkB md ops n=true) (hc:Region.chainB md ops n=true) (hn:n<ops.size) (hin:i<n) (hdone:∀listed a,L listed a→∀j∈Region.ready md ops listed,n≤j) :
  ∀(f:Nat) (listed:Array Bool) (a:Act),HeadInv md ops n listed→
   (∀j oj,ops[j]? = some oj→j≠i→listed.getD j true=false→(∀e∈oj.after,Region.binds md e=true→e.on≠i)→oi.apart ops oj=true)→
   i∈Region.ready md ops listed→YieldsQuiet F nf P ops C oi v a→
   qHeadIn F nf P md ops C n L f (listed.setIfInBounds i true) (a.put oi.dst v)→qHeadIn F nf P md ops C n L (f+1) listed a:=by
 intro f
 induction f with
 | zero =>
   intro listed a inv _ hr hy H;have hun:=(mem_ready.1 hr).1;refine⟨fun h=>(by rw[h]at hr;cases hr),fun j hj=>?_⟩;have hjn:j<n:=(Nat.lt_or_ge j n).elim id fun h=>absurd hj (tail_waits hs hc hn inv _ i rfl hin hun j h)
   refine⟨hjn,?_⟩
   by_cases hji:j=i
   ·subst hji;exact hy.qOpIn hi H
   ·have:=hdone _ _ H j (ready_mono hj hji)
    omega
 | succ f ih =>
   intro listed a inv hfree hr hy H;have hun:=(mem_ready.1 hr).1;refine⟨fun h=>(by rw[h]at hr;cases hr),fun j hj=>?_⟩;have hjn:j<n:=(Nat.lt_or_ge j n).elim id fun h=>absurd hj (tail_waits hs hc hn inv _ i rfl hin hun j h)
   refine⟨hjn,?_⟩
   by_cases hji:j=i
   ·subst hji;exact hy.qOpIn hi H
   ·have h1:=(H.2 j (ready_mono hj hji)).2
    obtain⟨hjun,oj,hoj,hall⟩:=mem_ready.1 hj
    have hnot:∀e∈oj.after,Region.binds md e=true→e.on≠i:=fun e he hb heq=>by
     have h1:=hall e he hb;rw[heq,getD_both hun]at h1;cases h1
    have h2:=qOpIn_put hoj (hfree j oj hoj hji hjun hnot) (fun cs b=>hsel i oi cs b hi) (fun cs b=>hsel j oj cs b hoj) hy h1
    have hfree':∀k ok,ops[k]? = some ok→k≠i→(listed.setIfInBounds j true).getD k true=false→
      (∀e∈ok.after,Region.binds md e=true→e.on≠i)→oi.apart ops ok=true:=fun k ok hk hki hun hno=>by
     refine hfree k ok hk hki ?_ hno
     by_cases hjk:j=k
     ·subst hjk;exact hjun
     ·rw[getD_set_ne true hjk]at hun;exact hun
    refine qOpIn_mono (fun a' h3=>ih (listed.setIfInBounds j true) a' (inv.set hj hjn) hfree' (ready_mono hr (Ne.symm hji)) h3.1 ?_) h2;rw[Array.setIfInBounds_comm _ _ hji];exact h3.2
theorem qHeadIn_lex {n g:Nat}{Lq:Act→Prop}(hsel:Region.noSelect ops=true)(hs:Region.sinkB md ops n=true)(hc:Region.chainB md ops n=true)(hn:n<ops.size) :
  ∀(l:List Oper) (k:Nat) (listed:Array Bool) (a:Act),(∀j,j<l.length→l[j]? = ops[k+j]?)→k+l.length=n→HeadInv md ops n listed→
  Region.lexHead md ops g l.length k listed=true→wpQuietIn F nf P ops C Lq l a→
  qHeadIn F nf P md ops C n (fun listed' a'=>Region.seqB md ops g n listed'=true∧Lq a') l.length listed a
 | [],k,listed,a,_,hk,_,hB,h=>by
   have:k=n:=by simpa using hk
   subst this;exact⟨by simpa[Region.lexHead]using hB,h⟩
 | o::l,k,listed,a,hl,hk,inv,hB,h=>by
   have h0:ops[k]? = some o:=by simpa using (hl 0 (by simp)).symm
   simp only[List.length_cons,Region.lexHead,Bool.and_eq_true]at hB;obtain⟨⟨hr,hf⟩,hB'⟩:=hB;have hkn:k<n:=by simp only[List.length_cons]at hk;omega
   have hr':k∈Region.ready md ops listed:=by simpa using hr
   have hst:qOpIn F nf P ops C k (wpQuietIn F nf P ops C Lq l) a:=by unfold qOpIn;simp only[h0];exact h
   obtain⟨v,hy,hK⟩:=yieldsQuiet_of_qOpIn h0 hst
   exact qHeadIn_first h0 (Region.noSelect_spec hsel) hs hc hn hkn (fun listed' a' hL=>seqB_ready hL.1) l.length listed a inv (Region.free_spec h0 hf) hr' hy
    (qHeadIn_lex hsel hs hc hn l (k+1) _ _ (fun j hj=>by have:=hl (j+1) (by simp;omega);simpa[Nat.add_assoc,Nat.add_comm 1 j]using this) (by simp only[List.length_cons]at hk;omega) (inv.set hr' hkn) hB' hK)
theorem wpAnyIn_of_seq {Q':Exit→Act→World→Prop}:∀(l:List Oper) (k:Nat) (listed:Array Bool) (a:Act) (w:World),(∀j,l[j]? = ops[k+j]?)→
  Region.seqB md ops l.length k listed=true→wpListIn F nf P ops Q' l a w→wpAnyIn F nf P md ops Q' l.length listed a w
 | [],_,_,_,_,_,hB,h=>⟨by simpa[Region.seqB]using hB,h⟩
 | o::l,k,listed,a,w,hl,hB,h=>by
   have h0:ops[k]? = some o:=by simpa using (hl 0).symm
   simp only[List.length_cons,Region.seqB,Bool.and_eq_true,decide_eq_true_eq]at hB;refine⟨fun h1=>(by rw[hB.1]at h1;cases h1),fun i hi=>?_⟩;rw[hB.1]at hi;have hik:i=k:=by simpa using hi
   subst hik;have hw:wpOpIn F nf P ops Q' i (wpListIn F nf P ops Q' l) a w:=by unfold wpOpIn;simp only[h0];exact h
   exact wpOpIn_mono (fun a' w' h'=>wpAnyIn_of_seq l (i+1) _ a' w' (fun j=>by have:=hl (j+1);simpa[Nat.add_assoc,Nat.add_comm 1 j]using this) hB.2 h') hw
theorem wpIn_region_kept_tail {id:Nat}{Q:Exit→Act→World→Prop}{a:Act}{w:World}{l:List Oper}(n:Nat)(hm:P.follows .mixedOrders=true)(hB:Region.lexTailB .any l.toArray n=true)(hd:noDeferB l.toArray=true)
  (h:wpQuietIn F nf P l.toArray (fun w'=>∃p:KW w,w'=p.wd) (fun a'=>∀w',(∃p:KW w,w'=p.wd)→wpListIn F nf P l.toArray Q (l.drop n) a' w') (l.take n) a):(Code.region id l.toArray true).wpIn F nf P Q a w:=by
 simp only[Region.lexTailB,Bool.and_eq_true,decide_eq_true_eq]at hB;obtain⟨⟨⟨⟨hsel,hn⟩,hs⟩,hc⟩,hlex⟩:=hB;have hn':n<l.length:=by simpa using hn
 have htl:(l.take n).length=n:=by simp;omega
 have hdl:(l.drop n).length=l.toArray.size-n:=by simp
 have inv0:HeadInv .any l.toArray n (Array.replicate l.toArray.size false) :=
  ⟨by simp,fun j oj _ hl=>(by rw[getD_replicate_false]at hl;cases hl),fun t _ ht=>getD_in (by simpa using ht) (getD_replicate_false _ _)⟩
 have H:=qHeadIn_lex (F:=F) (nf:=nf) (md:=.any) (g:=l.toArray.size-n) hsel hs hc hn (l.take n) 0 _ a (fun j hj=>by
  have hj':j<n:=by rw[htl]at hj;exact hj
  simp[hj']) (by simpa using htl) inv0 (by rw[htl];exact hlex) h
 refine wpIn_region_any hm ?_
 have:=wpAnyIn_of_qHeadIn (noDefer_of hd) (Q':=Q) (g:=l.toArray.size-n) (fun listed a' w' hw' hL=>by
  have:=wpAnyIn_of_seq (F:=F) (nf:=nf) (md:=.any) (Q':=Q) (l.drop n) n listed a' w' (fun j=>by simp[List.getElem?_drop]) (by rw[hdl];exact hL.1) (hL.2 w' hw')
  rwa [hdl]at this) _ _ _ _ ⟨⟨_,(Touch.refl No w).drew⟩,rfl⟩ H
 rw[htl,show n+(l.toArray.size-n)=l.toArray.size by omega]at this;exact this
end
theorem CallsIn.kept_of {F:Fence}{r:Nat}{P:Program}{f:FuncId}{args:Array Value}{w:World}{p:KW w}{v:Value}(h:CallsIn F r P f args p.wd fun e w'=>e = .returned v∧Touch No p.wd w'):CallsIn F r P f args p.wd fun e w''=>e = .returned v∧∃q:KW w,w''=q.wd :=
 h.mono fun _ _ ⟨he,t⟩=>⟨he,⟨_,p.no.trans t⟩,rfl⟩
end
section
open Go Go.RowKit Go.Shelf
attribute [local go_sem] Oper.semAt_some
def firstN (N k:Nat):List (Fin N):=(List.finRange N).take k
theorem firstN_length {N k:Nat}(h:k≤N):(firstN N k).length=k:=by simp[firstN];omega
theorem firstN_next {N k:Nat}(h:k<N):firstN N (k+1)=firstN N k ++ [⟨k,h⟩]:=by
 rw[firstN,List.take_add_one,Lge (by simpa using h)];simp[firstN]
def Keep2 (A B:Nat)(W W':World):Prop:=W'.heap[A]? = W.heap[A]?∧W'.heap[B]? = W.heap[B]?
theorem keep2_t {A B:Nat}{U V W:World}(h:Keep2 A B U V)(k:Keep2 A B V W):Keep2 A B U W:=⟨k.1.trans h.1,k.2.trans h.2⟩
theorem keep2_b {A B Z:Nat}(hA:A<Z)(hB:B<Z)(W:World)(l:Nat)(o o':Obj)(hl:Z≤l)(_:W.heap[l]? = some o)(_:o.isCells=false)(_:o.isWalk=false):Keep2 A B W (W.putObj l o') :=
 ⟨World.putObj_heap_other (by omega),World.putObj_heap_other (by omega)⟩
theorem Keep2.cell1 {A B:Nat}{W W':World}(h:Keep2 A B W W')(o:Nat):W'.cell? ⟨A,o,none⟩=W.cell? ⟨A,o,none⟩:=World.cell?_of_block (a:=⟨A,o,none⟩) h.1
theorem Keep2.cell2 {A B:Nat}{W W':World}(h:Keep2 A B W W')(o:Nat):W'.cell? ⟨B,o,none⟩=W.cell? ⟨B,o,none⟩:=World.cell?_of_block (a:=⟨B,o,none⟩) h.2
def spotV (s1 s2 i:Nat):Array Value:=#[.agg #[.int .i64 ((i / (s1*s2):Nat):Int),.int .i64 ((i / s2%s1:Nat):Int),.int .i64 ((i%s2:Nat):Int)]]
theorem spots1_in (n:Nat)(hn:1≤n)(l Bn b o s0 s1 s2 N c:Nat)(ok:Me.Ok [s0,s1,s2])(hN:Me.pr [s0,s1,s2]=N)(J Jx:List (Fin N)→World→Prop)
  (hY:∀pre (x:Fin N) W,J pre W→pre.length<N→YieldAt Fence.wide (n-1) Tryz.prog l (spotV s1 s2 x.val) W fun e W' =>
   (e = .returned (.bool true)∧J (pre ++ [x]) W'∧Keep2 Bn b W W')∨(e = .returned (.bool false)∧Jx (pre ++ [x]) W'))
  (hdr:∀pre W W',J pre W→(∃p:KW W,W'=p.wd)→J pre W')
  (W:World) (hk:W.cell? ⟨Bn,0,none⟩=some (.slice (some ⟨b,o,none⟩) 3 c)) (hr:Rd W (some ⟨b,o,none⟩) (nums .i64 [s0,s1,s2])) (h0:J [] W) :
  CallsIn Fence.wide n Tryz.prog 227 #[.func (.yield l) #[] #[],.pointer (some ⟨Bn,0,none⟩)] W fun e W'=>(∃v,e = .returned v)∧
   ((∃ys,ys=firstN N N∧J ys W')∨(∃pre,True∧Jx pre W')):=by
 have hc0:W.cell? ⟨b,o,none⟩=some (.int .i64 ((s0:Nat):Int)):=by
  obtain⟨b',o',e,h⟩:=hr 0 _ rfl;cases e;exact h
 have hc1:W.cell? ⟨b,o+1,none⟩=some (.int .i64 ((s1:Nat):Int)):=by
  obtain⟨b',o',e,h⟩:=hr 1 _ rfl;cases e;exact h
 have hc2:W.cell? ⟨b,o+2,none⟩=some (.int .i64 ((s2:Nat):Int)):=by
  obtain⟨b',o',e,h⟩:=hr 2 _ rfl;cases e;exact h
 have g1:1≤s1∧s1≤64:=ok.each s1 (by simp);have g2:1≤s2∧s2≤64:=ok.each s2 (by simp);have hN6:N≤4096:=by rw[← hN];exact ok.most
 have HC:=Lib.hid (aI hk (aI hc0 (aI hc1 hc2)));have HOk:=Lib.hid (aI ok hN);have HR:=Lib.hid hr;have HJd:=Lib.hid hdr;have hY':=Lib.hid hY;clear hk hc0 hc1 hc2 hr ok hN hdr hY;refine callsIn_of_wp Tryz.func227 rfl trivial ?_ rfl;simp only[Tryz.ntmps227,List.size_toArray,List.length_cons,List.length_nil,Nat.reduceAdd,Nat.reduceSub,Array.replicate_succ,Array.replicate_zero,List.push_toArray,List.append_toArray,List.nil_append,List.cons_append];have hcell:=HC.out.1;gi_wp2;refine⟨trivial,(callsIn_wide.2 (size_ok (n:=3) (c:=c) HR.out rfl HOk.out.1 HOk.out.2)).mono ?_⟩;rintro e w1 ⟨rfl,rfl⟩;clear hcell;gi_wp2
 gi_loopw [6] (fun i wr=>∃k:Nat,k≤N∧i = .int .i64 ((k:Nat):Int)∧J (firstN _ k) wr∧Hid (Keep2 Bn b W wr))
  (fun i _=>N-(intOf i).toNat)
 case atStart=>exact⟨0,Nat.zero_le _,rfl,h0,rfl,rfl⟩
 case round =>
  obtain⟨k,hkN,rfl,hJ,hB⟩:=hrel;have q0:=KW.cell ((hB.out.cell1 0).trans HC.out.1);have q1:=KW.cell ((hB.out.cell2 o).trans HC.out.2.1);have q2:=KW.cell ((hB.out.cell2 (o+1)).trans HC.out.2.2.1);have q3:=KW.cell ((hB.out.cell2 (o+2)).trans HC.out.2.2.2);have HJ:=Lib.hid hJ;clear hJ
  by_cases hlt:k<N
  ·have hlt':(k:Int)<(N:Nat):=by omega
   have hk0:(0:Int)≤(k:Nat):=by omega
   obtain⟨kc,hkc⟩:∃z,k / (s1*s2)=z:=⟨_,rfl⟩;obtain⟨kd,hkd⟩:∃z,k / s2=z:=⟨_,rfl⟩;obtain⟨ky,hky⟩:∃z,kd%s1=z:=⟨_,rfl⟩;obtain⟨kx,hkx⟩:∃z,k%s2=z:=⟨_,rfl⟩;obtain⟨m,hm⟩:∃m,s1*s2=m:=⟨_,rfl⟩;have hm1:1≤m:=by rw[← hm];exact Nat.mul_pos g1.1 g2.1
   have hm2:m≤4096:=by rw[← hm];exact Nat.mul_le_mul g1.2 g2.2
   rw[hm]at hkc;have e0:IntKind.i64.wrap ((s1:Int)*(s2:Int))=((m:Nat):Int):=by rw[show(s1:Int)*(s2:Int)=((m:Nat):Int) by rw[← hm];push_cast;rfl];exact IntWalk.i64_in _ (by omega)
   have d1:(k:Int).tdiv (m:Int)=((kc:Nat):Int):=by rw[Int.tdiv_eq_ediv_of_nonneg (by omega),← hkc];omega
   have d1':(k:Int) / (m:Int)=((kc:Nat):Int):=by rw[← hkc];omega
   have d2:(k:Int).tdiv (s2:Int)=((kd:Nat):Int):=by rw[Int.tdiv_eq_ediv_of_nonneg (by omega),← hkd];omega
   have d2':(k:Int) / (s2:Int)=((kd:Nat):Int):=by rw[← hkd];omega
   have d3:(kd:Int).tmod (s1:Int)=((ky:Nat):Int):=by rw[Int.tmod_eq_emod_of_nonneg (by omega),← hky];omega
   have d3':(kd:Int)%(s1:Int)=((ky:Nat):Int):=by rw[← hky];omega
   have d4:(k:Int).tmod (s2:Int)=((kx:Nat):Int):=by rw[Int.tmod_eq_emod_of_nonneg (by omega),← hkx];omega
   have d4':(k:Int)%(s2:Int)=((kx:Nat):Int):=by rw[← hkx];omega
   have b1:kc≤4096:=by rw[← hkc];exact Nat.le_trans (Nat.div_le_self _ _) (by omega)
   have b2:kd≤4096:=by rw[← hkd];exact Nat.le_trans (Nat.div_le_self _ _) (by omega)
   have z1:((s1:Int)==0)=false:=by simp;omega
   have z2:((s2:Int)==0)=false:=by simp;omega
   have z3:((m:Int)==0)=false:=by simp;omega
   have w1:IntKind.i64.wrap ((kc:Nat):Int)=((kc:Nat):Int):=IntWalk.i64_in _ (by omega);have w2:IntKind.i64.wrap ((kd:Nat):Int)=((kd:Nat):Int):=IntWalk.i64_in _ (by omega);have HV:Hid (spotV s1 s2 k=#[.agg #[.int .i64 ((kc:Nat):Int),.int .i64 ((ky:Nat):Int),.int .i64 ((kx:Nat):Int)]]):=by show _=_;rw[spotV,hm,hkc,hkd,hky,hkx]
   gi_upto_region 3 with fail;refine wpIn_region_kept_tail 25 (by kernel_rfl) ?hB ?hC ?_
   case hC=>kernel_rfl
   case hB =>
    simp only[Region.lexTailB,Bool.and_eq_true];refine⟨⟨⟨⟨?h1,?h2⟩,?h3⟩,?h4⟩,?h5⟩
    case h1=>kernel_rfl
    case h2=>kernel_rfl
    case h3=>decide +kernel
    case h4=>kernel_rfl
    case h5=>kernel_rfl
   simp only[List.take_succ_cons,List.take_zero,List.drop_succ_cons,List.drop_zero];repeat (first|gi_big_quiet_step (fail)|quiet_step_in (fail))
   refine wpQuietIn_nil ?_;intro _ hw';obtain⟨kw,hw''⟩:=hw';subst hw'';obtain⟨wk,tk⟩:=kw;have tk:=Lib.hid tk;dsimp only;have HJk:=Lib.hid (HJd.out _ _ _ HJ.out ⟨⟨wk,tk.out⟩,rfl⟩);obtain⟨fn,tmps,assign,body,hy,hR⟩:=hY'.out (firstN N k) ⟨k,hlt⟩ wk HJk.out (by rw[firstN_length hkN];exact hlt);rw[HV.out]at hy;have hkb:Hid (Keep2 Bn b W wk):=keep2_t hB.out ⟨tk.out.block _ (lt_of_cell (q0 ⟨wr,Touch.refl _ _⟩)) id,tk.out.block _ (lt_of_cell (q1 ⟨wr,Touch.refl _ _⟩)) id⟩;clear q0 q1 q2 q3 d1 d1' d2 d2' d3 d3' d4 d4' e0 w1 w2 z1 z2 z3 hkc hkd hky hkx hm;gi_wp2;refine hR.mono ?_;rintro e W3 (⟨rfl,hJ3,hk3⟩|⟨rfl,hJx3⟩)
   ·have hB3:Hid (Keep2 Bn b W W3):=keep2_t hkb.out hk3
    have HJ3:=Lib.hid hJ3;clear hk3 hJ3 hy hR;gi_wp2
    go_roundw
    case rel=>exact⟨k+1,by omega,by go_num,by rw[firstN_next hlt];exact HJ3.out,hB3⟩
    case measure=>simp[intOf];omega
   ·gi_wp2
    refine bodyPost_ret (results_none rfl _ _ _) rfl ?_;exact⟨⟨_,rfl⟩,.inr ⟨_,trivial,hJx3⟩⟩
  ·obtain rfl:k=N:=by omega
   gi_wp2
   go_end0
   exact⟨⟨_,rfl⟩,.inl ⟨_,rfl,HJ.out⟩⟩
theorem spots_stops (n:Nat)(hn:1≤n)(Bn b o s0 s1 s2 N c:Nat)(ok:Me.Ok [s0,s1,s2])(hN:Me.pr [s0,s1,s2]=N)(w:World)(hBn:Bn<w.heap.size)(hb:b<w.heap.size)
  (hk:w.cell? ⟨Bn,0,none⟩=some (.slice (some ⟨b,o,none⟩) 3 c)) (hr:Rd w (some ⟨b,o,none⟩) (nums .i64 [s0,s1,s2])) :
  SeqStopsK Fence.wide n Tryz.prog 227 #[.pointer (some ⟨Bn,0,none⟩)] (fun x:Fin N=>spotV s1 s2 x.val) (Keep2 Bn b) (fun ys=>ys=firstN N N) (fun _=>True) N w:=fun l J Jx W hW hJ hJx hY h0 =>
 spots1_in n hn l Bn b o s0 s1 s2 N c ok hN J Jx hY (fun pre W1 W2 h1 ⟨p,e⟩=>by
  subst e;exact hJ pre W1 p.wd none h1 ⟨p.no.os,p.no.tape,p.no.output,p.no.size,fun k hk _=>p.no.block k hk id⟩ (fun r e=>by cases e)) W ((hW.cell (p:=⟨Bn,0,none⟩) hBn).trans hk) (fun i v hi=>by
  obtain⟨b',o',e,h⟩:=hr i v hi;cases e
  exact⟨_,_,rfl,(hW.cell (p:=⟨b,o+i,none⟩) hb).trans h⟩) h0
end
end Go.Proofs.YtjlphmmalebgpaaGreat
