/-
  A part of the proof.
-/
import Derived.Test.YtjlphmmalebgpaaGreatK29
set_option linter.unusedSimpArgs false
set_option linter.unusedVariables false
set_option maxHeartbeats 2000000
set_option maxRecDepth 100000
namespace Go.Proofs.YtjlphmmalebgpaaGreat
section
open Go Go.RowKit
section
variable {P:Program} {ops:Array Oper} {md:Region.Mode} {C:World→Prop}
def chain2B (md:Region.Mode)(ops:Array Oper)(n:Nat):Bool :=
 (List.range ops.size).all fun t=>decide (t≤n)||(List.range t).any fun j=>decide (n≤j)&&Region.waitsFor md ops t j
theorem tail_waits2 {n:Nat}{listed:Array Bool}(hs:Region.sinkB md ops n=true)(hc:chain2B md ops n=true)(hn:n<ops.size)(inv:HeadInv md ops n listed) :
  ∀(d i:Nat),n-i=d→i<n→listed.getD i true=false→∀t,n≤t→t∉Region.ready md ops listed:=by
 intro d
 induction d using Nat.strongRecOn with
 | _ d ih =>
   intro i hd hi hun t ht hr;obtain⟨_,ot,hot,hall⟩:=mem_ready.1 hr;have htlt:t<ops.size:=(Array.getElem?_eq_some_iff.1 hot).1
   by_cases htn:t=n
   ·subst htn
    have h1:=List.all_eq_true.1 hs i (List.mem_range.2 hi);obtain⟨j,hj,hj2⟩:=List.any_eq_true.1 h1;simp only[Bool.and_eq_true,decide_eq_true_eq]at hj2;obtain⟨oj,hoj,e,he,hb,hon⟩:=Region.waitsFor_spec hj2.2;have hjle:j≤t:=by have:=List.mem_range.1 hj;omega
    by_cases hjt:j=t
    ·subst hjt
     have:oj=ot:=Option.some.inj (hoj.symm.trans hot);subst this;have h2:=hall e he hb;rw[hon,getD_both hun]at h2;cases h2
    ·cases hl:listed.getD j false with
     | true =>
       have h2:=inv.closed j oj hoj hl e he hb;rw[hon,getD_both hun]at h2;cases h2
     | false =>
       have hjs:j<listed.size:=by rw[inv.size];omega
       exact ih (t-j) (by omega) j rfl (by omega) (getD_in hjs hl) t (Nat.le_refl _) hr
   ·have h1:=List.all_eq_true.1 hc t (List.mem_range.2 htlt)
    simp only[Bool.or_eq_true,decide_eq_true_eq]at h1;rcases h1 with h1|h1
    ·omega
    ·obtain⟨j,hj,hj2⟩:=List.any_eq_true.1 h1
     simp only[Bool.and_eq_true,decide_eq_true_eq]at hj2;have hjt:=List.mem_range.1 hj;obtain⟨o',ho',e,he,hb,hon⟩:=Region.waitsFor_spec hj2.2;have:o'=ot:=Option.some.inj (ho'.symm.trans hot);subst this;have h2:=hall e he hb;rw[hon,getD_both (inv.tail j hj2.1 (by omega))]at h2;cases h2
def lexHead2 (md:Region.Mode)(ops:Array Oper)(LN:Array Bool):Nat→Nat→Array Bool→Bool
 | 0,_,listed=>decide (listed=LN)
 | f+1,k,listed=>(Region.ready md ops listed).contains k&&Region.free md ops listed k&&lexHead2 md ops LN f (k+1) (listed.setIfInBounds k true)
def lexAnyB (md:Region.Mode)(ops:Array Oper)(n:Nat)(LN:Array Bool):Bool :=
 Region.noSelect ops&&decide (n<ops.size)&&Region.sinkB md ops n&&chain2B md ops n&&lexHead2 md ops LN n 0 (Array.replicate ops.size false)&&(Region.ready md ops LN).all (fun j=>decide (n≤j))
theorem qHead_first2 {n i:Nat}{oi:Oper}{v:Value}{L:Array Bool→Act→Prop}(hi:ops[i]? = some oi)(hsel:∀(j:Nat) (o:Oper) cs b,ops[j]? = some o→o.op≠.select cs b)
  (hs:Region.sinkB md ops n=true) (hc:chain2B md ops n=true) (hn:n<ops.size) (hin:i<n) (hdone:∀listed a,L listed a→∀j∈Region.ready md ops listed,n≤j) :
  ∀(f:Nat) (listed:Array Bool) (a:Act),HeadInv md ops n listed→
   (∀j oj,ops[j]? = some oj→j≠i→listed.getD j true=false→(∀e∈oj.after,Region.binds md e=true→e.on≠i)→oi.apart ops oj=true)→
   i∈Region.ready md ops listed→YieldsIn P ops C oi v a→
   qHead P md ops C n L f (listed.setIfInBounds i true) (a.put oi.dst v)→qHead P md ops C n L (f+1) listed a:=by
 intro f
 induction f with
 | zero =>
   intro listed a inv _ hr hy H;have hun:=(mem_ready.1 hr).1;refine⟨fun h=>(by rw[h]at hr;cases hr),fun j hj=>?_⟩;have hjn:j<n:=(Nat.lt_or_ge j n).elim id fun h=>absurd hj (tail_waits2 hs hc hn inv _ i rfl hin hun j h)
   refine⟨hjn,?_⟩
   by_cases hji:j=i
   ·subst hji;exact hy.qOp hi H
   ·have:=hdone _ _ H j (ready_mono hj hji)
    omega
 | succ f ih =>
   intro listed a inv hfree hr hy H;have hun:=(mem_ready.1 hr).1;refine⟨fun h=>(by rw[h]at hr;cases hr),fun j hj=>?_⟩;have hjn:j<n:=(Nat.lt_or_ge j n).elim id fun h=>absurd hj (tail_waits2 hs hc hn inv _ i rfl hin hun j h)
   refine⟨hjn,?_⟩
   by_cases hji:j=i
   ·subst hji;exact hy.qOp hi H
   ·have h1:=(H.2 j (ready_mono hj hji)).2
    obtain⟨hjun,oj,hoj,hall⟩:=mem_ready.1 hj
    have hnot:∀e∈oj.after,Region.binds md e=true→e.on≠i:=fun e he hb heq=>by
     have h1:=hall e he hb;rw[heq,getD_both hun]at h1;cases h1
    have h2:=qOp_put hoj (hfree j oj hoj hji hjun hnot) (fun cs b=>hsel i oi cs b hi) (fun cs b=>hsel j oj cs b hoj) hy h1
    have hfree':∀k ok,ops[k]? = some ok→k≠i→(listed.setIfInBounds j true).getD k true=false→
      (∀e∈ok.after,Region.binds md e=true→e.on≠i)→oi.apart ops ok=true:=fun k ok hk hki hun hno=>by
     refine hfree k ok hk hki ?_ hno
     by_cases hjk:j=k
     ·subst hjk;exact hjun
     ·rw[getD_set_ne true hjk]at hun;exact hun
    refine qOp_mono (fun a' h3=>ih (listed.setIfInBounds j true) a' (inv.set hj hjn) hfree' (ready_mono hr (Ne.symm hji)) h3.1 ?_) h2;rw[Array.setIfInBounds_comm _ _ hji];exact h3.2
theorem qHead_lex2 {n:Nat}{LN:Array Bool}(hLN:∀j∈Region.ready md ops LN,n≤j){Lq:Act→Prop}(hsel:Region.noSelect ops=true)(hs:Region.sinkB md ops n=true)(hc:chain2B md ops n=true)(hn:n<ops.size) :
  ∀(l:List Oper) (k:Nat) (listed:Array Bool) (a:Act),(∀j,j<l.length→l[j]? = ops[k+j]?)→k+l.length=n→HeadInv md ops n listed→
  lexHead2 md ops LN l.length k listed=true→wpQuiet P ops C Lq l a→
  qHead P md ops C n (fun listed' a'=>listed'=LN∧Lq a') l.length listed a
 | [],k,listed,a,_,hk,_,hB,h=>by
   have:k=n:=by simpa using hk
   subst this;exact⟨by simpa[lexHead2]using hB,h⟩
 | o::l,k,listed,a,hl,hk,inv,hB,h=>by
   have h0:ops[k]? = some o:=by simpa using (hl 0 (by simp)).symm
   simp only[List.length_cons,lexHead2,Bool.and_eq_true]at hB;obtain⟨⟨hr,hf⟩,hB'⟩:=hB;have hkn:k<n:=by simp only[List.length_cons]at hk;omega
   have hr':k∈Region.ready md ops listed:=by simpa using hr
   have hst:qOp P ops C k (wpQuiet P ops C Lq l) a:=by unfold qOp;simp only[h0];exact h
   obtain⟨v,hy,hK⟩:=yieldsIn_of_qOp h0 hst
   exact qHead_first2 h0 (Region.noSelect_spec hsel) hs hc hn hkn (fun listed' a' hL=>by rw[hL.1];exact hLN) l.length listed a inv (Region.free_spec h0 hf) hr' hy
    (qHead_lex2 hLN hsel hs hc hn l (k+1) _ _ (fun j hj=>by have:=hl (j+1) (by simp;omega);simpa[Nat.add_assoc,Nat.add_comm 1 j]using this) (by simp only[List.length_cons]at hk;omega) (inv.set hr' hkn) hB' hK)
theorem wp_region_kept_any {id:Nat}{Q:Exit→Act→World→Prop}{a:Act}{w:World}{l:List Oper}(n:Nat)(LN:Array Bool)(g:Nat)(hm:P.follows .mixedOrders=true)(hB:lexAnyB .any l.toArray n LN=true)(hg:l.length=n+g)
  (h:wpQuiet P l.toArray (fun w'=>∃p:KW w,w'=p.wd) (fun a'=>∀w',(∃p:KW w,w'=p.wd)→wpAny P .any l.toArray Q g LN a' w') (l.take n) a):(Code.region id l.toArray true).wp P Q a w:=by
 simp only[lexAnyB,Bool.and_eq_true,decide_eq_true_eq]at hB;obtain⟨⟨⟨⟨⟨hsel,hn⟩,hs⟩,hc⟩,hlex⟩,hrd⟩:=hB;have hn':n<l.length:=by simpa using hn
 have htl:(l.take n).length=n:=by simp;omega
 have inv0:HeadInv .any l.toArray n (Array.replicate l.toArray.size false) :=
  ⟨by simp,fun j oj _ hl=>(by rw[getD_replicate_false]at hl;cases hl),fun t _ ht=>getD_in (by simpa using ht) (getD_replicate_false _ _)⟩
 have hLN:∀j∈Region.ready .any l.toArray LN,n≤j:=fun j hj=>by
  have:=List.all_eq_true.1 hrd j hj;exact of_decide_eq_true this
 have H:=qHead_lex2 (md:=.any) hLN hsel hs hc hn (l.take n) 0 _ a (fun j hj=>by
  have hj':j<n:=by rw[htl]at hj;exact hj
  simp[hj']) (by simpa using htl) inv0 (by rw[htl];exact hlex) h
 refine wp_region_any hm ?_
 have:=wpAny_of_qHead (Q':=Q) (g:=g) (fun listed a' w' hw' hL=>by
  rw[hL.1];exact hL.2 w' hw') _ _ _ _ ⟨⟨_,(Touch.refl No w).drew⟩,rfl⟩ H
 rw[htl,← hg]at this
 simpa using this
end
end
section
open Go Go.RowKit
theorem TIn.box {w w1 w' w9:World}{X:Nat}{sa la:Option Addr}{n c m d:Nat}{S:List Nat}{L:List Int}(t1:Touch No w w1)(hX:w.heap.size≤X)(hX1:X<w1.heap.size)(h:TIn w' sa n c la m d S L)(t:Touch No w1 w')(n1:NewA w1 sa)(n2:NewA w1 la)(t9:Touch (One X) w' w9) :
  TIn w9 sa n c la m d S L∧Touch No w w9∧NewA w sa∧NewA w la:=by
 refine⟨{h with sr:=h.sr.touch t9 fun b o e _ hF=>?_,lr:=h.lr.touch t9 fun b o e _ hF=>?_},(t1.trans t).oneNo t9 hX,fun ad e=>Nat.le_trans t1.size (n1 ad e),fun ad e=>Nat.le_trans t1.size (n2 ad e)⟩
 ·have h1:=n1 _ e
  have:b=X:=hF;dsimp only at h1;omega
 ·have h1:=n2 _ e
  have:b=X:=hF;dsimp only at h1;omega
theorem rows_3 (w:World)(A B C:List Value)(T1 T2 T3:TypeId):∃w1,w1=((w.alloc (.cells A.toArray T1)).alloc (.cells B.toArray T2)).alloc (.cells C.toArray T3)∧Touch No w w1∧Row w1 w.heap.size T1 A∧Row w1 (w.heap.size+1) T2 B∧Row w1 (w.heap.size+1+1) T3 C∧w1.heap.size=w.heap.size+3:=by
 obtain⟨w1,h0,h1,h2,h3,h4,h5⟩:=rows_TIT w A.toArray B.toArray C.toArray T1 T2 T3;exact⟨w1,h0,h1,by simpa using h2,by simpa using h3,by simpa using h4,h5⟩
theorem rows_2 (w:World)(A B:List Value)(T1 T2:TypeId):∃w1,w1=(w.alloc (.cells A.toArray T1)).alloc (.cells B.toArray T2)∧Touch No w w1∧Row w1 w.heap.size T1 A∧Row w1 (w.heap.size+1) T2 B∧w1.heap.size=w.heap.size+2:=by
 obtain⟨w1,h0,h1,h2,h3,h4⟩:=rows_TT w A.toArray B.toArray T1 T2;exact⟨w1,h0,h1,by simpa using h2,by simpa using h3,h4⟩
theorem deed1_in (w:World)(ia ps sa la:Option Addr)(kd ni ci np cp n c m d:Nat)(N P:Int)(S:List Nat)(L:List Int)(hC:∀wx:World,Touch No w wx→Calls Tryz.prog 144 #[.agg #[.slice sa n c,.slice la m d]] wx (TOut wx S L)) :
  Calls Tryz.prog 143 #[.agg #[.int .u8 ((kd:Nat):Int),.slice ia ni ci,.slice ps np cp,.int .i64 N,.int .i64 P],.agg #[.slice sa n c,.slice la m d]] w (TOut w S L):=by
 have HC:=Lib.hid hC;clear hC;go_enter Tryz.func143,Tryz.ntmps143;go_upto_region 1 with fail;obtain⟨w1,hw1,t1,b1,b2,b3,hsz⟩:=rows_3 w [.int .u8 ((kd:Nat):Int),.slice ia ni ci,.slice ps np cp,.int .i64 N,.int .i64 P] [.slice sa n c,.slice la m d] [.slice none 0 0,.slice none 0 0] 55 51 51;rw[← hw1];have HT:=Lib.hid (aI t1 (show w.heap.size+1+1<w1.heap.size by omega));have HB:=Lib.hid b3;have k0:=b2.c0;have k1:=b2.c1;clear hw1 t1 b1 b2 b3;go_wp2_with fail;refine(HC.out w1 HT.out.1).mono ?_;rintro e w2 ⟨sa2,n2,c2,la2,m2,d2,rfl,hT,t2,g1,g2⟩;have HX:=Lib.hid (aI hT (aI t2 (aI g1 (aI g2 (HB.out.touch t2 id)))));clear hT t2 g1 g2;go_wp2_with (refine wpList_store_mid rfl 51 _ _ rfl (w.heap.size+1+1) 0 51 [.slice none 0 0,.slice none 0 0] HX.out.2.2.2.2 rfl [.slice sa2 n2 c2,.slice la2 m2 d2] rfl (by kernel_rfl) (by simp) (by intro v hv;simp at hv;rcases hv with rfl|rfl <;> rfl) ?_);obtain⟨w9,hw9⟩:∃w9,w9=w2.setRow (w.heap.size+1+1) (splice [.slice none 0 0,.slice none 0 0] 0 [.slice sa2 n2 c2,.slice la2 m2 d2]).toArray:=⟨_,rfl⟩;have R9:Row w9 (w.heap.size+1+1) 51 [.slice sa2 n2 c2,.slice la2 m2 d2]:=by rw[hw9];exact HX.out.2.2.2.2.setRow _
 have HN:=Lib.hid (TIn.box HT.out.1 (X:=w.heap.size+1+1) (by omega) HT.out.2 HX.out.1 HX.out.2.1 HX.out.2.2.1 HX.out.2.2.2.1 (show Touch (One (w.heap.size+1+1)) w2 w9 by rw[hw9];exact Touch.setOne _ _ _));have y0:=R9.c0;have y1:=R9.c1;rw[← hw9];clear hw9 R9 HX;go_wp2;refine bodyPost_ret (v:=.tuple #[.agg #[.slice sa2 n2 c2,.slice la2 m2 d2],.int .i64 0]) (by simp[results,Tryz.results143,go_sem,y0,y1]) rfl ?_;exact⟨sa2,n2,c2,la2,m2,d2,rfl,HN.out⟩
theorem deed2_in (w:World)(ia ps sa la:Option Addr)(kd ni ci np cp n c m d:Nat)(N P:Int)(S:List Nat)(L:List Int)(hC:∀wx:World,Touch No w wx→Calls Tryz.prog 146 #[.agg #[.slice sa n c,.slice la m d],.int .i64 N] wx (TOut wx S L)) :
  Calls Tryz.prog 145 #[.agg #[.int .u8 ((kd:Nat):Int),.slice ia ni ci,.slice ps np cp,.int .i64 N,.int .i64 P],.agg #[.slice sa n c,.slice la m d]] w (TOut w S L):=by
 have HC:=Lib.hid hC;clear hC;go_enter Tryz.func145,Tryz.ntmps145;go_upto_region 1 with fail;obtain⟨w1,hw1,t1,b1,b2,b3,hsz⟩:=rows_3 w [.int .u8 ((kd:Nat):Int),.slice ia ni ci,.slice ps np cp,.int .i64 N,.int .i64 P] [.slice sa n c,.slice la m d] [.slice none 0 0,.slice none 0 0] 55 51 51;rw[← hw1];have HT:=Lib.hid (aI t1 (show w.heap.size+1+1<w1.heap.size by omega));have HB:=Lib.hid b3;have k0:=b2.c0;have k1:=b2.c1;have k3:=b1.cell 3;simp only[Lz0,Ls0]at k3;clear hw1 t1 b1 b2 b3;go_wp2_with fail;refine(HC.out w1 HT.out.1).mono ?_;rintro e w2 ⟨sa2,n2,c2,la2,m2,d2,rfl,hT,t2,g1,g2⟩;have HX:=Lib.hid (aI hT (aI t2 (aI g1 (aI g2 (HB.out.touch t2 id)))));clear hT t2 g1 g2;go_wp2_with (refine wpList_store_mid rfl 51 _ _ rfl (w.heap.size+1+1) 0 51 [.slice none 0 0,.slice none 0 0] HX.out.2.2.2.2 rfl [.slice sa2 n2 c2,.slice la2 m2 d2] rfl (by kernel_rfl) (by simp) (by intro v hv;simp at hv;rcases hv with rfl|rfl <;> rfl) ?_);obtain⟨w9,hw9⟩:∃w9,w9=w2.setRow (w.heap.size+1+1) (splice [.slice none 0 0,.slice none 0 0] 0 [.slice sa2 n2 c2,.slice la2 m2 d2]).toArray:=⟨_,rfl⟩;have R9:Row w9 (w.heap.size+1+1) 51 [.slice sa2 n2 c2,.slice la2 m2 d2]:=by rw[hw9];exact HX.out.2.2.2.2.setRow _
 have HN:=Lib.hid (TIn.box HT.out.1 (X:=w.heap.size+1+1) (by omega) HT.out.2 HX.out.1 HX.out.2.1 HX.out.2.2.1 HX.out.2.2.2.1 (show Touch (One (w.heap.size+1+1)) w2 w9 by rw[hw9];exact Touch.setOne _ _ _));have y0:=R9.c0;have y1:=R9.c1;rw[← hw9];clear hw9 R9 HX;go_wp2;refine bodyPost_ret (v:=.tuple #[.agg #[.slice sa2 n2 c2,.slice la2 m2 d2],.int .i64 0]) (by simp[results,Tryz.results145,go_sem,y0,y1]) rfl ?_;exact⟨sa2,n2,c2,la2,m2,d2,rfl,HN.out⟩
theorem deed3_in (w:World)(ia ps sa la:Option Addr)(kd ni ci np cp n c m d:Nat)(N P:Int)(S:List Nat)(L:List Int)(hC:∀wx:World,Touch No w wx→Calls Tryz.prog 148 #[.agg #[.slice sa n c,.slice la m d],.int .i64 N] wx (TOut wx S L)) :
  Calls Tryz.prog 147 #[.agg #[.int .u8 ((kd:Nat):Int),.slice ia ni ci,.slice ps np cp,.int .i64 N,.int .i64 P],.agg #[.slice sa n c,.slice la m d]] w (TOut w S L):=by
 have HC:=Lib.hid hC;clear hC;go_enter Tryz.func147,Tryz.ntmps147;go_upto_region 1 with fail;obtain⟨w1,hw1,t1,b1,b2,b3,hsz⟩:=rows_3 w [.int .u8 ((kd:Nat):Int),.slice ia ni ci,.slice ps np cp,.int .i64 N,.int .i64 P] [.slice sa n c,.slice la m d] [.slice none 0 0,.slice none 0 0] 55 51 51;rw[← hw1];have HT:=Lib.hid (aI t1 (show w.heap.size+1+1<w1.heap.size by omega));have HB:=Lib.hid b3;have k0:=b2.c0;have k1:=b2.c1;have k3:=b1.cell 3;simp only[Lz0,Ls0]at k3;clear hw1 t1 b1 b2 b3;go_wp2_with fail;refine(HC.out w1 HT.out.1).mono ?_;rintro e w2 ⟨sa2,n2,c2,la2,m2,d2,rfl,hT,t2,g1,g2⟩;have HX:=Lib.hid (aI hT (aI t2 (aI g1 (aI g2 (HB.out.touch t2 id)))));clear hT t2 g1 g2;go_wp2_with (refine wpList_store_mid rfl 51 _ _ rfl (w.heap.size+1+1) 0 51 [.slice none 0 0,.slice none 0 0] HX.out.2.2.2.2 rfl [.slice sa2 n2 c2,.slice la2 m2 d2] rfl (by kernel_rfl) (by simp) (by intro v hv;simp at hv;rcases hv with rfl|rfl <;> rfl) ?_);obtain⟨w9,hw9⟩:∃w9,w9=w2.setRow (w.heap.size+1+1) (splice [.slice none 0 0,.slice none 0 0] 0 [.slice sa2 n2 c2,.slice la2 m2 d2]).toArray:=⟨_,rfl⟩;have R9:Row w9 (w.heap.size+1+1) 51 [.slice sa2 n2 c2,.slice la2 m2 d2]:=by rw[hw9];exact HX.out.2.2.2.2.setRow _
 have HN:=Lib.hid (TIn.box HT.out.1 (X:=w.heap.size+1+1) (by omega) HT.out.2 HX.out.1 HX.out.2.1 HX.out.2.2.1 HX.out.2.2.2.1 (show Touch (One (w.heap.size+1+1)) w2 w9 by rw[hw9];exact Touch.setOne _ _ _));have y0:=R9.c0;have y1:=R9.c1;rw[← hw9];clear hw9 R9 HX;go_wp2;refine bodyPost_ret (v:=.tuple #[.agg #[.slice sa2 n2 c2,.slice la2 m2 d2],.int .i64 0]) (by simp[results,Tryz.results147,go_sem,y0,y1]) rfl ?_;exact⟨sa2,n2,c2,la2,m2,d2,rfl,HN.out⟩
theorem deed4_in (w:World)(ia ps sa la:Option Addr)(kd ni ci np cp n c m d:Nat)(N P:Int)(S:List Nat)(L:List Int)(hC:∀wx:World,Touch No w wx→Calls Tryz.prog 150 #[.agg #[.slice sa n c,.slice la m d],.slice ps np cp] wx (TOut wx S L)) :
  Calls Tryz.prog 149 #[.agg #[.int .u8 ((kd:Nat):Int),.slice ia ni ci,.slice ps np cp,.int .i64 N,.int .i64 P],.agg #[.slice sa n c,.slice la m d]] w (TOut w S L):=by
 have HC:=Lib.hid hC;clear hC;go_enter Tryz.func149,Tryz.ntmps149;go_upto_region 1 with fail;obtain⟨w1,hw1,t1,b1,b2,b3,hsz⟩:=rows_3 w [.int .u8 ((kd:Nat):Int),.slice ia ni ci,.slice ps np cp,.int .i64 N,.int .i64 P] [.slice sa n c,.slice la m d] [.slice none 0 0,.slice none 0 0] 55 51 51;rw[← hw1];have HT:=Lib.hid (aI t1 (show w.heap.size+1+1<w1.heap.size by omega));have HB:=Lib.hid b3;have k0:=b2.c0;have k1:=b2.c1;have k3:=b1.cell 2;simp only[Lz0,Ls0]at k3;clear hw1 t1 b1 b2 b3;go_wp2_with fail;refine(HC.out w1 HT.out.1).mono ?_;rintro e w2 ⟨sa2,n2,c2,la2,m2,d2,rfl,hT,t2,g1,g2⟩;have HX:=Lib.hid (aI hT (aI t2 (aI g1 (aI g2 (HB.out.touch t2 id)))));clear hT t2 g1 g2;go_wp2_with (refine wpList_store_mid rfl 51 _ _ rfl (w.heap.size+1+1) 0 51 [.slice none 0 0,.slice none 0 0] HX.out.2.2.2.2 rfl [.slice sa2 n2 c2,.slice la2 m2 d2] rfl (by kernel_rfl) (by simp) (by intro v hv;simp at hv;rcases hv with rfl|rfl <;> rfl) ?_);obtain⟨w9,hw9⟩:∃w9,w9=w2.setRow (w.heap.size+1+1) (splice [.slice none 0 0,.slice none 0 0] 0 [.slice sa2 n2 c2,.slice la2 m2 d2]).toArray:=⟨_,rfl⟩;have R9:Row w9 (w.heap.size+1+1) 51 [.slice sa2 n2 c2,.slice la2 m2 d2]:=by rw[hw9];exact HX.out.2.2.2.2.setRow _
 have HN:=Lib.hid (TIn.box HT.out.1 (X:=w.heap.size+1+1) (by omega) HT.out.2 HX.out.1 HX.out.2.1 HX.out.2.2.1 HX.out.2.2.2.1 (show Touch (One (w.heap.size+1+1)) w2 w9 by rw[hw9];exact Touch.setOne _ _ _));have y0:=R9.c0;have y1:=R9.c1;rw[← hw9];clear hw9 R9 HX;go_wp2;refine bodyPost_ret (v:=.tuple #[.agg #[.slice sa2 n2 c2,.slice la2 m2 d2],.int .i64 0]) (by simp[results,Tryz.results149,go_sem,y0,y1]) rfl ?_;exact⟨sa2,n2,c2,la2,m2,d2,rfl,HN.out⟩
theorem deed5_in (w:World)(ia ps sa la:Option Addr)(kd ni ci np cp n c m d:Nat)(N P:Int)(S:List Nat)(L:List Int)(hC:∀wx:World,Touch No w wx→Calls Tryz.prog 152 #[.agg #[.slice sa n c,.slice la m d],.slice ps np cp] wx (TOut wx S L)) :
  Calls Tryz.prog 151 #[.agg #[.int .u8 ((kd:Nat):Int),.slice ia ni ci,.slice ps np cp,.int .i64 N,.int .i64 P],.agg #[.slice sa n c,.slice la m d]] w (TOut w S L):=by
 have HC:=Lib.hid hC;clear hC;go_enter Tryz.func151,Tryz.ntmps151;go_upto_region 1 with fail;obtain⟨w1,hw1,t1,b1,b2,b3,hsz⟩:=rows_3 w [.int .u8 ((kd:Nat):Int),.slice ia ni ci,.slice ps np cp,.int .i64 N,.int .i64 P] [.slice sa n c,.slice la m d] [.slice none 0 0,.slice none 0 0] 55 51 51;rw[← hw1];have HT:=Lib.hid (aI t1 (show w.heap.size+1+1<w1.heap.size by omega));have HB:=Lib.hid b3;have k0:=b2.c0;have k1:=b2.c1;have k3:=b1.cell 2;simp only[Lz0,Ls0]at k3;clear hw1 t1 b1 b2 b3;go_wp2_with fail;refine(HC.out w1 HT.out.1).mono ?_;rintro e w2 ⟨sa2,n2,c2,la2,m2,d2,rfl,hT,t2,g1,g2⟩;have HX:=Lib.hid (aI hT (aI t2 (aI g1 (aI g2 (HB.out.touch t2 id)))));clear hT t2 g1 g2;go_wp2_with (refine wpList_store_mid rfl 51 _ _ rfl (w.heap.size+1+1) 0 51 [.slice none 0 0,.slice none 0 0] HX.out.2.2.2.2 rfl [.slice sa2 n2 c2,.slice la2 m2 d2] rfl (by kernel_rfl) (by simp) (by intro v hv;simp at hv;rcases hv with rfl|rfl <;> rfl) ?_);obtain⟨w9,hw9⟩:∃w9,w9=w2.setRow (w.heap.size+1+1) (splice [.slice none 0 0,.slice none 0 0] 0 [.slice sa2 n2 c2,.slice la2 m2 d2]).toArray:=⟨_,rfl⟩;have R9:Row w9 (w.heap.size+1+1) 51 [.slice sa2 n2 c2,.slice la2 m2 d2]:=by rw[hw9];exact HX.out.2.2.2.2.setRow _
 have HN:=Lib.hid (TIn.box HT.out.1 (X:=w.heap.size+1+1) (by omega) HT.out.2 HX.out.1 HX.out.2.1 HX.out.2.2.1 HX.out.2.2.2.1 (show Touch (One (w.heap.size+1+1)) w2 w9 by rw[hw9];exact Touch.setOne _ _ _));have y0:=R9.c0;have y1:=R9.c1;rw[← hw9];clear hw9 R9 HX;go_wp2;refine bodyPost_ret (v:=.tuple #[.agg #[.slice sa2 n2 c2,.slice la2 m2 d2],.int .i64 0]) (by simp[results,Tryz.results151,go_sem,y0,y1]) rfl ?_;exact⟨sa2,n2,c2,la2,m2,d2,rfl,HN.out⟩
theorem deed6_in (w:World)(ia ps sa la:Option Addr)(kd ni ci np cp n c m d:Nat)(N P:Int)(S:List Nat)(L:List Int)(hC:∀wx:World,Touch No w wx→Calls Tryz.prog 154 #[.agg #[.slice sa n c,.slice la m d],.int .i64 N] wx (TOut wx S L)) :
  Calls Tryz.prog 153 #[.agg #[.int .u8 ((kd:Nat):Int),.slice ia ni ci,.slice ps np cp,.int .i64 N,.int .i64 P],.agg #[.slice sa n c,.slice la m d]] w (TOut w S L):=by
 have HC:=Lib.hid hC;clear hC;go_enter Tryz.func153,Tryz.ntmps153;go_upto_region 1 with fail;obtain⟨w1,hw1,t1,b1,b2,b3,hsz⟩:=rows_3 w [.int .u8 ((kd:Nat):Int),.slice ia ni ci,.slice ps np cp,.int .i64 N,.int .i64 P] [.slice sa n c,.slice la m d] [.slice none 0 0,.slice none 0 0] 55 51 51;rw[← hw1];have HT:=Lib.hid (aI t1 (show w.heap.size+1+1<w1.heap.size by omega));have HB:=Lib.hid b3;have k0:=b2.c0;have k1:=b2.c1;have k3:=b1.cell 3;simp only[Lz0,Ls0]at k3;clear hw1 t1 b1 b2 b3;go_wp2_with fail;refine(HC.out w1 HT.out.1).mono ?_;rintro e w2 ⟨sa2,n2,c2,la2,m2,d2,rfl,hT,t2,g1,g2⟩;have HX:=Lib.hid (aI hT (aI t2 (aI g1 (aI g2 (HB.out.touch t2 id)))));clear hT t2 g1 g2;go_wp2_with (refine wpList_store_mid rfl 51 _ _ rfl (w.heap.size+1+1) 0 51 [.slice none 0 0,.slice none 0 0] HX.out.2.2.2.2 rfl [.slice sa2 n2 c2,.slice la2 m2 d2] rfl (by kernel_rfl) (by simp) (by intro v hv;simp at hv;rcases hv with rfl|rfl <;> rfl) ?_);obtain⟨w9,hw9⟩:∃w9,w9=w2.setRow (w.heap.size+1+1) (splice [.slice none 0 0,.slice none 0 0] 0 [.slice sa2 n2 c2,.slice la2 m2 d2]).toArray:=⟨_,rfl⟩;have R9:Row w9 (w.heap.size+1+1) 51 [.slice sa2 n2 c2,.slice la2 m2 d2]:=by rw[hw9];exact HX.out.2.2.2.2.setRow _
 have HN:=Lib.hid (TIn.box HT.out.1 (X:=w.heap.size+1+1) (by omega) HT.out.2 HX.out.1 HX.out.2.1 HX.out.2.2.1 HX.out.2.2.2.1 (show Touch (One (w.heap.size+1+1)) w2 w9 by rw[hw9];exact Touch.setOne _ _ _));have y0:=R9.c0;have y1:=R9.c1;rw[← hw9];clear hw9 R9 HX;go_wp2;refine bodyPost_ret (v:=.tuple #[.agg #[.slice sa2 n2 c2,.slice la2 m2 d2],.int .i64 0]) (by simp[results,Tryz.results153,go_sem,y0,y1]) rfl ?_;exact⟨sa2,n2,c2,la2,m2,d2,rfl,HN.out⟩
theorem deed8_in (w:World)(ia ps a:Option Addr)(kd ni ci np cp k kc:Nat)(N P:Int)(S:List Nat)(L:List Int)(hC:∀wx:World,Touch No w wx→Calls Tryz.prog 158 #[.slice a k kc,.int .i64 N] wx (TOut wx S L)) :
  Calls Tryz.prog 157 #[.agg #[.int .u8 ((kd:Nat):Int),.slice ia ni ci,.slice ps np cp,.int .i64 N,.int .i64 P],.slice a k kc] w (TOut w S L):=by
 have HC:=Lib.hid hC;clear hC;go_enter Tryz.func157,Tryz.ntmps157;go_upto_region 1 with fail;obtain⟨w1,hw1,t1,b1,b3,hsz⟩:=rows_2 w [.int .u8 ((kd:Nat):Int),.slice ia ni ci,.slice ps np cp,.int .i64 N,.int .i64 P] [.slice none 0 0,.slice none 0 0] 55 51;rw[← hw1];have HT:=Lib.hid (aI t1 (show w.heap.size+1<w1.heap.size by omega));have HB:=Lib.hid b3;have k3:=b1.cell 3;simp only[Lz0,Ls0]at k3;clear hw1 t1 b1 b3;go_wp2_with fail;refine(HC.out w1 HT.out.1).mono ?_;rintro e w2 ⟨sa2,n2,c2,la2,m2,d2,rfl,hT,t2,g1,g2⟩;have HX:=Lib.hid (aI hT (aI t2 (aI g1 (aI g2 (HB.out.touch t2 id)))));clear hT t2 g1 g2;go_wp2_with (refine wpList_store_mid rfl 51 _ _ rfl (w.heap.size+1) 0 51 [.slice none 0 0,.slice none 0 0] HX.out.2.2.2.2 rfl [.slice sa2 n2 c2,.slice la2 m2 d2] rfl (by kernel_rfl) (by simp) (by intro v hv;simp at hv;rcases hv with rfl|rfl <;> rfl) ?_);obtain⟨w9,hw9⟩:∃w9,w9=w2.setRow (w.heap.size+1) (splice [.slice none 0 0,.slice none 0 0] 0 [.slice sa2 n2 c2,.slice la2 m2 d2]).toArray:=⟨_,rfl⟩;have R9:Row w9 (w.heap.size+1) 51 [.slice sa2 n2 c2,.slice la2 m2 d2]:=by rw[hw9];exact HX.out.2.2.2.2.setRow _
 have HN:=Lib.hid (TIn.box HT.out.1 (X:=w.heap.size+1) (by omega) HT.out.2 HX.out.1 HX.out.2.1 HX.out.2.2.1 HX.out.2.2.2.1 (show Touch (One (w.heap.size+1)) w2 w9 by rw[hw9];exact Touch.setOne _ _ _));have y0:=R9.c0;have y1:=R9.c1;rw[← hw9];clear hw9 R9 HX;go_wp2;refine bodyPost_ret (v:=.tuple #[.agg #[.slice sa2 n2 c2,.slice la2 m2 d2],.int .i64 0]) (by simp[results,Tryz.results157,go_sem,y0,y1]) rfl ?_;exact⟨sa2,n2,c2,la2,m2,d2,rfl,HN.out⟩
theorem one1_in (w:World)(ia ps sa la:Option Addr)(b o B kd ni ci np cp k kc n c m d g:Nat)(N P:Int)(S:List Nat)(L:List Int)(hk:0<k)(h0:w.cell? ⟨b,o,none⟩=some (.slice sa n c))(h1:w.cell? ⟨b,o+1,none⟩=some (.slice la m d))(hB:w.cell? ⟨B,0,none⟩=some (.func (.func g) #[] #[]))
  (hf:∀(args:Array Value) (wx:World),(callFunc g args).run Tryz.prog wx = .ok (.enter g args) wx) (hC:∀wx:World,Touch No w wx→Calls Tryz.prog g #[.agg #[.int .u8 ((kd:Nat):Int),.slice ia ni ci,.slice ps np cp,.int .i64 N,.int .i64 P],.agg #[.slice sa n c,.slice la m d]] wx (TOut wx S L)) :
  Calls Tryz.prog 195 #[.agg #[.int .u8 ((kd:Nat):Int),.slice ia ni ci,.slice ps np cp,.int .i64 N,.int .i64 P],.slice (some ⟨b,o,none⟩) k kc,.pointer (some ⟨B,0,none⟩)] w (TOut w S L):=by
 have HC:=Lib.hid hC;have HK:=Lib.hid (aI h0 (aI h1 hB));have hk0:(0:Int)<(k:Nat):=by omega
 clear hC h0 h1 hB hk;go_enter Tryz.func195,Tryz.ntmps195;go_upto_region 1 with fail;obtain⟨w1,hw1,t1,b1,b3,hsz⟩:=rows_2 w [.int .u8 ((kd:Nat):Int),.slice ia ni ci,.slice ps np cp,.int .i64 N,.int .i64 P] [.slice none 0 0,.slice none 0 0] 55 51;rw[← hw1];have HT:=Lib.hid (aI t1 (show w.heap.size+1<w1.heap.size by omega));have HB:=Lib.hid b3;have y0:=KW.cell (b1.cell 0);have y1:=KW.cell (b1.cell 1);have y2:=KW.cell (b1.cell 2);have y3:=KW.cell (b1.cell 3);have y4:=KW.cell (b1.cell 4);have k0:=KW.cell (t1.cell id HK.out.1);have k1:=KW.cell (t1.cell id HK.out.2.1);have kb:=KW.cell (t1.cell id HK.out.2.2);clear hw1 t1 b1 b3 hsz;refine wp_region_kept_any 5 #[true,true,true,true,true,false,false,false,false,false] 5 (by kernel_rfl) (by kernel_rfl) rfl ?_;simp only[List.take_succ_cons,List.take_zero];repeat (first|go_big_quiet_step (fail)|quiet_step (fail))
 refine wpQuiet_nil ?_;intro _ hw';obtain⟨kw,hw''⟩:=hw';subst hw'';obtain⟨wk,tk⟩:=kw;have tk:=Lib.hid tk;dsimp only;clear k0 k1 kb y0 y1 y2 y3 y4;have HT2:Hid (Touch No w wk∧w.heap.size+1<wk.heap.size):=⟨HT.out.1.trans tk.out,Nat.lt_of_lt_of_le HT.out.2 tk.out.size⟩;have HB2:=Lib.hid (HB.out.touch tk.out id);clear HT HB tk;have HT:=HT2;refine wpAny_ready (rs:=[5]) (by kernel_rfl) (by simp) ?_;refine AllReady.cons rfl (fun K hK=>?_) AllReady.nil;go_simp;go_wp2_with ((refine(HC.out wk HT.out.1).mono ?_;rintro e w2 ⟨sa2,n2,c2,la2,m2,d2,rfl,hT,t2,g1,g2⟩;have T5:Hid (Touch (One (w.heap.size+1)) wk w2∧TIn w2 sa2 n2 c2 la2 m2 d2 S L∧NewA wk sa2∧NewA wk la2∧Touch No wk w2):=⟨t2.no,hT,g1,g2,t2⟩;have y0:w2.cell? ⟨w.heap.size+1,0,none⟩=some (.slice none 0 0):=(HB2.out.touch t2 id).cell 0;have y1:w2.cell? ⟨w.heap.size+1,1,none⟩=some (.slice none 0 0):=(HB2.out.touch t2 id).cell 1;have z0:w2.frozen? ⟨w.heap.size+1,0,none⟩=false:=(HB2.out.touch t2 id).soft 0;have z1:w2.frozen? ⟨w.heap.size+1,1,none⟩=false:=(HB2.out.touch t2 id).soft 1;clear hT t2 g1 g2));first|(refine hK _ _ ?_;clear hK K)|clear hK K|skip
 refine wpAny_take (i:=6) (v:=?v6) rfl (by kernel_rfl) (by kernel_rfl) (by kernel_rfl) (fun _ _ _ h=>h) (Or.inl ⟨by rfl,?hy6⟩) ?rest6
 case' hy6 =>
  intro w;go_simp;try with_reducible rfl
 refine wpAny_take (i:=7) (v:=?v7) rfl (by kernel_rfl) (by kernel_rfl) (by kernel_rfl) (fun _ _ _ h=>h) (Or.inl ⟨by rfl,?hy7⟩) ?rest7
 case' hy7 =>
  intro w;go_simp;try with_reducible rfl
 refine wpAny_ready (rs:=[8]) (by kernel_rfl) (by simp) ?_;refine AllReady.cons rfl (fun K hK=>?_) AllReady.nil;go_simp;refine hK _ _ ?_;clear hK K;refine wpAny_take (i:=9) (v:=?v9) rfl (by kernel_rfl) (by kernel_rfl) (by kernel_rfl) (fun _ _ _ h=>h) (Or.inl ⟨by rfl,?hy9⟩) ?rest9
 case' hy9 =>
  intro w;go_simp;try with_reducible rfl
 refine wpAny_done (by kernel_rfl) ?_ _
 all_goals
  have HN:=Lib.hid (TIn.box HT.out.1 (X:=w.heap.size+1) (by omega) HT.out.2 T5.out.2.1 T5.out.2.2.2.2 T5.out.2.2.1 T5.out.2.2.2.1 (((Touch.refl (One (w.heap.size+1)) w2).setCell (p:=⟨w.heap.size+1,0,none⟩) (fun _=>rfl) (.slice sa2 n2 c2)).setCell (p:=⟨w.heap.size+1,1,none⟩) (fun _=>rfl) (.slice la2 m2 d2)));go_wp2;refine bodyPost_ret (v:=.tuple #[.agg #[.slice sa2 n2 c2,.slice la2 m2 d2],.int .i64 0]) (by simp[results,Tryz.results195,go_sem,y0,y1]) rfl ?_;exact⟨sa2,n2,c2,la2,m2,d2,rfl,HN.out⟩
theorem two1_in (w:World)(ia ps sa la sb lb:Option Addr)(b o B kd ni ci np cp k kc n c m d n' c' m' d' g:Nat)(N P:Int)(S:List Nat)(L:List Int)(hk:1<k)(h0:w.cell? ⟨b,o,none⟩=some (.slice sa n c))(h1:w.cell? ⟨b,o+1,none⟩=some (.slice la m d))(h2:w.cell? ⟨b,o+2,none⟩=some (.slice sb n' c'))(h3:w.cell? ⟨b,o+2+1,none⟩=some (.slice lb m' d'))(hB:w.cell? ⟨B,0,none⟩=some (.func (.func g) #[] #[]))
  (hf:∀(args:Array Value) (wx:World),(callFunc g args).run Tryz.prog wx = .ok (.enter g args) wx) (hC:∀wx:World,Touch No w wx→Calls Tryz.prog g #[.agg #[.slice sa n c,.slice la m d],.agg #[.slice sb n' c',.slice lb m' d']] wx (TOut wx S L)) :
  Calls Tryz.prog 190 #[.agg #[.int .u8 ((kd:Nat):Int),.slice ia ni ci,.slice ps np cp,.int .i64 N,.int .i64 P],.slice (some ⟨b,o,none⟩) k kc,.pointer (some ⟨B,0,none⟩)] w (TOut w S L):=by
 have HC:=Lib.hid hC;have HK:=Lib.hid (aI h0 (aI h1 (aI h2 (aI h3 hB))));have hk0:(0:Int)<(k:Nat):=by omega
 have hk1:(1:Int)<(k:Nat):=by omega
 clear hC h0 h1 h2 h3 hB hk;go_enter Tryz.func190,Tryz.ntmps190;go_upto_region 1 with fail;obtain⟨w1,hw1,t1,b1,b3,hsz⟩:=rows_2 w [.int .u8 ((kd:Nat):Int),.slice ia ni ci,.slice ps np cp,.int .i64 N,.int .i64 P] [.slice none 0 0,.slice none 0 0] 55 51;rw[← hw1];have HT:=Lib.hid (aI t1 (show w.heap.size+1<w1.heap.size by omega));have HB:=Lib.hid b3;have k0:=KW.cell (t1.cell id HK.out.1);have k1:=KW.cell (t1.cell id HK.out.2.1);have k2:=KW.cell (t1.cell id HK.out.2.2.1);have k3:=KW.cell (t1.cell id HK.out.2.2.2.1);have kb:=KW.cell (t1.cell id HK.out.2.2.2.2);clear hw1 t1 b1 b3 hsz;refine wp_region_kept_any 7 #[true,true,true,true,true,true,true,false,false,false,false,false] 5 (by kernel_rfl) (by kernel_rfl) rfl ?_;simp only[List.take_succ_cons,List.take_zero];repeat (first|go_big_quiet_step (fail)|quiet_step (fail))
 refine wpQuiet_nil ?_;intro _ hw';obtain⟨kw,hw''⟩:=hw';subst hw'';obtain⟨wk,tk⟩:=kw;have tk:=Lib.hid tk;dsimp only;clear k0 k1 k2 k3 kb;have HT2:Hid (Touch No w wk∧w.heap.size+1<wk.heap.size):=⟨HT.out.1.trans tk.out,Nat.lt_of_lt_of_le HT.out.2 tk.out.size⟩;have HB2:=Lib.hid (HB.out.touch tk.out id);clear HT HB tk;have HT:=HT2;refine wpAny_ready (rs:=[7]) (by kernel_rfl) (by simp) ?_;refine AllReady.cons rfl (fun K hK=>?_) AllReady.nil;go_simp;go_wp2_with ((refine(HC.out wk HT.out.1).mono ?_;rintro e w2 ⟨sa2,n2,c2,la2,m2,d2,rfl,hT,t2,g1,g2⟩;have T5:Hid (Touch (One (w.heap.size+1)) wk w2∧TIn w2 sa2 n2 c2 la2 m2 d2 S L∧NewA wk sa2∧NewA wk la2∧Touch No wk w2):=⟨t2.no,hT,g1,g2,t2⟩;have y0:w2.cell? ⟨w.heap.size+1,0,none⟩=some (.slice none 0 0):=(HB2.out.touch t2 id).cell 0;have y1:w2.cell? ⟨w.heap.size+1,1,none⟩=some (.slice none 0 0):=(HB2.out.touch t2 id).cell 1;have z0:w2.frozen? ⟨w.heap.size+1,0,none⟩=false:=(HB2.out.touch t2 id).soft 0;have z1:w2.frozen? ⟨w.heap.size+1,1,none⟩=false:=(HB2.out.touch t2 id).soft 1;clear hT t2 g1 g2));first|(refine hK _ _ ?_;clear hK K)|clear hK K|skip
 refine wpAny_take (i:=8) (v:=?v8) rfl (by kernel_rfl) (by kernel_rfl) (by kernel_rfl) (fun _ _ _ h=>h) (Or.inl ⟨by rfl,?hy8⟩) ?rest8
 case' hy8 =>
  intro w;go_simp;try with_reducible rfl
 refine wpAny_take (i:=9) (v:=?v9) rfl (by kernel_rfl) (by kernel_rfl) (by kernel_rfl) (fun _ _ _ h=>h) (Or.inl ⟨by rfl,?hy9⟩) ?rest9
 case' hy9 =>
  intro w;go_simp;try with_reducible rfl
 refine wpAny_ready (rs:=[10]) (by kernel_rfl) (by simp) ?_;refine AllReady.cons rfl (fun K hK=>?_) AllReady.nil;go_simp;refine hK _ _ ?_;clear hK K;refine wpAny_take (i:=11) (v:=?v11) rfl (by kernel_rfl) (by kernel_rfl) (by kernel_rfl) (fun _ _ _ h=>h) (Or.inl ⟨by rfl,?hy11⟩) ?rest11
 case' hy11 =>
  intro w;go_simp;try with_reducible rfl
 refine wpAny_done (by kernel_rfl) ?_ _
 all_goals
  have HN:=Lib.hid (TIn.box HT.out.1 (X:=w.heap.size+1) (by omega) HT.out.2 T5.out.2.1 T5.out.2.2.2.2 T5.out.2.2.1 T5.out.2.2.2.1 (((Touch.refl (One (w.heap.size+1)) w2).setCell (p:=⟨w.heap.size+1,0,none⟩) (fun _=>rfl) (.slice sa2 n2 c2)).setCell (p:=⟨w.heap.size+1,1,none⟩) (fun _=>rfl) (.slice la2 m2 d2)));go_wp2;refine bodyPost_ret (v:=.tuple #[.agg #[.slice sa2 n2 c2,.slice la2 m2 d2],.int .i64 0]) (by simp[results,Tryz.results190,go_sem,y0,y1]) rfl ?_;exact⟨sa2,n2,c2,la2,m2,d2,rfl,HN.out⟩
theorem deed7_in (w:World)(ia ps sa la sb lb:Option Addr)(b o kd ni ci np cp k kc n c m d n' c' m' d':Nat)(N P:Int)(S:List Nat)(L:List Int)(hk:1<k)(h0:w.cell? ⟨b,o,none⟩=some (.slice sa n c))(h1:w.cell? ⟨b,o+1,none⟩=some (.slice la m d))(h2:w.cell? ⟨b,o+2,none⟩=some (.slice sb n' c'))(h3:w.cell? ⟨b,o+2+1,none⟩=some (.slice lb m' d'))
  (hC:∀wx:World,Touch No w wx→Calls Tryz.prog 156 #[.agg #[.slice sa n c,.slice la m d],.agg #[.slice sb n' c',.slice lb m' d'],.int .i64 N,.int .i64 P] wx (TOut wx S L)) :
  Calls Tryz.prog 155 #[.agg #[.int .u8 ((kd:Nat):Int),.slice ia ni ci,.slice ps np cp,.int .i64 N,.int .i64 P],.slice (some ⟨b,o,none⟩) k kc] w (TOut w S L):=by
 have HC:=Lib.hid hC;have HK:=Lib.hid (aI h0 (aI h1 (aI h2 h3)));have hk0:(0:Int)<(k:Nat):=by omega
 have hk1:(1:Int)<(k:Nat):=by omega
 clear hC h0 h1 h2 h3 hk;go_enter Tryz.func155,Tryz.ntmps155;go_upto_region 1 with fail;obtain⟨w1,hw1,t1,b1,b3,hsz⟩:=rows_2 w [.int .u8 ((kd:Nat):Int),.slice ia ni ci,.slice ps np cp,.int .i64 N,.int .i64 P] [.slice none 0 0,.slice none 0 0] 55 51;rw[← hw1];have HT:=Lib.hid (aI t1 (show w.heap.size+1<w1.heap.size by omega));have HB:=Lib.hid b3;have y3:=KW.cell (b1.cell 3);have y4:=KW.cell (b1.cell 4);have k0:=KW.cell (t1.cell id HK.out.1);have k1:=KW.cell (t1.cell id HK.out.2.1);have k2:=KW.cell (t1.cell id HK.out.2.2.1);have k3:=KW.cell (t1.cell id HK.out.2.2.2);clear hw1 t1 b1 b3 hsz;refine wp_region_kept_any 10 #[true,true,true,true,true,true,true,true,true,true,false,false,false,false,false] 5 (by kernel_rfl) (by kernel_rfl) rfl ?_;simp only[List.take_succ_cons,List.take_zero];repeat (first|go_big_quiet_step (fail)|quiet_step (fail))
 refine wpQuiet_nil ?_;intro _ hw';obtain⟨kw,hw''⟩:=hw';subst hw'';obtain⟨wk,tk⟩:=kw;have tk:=Lib.hid tk;dsimp only;clear k0 k1 k2 k3 y3 y4;have HT2:Hid (Touch No w wk∧w.heap.size+1<wk.heap.size):=⟨HT.out.1.trans tk.out,Nat.lt_of_lt_of_le HT.out.2 tk.out.size⟩;have HB2:=Lib.hid (HB.out.touch tk.out id);clear HT HB tk;have HT:=HT2;refine wpAny_ready (rs:=[10]) (by kernel_rfl) (by simp) ?_;refine AllReady.cons rfl (fun K hK=>?_) AllReady.nil;go_simp;go_wp2_with ((refine(HC.out wk HT.out.1).mono ?_;rintro e w2 ⟨sa2,n2,c2,la2,m2,d2,rfl,hT,t2,g1,g2⟩;have T5:Hid (Touch (One (w.heap.size+1)) wk w2∧TIn w2 sa2 n2 c2 la2 m2 d2 S L∧NewA wk sa2∧NewA wk la2∧Touch No wk w2):=⟨t2.no,hT,g1,g2,t2⟩;have y0:w2.cell? ⟨w.heap.size+1,0,none⟩=some (.slice none 0 0):=(HB2.out.touch t2 id).cell 0;have y1:w2.cell? ⟨w.heap.size+1,1,none⟩=some (.slice none 0 0):=(HB2.out.touch t2 id).cell 1;have z0:w2.frozen? ⟨w.heap.size+1,0,none⟩=false:=(HB2.out.touch t2 id).soft 0;have z1:w2.frozen? ⟨w.heap.size+1,1,none⟩=false:=(HB2.out.touch t2 id).soft 1;clear hT t2 g1 g2));first|(refine hK _ _ ?_;clear hK K)|clear hK K|skip
 refine wpAny_take (i:=11) (v:=?v11) rfl (by kernel_rfl) (by kernel_rfl) (by kernel_rfl) (fun _ _ _ h=>h) (Or.inl ⟨by rfl,?hy11⟩) ?rest11
 case' hy11 =>
  intro w;go_simp;try with_reducible rfl
 refine wpAny_take (i:=12) (v:=?v12) rfl (by kernel_rfl) (by kernel_rfl) (by kernel_rfl) (fun _ _ _ h=>h) (Or.inl ⟨by rfl,?hy12⟩) ?rest12
 case' hy12 =>
  intro w;go_simp;try with_reducible rfl
 refine wpAny_ready (rs:=[13]) (by kernel_rfl) (by simp) ?_;refine AllReady.cons rfl (fun K hK=>?_) AllReady.nil;go_simp;refine hK _ _ ?_;clear hK K;refine wpAny_take (i:=14) (v:=?v14) rfl (by kernel_rfl) (by kernel_rfl) (by kernel_rfl) (fun _ _ _ h=>h) (Or.inl ⟨by rfl,?hy14⟩) ?rest14
 case' hy14 =>
  intro w;go_simp;try with_reducible rfl
 refine wpAny_done (by kernel_rfl) ?_ _
 all_goals
  have HN:=Lib.hid (TIn.box HT.out.1 (X:=w.heap.size+1) (by omega) HT.out.2 T5.out.2.1 T5.out.2.2.2.2 T5.out.2.2.1 T5.out.2.2.2.1 (((Touch.refl (One (w.heap.size+1)) w2).setCell (p:=⟨w.heap.size+1,0,none⟩) (fun _=>rfl) (.slice sa2 n2 c2)).setCell (p:=⟨w.heap.size+1,1,none⟩) (fun _=>rfl) (.slice la2 m2 d2)));go_wp2;refine bodyPost_ret (v:=.tuple #[.agg #[.slice sa2 n2 c2,.slice la2 m2 d2],.int .i64 0]) (by simp[results,Tryz.results155,go_sem,y0,y1]) rfl ?_;exact⟨sa2,n2,c2,la2,m2,d2,rfl,HN.out⟩
end
end Go.Proofs.YtjlphmmalebgpaaGreat
