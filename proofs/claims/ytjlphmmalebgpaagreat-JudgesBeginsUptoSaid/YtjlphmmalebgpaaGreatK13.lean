/-
  A part of the proof.
-/
import Derived.Test.YtjlphmmalebgpaaGreatK12
set_option linter.unusedSimpArgs false
set_option linter.unusedVariables false
set_option maxHeartbeats 2000000
set_option maxRecDepth 100000
namespace Go.Proofs.YtjlphmmalebgpaaGreat
section
open Go Go.RowKit
theorem grTurned_no (w:World)(a b:Option Addr)(n c n' c':Nat)(h:n≠n') :
  Calls Tryz.prog 187 #[.slice a n c,.slice b n' c'] w fun e w'=>e = .returned (.slice none 0 0)∧w=w':=by
 have hb:((n:Int) != (n':Int))=true:=by simp;omega
 clear h;go_enter Tryz.func187,Tryz.ntmps187;go_wp2;go_ret;exact⟨rfl,rfl⟩
theorem grTurned_in (w:World)(a b:Option Addr)(n c c':Nat)(S O:List Nat)(hS:S.length=n)(hO:O.length=n)(hn4:n≤1000000)(hlt:∀k,k<n→O.getD k 0<n)(hr:Rd w a (nums .i64 S))(hr':Rd w b (nums .i64 O)) :
  Calls Tryz.prog 187 #[.slice a n c,.slice b n c'] w fun e w'=>∃a' d',e = .returned (.slice a' n d')∧n≤d'∧Rd w' a' (nums .i64 (Me.turnS S O))∧NewA w a'∧Touch No w w':=by
 obtain⟨I,hi0,hi1,hi2,hi3⟩:=info_I;have HI:=Lib.hid (aI hi0 (aI hi1 (aI hi2 hi3)));have hb:((n:Int) != (n:Int))=false:=by simp
 have Hr:=Lib.hid (aI hr hr');have Hn:=Lib.hid (aI hS (aI hO hlt));clear hr hr' hS hO hlt hi0 hi1 hi2 hi3;go_enter Tryz.func187,Tryz.ntmps187;go_wp2
 go_loopg [4,14] n (fun gh s4 s14 wr=>∃(k:Nat) (v:Value),k+gh=n∧s14 = .int .i64 ((k:Nat):Int)∧v=s4∧Hid (Own wr w.heap.size 3 v (nums .i64 (Me.turnS S (O.take k))))∧Hid (Touch No w wr))
 case atStart=>exact⟨0,_,by omega,rfl,rfl,(by show Own _ _ _ _ _;simp only[List.take_zero,Me.turnS,List.map_nil];exact Own.nil w w.heap.size _),Touch.refl _ _⟩
 case round =>
  obtain⟨k,v,hkg,rfl,rfl,OW,T⟩:=hrel;cases gk with
  | zero =>
    obtain rfl:n=k:=by omega
    have hO:=OW.out;rw[List.take_of_length_le (by rw[Hn.out.2.1];exact Nat.le_refl _)]at hO;obtain⟨a',d',rfl,hc,_⟩:=hO.form' (n:=n) (by rw[nums_length,Me.turnS_length,Hn.out.2.1]);have HN:Hid (n≤d'∧Rd wr a' (nums .i64 (Me.turnS S O))∧NewA w a'∧Touch No w wr):=⟨hc,hO.rd,fun ad e=>(hO.block (k:=ad.block) (by rw[e];rfl)).1,T.out⟩;clear hO hc OW;go_wp2;go_ret;exact⟨a',d',rfl,HN.out⟩
  | succ g' =>
    have hki:(k:Int)<(n:Nat):=by omega
    obtain⟨b2,o2,rfl,cx⟩:=(Hr.out.2.no T.out).num (i:=k) (by rw[Hn.out.2.1];omega);obtain⟨x,hx⟩:∃x,O.getD k 0=x:=⟨_,rfl⟩;have hxn:=Hn.out.2.2 k (by omega);rw[hx]at cx hxn;obtain⟨b1,o1,rfl,cy⟩:=(Hr.out.1.no T.out).num (i:=x) (by rw[Hn.out.1];exact hxn);obtain⟨y,hy⟩:∃y,S.getD x 0=y:=⟨_,rfl⟩;rw[hy]at cy;have hxi:(x:Int)<(n:Nat):=by omega
    have HT:Hid (nums .i64 (Me.turnS S (O.take (k+1)))=nums .i64 (Me.turnS S (O.take k)) ++ [.int .i64 ((y:Nat):Int)]):=by
     show _=_
     have ht:O.take (k+1)=O.take k ++ [x]:=by
      rw[List.take_add_one,Lge (by rw[Hn.out.2.1];omega)];rw[Lgd,Lge (by rw[Hn.out.2.1];omega)]at hx;simp only[Option.getD_some]at hx;rw[hx];rfl
     rw[ht,Me.turnS,List.map_append,nums_append,← hy];rfl
    have hll:(nums .i64 (Me.turnS S (O.take k))).length≤k:=by
     rw[nums_length,Me.turnS_length,List.length_take];omega
    have Hll:=Lib.hid hll;clear hx hy hll;go_wp2_with (at_builtin;refine wpList_append1 rfl _ _ _ rfl w.heap.size _ I _ 8 Tryz.underlying48 HI.out.1 HI.out.2.1 HI.out.2.2.1 HI.out.2.2.2 rfl _ _ _ OW.out rfl rfl rfl (by have:=Hll.out;unfold maxLen;omega) (by have:=Hll.out;omega) T.out.size ?_;intro v' w3 hown3 ht3)
    go_roundg g'
    case measure=>omega
    case rel=>exact⟨k+1,v',by omega,by go_num,rfl,by rw[HT.out];exact hown3,T.out.then ht3 (fun i hi e=>absurd ((OW.out.block e).1) (by omega))⟩
end
section
open Go Go.RowKit
namespace Me
abbrev Ten:=List Nat × List Int
def dims (Xs:List Ten)(al:Nat):List Nat:=Xs.map fun x=>x.1.getD al 0
structure Joins (Xs:List Ten) (al:Nat) (S:List Nat):Prop where
 each:∀x∈Xs,Ok x.1∧x.2.length=pr x.1∧x.1.length=S.length
 like:∀x∈Xs,∀k,k<S.length→k≠al→x.1.getD k 0=S.getD k 0
 inn:al<S.length
 ok:Ok S
 sum:S.getD al 0=(dims Xs al).sum
def tn (Xs:List Ten)(n:Nat):Ten:=Xs.getD n ([],[])
def joinI (Xs:List Ten)(al:Nat)(S:List Nat)(i:Nat):Int :=
 at_ (tn Xs (findJ (dims Xs al) 0 ((unrank S i).getD al 0)).1).2 (rank (tn Xs (findJ (dims Xs al) 0 ((unrank S i).getD al 0)).1).1 ((unrank S i).set al (findJ (dims Xs al) 0 ((unrank S i).getD al 0)).2))
def joinL (Xs:List Ten)(al:Nat)(S:List Nat):List Int:=(List.range (pr S)).map (joinI Xs al S)
def joinD (Xs:List Ten)(al:Nat)(S:List Nat)(n i:Nat):Nat :=
 rank S ((unrank (tn Xs n).1 i).set al ((unrank (tn Xs n).1 i).getD al 0+((dims Xs al).take n).sum))
def scat (Xs:List Ten)(al:Nat)(S:List Nat):Nat→List Int
 | 0=>List.replicate (pr S) 0
 | n+1=>sets (joinD Xs al S n) (fun i=>at_ (tn Xs n).2 i) (scat Xs al S n) (pr (tn Xs n).1)
theorem scat_length (Xs:List Ten)(al:Nat)(S:List Nat):∀n,(scat Xs al S n).length=pr S
 | 0=>by rw[scat,List.length_replicate]
 | n+1=>by rw[scat,sets_length,scat_length Xs al S n]
theorem findJ_spec:∀(ds:List Nat) (n0 x:Nat),x<ds.sum→∃n b,findJ ds n0 x=(n0+n,b)∧n<ds.length∧b<ds.getD n 0∧x=(ds.take n).sum+b
 | [],n0,x,h=>by simp at h
 | d::r,n0,x,h=>by
   unfold findJ
   by_cases hd:d≤x
   ·rw[if_pos hd]
    obtain⟨n,b,h1,h2,h3,h4⟩:=findJ_spec r (n0+1) (x-d) (by rw[List.sum_cons]at h;omega);exact⟨n+1,b,by rw[h1];congr 1;omega,by simpa using h2,by simpa using h3,by rw[List.take_succ_cons,List.sum_cons];omega⟩
   ·rw[if_neg hd]
    exact⟨0,x,rfl,by simp,by simp;omega,by simp⟩
theorem findJ_of:∀(ds:List Nat) (n0 n b:Nat),n<ds.length→b<ds.getD n 0→findJ ds n0 ((ds.take n).sum+b)=(n0+n,b)
 | [],n0,n,b,h,_=>by simp at h
 | d::r,n0,0,b,h,hb=>by
   unfold findJ;rw[if_neg (by simp at hb ⊢;omega)];simp
 | d::r,n0,n+1,b,h,hb=>by
   unfold findJ;rw[List.take_succ_cons,List.sum_cons,if_pos (by omega),show d+(r.take n).sum+b-d=(r.take n).sum+b by omega,findJ_of r (n0+1) n b (by simpa using h) (by simpa using hb)];congr 1;omega
theorem sets_miss (d:Nat→Nat)(v:Nat→Int)(L:List Int)(t:Nat):∀n,(∀j,j<n→d j≠t)→(sets d v L n)[t]? = L[t]?
 | 0,_=>by rw[sets]
 | n+1,h=>by
   rw[sets,List.getElem?_set_ne (h n (by omega)),sets_miss d v L t n fun j hj=>h j (by omega)]
theorem getD_set_self {l:List Nat}{k x:Nat}(h:k<l.length):(l.set k x).getD k 0=x:=by
 rw[Lgd,List.getElem?_set_self h];rfl
theorem getD_set_ne {l:List Nat}{k j x:Nat}(h:k≠j):(l.set k x).getD j 0=l.getD j 0:=by
 rw[Lgd,List.getElem?_set_ne h,← Lgd]
theorem set_getD (l:List Nat)(k:Nat):l.set k (l.getD k 0)=l:=by
 refine List.ext_getElem? fun j=>?_
 by_cases h:k=j
 ·subst h
  by_cases hl:k<l.length
  ·rw[List.getElem?_set_self hl,Lgd,Lge hl];rfl
  ·rw[Lgn (by simp;omega),Lgn (by omega)]
 ·rw[List.getElem?_set_ne h]
theorem tn_mem {Xs:List Ten}{n:Nat}(h:n<Xs.length):tn Xs n∈Xs:=by
 rw[tn,Lgd,Lge h];exact List.getElem_mem h
theorem dims_length (Xs:List Ten)(al:Nat):(dims Xs al).length=Xs.length:=by simp[dims]
theorem dims_get {Xs:List Ten}{al n:Nat}(h:n<Xs.length):(dims Xs al).getD n 0=(tn Xs n).1.getD al 0:=by
 simp[dims,tn,Lgd,h]
theorem take_sum_lt:∀(ds:List Nat) (n b:Nat),n<ds.length→b<ds.getD n 0→(ds.take n).sum+b<ds.sum
 | [],n,b,h,_=>by simp at h
 | d::r,0,b,h,hb=>by simp at hb ⊢;omega
 | d::r,n+1,b,h,hb=>by
   have:=take_sum_lt r n b (by simpa using h) (by simpa using hb);rw[List.take_succ_cons,List.sum_cons,List.sum_cons];omega
section
variable {Xs:List Ten} {al:Nat} {S:List Nat}
theorem Joins.up (h:Joins Xs al S){n:Nat}(hn:n<Xs.length){A:List Nat}(hA:Box (tn Xs n).1 A):Box S (A.set al (A.getD al 0+((dims Xs al).take n).sum)):=by
 obtain⟨o1,o2,o3⟩:=h.each _ (tn_mem hn);refine⟨by rw[List.length_set,hA.1,o3],fun k hk=>?_⟩
 by_cases he:k=al
 ·subst he
  rw[getD_set_self (by rw[hA.1,o3];exact hk),h.sum];have h1:=hA.2 k (by rw[o3];exact hk);rw[← dims_get hn]at h1;have:=take_sum_lt (dims Xs k) n _ (by rw[dims_length];exact hn) h1;omega
 ·rw[getD_set_ne (fun e=>he e.symm),← h.like _ (tn_mem hn) k hk he]
  exact hA.2 k (by rw[o3];exact hk)
theorem Joins.down (h:Joins Xs al S){n b:Nat}(hn:n<Xs.length)(hb:b<(tn Xs n).1.getD al 0){A:List Nat}(hA:Box S A):Box (tn Xs n).1 (A.set al b):=by
 obtain⟨o1,o2,o3⟩:=h.each _ (tn_mem hn);refine⟨by rw[List.length_set,hA.1,o3],fun k hk=>?_⟩;rw[o3]at hk
 by_cases he:k=al
 ·subst he
  rw[getD_set_self (by rw[hA.1];exact hk)];exact hb
 ·rw[getD_set_ne (fun e=>he e.symm),h.like _ (tn_mem hn) k hk he]
  exact hA.2 k hk
theorem Joins.joinD_lt (h:Joins Xs al S){n:Nat}(hn:n<Xs.length)(i:Nat):joinD Xs al S n i<pr S :=
 rank_lt (h.up hn (unrank_box (h.each _ (tn_mem hn)).1.each i))
theorem Joins.hit (h:Joins Xs al S){n:Nat}(hn:n<Xs.length){i:Nat}(hi:i<pr (tn Xs n).1):at_ (tn Xs n).2 i=joinI Xs al S (joinD Xs al S n i)∧(findJ (dims Xs al) 0 ((unrank S (joinD Xs al S n i)).getD al 0)).1=n:=by
 obtain⟨o1,o2,o3⟩:=h.each _ (tn_mem hn);have hb:=unrank_box o1.each i;have hal:al<(unrank (tn Xs n).1 i).length:=by rw[hb.1,o3];exact h.inn
 have e1:unrank S (joinD Xs al S n i)=(unrank (tn Xs n).1 i).set al ((unrank (tn Xs n).1 i).getD al 0+((dims Xs al).take n).sum):=unrank_rank (h.up hn hb);have h1:=hb.2 al (by rw[o3];exact h.inn);rw[← dims_get hn]at h1
 have e2:findJ (dims Xs al) 0 ((unrank S (joinD Xs al S n i)).getD al 0)=(n,(unrank (tn Xs n).1 i).getD al 0):=by
  rw[e1,getD_set_self hal,Nat.add_comm,findJ_of _ _ _ _ (by rw[dims_length];exact hn) h1,Nat.zero_add]
 rw[joinI,e2];refine⟨?_,rfl⟩;rw[e1,List.set_set,set_getD,rank_unrank hi]
theorem Joins.scats (h:Joins Xs al S):∀n,n≤Xs.length→∀t,t<pr S→(findJ (dims Xs al) 0 ((unrank S t).getD al 0)).1<n→(scat Xs al S n)[t]? = some (joinI Xs al S t)
 | 0,_,t,_,hf=>absurd hf (Nat.not_lt_zero _)
 | n+1,hn,t,ht,hf=>by
   rw[scat]
   by_cases hj:∃j,j<pr (tn Xs n).1∧joinD Xs al S n j=t
   ·exact sets_get _ _ (joinI Xs al S) _ _ (fun j hj=>(h.hit hn hj).1) t hj (by rw[scat_length];exact ht)
   ·rw[sets_miss _ _ _ _ _ fun j hj' e=>hj ⟨j,hj',e⟩]
    refine Joins.scats h n (by omega) t ht ?_;have hbx:=unrank_box h.ok.each t;have hx:=hbx.2 al h.inn;rw[h.sum]at hx;obtain⟨n',b,e1,e2,e3,e4⟩:=findJ_spec (dims Xs al) 0 _ hx;rw[e1]at hf ⊢;simp only[Nat.zero_add]at hf ⊢;rw[dims_length]at e2;rw[dims_get e2]at e3;rcases Nat.lt_or_ge n' n with h1|h1
    ·exact h1
    ·obtain rfl:n'=n:=by omega
     refine absurd ⟨rank (tn Xs n').1 ((unrank S t).set al b),rank_lt (h.down e2 e3 hbx),?_⟩ hj;rw[joinD,unrank_rank (h.down e2 e3 hbx),getD_set_self (by rw[hbx.1];exact h.inn),List.set_set,Nat.add_comm,← e4,set_getD,rank_unrank ht]
theorem Joins.all (h:Joins Xs al S):scat Xs al S Xs.length=joinL Xs al S:=by
 refine List.ext_getElem? fun t=>?_
 by_cases ht:t<pr S
 ·have hx:=(unrank_box h.ok.each t).2 al h.inn
  rw[h.sum]at hx;obtain⟨n,b,e1,e2,_⟩:=findJ_spec (dims Xs al) 0 _ hx;rw[h.scats Xs.length (Nat.le_refl _) t ht (by rw[e1];rw[dims_length]at e2;simpa using e2)];simp[joinL,ht]
 ·rw[Lgn (by rw[scat_length];omega),Lgn (by simp[joinL];omega)]
theorem joinL_in (hX:∀x∈Xs,∀y∈x.2,-2147483648≤y∧y≤2147483647):∀y∈joinL Xs al S,-2147483648≤y∧y≤2147483647:=map_in fun i _=>by
 unfold joinI
 generalize (findJ (dims Xs al) 0 ((unrank S i).getD al 0)).1=n
 generalize rank _ _=j
 by_cases hn:n<Xs.length
 ·by_cases hj:j<(tn Xs n).2.length
  ·rw[at_lt hj];exact hX _ (tn_mem hn) _ (List.getElem_mem hj)
  ·rw[at_,Lgd,Lgn (by omega)];simp
 ·have:tn Xs n=([],[]):=by rw[tn,Lgd,Lgn (by omega)];rfl
  rw[this];simp[at_]
end
end Me
end
section
open Go Go.RowKit
structure KW (w:World) where
 wd:World
 no:Touch No w wd
instance (w:World):Nonempty (KW w):=⟨⟨w,Touch.refl No w⟩⟩
theorem KW.cell {w:World}{g o:Nat}{v:Value}(h:w.cell? ⟨g,o,none⟩=some v):∀p:KW w,p.wd.cell? ⟨g,o,none⟩=some v:=fun p=>p.no.cell id h
theorem Calls.kept_of {P:Program}{f:FuncId}{args:Array Value}{w:World}{p:KW w}{v:Value}(h:Calls P f args p.wd fun e w'=>e = .returned v∧Touch No p.wd w'):Calls P f args p.wd fun e w''=>e = .returned v∧∃q:KW w,w''=q.wd :=
 h.mono fun _ _ ⟨he,t⟩=>⟨he,⟨_,p.no.trans t⟩,rfl⟩
theorem wp_region_kept {P:Program}{id:Nat}{Q:Exit→Act→World→Prop}{a:Act}{w:World}{l:List Oper}(hm:P.follows .mixedOrders=true)(hB:Region.lexB .any l.toArray=true)
  (h:wpQuiet P l.toArray (fun w'=>∃p:KW w,w'=p.wd) (fun a'=>∀w',(∃p:KW w,w'=p.wd)→Q .normal a' w') l a):(Code.region id l.toArray true).wp P Q a w :=
 wp_region_quiet (C:=fun w'=>∃p:KW w,w'=p.wd) hm hB ⟨⟨_,(Touch.refl No w).drew⟩,rfl⟩ (by simpa using h)
theorem wp_region_kept_tail {P:Program}{id:Nat}{Q:Exit→Act→World→Prop}{a:Act}{w:World}{l:List Oper}(n:Nat)(hm:P.follows .mixedOrders=true)(hB:Region.lexTailB .any l.toArray n=true)
  (h:wpQuiet P l.toArray (fun w'=>∃p:KW w,w'=p.wd) (fun a'=>∀w',(∃p:KW w,w'=p.wd)→wpList P l.toArray Q (l.drop n) a' w') (l.take n) a):(Code.region id l.toArray true).wp P Q a w:=by
 simp only[Region.lexTailB,Bool.and_eq_true,decide_eq_true_eq]at hB;obtain⟨⟨⟨⟨hsel,hn⟩,hs⟩,hc⟩,hlex⟩:=hB;have hn':n<l.length:=by simpa using hn
 have htl:(l.take n).length=n:=by simp;omega
 have hdl:(l.drop n).length=l.toArray.size-n:=by simp
 have inv0:HeadInv .any l.toArray n (Array.replicate l.toArray.size false) :=
  ⟨by simp,fun j oj _ hl=>(by rw[getD_replicate_false]at hl;cases hl),fun t _ ht=>getD_in (by simpa using ht) (getD_replicate_false _ _)⟩
 have H:=qHead_lex (md:=.any) (g:=l.toArray.size-n) hsel hs hc hn (l.take n) 0 _ a (fun j hj=>by
  have hj':j<n:=by rw[htl]at hj;exact hj
  simp[hj']) (by simpa using htl) inv0 (by rw[htl];exact hlex) h
 refine wp_region_any hm ?_
 have:=wpAny_of_qHead (Q':=Q) (g:=l.toArray.size-n) (fun listed a' w' hw' hL=>by
  have:=wpAny_of_seq (md:=.any) (Q':=Q) (l.drop n) n listed a' w' (fun j=>by simp[List.getElem?_drop]) (by rw[hdl];exact hL.1) (hL.2 w' hw')
  rwa [hdl]at this) _ _ _ _ ⟨⟨_,(Touch.refl No w).drew⟩,rfl⟩ H
 rw[htl,show n+(l.toArray.size-n)=l.toArray.size by omega]at this;exact this
end
section
open Go Go.RowKit
def TsIn (w:World)(a:Option Addr)(Xs:List Me.Ten):Prop :=
 ∀k,k<Xs.length→∃b o sa n c la m d,a=some ⟨b,o,none⟩∧w.cell? ⟨b,o+k*2,none⟩=some (.slice sa n c)∧w.cell? ⟨b,o+k*2+1,none⟩=some (.slice la m d)∧TIn w sa n c la m d (Me.tn Xs k).1 (Me.tn Xs k).2
theorem TsIn.no {w w':World}{a:Option Addr}{Xs:List Me.Ten}(h:TsIn w a Xs)(t:Touch No w w'):TsIn w' a Xs:=fun k hk=>by
 obtain⟨b,o,sa,n,c,la,m,d,e,h1,h2,h3⟩:=h k hk;exact⟨b,o,sa,n,c,la,m,d,e,t.cell id h1,t.cell id h2,h3.no t⟩
theorem tenAt_in (w:World)(sa la xa:Option Addr)(n c m d xc:Nat)(S L:List Nat)(A:List Int)(hA:TIn w sa n c la m d S A)(hb:Me.Box S L)(hr:Rd w xa (nums .i64 L)) :
  Calls Tryz.prog 214 #[.agg #[.slice sa n c,.slice la m d],.slice xa n xc] w fun e w'=>e = .returned (.tuple #[.int .i32 (Me.at_ A (Me.rank S L)),.int .i64 0])∧Touch No w w':=by
 have hlt:Me.rank S L<m:=by have:=Me.rank_lt hb;rw[hA.len]at this;exact this
 have HA:=Lib.hid hA;have HR:=Lib.hid hr;have HB:=Lib.hid hb;clear hA hr hb;go_enter Tryz.func214,Tryz.ntmps214;go_wp2_with fail;obtain⟨w1,hw1⟩:∃w1,w1=w.alloc (.cells #[.slice sa n c,.slice la m d] 51):=⟨_,rfl⟩;have H1:Hid (Touch No w w1∧Row w1 w.heap.size 51 [.slice sa n c,.slice la m d]):=by rw[hw1];exact⟨(Touch.refl No w).alloc _,Row.new _ _ _⟩
 rw[← hw1];clear hw1;refine(tenCheck_ok (HA.out.no H1.out.1)).mono ?_;rintro e w2 ⟨rfl,t2⟩;have H2:=Lib.hid (aI (H1.out.1.trans t2) (H1.out.2.touch t2 id));clear t2 H1;have k0:=H2.out.2.c0;go_wp2_with fail;refine(shapesIndex_in w2 sa xa n c xc S L HA.out.ok HA.out.sn HB.out (HA.out.no H2.out.1).sr (HR.out.no H2.out.1)).mono ?_;rintro e w3 ⟨rfl,t3⟩;have H3:=Lib.hid (aI (H2.out.1.trans t3) (H2.out.2.touch t3 id));clear t3 H2 k0;have k1:=H3.out.2.c1;obtain⟨b,o,rfl,cx⟩:=(HA.out.no H3.out.1).num hlt;obtain⟨q,hq⟩:∃q,Me.rank S L=q:=⟨_,rfl⟩;obtain⟨x,hx⟩:∃x,Me.at_ A q=x:=⟨_,rfl⟩;have hqm:(q:Int)<(m:Nat):=by omega
 rw[hq]at cx;rw[hx]at cx;have HX:Hid (x=Me.at_ A (Me.rank S L)):=by show _=_;rw[hq,hx]
 rw[hq];clear hq hx hlt;go_wp2
 go_ret2
 exact⟨by rw[← HX.out];rfl,H3.out.1⟩
theorem joinCheck_in (w:World)(sa la:Option Addr)(n c m d:Nat)(S:List Nat)(A:List Int)(hA:TIn w sa n c la m d S A) :
  Calls Tryz.prog 211 #[.agg #[.slice sa n c,.slice la m d]] w fun e w'=>e = .returned (.bool false)∧Touch No w w':=by
 have HA:=Lib.hid hA;clear hA;go_enter Tryz.func211,Tryz.ntmps211;go_wp2_with fail;refine(tenCheck_ok (HA.out.no ((Touch.refl No w).alloc (.cells #[.slice sa n c,.slice la m d] 51)))).mono ?_;rintro e w' ⟨rfl,t⟩;have T:Hid (Touch No w w'):=((Touch.refl No w).alloc _).trans t;clear t;go_wp2;go_ret;exact⟨rfl,T.out⟩
theorem containsT_in (w:World)(a:Option Addr)(k c:Nat)(Xs:List Me.Ten)(hl:Xs.length=k)(hk:k≤1000)(hX:TsIn w a Xs) :
  Calls Tryz.prog 231 #[.slice a k c,.func (.func 211) #[] #[]] w fun e w'=>e = .returned (.int .i64 (-1))∧Touch No w w':=by
 have hf:∀(args:Array Value) (wx:World),(callFunc 211 args).run Tryz.prog wx = .ok (.enter 211 args) wx:=fun args wx=>by simp[callFunc,Tryz.func211,Tryz.f211]
 have HX:=Lib.hid hX;have HL:=Lib.hid hl;clear hX hl;go_enter Tryz.func231,Tryz.ntmps231;go_wp2
 go_loopg [8] k (fun gh s8 wr=>∃i:Nat,i+gh=k∧s8 = .int .i64 ((i:Nat):Int)∧Hid (Touch No w wr))
 case atStart=>exact⟨0,by omega,rfl,Touch.refl _ _⟩
 case round =>
  obtain⟨i,hkg,rfl,T⟩:=hrel;cases gk with
  | zero =>
    obtain rfl:i=k:=by omega
    go_wp2;go_ret;exact⟨rfl,T.out⟩
  | succ g' =>
    have hki:(i:Int)<(k:Nat):=by omega
    obtain⟨b,o,sa,n,cc,la,m,d,rfl,c1,c2,hT⟩:=(HX.out.no T.out) i (by rw[HL.out];omega);have HT:=Lib.hid hT;clear hT;go_wp2_with fail;refine(joinCheck_in wr sa la n cc m d _ _ HT.out).mono ?_;rintro e w' ⟨rfl,t⟩;have T2:Hid (Touch No w w'):=T.out.trans t;clear t T;go_wp2
    go_roundg g'
    case measure=>omega
    case rel=>exact⟨i+1,by omega,by go_num,T2⟩
theorem containsT (w:World)(a:Option Addr)(k c:Nat)(Xs:List Me.Ten)(hl:Xs.length=k)(hk:k≤1000)(hX:TsIn w a Xs) :
  Calls Tryz.prog 210 #[.slice a k c,.func (.func 211) #[] #[]] w fun e w'=>e = .returned (.bool false)∧Touch No w w':=by
 have C:=Lib.hid (containsT_in w a k c Xs hl hk hX);clear hX hl;go_enter Tryz.func210,Tryz.ntmps210;go_wp2_with fail;refine C.out.mono ?_;rintro e w' ⟨rfl,t⟩;have T:=Lib.hid t;clear t;go_wp2;go_ret;exact⟨rfl,T.out⟩
end
end Go.Proofs.YtjlphmmalebgpaaGreat
