/-
  A part of the proof.
-/
import Derived.Test.YtjlphmmalebgpaaGreatK09
import Derived.Deep.DeepCutAuto
set_option linter.unusedSimpArgs false
set_option linter.unusedVariables false
set_option maxHeartbeats 2000000
set_option maxRecDepth 100000
namespace Go.Proofs.YtjlphmmalebgpaaGreat
section
open Go Go.RowKit
namespace Me
structure Ord (O:List Nat) (n:Nat):Prop where
 len:O.length=n
 lt:∀k,k<n→O.getD k 0<n
 nd:O.Nodup
theorem perm4:∀n,n≤4→∀O:List Nat,Ord O n→O.Perm (List.range n):=by
 intro n hn O h;have hl:=h.len
 match n,hn,O,hl,h with
 | 0,_,[],_,h=>exact List.Perm.refl _
 | 1,_,[a],_,h =>
   have ha:a<1:=h.lt 0 (by omega);have hd:∀a,a<1→[a].Nodup→[a].Perm (List.range 1):=by decide
   exact hd a ha h.nd
 | 2,_,[a,b],_,h =>
   have ha:a<2:=h.lt 0 (by omega);have hb:b<2:=h.lt 1 (by omega);have hd:∀a,a<2→∀b,b<2→[a,b].Nodup→[a,b].Perm (List.range 2):=by decide
   exact hd a ha b hb h.nd
 | 3,_,[a,b,c],_,h =>
   have ha:a<3:=h.lt 0 (by omega);have hb:b<3:=h.lt 1 (by omega);have hc:c<3:=h.lt 2 (by omega);have hd:∀a,a<3→∀b,b<3→∀c,c<3→[a,b,c].Nodup→[a,b,c].Perm (List.range 3):=by decide
   exact hd a ha b hb c hc h.nd
 | 4,_,[a,b,c,d],_,h =>
   have ha:a<4:=h.lt 0 (by omega);have hb:b<4:=h.lt 1 (by omega);have hc:c<4:=h.lt 2 (by omega);have hdd:d<4:=h.lt 3 (by omega);have hd:((List.range 4).all fun a=>(List.range 4).all fun b=>(List.range 4).all fun c=>(List.range 4).all fun d=>!(decide [a,b,c,d].Nodup) || [a,b,c,d].isPerm (List.range 4))=true:=by decide +kernel
   simp only[List.all_eq_true,List.mem_range]at hd;have h1:=hd a ha b hb c hc d hdd;rw[decide_eq_true h.nd,Bool.not_true,Bool.false_or]at h1;exact List.isPerm_iff.1 h1
theorem pr_perm {l m:List Nat}(h:l.Perm m):pr l=pr m:=by
 induction h with
 | nil=>rfl
 | cons x _ ih=>rw[pr,pr,ih]
 | swap x y l=>simp only[pr];rw[← Nat.mul_assoc,← Nat.mul_assoc,Nat.mul_comm y x]
 | trans _ _ ih1 ih2=>rw[ih1,ih2]
theorem map_range_getD (S:List Nat):(List.range S.length).map (fun k=>S.getD k 0)=S:=by
 refine List.ext_getElem? fun j=>?_
 by_cases hj:j<S.length
 ·simp[hj,Lgd]
 ·rw[Lgn (by simpa using hj),Lgn (by omega)]
theorem list_range_getD (O:List Nat)(g:Nat→Nat):(List.range O.length).map (fun k=>g (O.getD k 0))=O.map g:=by
 refine List.ext_getElem? fun j=>?_
 by_cases hj:j<O.length
 ·simp[hj,Lgd]
 ·rw[Lgn (by simpa using hj),Lgn (by simpa using hj)]
theorem turnS_length (S O:List Nat):(turnS S O).length=O.length:=by simp[turnS]
theorem turnS_get (S O:List Nat){k:Nat}(hk:k<O.length):(turnS S O).getD k 0=S.getD (O.getD k 0) 0:=by
 simp[turnS,Lgd,hk]
theorem pr_turnS {S O:List Nat}(h4:S.length≤4)(h:Ord O S.length):pr (turnS S O)=pr S:=by
 rw[turnS,pr_perm ((perm4 _ h4 O h).map _),map_range_getD]
theorem ok_turnS {S O:List Nat}(ok:Ok S)(h:Ord O S.length):Ok (turnS S O) :=
 {one:=by rw[turnS_length,h.len];exact ok.one,four:=by rw[turnS_length,h.len];exact ok.four
  each:=fun x hx=>by
   obtain⟨j,hj,rfl⟩:=List.mem_map.1 hx;obtain⟨k,hk,e⟩:=List.mem_iff_getElem.1 hj;have:=h.lt k (by rw[← h.len];exact hk);rw[Lgd,Lge hk]at this;simp only[Option.getD_some]at this;rw[e]at this;refine ok.each _ ?_;rw[Lgd,Lge this];exact List.getElem_mem _
  most:=by rw[pr_turnS ok.four h];exact ok.most}
theorem rank_sum:∀(S A:List Nat),A.length=S.length→rank S A=((List.range S.length).map fun j=>A.getD j 0*behind S j).sum
 | [],[],_=>rfl
 | x::r,a::b,h=>by
   have ih:=rank_sum r b (by simpa using h);rw[rank,ih,List.length_cons,List.range_succ_eq_map,List.map_cons,List.sum_cons,List.map_map];rfl
theorem turnI_sum (S O A:List Nat)(n:Nat):turnI S O A n=((List.range n).map fun k=>A.getD k 0*behind S (O.getD k 0)).sum:=by
 induction n with
 | zero=>rfl
 | succ n ih=>rw[turnI,ih,List.range_succ,List.map_append,List.sum_append];simp
theorem idxOf_get {O:List Nat}(nd:O.Nodup){k:Nat}(hk:k<O.length):O.idxOf (O.getD k 0)=k:=by
 rw[Lgd,Lge hk];exact nd.idxOf_getElem k hk
theorem get_idxOf {O:List Nat}{n j:Nat}(h4:n≤4)(h:Ord O n)(hj:j<n):O.idxOf j<n∧O.getD (O.idxOf j) 0=j:=by
 have hm:j∈O:=(perm4 n h4 O h).symm.subset (List.mem_range.2 hj);have h1:O.idxOf j<O.length:=List.idxOf_lt_length_of_mem hm;refine⟨by rw[← h.len];exact h1,?_⟩;rw[Lgd,Lge h1];exact List.getElem_idxOf h1
def unturn (O L:List Nat)(n:Nat):List Nat:=(List.range n).map fun j=>L.getD (O.idxOf j) 0
theorem unturn_get {O L:List Nat}{n j:Nat}(hj:j<n):(unturn O L n).getD j 0=L.getD (O.idxOf j) 0:=by simp[unturn,Lgd,hj]
theorem unturn_box {S O L:List Nat}(h4:S.length≤4)(h:Ord O S.length)(hb:Box (turnS S O) L):Box S (unturn O L S.length):=by
 refine⟨by simp[unturn],fun j hj=>?_⟩;have hi:=get_idxOf h4 h hj;rw[unturn_get hj];have:=hb.2 (O.idxOf j) (by rw[turnS_length,h.len];exact hi.1);rw[turnS_get S O (by rw[h.len];exact hi.1),hi.2]at this;exact this
theorem turnI_is {S O L:List Nat}(h4:S.length≤4)(h:Ord O S.length):turnI S O L S.length=rank S (unturn O L S.length):=by
 rw[turnI_sum,rank_sum S _ (by simp[unturn])];have hp:=(perm4 _ h4 O h).symm.map (fun j=>(unturn O L S.length).getD j 0*behind S j);rw[hp.sum_nat,← list_range_getD O,h.len];congr 1;refine List.map_congr_left fun k hk=>?_
 have hk:=List.mem_range.1 hk;rw[unturn_get (h.lt k hk),idxOf_get h.nd (by rw[h.len];exact hk)]
theorem turn_box {S O A:List Nat}(h:Ord O S.length)(hb:Box S A):Box (turnS S O) (turnS A O):=by
 refine⟨by rw[turnS_length,turnS_length],fun k hk=>?_⟩;rw[turnS_length]at hk;rw[turnS_get _ _ hk,turnS_get _ _ hk];exact hb.2 _ (h.lt k (by rw[← h.len];exact hk))
theorem unturn_turn {S O A:List Nat}(h4:S.length≤4)(h:Ord O S.length)(hA:A.length=S.length):unturn O (turnS A O) S.length=A:=by
 refine List.ext_getElem? fun j=>?_
 by_cases hj:j<S.length
 ·have hi:=get_idxOf h4 h hj
  have e:=unturn_get (O:=O) (L:=turnS A O) hj;rw[turnS_get A O (by rw[h.len];exact hi.1),hi.2]at e;rw[Lgd,Lgd,Lge (by simpa[unturn]using hj),Lge (by omega)]at e;rw[Lge (by simpa[unturn]using hj),Lge (by omega)]
  simpa using e
 ·rw[Lgn (by simpa[unturn]using hj),Lgn (by omega)]
theorem turn_unturn {S O L:List Nat}(h4:S.length≤4)(h:Ord O S.length)(hL:L.length=S.length):turnS (unturn O L S.length) O=L:=by
 refine List.ext_getElem? fun k=>?_
 by_cases hk:k<S.length
 ·have e:=turnS_get (unturn O L S.length) O (k:=k) (by rw[h.len];exact hk)
  rw[unturn_get (h.lt k hk),idxOf_get h.nd (by rw[h.len];exact hk)]at e;rw[Lgd,Lgd,Lge (by rw[turnS_length,h.len];exact hk),Lge (by omega)]at e;rw[Lge (by rw[turnS_length,h.len];exact hk),Lge (by omega)]
  simpa using e
 ·rw[Lgn (by rw[turnS_length,h.len];omega),Lgn (by omega)]
theorem turnI_lt {S O L:List Nat}(h4:S.length≤4)(h:Ord O S.length)(hb:Box (turnS S O) L):turnI S O L S.length<pr S:=by
 rw[turnI_is h4 h];exact rank_lt (unturn_box h4 h hb)
theorem turnI_mono (S O L:List Nat):∀{k n:Nat},k≤n→turnI S O L k≤turnI S O L n:=by
 intro k n h
 induction n with
 | zero=>have:k=0:=by omega
         subst this;exact Nat.le_refl _
 | succ n ih =>
   rcases Nat.lt_or_ge n k with h1|h1
   ·have:k=n+1:=by omega
    subst this;exact Nat.le_refl _
   ·rw[turnI];exact Nat.le_trans (ih h1) (Nat.le_add_right _ _)
theorem turn_sets {S O:List Nat}(ok:Ok S)(h:Ord O S.length)(L:List Int) :
  sets (fun i=>rank (turnS S O) (turnS (unrank S i) O)) (fun i=>at_ L i) (List.replicate (pr S) 0) (pr S)=turnL S O L:=by
 have h4:=ok.four;have hT:=ok_turnS ok h;rw[turnL,pr_turnS h4 h,h.len];refine sets_all _ _ (fun i=>at_ L (turnI S O (unrank (turnS S O) i) S.length)) (pr S) (pr S) (fun j hj=>?_) (fun k hk=>?_)
 ·show at_ L j=at_ L _
  congr 1;have hb:=unrank_box ok.each j;rw[unrank_rank (turn_box h hb),turnI_is h4 h,unturn_turn h4 h (unrank_length S j),rank_unrank hj]
 ·have hk':k<pr (turnS S O):=by rw[pr_turnS h4 h];exact hk
  have hb:=unrank_box hT.each k;have hu:=unturn_box h4 h hb;refine⟨rank S (unturn O (unrank (turnS S O) k) S.length),rank_lt hu,?_⟩
  show rank (turnS S O) (turnS (unrank S _) O)=k
  rw[unrank_rank hu,turn_unturn h4 h (by rw[unrank_length,turnS_length,h.len]),rank_unrank hk']
theorem turnL_in {S O:List Nat}{L:List Int}(ok:Ok S)(h:Ord O S.length)(hl:L.length=pr S)(hL:∀y∈L,-2147483648≤y∧y≤2147483647):∀y∈turnL S O L,-2147483648≤y∧y≤2147483647:=map_in fun i hi=>by
 refine hL _ ?_;have:=turnI_lt ok.four h (unrank_box (ok_turnS ok h).each i);rw[h.len,at_lt (by rw[hl];exact this)];exact List.getElem_mem _
end Me
end
section
open Go Go.RowKit
theorem indexI_any (w:World)(a:Option Addr)(n c:Nat)(xs:List Int)(v:Int)(hl:xs.length=n)(hn:(n:Int)≤1000000000000)(hr:Rd w a (ints .i64 xs)) :
  Calls Tryz.prog 228 #[.slice a n c,.int .i64 v] w fun e w'=>(∃j:Int,e = .returned (.int .i64 j)∧(decide (0≤j)=decide (v∈xs)))∧w=w':=by
 have Hr:=Lib.hid hr;have Hl:=Lib.hid hl;clear hr hl;go_enter Tryz.func228,Tryz.ntmps228;go_wp2
 go_loopg [8] n (fun gh s8 wr=>∃k:Nat,k+gh=n∧s8 = .int .i64 ((k:Nat):Int)∧Hid (∀x∈xs.take k,x≠v)∧Hid (wr=w))
 case atStart=>exact⟨0,by omega,rfl,(fun x hx=>by simp at hx),rfl⟩
 case round =>
  obtain⟨k,hkg,rfl,HN,hwr⟩:=hrel;have hww:w=wr:=hwr.out.symm;clear hwr;subst hww;cases gk with
  | zero =>
    obtain rfl:k=n:=by omega
    have hR:Hid (decide ((0:Int)≤ -1)=decide (v∈xs)):=by
     show _=_
     rw[decide_eq_false (by omega),decide_eq_false (fun h=>HN.out v (by rw[List.take_of_length_le (by rw[Hl.out];exact Nat.le_refl _)];exact h) rfl)]
    go_wp2;go_ret;exact⟨⟨_,rfl,hR.out⟩,rfl⟩
  | succ g' =>
    have hki:(k:Int)<(n:Nat):=by omega
    obtain⟨b,o,rfl,cx⟩:=Hr.out.int (i:=k) (by rw[Hl.out];omega);obtain⟨x,hx⟩:∃x,xs.getD k 0=x:=⟨_,rfl⟩;rw[hx]at cx
    by_cases hv:v=x
    ·have hR:Hid (decide ((0:Int)≤(k:Nat))=decide (v∈xs)):=by
      show _=_
      rw[decide_eq_true (by omega),decide_eq_true (by rw[hv,← hx,Lgd,Lge (by rw[Hl.out];omega)];exact List.getElem_mem _)]
     have hb:(v==x)=true:=by simpa using hv
     clear hx HN hv;go_wp2;go_ret;exact⟨⟨_,rfl,hR.out⟩,rfl⟩
    ·have hb:(v==x)=false:=by simpa using hv
     have HN2:Hid (∀y∈xs.take (k+1),y≠v):=fun y hy=>by
      rw[List.take_add_one,Lge (by rw[Hl.out];omega)]at hy;rcases List.mem_append.1 hy with h|h
      ·exact HN.out y h
      ·rw[Lgd,Lge (by rw[Hl.out];omega)]at hx
       simp at h hx;rw[h,hx];exact fun e=>hv e.symm
     clear hx HN hv;go_wp2
     go_roundg g'
     case measure=>omega
     case rel=>exact⟨k+1,by omega,by go_num,HN2,rfl⟩
theorem containsI_any (w:World)(a:Option Addr)(n c:Nat)(xs:List Int)(v:Int)(hl:xs.length=n)(hn:(n:Int)≤1000000000000)(hr:Rd w a (ints .i64 xs)) :
  Calls Tryz.prog 203 #[.slice a n c,.int .i64 v] w fun e w'=>e = .returned (.bool (decide (v∈xs)))∧w=w':=by
 have C:=Lib.hid (indexI_any w a n c xs v hl hn hr);clear hl hr;go_enter Tryz.func203,Tryz.ntmps203;go_wp2_with fail;refine C.out.mono ?_;rintro e w' ⟨⟨j,rfl,hj⟩,rfl⟩;have HJ:=Lib.hid hj;clear hj;go_wp2;go_ret;exact⟨by rw[← HJ.out];rfl,rfl⟩
theorem behind_in (w:World)(a:Option Addr)(n c k:Nat)(S:List Nat)(ok:Me.Ok S)(hn:S.length=n)(hc:n≤c)(hr:Rd w a (nums .i64 S))(hk:k<n) :
  Calls Tryz.prog 206 #[.slice a n c,.int .i64 ((k:Nat):Int)] w fun e w'=>e = .returned (.int .i64 ((Me.behind S k:Nat):Int))∧w=w':=by
 obtain⟨I,hi0,hi1,hi2,hi3⟩:=info_I;have hn4:n≤4:=by rw[← hn];exact ok.four
 have hcut:∀wx:World,(Instr.slice 258 (.slice a n c) (some (.int .i64 ((k:Int)+1))) none none).run Tryz.prog wx = .ok (.slice (cutAddr a c (k+1)) (n-(k+1)) (c-(k+1))) wx:=fun wx =>
  run_cut (P:=Tryz.prog) Tryz.underlying258 hi0 hi2 a n c (k+1) .i64 (by omega) wx
 have hrd:Rd w (cutAddr a c (k+1)) (nums .i64 (S.drop (k+1))):=by
  have:=hr.cut (cap:=c) (l:=k+1) (by rw[nums_length];omega)
  simpa[nums,List.map_drop]using this
 obtain⟨a2,ha2⟩:∃a2,cutAddr a c (k+1)=a2:=⟨_,rfl⟩;rw[ha2]at hcut hrd;obtain⟨n2,hn2⟩:∃n2,n-(k+1)=n2:=⟨_,rfl⟩;obtain⟨c2,hc2⟩:∃c2,c-(k+1)=c2:=⟨_,rfl⟩;rw[hn2,hc2]at hcut;have Hl:=Lib.hid (show(S.drop (k+1)).length=n2 by rw[List.length_drop,hn,hn2]);have Hr:=Lib.hid hrd;have Hok:=Lib.hid ok;have hn24:n2≤4:=by omega
 have hw:IntKind.i64.wrap ((k:Int)+1)=(k:Int)+1:=IntWalk.i64_in _ (by omega);clear ok hn hr hrd hi0 hi1 hi2 hi3 ha2 hn2 hc2;go_enter Tryz.func206,Tryz.ntmps206;go_wp2
 go_loopg [5,13] n2 (fun gh s5 s13 wr=>∃j p:Nat,j+gh=n2∧s13 = .int .i64 ((j:Nat):Int)∧s5 = .int .i64 ((p:Nat):Int)∧Hid (p=Me.pr ((S.drop (k+1)).take j))∧Hid (wr=w))
 case atStart=>exact⟨0,1,by omega,rfl,rfl,rfl,rfl⟩
 case round =>
  obtain⟨j,p,hjg,rfl,rfl,HP,hwr⟩:=hrel;have hww:w=wr:=hwr.out.symm;clear hwr;subst hww;cases gk with
  | zero =>
    obtain rfl:j=n2:=by omega
    have HR:Hid (p=Me.behind S k):=by
     show _=_
     rw[HP.out,List.take_of_length_le (by rw[Hl.out];exact Nat.le_refl _)];rfl
    go_wp2;go_ret;exact⟨by rw[HR.out];rfl,rfl⟩
  | succ g' =>
    have hjn:(j:Int)<(n2:Nat):=by omega
    obtain⟨b,o,rfl,cx⟩:=Hr.out.num (i:=j) (by rw[Hl.out];omega);obtain⟨x,hx⟩:∃x,(S.drop (k+1)).getD j 0=x:=⟨_,rfl⟩;rw[hx]at cx;obtain⟨q,hq⟩:∃q,p*x=q:=⟨_,rfl⟩
    have hqp:q=Me.pr ((S.drop (k+1)).take (j+1)):=by
     rw[List.take_add_one,Lge (by rw[Hl.out];omega),Me.pr_append,← HP.out,← hq];rw[Lgd,Lge (by rw[Hl.out];omega)]at hx;simp only[Option.getD_some]at hx;simp[Me.pr,hx]
    have hq4:q≤4096:=by
     have h1:Me.pr ((S.drop (k+1)).take (j+1))≤Me.pr (S.drop (k+1)):=by
      have e:Me.pr (S.drop (k+1))=Me.pr ((S.drop (k+1)).take (j+1))*Me.pr ((S.drop (k+1)).drop (j+1)):=by rw[← Me.pr_append,List.take_append_drop]
      rw[e];exact Nat.le_mul_of_pos_right _ (Me.pr_pos fun x hx=>Hok.out.each x (List.mem_of_mem_drop (List.mem_of_mem_drop hx)))
     have h2:=Me.pr_drop_le Hok.out.each (k+1);have h3:=Hok.out.most;omega
    have hw2:IntKind.i64.wrap ((p:Int)*(x:Int))=((q:Nat):Int):=by rw[← Int.natCast_mul,hq];exact IntWalk.i64_in _ (by omega)
    have HQ:=Lib.hid hqp;clear hx hq hqp HP;go_wp2
    go_roundg g'
    case measure=>omega
    case rel=>exact⟨j+1,q,by omega,by go_num,rfl,HQ,rfl⟩
theorem filled_in (w:World)(f:FuncId)(hf:∀(args:Array Value) (wx:World),(callFunc f args).run Tryz.prog wx = .ok (.enter f args) wx)(p1 p2:Value)(a:Option Addr)(n c m:Nat)(S:List Nat)(F:Nat→Int)(ok:Me.Ok S)(hn:S.length=n)(hm:Me.pr S=m)(hr:Rd w a (nums .i64 S))
  (hF:∀(i:Nat) (W:World) (g:Nat),i<m→Touch No w W→Row W g 3 (nums .i64 (Me.unrank S i))→Calls Tryz.prog f #[.slice (some ⟨g,0,none⟩) n n,p1,p2] W fun e w'=>e = .returned (.int .i32 (F i))∧Touch No W w')
  (hFr:∀i,i<m→ -2147483648≤F i∧F i≤2147483647) :
  Calls Tryz.prog 204 #[.slice a n c,.func (.func f) #[] #[p1,p2]] w (TOut w S ((List.range m).map F)):=by
 have Hr:=Lib.hid hr;have HF:=Lib.hid hF;have HFr:=Lib.hid hFr;have Hn:=Lib.hid hn;have Hm:=Lib.hid hm;have Hok:=Lib.hid ok;have hm4:m≤4096:=by rw[← hm];exact ok.most
 obtain⟨OUT,hOUT⟩:∃OUT,OUT=(List.range m).map F:=⟨_,rfl⟩;rw[← hOUT];have HOUT:=Lib.hid hOUT;clear hr hF hFr hn hm ok hOUT;go_enter Tryz.func204,Tryz.ntmps204;go_wp2_with fail;obtain⟨w1,hw1⟩:∃w1,w1=w.alloc (.cells #[.slice none 0 0,.slice none 0 0] 51):=⟨_,rfl⟩
 have H1:Hid (Touch No w w1∧Row w1 w.heap.size 51 [.slice none 0 0,.slice none 0 0]):=by
  refine⟨by rw[hw1];exact(Touch.refl No w).alloc _,by rw[hw1];exact Row.new w _ _⟩
 rw[← hw1];clear hw1;refine(tenNew_in w1 a n c S (Hr.out.no H1.out.1) Hn.out Hok.out).mono ?_;rintro e w3 ⟨sc,n3,d3,g,m3,rfl,hn3,hm3,hd3,hsr,hsc,hg,hrow,t3⟩;obtain rfl:n3=n:=by rw[← hn3,Hn.out]
 obtain rfl:m3=m:=by rw[← hm3,Hm.out]
 obtain⟨Y,hY⟩:∃Y,Y=w3.heap.size:=⟨_,rfl⟩;obtain⟨w5,hw5⟩:∃w5,w5=w3.alloc (.cells #[.slice sc n3 d3,.slice (some ⟨g,0,none⟩) m3 m3] 51):=⟨_,rfl⟩;have FH:Hid (Fld w w5 w.heap.size g Y sc n3 d3 m3 S):=by rw[hw5,hY];exact Fld.make H1.out.1 H1.out.2.lt (Nat.le_refl _) Hok.out Hn.out Hm.out hd3 hsr hsc hg hrow t3
 have H5:Hid (Row w5 w.heap.size 51 [.slice none 0 0,.slice none 0 0]):=H1.out.2.touch (by rw[hw5];exact t3.alloc _) id;clear hn3 hm3 hd3 hsr hsc hg hrow t3 H1;have ky:=FH.out.rowY.c1;go_wp2_with fail;rw[← hw5,← hY];clear hw5 hY ky;have ky:=FH.out.rowY.c1;go_wp2_with fail;clear ky;have Hl:=Lib.hid (show OUT.length=m3 by rw[HOUT.out,List.length_map,List.length_range]);have Hl':=Lib.hid (show(ints .i32 OUT).length=m3 by rw[ints_length];exact Hl.out);have Hin':Hid (∀y∈OUT,-2147483648≤y∧y≤2147483647):=by rw[HOUT.out];exact Me.map_in HFr.out
 have hXg:w.heap.size<g:=FH.out.Xg;have hgY:g<Y:=FH.out.gY
 go_loopg [19] m3 (fun gh s19 wr=>∃k:Nat,k+gh=m3∧s19 = .int .i64 ((k:Nat):Int)∧Hid (Touch (One g) w5 wr)∧Hid (Row wr g 21 (fill (ints .i32 OUT) (.int .i32 0) k)))
 case atStart=>exact⟨0,by omega,rfl,Touch.refl _ _,FH.out.start Hl'.out⟩
 case round =>
  obtain⟨k,hkg,rfl,T,R⟩:=hrel;cases gk with
  | zero =>
    obtain rfl:k=m3:=by omega
    have ky:=FH.out.cell T.out;have kx:=H5.out.keep T.out (by omega);have ky0:=FH.out.cell0 T.out;have R:=Lib.hid (show Row wr g 21 (ints .i32 OUT) by have:=R.out;rw[fill_all _ _ Hl'.out]at this;exact this);go_wp2_with (refine wpList_store_mid rfl 51 _ _ rfl (w.heap.size) 0 51 [.slice none 0 0,.slice none 0 0] kx rfl [.slice sc n3 d3,.slice (some ⟨g,0,none⟩) k k] rfl (by kernel_rfl) (by simp) (by intro v hv;simp at hv;rcases hv with rfl|rfl <;> rfl) ?_);obtain⟨w9,hw9⟩:∃w9,w9=wr.setRow (w.heap.size) (splice [.slice none 0 0,.slice none 0 0] 0 [.slice sc n3 d3,.slice (some ⟨g,0,none⟩) k k]).toArray:=⟨_,rfl⟩;have R9:Row w9 (w.heap.size) 51 [.slice sc n3 d3,.slice (some ⟨g,0,none⟩) k k]:=by rw[hw9];exact kx.setRow _
    have HN:=Lib.hid (FH.out.done T.out R.out Hl.out Hin'.out (show Touch (One (w.heap.size)) wr w9 by rw[hw9];exact Touch.setOne _ _ _));have y0:=R9.c0;have y1:=R9.c1;rw[← hw9];clear hw9 kx R9;go_wp2;refine bodyPost_ret (v:=.tuple #[.agg #[.slice sc n3 d3,.slice (some ⟨g,0,none⟩) k k],.int .i64 0]) (by simp[results,Tryz.results204,go_sem,y0,y1]) rfl ?_;exact⟨sc,n3,d3,_,k,k,rfl,HN.out.1,HN.out.2⟩
  | succ g' =>
    have hki:(k:Int)<(m3:Nat):=by omega
    go_wp2_with fail;have hwr:Touch No w wr:=FH.out.t.oneNo T.out (by omega);refine(shapesAt_in wr a n3 c k S Hok.out Hn.out (Hr.out.no hwr) (by rw[Hm.out];omega)).mono ?_;rintro e w2 ⟨h,rfl,hrow,hhg,t2⟩;obtain⟨z,hz⟩:∃z,F k=z:=⟨_,rfl⟩;have T2:Hid (Touch (One g) w5 w2):=T.out.trans t2.no;have R2:=Lib.hid (R.out.touch t2 id)
    have C:Hid (∀j,Calls Tryz.prog f #[.slice (some ⟨h,0,none⟩) n3 n3,p1,p2] (w2.drewN j) fun e w'=>e = .returned (.int .i32 z)∧Touch No (w2.drewN j) w'):=fun j=>by
     rw[← hz];exact HF.out k (w2.drewN j) h (by omega) ((hwr.trans t2).drewN j) (hrow.touch ((Touch.refl No w2).drewN j) id)
    have hv:(ints .i32 OUT)[k]? = some (.int .i32 z):=by
     rw[ints_at (by rw[Hl.out];omega),HOUT.out,Me.at_map _ (by omega),hz]
    have Hv:=Lib.hid hv;clear hwr hrow hhg t2 hz T R hv;go_wp2_with fail;have ky:=FH.out.cell T2.out;have cg:=Fld.slot R2.out (by rw[Hl'.out];omega);have cz:w2.frozen? ⟨g,k,none⟩=false:=R2.out.soft k;have Q:Hid (∀W:World,Touch (One g) w2 W→W.cell? ⟨Y,1,none⟩=some (.slice (some ⟨g,0,none⟩) m3 m3)):=fun W t=>FH.out.cell (T2.out.trans t)
    go_region_held3 (fun w'=>w'.cell? ⟨Y,1,none⟩=some (.slice (some ⟨g,0,none⟩) m3 m3)) (first|exact ky|exact Q.out _ tq.out.no|exact Q.out _ (Touch.setCell (F:=One g) (p:=⟨g,k,none⟩) tq.out.no (fun _=>(rfl:g=g)) _)) (first|(refine(C.out 1).mono ?_;rintro e wq ⟨rfl,tq0⟩;have tq:=Lib.hid ((Touch.refl No w2).drew.trans tq0);clear tq0;have cg2:=tq.out.cell id cg;have cz2:wq.frozen? ⟨g,k,none⟩=false:=(R2.out.touch tq.out id).soft k))
    have HT:=Lib.hid (Touch.setCell (F:=One g) (p:=⟨g,k,none⟩) (T2.out.trans tq.out.no) (fun _=>(rfl:g=g)) (.int .i32 z))
    have HR:Hid (Row (wq.setCell ⟨g,k,none⟩ (.int .i32 z)) g 21 (fill (ints .i32 OUT) (.int .i32 0) (k+1))):=by
     have:=(R2.out.touch tq.out id).setCell k (.int .i32 z);rw[fill_next Hv.out]at this;exact this
    clear cg cz ky;go_wp2
    go_roundg g'
    case measure=>omega
    case rel=>exact⟨k+1,by omega,by go_num,HT,HR⟩
theorem turn1_in (w:World)(h p1 p2:Nat)(oa sa la:Option Addr)(n oc c m d:Nat)(S O L:List Nat)(A:List Int)(hA:TIn w sa n c la m d S A)(hO:Me.Ord O n)(hor:Rd w oa (nums .i64 O))(hb:Me.Box (Me.turnS S O) L)
  (k1:w.cell? ⟨p1,0,none⟩=some (.slice oa n oc)) (k2:w.cell? ⟨p2,0,none⟩=some (.slice sa n c)) (k3:w.cell? ⟨p2,1,none⟩=some (.slice la m d)) (hr:Row w h 3 (nums .i64 L)) :
  Calls Tryz.prog 205 #[.slice (some ⟨h,0,none⟩) n n,.pointer (some ⟨p1,0,none⟩),.pointer (some ⟨p2,0,none⟩)] w fun e w'=>e = .returned (.int .i32 (Me.at_ A (Me.turnI S O L n)))∧Touch No w w':=by
 have hS:=hA.sn;have hOS:Me.Ord O S.length:=by rw[hS];exact hO
 have hL:L.length=n:=by rw[hb.1,Me.turnS_length,hO.len]
 have hlt:Me.turnI S O L n<m:=by have:=Me.turnI_lt hA.ok.four hOS hb;rw[hS,hA.len]at this;exact this
 have hm4:=hA.m4;have hn4:=hA.n4;have HA:=Lib.hid hA;have HO:=Lib.hid hO;have HOr:=Lib.hid hor;have HR:=Lib.hid hr;have HL:=Lib.hid hL;have HB:=Lib.hid hb;have HS:=Lib.hid hS;have K1:=Lib.hid k1;have K2:=Lib.hid k2;have K3:=Lib.hid k3;clear hA hO hor hr hL hb hS hOS k2 k3;go_enter Tryz.func205,Tryz.ntmps205;go_wp2;clear k1
 go_loopg [5,10] n (fun gh s5 s10 wr=>∃k q:Nat,k+gh=n∧s10 = .int .i64 ((k:Nat):Int)∧s5 = .int .i64 ((q:Nat):Int)∧Hid (q=Me.turnI S O L k)∧Hid (∃j,wr=w.drewN j))
 case atStart=>exact⟨0,0,by omega,rfl,rfl,rfl,0,rfl⟩
 case round =>
  obtain⟨k,q,hkg,rfl,rfl,HQ,HW⟩:=hrel;obtain⟨jw,hjw⟩:=HW.out;have tw:Touch No w wr:=by rw[hjw];exact(Touch.refl No w).drewN jw
  have HJ:=Lib.hid hjw;clear HW hjw;cases gk with
  | zero =>
    obtain rfl:k=n:=by omega
    have k3:=tw.cell id K3.out;obtain⟨b,o,rfl,cx⟩:=(HA.out.no tw).num (k:=q) (by rw[HQ.out];exact hlt);have hqm:(q:Int)<(m:Nat):=by rw[HQ.out];omega
    have HX:Hid (Me.at_ A q=Me.at_ A (Me.turnI S O L k)):=by show _=_;rw[HQ.out]
    have HT:=Lib.hid tw;clear HQ tw;go_wp2;go_ret;exact⟨by rw[← HX.out];rfl,HT.out⟩
  | succ g' =>
    have hki:(k:Int)<(n:Nat):=by omega
    have k2:=tw.cell id K2.out;obtain⟨b,o,rfl,cx⟩:=(HOr.out.no tw).num (i:=k) (by rw[HO.out.len];omega);obtain⟨x,hx⟩:∃x,O.getD k 0=x:=⟨_,rfl⟩;have hxn:=HO.out.lt k (by omega);rw[hx]at cx hxn
    have cl:wr.cell? ⟨h,k,none⟩=some (.int .i64 ((L.getD k 0:Nat):Int)):=by
     rw[(HR.out.touch tw id).cell];exact nums_get (by rw[HL.out];omega)
    obtain⟨y,hy⟩:∃y,L.getD k 0=y:=⟨_,rfl⟩;rw[hy]at cl;obtain⟨bb,hbb⟩:∃bb,Me.behind S x=bb:=⟨_,rfl⟩
    have C:Hid (∀j,Calls Tryz.prog 206 #[.slice sa n c,.int .i64 ((x:Nat):Int)] (wr.drewN j) fun e w'=>e = .returned (.int .i64 ((bb:Nat):Int))∧w'=wr.drewN j):=fun j=>by
     have:=behind_in (wr.drewN j) sa n c x S HA.out.ok HS.out HA.out.sc (HA.out.no (tw.drewN j)).sr hxn;rw[hbb]at this;exact this.mono fun _ _ h=>⟨h.1,h.2.symm⟩
    obtain⟨yb,hyb⟩:∃yb,y*bb=yb:=⟨_,rfl⟩;obtain⟨v,hv⟩:∃v,q+yb=v:=⟨_,rfl⟩;have hvt:v=Me.turnI S O L (k+1):=by rw[Me.turnI,← HQ.out,hy,hx,hbb,hyb,hv]
    have hvm:v<m:=by have:=Me.turnI_mono S O L (k:=k+1) (n:=n) (by omega);rw[← hvt]at this;omega
    have q1:IntKind.i64.wrap ((y:Int)*(bb:Int))=((yb:Nat):Int):=by rw[← Int.natCast_mul,hyb];exact IntWalk.i64_in _ (by omega)
    have q2:IntKind.i64.wrap ((q:Int)+(yb:Int))=((v:Nat):Int):=by rw[← Int.natCast_add,hv];exact IntWalk.i64_in _ (by omega)
    have HV:=Lib.hid hvt;clear hx hy hbb hyb hv hvt HQ tw;go_wp2;refine wp_region_quiet_lit (by kernel_rfl) (by kernel_rfl) ?_;repeat (first|go_big_quiet_step ((go_at_call 206;exact Calls.quiet_of_same (C.out _)))|quiet_step ((go_at_call 206;exact Calls.quiet_of_same (C.out _))))
    refine wpQuiet_nil ?_;intro _ hw';obtain⟨nq,hw''⟩:=hw';subst hw'';go_wp2;have HW2:Hid (∃j,wr.drewN nq=w.drewN j):=⟨jw+nq,by rw[HJ.out,World.drewN_drewN]⟩
    go_roundg g'
    case measure=>omega
    case rel=>exact⟨k+1,v,by omega,by go_num,rfl,HV,HW2⟩
end
end Go.Proofs.YtjlphmmalebgpaaGreat
