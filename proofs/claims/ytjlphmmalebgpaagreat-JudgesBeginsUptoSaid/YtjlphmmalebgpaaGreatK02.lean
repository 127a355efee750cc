/-
  A part of the proof.
-/
import Derived.Test.YtjlphmmalebgpaaGreatK01
set_option linter.unusedSimpArgs false
set_option linter.unusedVariables false
set_option maxHeartbeats 4000000
set_option maxRecDepth 100000
namespace Go.Proofs.YtjlphmmalebgpaaGreat
section
open Go.ChangeShapes Go.WideShapes Go.ChangeAt Go.RowKit
section
variable {H:Type} {enc:TypeId × Value→H} {w:World}
theorem cells_rd_act:Tryz.prog.cellsOf 58=3:=by kernel_rfl
theorem cells_rd_u32:Tryz.prog.cellsOf 56=1:=by kernel_rfl
theorem cells_rd_tensor:Tryz.prog.cellsOf 51=2:=by kernel_rfl
theorem cells_rd_ints:Tryz.prog.cellsOf 48=1:=by kernel_rfl
theorem cells_rd_n32:Tryz.prog.cellsOf 49=1:=by kernel_rfl
theorem cells_rd_ints_e:Tryz.prog.cellsOf 3=1:=by kernel_rfl
theorem bytes_rd_ints:Tryz.prog.bytesOf 3=8:=by kernel_rfl
theorem cells_rd_n32_e:Tryz.prog.cellsOf 21=1:=by kernel_rfl
theorem bytes_rd_n32:Tryz.prog.bytesOf 21=4:=by kernel_rfl
theorem open_rd_deed {fuel:Nat}{cs:List Value}{x:DataW H × List MemPlace}{c o:Nat}(hc:∀j,j<3→w.cell? ⟨c,o+j,none⟩=cs[j]?)
  (h:DataW.trod enc Tryz.prog w 0 (fun _=>true) true fuel 58 cs=some x) (hz:∀n∈DataW.weights Tryz.prog 58 x.1,n≤reachBytes) :
  ∃d:RdDeed,RdDeedAt w c o d:=by
 obtain⟨xs,n,rfl,rfl,hlen,hxs,hf⟩:=DataW.trod_struct Tryz.underlying58 h;rw[cells_rd_act]at hlen;have f0:DataW.trod enc Tryz.prog w 0 (fun _=>true) true n 56 (List.take (Tryz.prog.cellsOf 56) (List.drop 0 cs))=xs[0]?:=hf 0 _ rfl;rw[cells_rd_u32]at f0;have f1:DataW.trod enc Tryz.prog w 0 (fun _=>true) true n 51 (List.take (Tryz.prog.cellsOf 51) (List.drop 1 cs))=xs[1]?:=hf 1 _ rfl;rw[cells_rd_tensor]at f1
 match xs,hxs with
 | [x0,x1],_ =>
 match cs,hlen with
 | [c0,c1,c2],_ =>
   obtain⟨i0,e0,_,w0⟩:=DataW.trod_int Tryz.underlying56 (show DataW.trod enc Tryz.prog w 0 (fun _=>true) true _ 56 [c0]=some x0 from f0);obtain⟨ys1,n1,rfl,rfl,_,hys1,hg1⟩:=DataW.trod_struct Tryz.underlying51 (show DataW.trod enc Tryz.prog w 0 (fun _=>true) true n 51 [c1,c2]=some x1 from f1);have g1_0:DataW.trod enc Tryz.prog w 0 (fun _=>true) true n1 48 (List.take (Tryz.prog.cellsOf 48) (List.drop 0 [c1,c2]))=ys1[0]?:=hg1 0 _ rfl;rw[cells_rd_ints]at g1_0;have g1_1:DataW.trod enc Tryz.prog w 0 (fun _=>true) true n1 49 (List.take (Tryz.prog.cellsOf 49) (List.drop 1 [c1,c2]))=ys1[1]?:=hg1 1 _ rfl;rw[cells_rd_n32]at g1_1
   obtain⟨y1_0,y1_1,rfl⟩:∃y1_0 y1_1,ys1=[y1_0,y1_1]:=by
    match ys1,hys1 with
    | [a0,a1],_=>exact⟨a0,a1,rfl⟩
   obtain⟨a1_0,cap1_0,z1_0,e1_0,hl1_0,hm1_0,hr1_0,hwf1_0,hwt1_0,_⟩:=open_list Tryz.underlying48 Tryz.underlying3 cells_rd_ints_e (show DataW.trod enc Tryz.prog w 0 (fun _=>true) true _ 48 [c1]=some y1_0 from g1_0);obtain⟨a1_1,cap1_1,z1_1,e1_1,hl1_1,hm1_1,hr1_1,hwf1_1,hwt1_1,_⟩:=open_list Tryz.underlying49 Tryz.underlying21 cells_rd_n32_e (show DataW.trod enc Tryz.prog w 0 (fun _=>true) true _ 49 [c2]=some y1_1 from g1_1);simp only[List.cons.injEq,and_true]at e0 e1_0 e1_1;subst e0 e1_0 e1_1;have b0:=bounds_u32 w0
   have hcap1_0:(cap1_0:Int)*8≤140737488355328:=by
    rcases hwt1_0 with h0|h0
    ·omega
    ·have:cap1_0*Tryz.prog.bytesOf 3≤reachBytes:=hz _ (by
      simp only[DataW.weights,Tryz.underlying58,Tryz.underlying51,DataW.weightsEach,List.map_cons,List.map_nil,List.mem_append];exact Or.inr (Or.inl (Or.inl h0)))
     rw[bytes_rd_ints]at this;unfold reachBytes at this;omega
   have hcap1_1:(cap1_1:Int)*4≤140737488355328:=by
    rcases hwt1_1 with h0|h0
    ·omega
    ·have:cap1_1*Tryz.prog.bytesOf 21≤reachBytes:=hz _ (by
      simp only[DataW.weights,Tryz.underlying58,Tryz.underlying51,DataW.weightsEach,List.map_cons,List.map_nil,List.mem_append];exact Or.inr (Or.inl (Or.inr (Or.inl h0))))
     rw[bytes_rd_n32]at this;unfold reachBytes at this;omega
   refine⟨⟨i0.toNat,z1_0,a1_0,cap1_0,z1_1,a1_1,cap1_1⟩,{cell:=?_,ix_lt:=?_,t_s_rd:=?_,t_s_le:=?_,t_s_max:=?_,t_s_each:=?_,t_l_rd:=?_,t_l_le:=?_,t_l_max:=?_,t_l_each:=?_}⟩
   ·intro j hj
    rw[hc j hj];simp only[RdDeed.cells,List.length_map,Int.toNat_of_nonneg b0.1]
   ·show i0.toNat<4294967296
    omega
   ·exact hr1_0
   ·exact hl1_0
   ·exact hcap1_0
   ·exact hwf1_0
   ·exact hr1_1
   ·exact hl1_1
   ·exact hcap1_1
   ·exact hwf1_1
end
end
section
open Go.ChangeShapes Go.WideShapes Go.ChangeAt Go.RowKit
theorem bulk_one {H:Type}(d:DataW H):1≤Rows.uptoBulk d:=by
 cases d with
 | lit l=>cases l <;> simp[Rows.uptoBulk]
 | nil=>simp[Rows.uptoBulk]
 | ptr d=>simp[Rows.uptoBulk]
 | slice elems spare=>simp[Rows.uptoBulk]
 | agg parts=>simp[Rows.uptoBulk]
 | iface t d=>simp[Rows.uptoBulk]
 | map entries=>simp[Rows.uptoBulk]
 | held h=>simp[Rows.uptoBulk]
theorem bulk_len {H:Type}(l:List (DataW H)):l.length≤Rows.uptoBulkAll l:=by
 induction l with
 | nil=>simp[Rows.uptoBulkAll]
 | cons x r ih=>have:=bulk_one x;simp only[Rows.uptoBulkAll,List.length_cons];omega
theorem bulk_part {H:Type}{d:DataW H}{l:List (DataW H)}(h:d∈l):Rows.uptoBulk d≤Rows.uptoBulkAll l:=by
 induction l with
 | nil=>cases h
 | cons x r ih =>
   simp only[Rows.uptoBulkAll];rcases List.mem_cons.1 h with e|e
   ·subst e;omega
   ·have:=ih e;omega
section
variable {H:Type} {enc:TypeId × Value→H} {w:World}
theorem bulk_slice {t e:TypeId}{fuel:Nat}{cs:List Value}{x:DataW H × List MemPlace}(ht:Tryz.prog.underlying t=some (.slice e))(h:DataW.trod enc Tryz.prog w 0 (fun _=>true) true fuel t cs=some x)
  {a:Option Addr} {n cap:Nat} (hc:cs=[.slice a n cap]):n+1≤Rows.uptoBulk x.1:=by
 subst hc;rcases DataW.trod_slice ht h with⟨hh,rfl⟩|⟨a',len,cap',elems,rest,m,rfl,hh,rfl,hb,hl,hm,hlen,hel,_,_⟩
 ·simp only[List.cons.injEq,Value.slice.injEq,and_true]at hh
  obtain⟨_,rfl,_⟩:=hh;simp[Rows.uptoBulk]
 ·simp only[List.cons.injEq,Value.slice.injEq,and_true]at hh
  obtain⟨_,rfl,_⟩:=hh;have:=bulk_len (elems.map (·.1));rw[List.length_map]at this;simp only[Rows.uptoBulk];omega
end
end
section
open Go Go.RowKit
namespace Me
def pr:List Nat→Nat
 | []=>1
 | x::r=>x*pr r
theorem pr_append (l m:List Nat):pr (l++m)=pr l*pr m:=by
 induction l with
 | nil=>simp[pr]
 | cons x r ih=>rw[List.cons_append,pr,pr,ih,Nat.mul_assoc]
structure Ok (S:List Nat):Prop where
 one:1≤S.length
 four:S.length≤4
 each:∀x∈S,1≤x∧x≤64
 most:pr S≤4096
theorem pr_pos {S:List Nat}(h:∀x∈S,1≤x∧x≤64):1≤pr S:=by
 induction S with
 | nil=>exact Nat.le_refl _
 | cons x r ih=>exact Nat.mul_pos (h x (by simp)).1 (ih (fun y hy=>h y (by simp[hy])))
theorem pr_drop_le {S:List Nat}(h:∀x∈S,1≤x∧x≤64)(k:Nat):pr (S.drop k)≤pr S:=by
 have e:pr S=pr (S.take k)*pr (S.drop k):=by rw[← pr_append,List.take_append_drop]
 rw[e];exact Nat.le_mul_of_pos_left _ (pr_pos (fun x hx=>h x (List.mem_of_mem_take hx)))
def rank:List Nat→List Nat→Nat
 | x::r,a::b=>a*pr r+rank r b
 | _,_=>0
def unrank:List Nat→Nat→List Nat
 | [],_=>[]
 | x::r,i=>i / pr r%x::unrank r i
def Box (S at_:List Nat):Prop:=at_.length=S.length∧∀k,k<S.length→at_.getD k 0<S.getD k 0
theorem unrank_length (S:List Nat)(i:Nat):(unrank S i).length=S.length:=by
 induction S with
 | nil=>rfl
 | cons x r ih=>simp[unrank,ih]
theorem unrank_get (S:List Nat)(i k:Nat)(h:k<S.length):(unrank S i).getD k 0=i / pr (S.drop (k+1))%S.getD k 0:=by
 induction S generalizing k with
 | nil=>simp at h
 | cons x r ih =>
   cases k with
   | zero=>simp[unrank]
   | succ k=>simp only[unrank,List.getD_cons_succ,List.drop_succ_cons];exact ih k (by simpa using h)
theorem unrank_box {S:List Nat}(h:∀x∈S,1≤x∧x≤64)(i:Nat):Box S (unrank S i):=by
 refine⟨unrank_length S i,fun k hk=>?_⟩;rw[unrank_get S i k hk];refine Nat.mod_lt _ ?_;have:=(h (S.getD k 0) (by rw[Lgd,Lge hk];exact List.getElem_mem hk)).1;omega
theorem unrank_mod (S:List Nat)(i m:Nat):unrank S (i+m*pr S)=unrank S i:=by
 induction S generalizing i m with
 | nil=>rfl
 | cons x r ih =>
   have e:i+m*pr (x::r)=i+(m*x)*pr r:=by rw[pr,Nat.mul_assoc]
   rw[unrank,unrank,e,ih]
   by_cases h0:pr r=0
   ·rw[h0];simp
   ·rw[Nat.add_mul_div_right _ _ (Nat.pos_of_ne_zero h0),Nat.add_mul_mod_self_right]
theorem rank_lt {S at_:List Nat}(h:Box S at_):rank S at_<pr S:=by
 induction S generalizing at_ with
 | nil =>
   cases at_ with
   | nil=>simp[rank,pr]
   | cons a b=>have:=h.1;simp at this
 | cons x r ih =>
   cases at_ with
   | nil=>have:=h.1;simp at this
   | cons a b =>
     have ha:a<x:=by simpa using h.2 0 (by simp)
     have hb:Box r b:=⟨by simpa using h.1,fun k hk=>by simpa using h.2 (k+1) (by simpa using hk)⟩;have:=ih hb;rw[rank,pr];have h2:(a+1)*pr r≤x*pr r:=Nat.mul_le_mul_right _ ha;rw[Nat.add_mul,Nat.one_mul]at h2;omega
theorem unrank_rank {S at_:List Nat}(h:Box S at_):unrank S (rank S at_)=at_:=by
 induction S generalizing at_ with
 | nil =>
   cases at_ with
   | nil=>rfl
   | cons a b=>have:=h.1;simp at this
 | cons x r ih =>
   cases at_ with
   | nil=>have:=h.1;simp at this
   | cons a b =>
     have ha:a<x:=by simpa using h.2 0 (by simp)
     have hb:Box r b:=⟨by simpa using h.1,fun k hk=>by simpa using h.2 (k+1) (by simpa using hk)⟩;have hlt:=rank_lt hb;rw[rank,unrank,Nat.add_comm (a*pr r),unrank_mod,ih hb,Nat.add_mul_div_right _ _ (by omega),Nat.div_eq_of_lt hlt,Nat.zero_add,Nat.mod_eq_of_lt ha]
theorem rank_unrank {S:List Nat}{i:Nat}(h:i<pr S):rank S (unrank S i)=i:=by
 induction S generalizing i with
 | nil=>simp[pr]at h;simp[rank,unrank,h]
 | cons x r ih =>
   rw[pr]at h
   have hr:0<pr r:=by
    rcases Nat.eq_zero_or_pos (pr r) with h0|h0
    ·rw[h0]at h;simp at h
    ·exact h0
   have e:unrank r i=unrank r (i%pr r):=by
    have:=unrank_mod r (i%pr r) (i / pr r);rw[Nat.mul_comm,Nat.mod_add_div]at this;exact this
   rw[unrank,rank,e,ih (Nat.mod_lt _ hr),Nat.mod_eq_of_lt (a:=i / pr r) ((Nat.div_lt_iff_lt_mul hr).2 h)];exact Nat.div_add_mod' i (pr r)
def rankF (S at_:List Nat):Nat→Nat
 | 0=>0
 | k+1=>rankF S at_ k*S.getD k 0+at_.getD k 0
theorem rankF_drop (S at_:List Nat)(k:Nat)(hk:k≤S.length)(hl:at_.length=S.length):rankF S at_ k*pr (S.drop k)+rank (S.drop k) (at_.drop k)=rank S at_:=by
 induction k with
 | zero=>simp[rankF]
 | succ k ih =>
   have hk':k<S.length:=by omega
   have h1:=ih (by omega);rw[← h1]
   have e1:S.drop k=S.getD k 0::S.drop (k+1):=by
    rw[List.drop_eq_getElem_cons hk',Lgd,Lge hk'];rfl
   have e2:at_.drop k=at_.getD k 0::at_.drop (k+1):=by
    rw[List.drop_eq_getElem_cons (by omega),Lgd,Lge (by omega)];rfl
   rw[e1,e2,rank,pr,rankF,Nat.add_mul,Nat.mul_assoc,Nat.add_assoc]
theorem rankF_is {S at_:List Nat}(hl:at_.length=S.length):rankF S at_ S.length=rank S at_:=by
 have:=rankF_drop S at_ S.length (Nat.le_refl _) hl
 rw[List.drop_length,← hl,List.drop_length]at this;rw[hl]at this
 simpa[pr,rank]using this
def rankB (S at_:List Nat):Nat→Nat
 | 0=>0
 | k+1=>rankB S at_ k+at_.getD (S.length-1-k) 0*pr (S.drop (S.length-k))
theorem rankB_is (S at_:List Nat)(k:Nat)(hk:k≤S.length)(hl:at_.length=S.length):rankB S at_ k=rank (S.drop (S.length-k)) (at_.drop (S.length-k)):=by
 induction k with
 | zero=>simp[rankB,rank]
 | succ k ih =>
   have hj:S.length-(k+1)<S.length:=by omega
   have e0:S.length-(k+1)+1=S.length-k:=by omega
   have e1:S.drop (S.length-(k+1))=S.getD (S.length-(k+1)) 0::S.drop (S.length-k):=by
    rw[List.drop_eq_getElem_cons hj,Lgd,Lge hj,e0];rfl
   have e2:at_.drop (S.length-(k+1))=at_.getD (S.length-(k+1)) 0::at_.drop (S.length-k):=by
    rw[List.drop_eq_getElem_cons (by omega),Lgd,Lge (by omega),e0];rfl
   rw[e1,e2,rank,rankB,ih (by omega),Nat.add_comm];have e3:S.length-1-k=S.length-(k+1):=by omega
   rw[e3]
end Me
end
section
open Go Go.RowKit
namespace Me
abbrev w32 (x:Int):Int:=wrap32 x
def at_ (L:List Int)(i:Nat):Int:=L.getD i 0
def go (f:Int→Nat→Int)(a:Int):Nat→Int
 | 0=>a
 | k+1=>f (go f a k) k
def addL (A B:List Int):List Int:=(List.range A.length).map fun i=>w32 (at_ A i+at_ B i)
def mulL (A B:List Int):List Int:=(List.range A.length).map fun i=>w32 (at_ A i*at_ B i)
def reluL (A:List Int):List Int:=(List.range A.length).map fun i=>max 0 (at_ A i)
def shift1 (n:Nat)(x:Int):Int:=min 127 (max (-128) ((x+2 ^ n / 2) / 2 ^ n))
def shiftL (n:Nat)(A:List Int):List Int:=(List.range A.length).map fun i=>shift1 n (at_ A i)
def dot (A B:List Int)(d c row col:Nat)(s:Int)(p:Nat):Int:=w32 (s+w32 (at_ A (row*d+p)*at_ B (p*c+col)))
def prodL (A B:List Int)(r d c:Nat):List Int:=(List.range (r*c)).map fun i=>go (dot A B d c (i / c) (i%c)) 0 d
def look (A:List Int)(rows wide:Nat)(c:Nat)(y x:Int):Int:=if y<0∨(rows:Int)≤y∨x<0∨(wide:Int)≤x then 0 else at_ A ((c*rows+y.toNat)*wide+x.toNat)
def win (A B:List Int)(rows wide kh kw one:Nat)(step pad:Nat)(o y x:Nat)(s:Int)(n:Nat):Int :=
 w32 (s+w32 (look A rows wide (n / (kh*kw)) ((y:Int)*step-pad+(n / kw%kh:Nat)) ((x:Int)*step-pad+(n%kw:Nat))*at_ B (o*one+n)))
def winL (A B:List Int)(rows wide kh kw one:Nat)(step pad:Nat)(s0 s1 s2:Nat):List Int :=
 (List.range (s0*s1*s2)).map fun i=>go (win A B rows wide kh kw one step pad (i / (s1*s2)) (i / s2%s1) (i%s2)) 0 one
def pool (A:List Int)(rows wide w:Nat)(c y x:Nat)(s:Int)(n:Nat):Int:=max s (look A rows wide c ((y*w+n / w:Nat):Int) ((x*w+n%w:Nat):Int))
def poolL (A:List Int)(rows wide w:Nat)(s0 s1 s2:Nat):List Int :=
 (List.range (s0*s1*s2)).map fun i=>go (pool A rows wide w (i / (s1*s2)) (i / s2%s1) (i%s2)) (look A rows wide (i / (s1*s2)) ((i / s2%s1*w:Nat):Int) ((i%s2*w:Nat):Int)) (w*w)
def behind (S:List Nat)(k:Nat):Nat:=pr (S.drop (k+1))
def turnS (S:List Nat)(order:List Nat):List Nat:=order.map fun k=>S.getD k 0
def turnI (S order at_:List Nat):Nat→Nat
 | 0=>0
 | k+1=>turnI S order at_ k+at_.getD k 0*behind S (order.getD k 0)
def turnL (S order:List Nat)(L:List Int):List Int:=(List.range (pr (turnS S order))).map fun i=>at_ L (turnI S order (unrank (turnS S order) i) order.length)
def findJ:List Nat→Nat→Nat→Nat × Nat
 | [],n,b=>(n,b)
 | d::r,n,b=>if d≤b then findJ r (n+1) (b-d) else (n,b)
def without (S:List Nat)(al:Nat):List Nat:=if S.length≤1 then [1] else S.take al++S.drop (al+1)
def sumL (S:List Nat)(al:Nat)(L:List Int):List Int :=
 (List.range (pr (without S al))).map fun i=>go (fun s k=>w32 (s+at_ L (i / behind S al*behind S al*S.getD al 0+i%behind S al+k*behind S al))) 0 (S.getD al 0)
theorem go_succ (f:Int→Nat→Int)(a:Int)(k:Nat):go f a (k+1)=f (go f a k) k:=rfl
theorem at_lt {L:List Int}{i:Nat}(h:i<L.length):at_ L i=L[i]:=by rw[at_,Lgd,Lge h];rfl
theorem w32_in (x:Int):-2147483648≤w32 x∧w32 x≤2147483647:=by unfold w32 wrap32;omega
theorem map_in {f:Nat→Int}{n:Nat}(h:∀i,i<n→ -2147483648≤f i∧f i≤2147483647):∀y∈(List.range n).map f,-2147483648≤y∧y≤2147483647:=by
 intro y hy;obtain⟨i,hi,rfl⟩:=List.mem_map.1 hy;exact h i (List.mem_range.1 hi)
theorem addL_in (A B:List Int):∀y∈addL A B,-2147483648≤y∧y≤2147483647:=map_in fun _ _=>w32_in _
theorem mulL_in (A B:List Int):∀y∈mulL A B,-2147483648≤y∧y≤2147483647:=map_in fun _ _=>w32_in _
theorem at_map (f:Nat→Int){n k:Nat}(h:k<n):at_ ((List.range n).map f) k=f k:=by simp[at_,Lgd,h]
def sets (d:Nat→Nat)(v:Nat→Int)(L:List Int):Nat→List Int
 | 0=>L
 | k+1=>(sets d v L k).set (d k) (v k)
theorem sets_length (d:Nat→Nat)(v:Nat→Int)(L:List Int)(n:Nat):(sets d v L n).length=L.length:=by
 induction n with
 | zero=>rfl
 | succ n ih=>rw[sets,List.length_set,ih]
theorem sets_get (d:Nat→Nat)(v f:Nat→Int)(L:List Int)(n:Nat)(hv:∀j,j<n→v j=f (d j))(k:Nat)(hk:∃j,j<n∧d j=k)(hl:k<L.length):(sets d v L n)[k]? = some (f k):=by
 induction n with
 | zero=>obtain⟨j,hj,_⟩:=hk;omega
 | succ n ih =>
   rw[sets,List.getElem?_set]
   by_cases h:d n=k
   ·rw[if_pos h,if_pos (by rw[sets_length];omega),hv n (by omega),h]
   ·rw[if_neg h]
    refine ih (fun j hj=>hv j (by omega)) ?_;obtain⟨j,hj,e⟩:=hk;refine⟨j,?_,e⟩;rcases Nat.lt_or_ge j n with h1|h1
    ·exact h1
    ·have:j=n:=by omega
     subst this;exact absurd e h
theorem sets_all (d:Nat→Nat)(v f:Nat→Int)(m n:Nat)(hv:∀j,j<n→v j=f (d j))(hk:∀k,k<m→∃j,j<n∧d j=k):sets d v (List.replicate m 0) n=(List.range m).map f:=by
 refine List.ext_getElem? (fun k=>?_)
 by_cases h:k<m
 ·rw[sets_get d v f _ n hv k (hk k h) (by simpa using h)]
  simp[h]
 ·rw[Lgn (by rw[sets_length];simpa using h),Lgn (by simpa using h)]
def adds (d:Nat→Nat)(v:Nat→Int)(L:List Int):Nat→List Int
 | 0=>L
 | k+1=>(adds d v L k).set (d k) (w32 (at_ (adds d v L k) (d k)+v k))
theorem adds_length (d:Nat→Nat)(v:Nat→Int)(L:List Int)(n:Nat):(adds d v L n).length=L.length:=by
 induction n with
 | zero=>rfl
 | succ n ih=>rw[adds,List.length_set,ih]
theorem adds_get (d:Nat→Nat)(v:Nat→Int)(m n:Nat)(src:Nat→Nat→Nat)(q:Nat→Nat)(hd:∀i,i<n→d i<m)(hq:∀i,i<n→src (d i) (q i)=i)
  (hu:∀i j,i<n→j<n→d i=d j→(q i<q j↔i<j)) (hs:∀i j,i<n→j<q i→src (d i) j<n∧d (src (d i) j)=d i∧q (src (d i) j)=j) :
  ∀t,t≤n→∀k,k<m→∀c,(∀i,i<t→d i=k→q i<c)→(∀j,j<c→∃i,i<t∧d i=k∧q i=j)→
   at_ (adds d v (List.replicate m 0) t) k=go (fun s j=>w32 (s+v (src k j))) 0 c:=by
 intro t
 induction t with
 | zero =>
   intro _ k hk c h1 h2;cases c with
   | zero=>simp[adds,at_,go,hk]
   | succ c=>obtain⟨i,hi,_⟩:=h2 0 (by omega);omega
 | succ t ih =>
   intro ht k hk c h1 h2
   by_cases he:d t=k
   ·
    have hc:c=q t+1:=by
     have h3:=h1 t (by omega) he;rcases Nat.lt_or_ge (q t+1) c with h4|h4
     ·obtain⟨i,hi,hdi,hqi⟩:=h2 (q t+1) h4
      have:=(hu t i (by omega) (by omega) (by rw[he,hdi])).1 (by omega);omega
     ·omega
    subst hc;rw[go_succ]
    have e0:at_ (adds d v (List.replicate m 0) (t+1)) k=w32 (at_ (adds d v (List.replicate m 0) t) k+v t):=by
     rw[adds,he,at_,Lgd,List.getElem?_set_self (by rw[adds_length];simpa using hk)];rfl
    have e1:src k (q t)=t:=by rw[← he];exact hq t (by omega)
    rw[e0,ih (by omega) k hk (q t) (fun i hi hdi=>(hu i t (by omega) (by omega) (by rw[he,hdi])).2 (by omega)) (fun j hj=>?_)]
    ·show _=w32 (_+v (src k (q t)))
     rw[e1]
    ·have h5:=hs t j (by omega) hj
     rw[he]at h5;refine⟨src k j,?_,h5.2.1,h5.2.2⟩;exact(hu (src k j) t h5.1 (by omega) (by rw[he,h5.2.1])).1 (by rw[h5.2.2];exact hj)
   ·have e0:at_ (adds d v (List.replicate m 0) (t+1)) k=at_ (adds d v (List.replicate m 0) t) k:=by
     show List.getD _ _ _=List.getD _ _ _
     rw[adds,Lgd,List.getElem?_set_ne he,← Lgd]
    rw[e0];refine ih (by omega) k hk c (fun i hi=>h1 i (by omega)) (fun j hj=>?_);obtain⟨i,hi,hdi,hqi⟩:=h2 j hj;refine⟨i,?_,hdi,hqi⟩;rcases Nat.lt_or_ge i t with h|h
    ·exact h
    ·have:i=t:=by omega
     subst this;exact absurd hdi he
end Me
end
section
open Go Go.RowKit
namespace Ar
structure It where
 bytes:Nat
 t:Option (List Int × List Int)
structure Arena where
 room:Nat
 used:Nat
 peak:Nat
 puts:Nat
 its:List (Nat × It)
def look:List (Nat × It)→Nat→Option It
 | [],_=>none
 | (k,x)::r,id=>if k=id then some x else look r id
def put:List (Nat × It)→Nat→It→List (Nat × It)
 | [],id,x=>[(id,x)]
 | (k,y)::r,id,x=>if id<k then(id,x)::(k,y)::r else if id=k then(id,x)::r else (k,y)::put r id x
def sum:List (Nat × It)→Nat
 | []=>0
 | (_,x)::r=>x.bytes+sum r
def Up (l:List (Nat × It)):Prop:=l.Pairwise (fun p q=>p.1<q.1)
structure Ok (A:Arena):Prop where
 up:Up A.its
 ids:∀p∈A.its,p.1<4294967296
 sum:A.used=sum A.its
 peak:A.used≤A.peak
 room:A.peak≤A.room
 max:A.room≤1048576
def new (room:Nat):Arena:=⟨room,0,0,0,[]⟩
def times:Nat→List Int→Nat
 | n,[]=>n
 | n,x::r=>if x<1∨64<x then 0 else if 4096<n*x.toNat then 0 else times (n*x.toNat) r
def size (s:List Int):Nat:=if s.length<1∨4<s.length then 0 else times 1 s
def check (s l:List Int):Bool:=decide (0<size s)&&decide (l.length=size s)
theorem times_le:∀(l:List Int) (n:Nat),n≤4096→times n l≤4096
 | [],n,h=>h
 | x::r,n,h=>by
   rw[times];split
   ·exact Nat.zero_le _
   ·split
    ·exact Nat.zero_le _
    ·exact times_le r _ (by omega)
theorem size_le (s:List Int):size s≤4096:=by
 unfold size;split
 ·exact Nat.zero_le _
 ·exact times_le _ _ (by decide)
end Ar
end
end Go.Proofs.YtjlphmmalebgpaaGreat
