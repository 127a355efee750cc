/-
  A part of the proof.
-/
import Derived.Test.YtjlphmmalebgpaaGreatK25
set_option linter.unusedSimpArgs false
set_option linter.unusedVariables false
set_option maxHeartbeats 2000000
set_option maxRecDepth 100000
namespace Go.Proofs.YtjlphmmalebgpaaGreat
section
open Go Go.RowKit
theorem len_in (w:World)(d:Nat)(D:Dk.Disk)(O:Nat→Prop)(h:DiskAt w d D O) :
  Calls Tryz.prog 73 #[.pointer (some ⟨d,0,none⟩)] w fun e w'=>e = .returned (.int .i64 (D.seen.length:Nat))∧w=w':=by
 have H:=Lib.hid h;have ok:=h.ok;obtain⟨gs,gn,cs,cn,rs,rn,vw,h,_⟩:=h;have hc:=h.c1
 have e0:askSays D.seen.length 0=0:=by
  have:=ok.pos;unfold askSays;rw[if_pos (by omega)]
 clear h ok;go_enter Tryz.func73,Tryz.ntmps73;go_wp2_with (go_at_call 118;refine(ask_any _ _ _ _ _ H.out).mono ?_;rintro e w' ⟨rfl,rfl⟩;rw[e0]);go_ret;exact⟨rfl,rfl⟩
structure TypeIs (t:TypeId) (i:TypeInfo) (z:Value) (size bytes:Nat) (cells:List Value):Prop where
 info:Tryz.prog.info? t=some i
 zero:i.zero=some z
 size:i.size=size
 bytes:i.bytes=bytes
 cells:z.cells=cells.toArray
theorem type_is {t:TypeId}{size bytes:Nat}{cells:List Value}(h:(Tryz.prog.info? t).map (fun i=>(i.zero.map (·.cells),i.size,i.bytes))=some (some cells.toArray,size,bytes)):∃i z,TypeIs t i z size bytes cells:=by
 cases hi:Tryz.prog.info? t with
 | none=>simp[hi]at h
 | some i =>
   rw[hi]at h;simp only[Option.map_some,Option.some.injEq,Prod.mk.injEq]at h;obtain⟨h1,h2,h3⟩:=h;cases hz:i.zero with
   | none=>simp[hz]at h1
   | some z=>exact⟨i,z,hi,hz,h2,h3,by simpa[hz]using h1⟩
theorem sec_is:∃i z,TypeIs 125 i z 65 72 (secCells Dk.noughts):=type_is (by kernel_rfl)
theorem secCells_one (s:Dk.Sec):∀u∈secCells s,u.oneCell'=true:=by
 intro u hu;rcases List.mem_append.1 hu with h|h
 ·obtain⟨x,_,rfl⟩:=List.mem_map.1 h;rfl
 ·rw[List.mem_singleton.1 h];rfl
theorem secs_one (l:List Dk.Sec):∀u∈l.flatMap secCells,u.oneCell'=true:=by
 intro u hu;obtain⟨s,_,h⟩:=List.mem_flatMap.1 hu;exact secCells_one s u h
theorem ownRow {w:World}{base e size n:Nat}{v:Value}{xs:List Value}(h:w.ownsRow base e size v n xs)(hv:v≠.slice none 0 0) :
  ∃g c r,v = .slice (some ⟨g,0,none⟩) n c∧base≤g∧Row w g e (xs++r)∧n≤c∧c≤maxLen:=by
 obtain⟨_,h⟩:=h;rcases h with⟨rfl,_⟩|⟨g,cap,cur,rfl,h1,h2,h3,h4,h5,h6⟩
 ·exact absurd rfl hv
 ·refine⟨g,cap,cur.toList.drop (n*size),rfl,h1,?_,h3,h4⟩
  rw[Row,h2,← h6,List.take_append_drop,Array.toArray_toList]
theorem clone_secs (w:World)(g c:Nat)(l:List Dk.Sec)(r:List Value)(hr:Row w g 125 (l.flatMap secCells++r))(hn:l.length≤16384) :
  Calls Tryz.prog 72 #[.slice (some ⟨g,0,none⟩) l.length c] w fun e w'=>∃g' c' r',e = .returned (.slice (some ⟨g',0,none⟩) l.length c')∧w.heap.size≤g'∧Row w' g' 125 (l.flatMap secCells++r')∧l.length≤c'∧c'≤maxLen∧Touch No w w':=by
 have hq:=fun(w:World) (a:Option Addr) (n c n' c':Nat)=>Lib.run_eql_slice_nil (P:=Tryz.prog) w 108 125 a n c n' c' Tryz.underlying108
 have hlen:(l.flatMap secCells).length=l.length*65:=flat_length secCells_length l;obtain⟨I,z,hI⟩:=sec_is;have HI:=Lib.hid hI;clear hI;have H:=Lib.hid hr;have Hl:=Lib.hid hlen;have Hn:=Lib.hid hn;clear hr hlen hn
 generalize l.length=m at *
 go_enter Tryz.func72,Tryz.ntmps72;go_wp2_with (at_builtin;refine wpList_append_own _ rfl _ _ 108 rfl w.heap.size 125 I z 65 72 Tryz.underlying108 HI.out.info HI.out.zero HI.out.size HI.out.bytes (by rw[HI.out.cells];exact secCells_length _) (by decide) _ _ _ rfl (World.ownsRow_made w #[] 0 (Nat.le_refl _) (Nat.zero_le _) (by simp)) ⟨g,0,none⟩ m c (l.flatMap secCells) rfl ?qc1 ?qc2 ?qc3 ?qc4 ?qc5 ?qc6 ?_)
 case qc1=>exact Hl.out
 case qc2 =>
  intro j u hj;rw[Addr.add_lit];refine Lib.cell?_alloc_some _ ?_;rw[Nat.zero_add,H.out.cell]
  rw[List.getElem?_append_left (by
   by_cases hh:j<(l.flatMap secCells).length
   ·exact hh
   ·rw[Lgn (by omega)]at hj;cases hj)]
  exact hj
 case qc3=>exact secs_one l
 case qc4=>have:=Hn.out;unfold maxLen;omega
 case qc5=>have:=Hn.out;omega
 case qc6=>simp
 intro v' w1 hown hgrow hnil;have Ho:=Lib.hid hown;have Hg:=Lib.hid hgrow;have Hx:=Lib.hid hnil;clear hown hgrow hnil;go_wp2;go_ret;obtain⟨g',c',r',rfl,h1,h2,h3,h4⟩:=ownRow Ho.out Hx.out;refine⟨g',c',r',by simp,h1,by simpa using h2,by simpa using h3,h4,?_⟩;exact((Touch.refl No w).alloc _).grown Hg.out (by intro k hk hlt;simp[Value.ownBlock]at hk;omega)
theorem of_is (w:World)(g c:Nat)(l:List Dk.Sec)(r:List Value)(hr:Row w g 125 (l.flatMap secCells++r))(h1:1≤l.length)(hn:l.length≤16384)(hc:l.length≤c)(hm:c≤maxLen)(hok:∀s∈l,s.Ok) :
  Calls Tryz.prog 56 #[.slice (some ⟨g,0,none⟩) l.length c] w fun e w'=>∃d,e = .returned (.pointer (some ⟨d,0,none⟩))∧w.heap.size≤d∧DiskAt w' d ⟨l,l,[]⟩ (fun k=>k=g∨w.heap.size≤k)∧Touch No w w':=by
 have H:=Lib.hid hr;have hg:=hr.lt;have Hg:=Lib.hid hg;have Hn:=Lib.hid hn;have Hc:=Lib.hid hc;have Hm:=Lib.hid hm;have H1:=Lib.hid h1;clear hr hn hc hm hg h1;have E:Hid (l.length=l.length):=rfl;obtain⟨m,Em⟩:∃m,l.length=m:=⟨_,rfl⟩;rw[Em];have HEm:=Lib.hid Em;clear Em E;go_enter Tryz.func56,Tryz.ntmps56;go_wp2_with fail;rw[← HEm.out];refine(clone_secs w g c l r H.out Hn.out).mono ?_;rintro e w1 ⟨g',c',r',rfl,k1,k2,k3,k4,k5⟩;rw[HEm.out];have K1:=Lib.hid k1;have K2:=Lib.hid k2;have K3:=Lib.hid k3;have K4:=Lib.hid k4;have K5:=Lib.hid k5;clear k1 k2 k3 k4 k5;go_wp2;go_ret;have hg':=K2.out.lt;have hsz:=K5.out.size;have em:=HEm.out;have T1:Touch No w1 (w1.alloc (Obj.cells #[.slice (some ⟨g,0,none⟩) m c,.slice (some ⟨g',0,none⟩) m c',.slice none 0 0] 128)):=(Touch.refl No w1).alloc _;refine⟨w1.heap.size,rfl,hsz,⟨g,g',c,c',r,r',.slice none 0 0,?_,Or.inr hsz,Or.inl rfl,Or.inr K1.out,fun k hk=>by cases hk⟩,(K5.out.alloc _)⟩;refine⟨⟨rfl,H1.out,Hn.out,hok,hok,fun x hx=>by cases hx⟩,?_,?_,?_,fun o=>?_,?_,?_,Hc.out,K3.out,Hm.out,K4.out,⟨rfl,Or.inl ⟨rfl,rfl⟩⟩,?_,fun k hk=>by cases hk⟩
 ·rw[cell_new];simp only[em];rfl
 ·rw[cell_new];simp only[em];rfl
 ·rw[cell_new];rfl
 ·rw[frozen_new]
 ·exact(H.out.touch K5.out id).touch T1 id
 ·exact K2.out.touch T1 id
 ·have:=Hg.out
  have:=K1.out;exact⟨by omega,by omega,by omega⟩
end
section
open Go Go.RowKit
theorem made_flat {α:Type}{f:α→List Value}{k:Nat}(hf:∀x,(f x).length=k)(hk:0<k)(x:α)(n:Nat):madeCells (f x).toArray (n*k)=((List.replicate n x).flatMap f).toArray:=by
 apply Array.ext';refine List.ext_getElem? (fun i=>?_);have hl:((List.replicate n x).flatMap f).length=n*k:=by rw[flat_length hf];simp
 by_cases hi:i<n*k
 ·have hq:i / k<n:=(Nat.div_lt_iff_lt_mul hk).2 hi
  have he:i=(i / k)*k+i%k:=(Nat.div_add_mod' i k).symm;have hm:=Nat.mod_lt i hk
  have h1:((List.replicate n x).flatMap f)[i]? = (f x)[i%k]?:=by
   conv=>lhs;rw[he]
   exact flat_get hf _ _ _ x (by rw[List.getElem?_replicate];simp[hq]) hm
  rw[show((List.replicate n x).flatMap f).toArray.toList=(List.replicate n x).flatMap f from rfl,h1];unfold madeCells;simp[hi,hf,Lge (show i%k<(f x).length by rw[hf];exact hm)]
 ·rw[Lgn (by rw[Array.length_toList,size_madeCells];omega),Lgn (by rw[hl];omega)]
theorem new_is (w:World)(n:Nat)(h1:1≤n)(hn:n≤16384) :
  Calls Tryz.prog 38 #[.int .i64 (n:Nat)] w fun e w'=>∃d,e = .returned (.tuple #[.pointer (some ⟨d,0,none⟩),.int .i64 0])∧w.heap.size≤d∧DiskAt w' d (Dk.new n) (fun k=>w.heap.size≤k)∧Touch No w w':=by
 obtain⟨I,z,hI⟩:=sec_is
 have hmk:∀wx:World,(Instr.makeSlice 108 (.int .i64 (n:Int)) (.int .i64 (n:Int))).run Tryz.prog wx = .ok (.slice (some ⟨wx.heap.size,0,none⟩) n n) (wx.alloc (.cells ((List.replicate n Dk.noughts).flatMap secCells).toArray 125)):=fun wx=>by
  have:=run_make (P:=Tryz.prog) wx 108 125 I z Tryz.underlying108 hI.info hI.zero .i64 .i64 (n:Int) (n:Int) (by omega) (by omega) (by rw[hI.bytes];omega) (by omega);rw[this,hI.cells,hI.size,Int.toNat_natCast,made_flat secCells_length (by decide)]
 clear hI;have g1:¬(n:Int)<1:=by omega
 have g2:¬(16384:Int)<(n:Int):=by omega
 go_enter Tryz.func38,Tryz.ntmps38;go_wp2_with fail;have hl:(List.replicate n Dk.noughts).length=n:=List.length_replicate
 have hR:Row (w.alloc (.cells ((List.replicate n Dk.noughts).flatMap secCells).toArray 125)) w.heap.size 125 ((List.replicate n Dk.noughts).flatMap secCells ++ []):=by
  rw[List.append_nil];exact Row.new w _ _
 have hc:=of_is _ _ n (List.replicate n Dk.noughts) [] hR (by rw[hl];exact h1) (by rw[hl];exact hn) (by rw[hl];exact Nat.le_refl _) (by unfold maxLen;omega) (fun s hs=>by rw[(List.mem_replicate.1 hs).2];exact Dk.noughts_ok);rw[hl]at hc;refine hc.mono ?_;rintro e w1 ⟨d,rfl,k1,k2,k3⟩;have K1:=Lib.hid k1;have K2:=Lib.hid k2;have K3:=Lib.hid k3;clear k1 k2 k3;go_wp2
 go_ret2
 have hs:=K1.out;rw[size_alloc]at hs;refine⟨d,rfl,by omega,?_,((Touch.refl No w).alloc _).trans K3.out⟩;obtain⟨gs,gn,cs,cn,rs,rn,vw,h,o1,o2,o3,o4⟩:=K2.out
 have P:∀k,(k=w.heap.size∨(w.alloc (.cells ((List.replicate n Dk.noughts).flatMap secCells).toArray 125)).heap.size≤k)→w.heap.size≤k:=fun k hk=>by
  rw[size_alloc]at hk;omega
 exact⟨gs,gn,cs,cn,rs,rn,vw,h,P _ o1,P _ o2,P _ o3,fun k hk=>P _ (o4 k hk)⟩
end
section
open Go Go.RowKit
theorem Touch.setCells {F:Nat→Prop}{a:World}{g:Nat}(hg:g<a.heap.size→F g):∀(vs:List Value) (o:Nat) (w:World),Touch F a w→Touch F a (w.setCells g o vs)
 | [],_,_,h=>h
 | v::r,o,w,h=>by
   rw[World.setCells];exact Touch.setCells hg r (o+1) _ (h.setCell (p:=⟨g,o,none⟩) hg v)
theorem Row.setCells {g:Nat}{T:TypeId}:∀(vs:List Value) (o:Nat) (w:World) (l:List Value),Row w g T l→o+vs.length≤l.length→Row (w.setCells g o vs) g T (splice l o vs)
 | [],o,w,l,h,_=>by simpa[splice,World.setCells]using h
 | v::r,o,w,l,h,hl=>by
   have hl':o+(r.length+1)≤l.length:=hl;rw[World.setCells];have ih:=Row.setCells r (o+1) _ (l.set o v) (h.setCell o v) (by rw[List.length_set];omega)
   have e:splice (l.set o v) (o+1) r=splice l o (v::r):=by
    have hk:o<l.length:=by omega
    have e1:(l.set o v).take (o+1)=l.take o ++ [v]:=by
     rw[List.take_succ_eq_append_getElem (by simpa using hk),List.take_set_of_le (Nat.le_refl _)];simp
    have e2:(l.set o v).drop (o+1+r.length)=l.drop (o+(r.length+1)):=by
     rw[List.drop_set_of_lt (by omega)];congr 1;omega
    rw[splice,splice,e1,e2];simp
   rw[← e];exact ih
end
section
open Go Go.RowKit
theorem delete_row {S:List Nat}{r:List Value}{al n:Nat}(hn:S.length=n)(hal:al<n) :
  (splice (nums .i64 S++r) al (nums .i64 (S.drop (al+1)))).take (n-1)=nums .i64 (S.take al++S.drop (al+1)):=by
 have h1:(nums .i64 S++r).take al=nums .i64 (S.take al):=by
  rw[List.take_append_of_le_length (by rw[nums_length];omega),nums,nums,List.map_take]
 have h2:(nums .i64 (S.take al)++nums .i64 (S.drop (al+1))).length=n-1:=by
  simp[nums_length];omega
 rw[splice,h1,List.take_append_of_le_length (by omega),List.take_of_length_le (by omega),nums_append]
theorem delete_in (w:World)(g n cap al j:Nat)(hj:j=al+1)(S:List Nat)(hR:RowP w g 3 (nums .i64 S))(hn:S.length=n)(hn4:n≤1000)(hal:al<n)(hc:n≤cap) :
  Calls Tryz.prog 225 #[.slice (some ⟨g,0,none⟩) n cap,.int .i64 ((al:Nat):Int),.int .i64 ((j:Nat):Int)] w fun e w'=>e = .returned (.slice (some ⟨g,0,none⟩) (n-1) cap)∧RowP w' g 3 (nums .i64 (S.take al++S.drop (al+1)))∧Touch (One g) w w':=by
 rw[show al+1=j from hj.symm];have hjl:j≤n:=by omega
 obtain⟨I,hi0,hi1,hi2,hi3⟩:=info_I;obtain⟨r,hRow⟩:=hR;obtain⟨news,hnews⟩:∃news,nums .i64 (S.drop (j))=news:=⟨_,rfl⟩;have hlen:news.length=n-(j):=by rw[← hnews,nums_length,List.length_drop,hn]
 have hll:(nums .i64 S++r).length=n+r.length:=by rw[List.length_append,nums_length,hn]
 have hRd:=hRow.touch (F:=No) (Touch.refl No w).drew id;have hdr:=delete_row (r:=r) hn hal;rw[← hj]at hdr
 obtain⟨A,hA,hsrc⟩:∃A:Addr,cutAddr (some ⟨g,0,none⟩) cap (j)=some A∧Hid (∀t u,news[t]? = some u→w.drew.cell? (A.add t)=some u):=by
  by_cases h:cap=j
  ·refine⟨⟨g,0,none⟩,by rw[cutAddr,if_pos h],fun t u hu=>?_⟩
   have h0:news.length=0:=by omega
   rw[List.length_eq_zero_iff.1 h0]at hu;simp at hu
  ·refine⟨⟨g,0+(j),none⟩,by rw[cutAddr,if_neg h,Option.map_some,Addr.add_lit],fun t u hu=>?_⟩
   have ht:t<n-(j):=by have:=(List.getElem?_eq_some_iff.1 hu).1;rwa [hlen]at this
   rw[Addr.add_lit,hRd.cell,List.getElem?_append_left (by rw[nums_length];omega)];rw[← hnews,nums,List.map_drop,List.getElem?_drop]at hu;rw[show 0+(j)+t=j+t by omega];exact hu
 have s1:Hid (news.length=(n-(j))*1):=by show _=_;rw[Nat.mul_one];exact hlen
 have s2:Hid (∀u∈news,u.oneCell'=true):=by rw[← hnews];exact nums_one _ _
 have s3:Hid (∀t,t<news.length→(w.drew.cell? ⟨g,0+al*1+t,none⟩).isSome=true∧w.drew.frozen? ⟨g,0+al*1+t,none⟩=false):=fun t ht=>by
  refine⟨?_,hRd.soft _⟩;rw[hRd.cell,Lge (by rw[hll];omega)];rfl
 obtain⟨W1,hW1⟩:∃W1,W1=w.drew.setCells g (0+al*1) news:=⟨_,rfl⟩
 have hR1:Row W1 g 3 (splice (nums .i64 S++r) al news):=by
  rw[hW1,show 0+al*1=al by omega];exact Row.setCells news al _ _ hRd (by rw[hll];omega)
 have hsl:(splice (nums .i64 S++r) al news).length=n+r.length:=by
  rw[splice];simp[nums_length,hn,hlen];omega
 have hT1:Touch (One g) w W1:=by rw[hW1];exact Touch.setCells (F:=One g) (fun _=>rfl) _ _ _ (Touch.refl _ w).drew
 have hz:∀w,(zeroValue 3).run Tryz.prog w = .ok (.int .i64 0) w:=fun w=>by
  first|rfl|simp[zeroValue,typeInfo,hi0,hi1,go_sem]
 have hcl:∀ty,(Builtin.clear_ #[48] ty #[.slice (some ⟨g,n-1,none⟩) (n-(n-1)) (cap-(n-1))]).run Tryz.prog W1 = .ok (.tuple #[]) (W1.setCells g (n-1) (List.replicate 1 (.int .i64 0))):=fun ty=>by
  rw[show n-(n-1)=1 by omega];exact Lib.run_clear_slice W1 48 3 ty (.int .i64 0) Tryz.underlying48 hz rfl rfl g (n-1) 1 _ (by omega) (fun t ht=>by rw[hR1.cell,Lge (by rw[hsl];omega)];rfl) (fun t ht=>hR1.soft _)
 have HE:Hid (RowP (W1.setCells g (n-1) (List.replicate 1 (.int .i64 0))) g 3 (nums .i64 (S.take al++S.drop (j)))∧Touch (One g) w (W1.setCells g (n-1) (List.replicate 1 (.int .i64 0)))):=by
  refine⟨?_,Touch.setCells (F:=One g) (fun _=>rfl) _ _ _ hT1⟩;have:=Row.setCells (List.replicate 1 (Value.int .i64 0)) (n-1) _ _ hR1 (by rw[hsl];simp;omega);rw[splice,← hnews,hdr,List.append_assoc]at this;exact⟨_,this⟩
 have hW:Hid (W1=w.drew.setCells g (0+al*1) news):=hW1;have HJ:=Lib.hid hj;have hne:((al:Int)==(j:Int))=false:=by simp;omega
 have hsum:al+(n-(j))=n-1:=by omega
 have haj:al≤j:=by omega
 have haj2:al<j:=by omega
 have hj2:j≤cap:=by omega
 have hj3:al≤cap:=by omega
 have hA':(if cap=j then some (⟨g,0,none⟩:Addr) else some ⟨g,j,none⟩)=some A:=by
  rw[← hA,cutAddr];split
  ·rfl
  ·rw[Option.map_some,Addr.add_lit,Nat.zero_add]
 clear hRow hRd hnews hlen hll hR1 hsl hT1 hz hW1 hA hj hdr;go_enter Tryz.func225,Tryz.ntmps225;go_wp2_with fail
 go_region_law (refine step_append_room rfl (.tmp 22) (.tmp 25) 48 rfl 3 I 1 Tryz.underlying48 hi0 hi2 g 0 al cap (by simp[Act.eval,Act.put]) A (n-(j)) (cap-(j)) news (by simp[Act.eval,Act.put]) s1.out hsrc.out s2.out (by omega) s3.out ?_;rw[← hW.out])
 all_goals
  go_wp2;go_ret;exact⟨rfl,HE.out⟩
def WithoutOut (w:World)(S:List Nat)(al:Nat)(e:Ending)(w':World):Prop :=
 ((al<S.length∧∃a' c',e = .returned (.slice a' (Me.without S al).length c')∧(Me.without S al).length≤c'∧Rd w' a' (nums .i64 (Me.without S al)))∨(¬al<S.length∧e = .returned (.slice none 0 0)))∧Touch No w w'
theorem without_in (w:World)(a:Option Addr)(n c al:Nat)(S:List Nat)(hr:Rd w a (nums .i64 S))(hn:S.length=n)(hn1:1≤n)(hn4:n≤4)(hal6:al≤1000000) :
  Calls Tryz.prog 189 #[.slice a n c,.int .i64 ((al:Nat):Int)] w (WithoutOut w S al):=by
 by_cases hal:al<n
 case neg =>
  have f1:decide ((n:Int)≤(al:Nat))=true:=by simp;omega
  have f1':decide (n≤al)=true:=by simp;omega
  have HN:=Lib.hid (show ¬al<S.length by rw[hn];exact hal);clear hal hr hn;go_enter Tryz.func189,Tryz.ntmps189;go_wp2;go_ret;exact⟨Or.inr ⟨HN.out,rfl⟩,Touch.refl _ _⟩
 case pos =>
 have f1:decide ((n:Int)≤(al:Nat))=false:=by simp;omega
 have f1':decide (n≤al)=false:=by simp;omega
 have f1'':¬n≤al:=by omega
 have HL:=Lib.hid (show al<S.length by rw[hn];exact hal)
 by_cases h1:n=1
 ·subst h1
  have HW:Hid (Me.without S al=[1]):=by show _=_;rw[Me.without,if_pos (by omega)]
  clear hr hn;go_enter Tryz.func189,Tryz.ntmps189;go_wp2;go_ret;refine⟨Or.inl ⟨HL.out,some ⟨w.heap.size,0,none⟩,1,by rw[HW.out];rfl,by rw[HW.out];exact Nat.le_refl _,by rw[HW.out];exact rd_row (Row.new w 3 #[.int .i64 1])⟩,(Touch.refl No w).alloc _⟩
 have e1:((n:Int)==1)=false:=by simp;omega
 have HW:Hid (Me.without S al=S.take al++S.drop (al+1)):=by show _=_;rw[Me.without,if_neg (by omega)]
 have HWl:Hid ((Me.without S al).length=n-1):=by show _=_;rw[HW.out,List.length_append,List.length_take,List.length_drop,hn];omega
 have CL:=Lib.hid (cloneP_in w a n c S (by omega) hn4 hr hn);have Hn:=Lib.hid hn;obtain⟨j,hj⟩:∃j,j=al+1:=⟨_,rfl⟩;have HJ:=Lib.hid hj;have hj9:((al:Int)+1)=((j:Nat):Int):=by omega
 clear hr hn h1 hj;go_enter Tryz.func189,Tryz.ntmps189;go_wp2_with fail;refine CL.out.mono ?_;rintro e w2 ⟨g,c2,rfl,hg,hc2,hR,t2⟩;have C2:=Lib.hid (delete_in w2 g n c2 al j HJ.out S hR Hn.out (by omega) hal hc2);have T2:=Lib.hid t2;clear hR t2 CL;go_wp2_with fail;refine C2.out.mono ?_;rintro e w3 ⟨rfl,hR3,t3⟩
 have HE:Hid (Rd w3 (some ⟨g,0,none⟩) (nums .i64 (Me.without S al))∧Touch No w w3):=by
  refine⟨by rw[HW.out];exact hR3.rd,T2.out.then t3 (fun i hi e=>?_)⟩;have:i=g:=e;omega
 clear hR3 t3 C2;go_wp2;go_ret;exact⟨Or.inl ⟨HL.out,some ⟨g,0,none⟩,c2,by rw[HWl.out];rfl,by rw[HWl.out];omega,HE.out.1⟩,HE.out.2⟩
end
end Go.Proofs.YtjlphmmalebgpaaGreat
