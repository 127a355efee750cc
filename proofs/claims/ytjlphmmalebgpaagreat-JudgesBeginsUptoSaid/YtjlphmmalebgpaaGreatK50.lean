/-
  JudgesBegins proved: of any graph, weights, inputs and records, whether these are the beginning of what should be, or all of it, is the chapter's answer; nothing handed in is changed: where what is read is of bulk at most 1048576. No condition of our own.
-/
import Derived.Test.YtjlphmmalebgpaaGreatK49
set_option linter.unusedSimpArgs false
set_option linter.unusedVariables false
set_option maxHeartbeats 16000000
set_option maxRecDepth 100000
namespace Go.Proofs.YtjlphmmalebgpaaGreat
section
open Go.ChangeShapes Go.WideShapes Go.ChangeAt Go.RowKit
section
variable {H:Type} {enc:TypeId × Value→H} {w:World}
theorem bulk_mem {l:List (DataW H × List MemPlace)}{i:Nat}(hi:i<l.length):Rows.uptoBulk l[i].1≤Rows.uptoBulkAll (l.map (·.1)):=bulk_part (List.mem_map.2 ⟨_,List.getElem_mem hi,rfl⟩)
theorem bulk_nd_deed {fuel:Nat}{cs:List Value}{x:DataW H × List MemPlace}{c o:Nat}{d:NdDeed}(hc:∀j,j<5→w.cell? ⟨c,o+j,none⟩=cs[j]?)
  (h:DataW.trod enc Tryz.prog w 0 (fun _=>true) true fuel 55 cs=some x) (hd:NdDeedAt w c o d):d.inn.length≤Rows.uptoBulk x.1∧d.shape.length≤Rows.uptoBulk x.1:=by
 obtain⟨xs,n,rfl,rfl,hlen,hxs,hf⟩:=DataW.trod_struct Tryz.underlying55 h;rw[cells_nd_act]at hlen;have f1:DataW.trod enc Tryz.prog w 0 (fun _=>true) true n 48 (List.take (Tryz.prog.cellsOf 48) (List.drop 1 cs))=xs[1]?:=hf 1 _ rfl;rw[cells_nd_ints]at f1;have f2:DataW.trod enc Tryz.prog w 0 (fun _=>true) true n 48 (List.take (Tryz.prog.cellsOf 48) (List.drop 2 cs))=xs[2]?:=hf 2 _ rfl;rw[cells_nd_ints]at f2
 match xs,hxs with
 | [x0,x1,x2,x3,x4],_ =>
 match cs,hlen with
 | [c0,c1,c2,c3,c4],_ =>
   have e1:=(hc 1 (by decide)).symm.trans (hd.cell 1 (by decide));have q1:c1 = .slice d.inn_a d.inn.length d.inn_cap:=by simpa[NdDeed.cells]using e1
   have hb1:=bulk_slice Tryz.underlying48 (show DataW.trod enc Tryz.prog w 0 (fun _=>true) true _ 48 [c1]=some x1 from f1) (a:=d.inn_a) (n:=d.inn.length) (cap:=d.inn_cap) (by rw[q1]);have e2:=(hc 2 (by decide)).symm.trans (hd.cell 2 (by decide));have q2:c2 = .slice d.shape_a d.shape.length d.shape_cap:=by simpa[NdDeed.cells]using e2
   have hb2:=bulk_slice Tryz.underlying48 (show DataW.trod enc Tryz.prog w 0 (fun _=>true) true _ 48 [c2]=some x2 from f2) (a:=d.shape_a) (n:=d.shape.length) (cap:=d.shape_cap) (by rw[q2]);have hbb:Rows.uptoBulk (.agg [x0.1,x1.1,x2.1,x3.1,x4.1])=Rows.uptoBulk (.agg [x0.1,x1.1,x2.1,x3.1,x4.1]):=rfl
   conv at hbb=>rhs;simp only[Rows.uptoBulk,Rows.uptoBulkAll]
   exact⟨(show _≤Rows.uptoBulk (.agg [x0.1,x1.1,x2.1,x3.1,x4.1]) by omega),(show _≤Rows.uptoBulk (.agg [x0.1,x1.1,x2.1,x3.1,x4.1]) by omega)⟩
theorem open_nd_deedsB {fuel:Nat}{cs:List Value}{x:DataW H × List MemPlace}
  (h:DataW.trod enc Tryz.prog w 0 (fun _=>true) true fuel 22 cs=some x) (hz:∀n∈DataW.weights Tryz.prog 22 x.1,n≤reachBytes) (hu:Rows.uptoBulk x.1≤1048576) :
  ∃ad n cap acts,cs=[.slice ad n cap]∧acts.length=n∧IsNdDeeds w ad acts∧n≤1048576∧∀(i:Nat) (d:NdDeed),acts[i]? = some d→d.inn.length≤1048576∧d.shape.length≤1048576:=by
 rcases DataW.trod_slice Tryz.underlying22 h with⟨rfl,rfl⟩|⟨a,len,cap,elems,rest,n,rfl,rfl,rfl,hb,hl,hm,hlen,hel,_,_⟩
 ·exact⟨none,0,0,[],rfl,rfl,fun i x hx=>by simp at hx,Nat.zero_le _,fun i x hx=>by simp at hx⟩
 ·rw[cells_nd_act]at hel
  have hall:Rows.uptoBulkAll (elems.map (·.1))≤1048576:=by
   have h2:=hu;simp only[Rows.uptoBulk]at h2;omega
  have each:∀i,i<len→∃d:NdDeed,(a=⟨a.block,a.off,none⟩∧NdDeedAt w a.block (a.off+i*5) d)∧∀(hi:i<elems.length),d.inn.length≤Rows.uptoBulk elems[i].1∧d.shape.length≤Rows.uptoBulk elems[i].1:=by
   intro i hi;have h1:=hel i hi;rw[Lge (by omega)]at h1;obtain⟨cs,hcs,htr⟩:=Option.bind_eq_some_iff.1 h1
   have hsp0:a=⟨a.block,a.off,none⟩:=by
    have h0:=hel 0 (by omega);rw[Lge (by omega)]at h0;obtain⟨cs0,hcs0,_⟩:=Option.bind_eq_some_iff.1 h0;have:=(cells_elem hcs0 (by decide)).2.1
    simpa[Addr.add]using this
   have hadd:a.add (i*5)=⟨a.block,a.off+i*5,none⟩:=by rw[hsp0,add_plain]
   rw[hadd]at hcs;obtain⟨_,_,hcell⟩:=cells_elem hcs (by decide)
   obtain⟨d,hd⟩:=open_nd_deed hcell htr (fun m hm'=>hz m (by
    have hw:∀(l:List (DataW H × List MemPlace)) (y:DataW H × List MemPlace),y∈l→m∈DataW.weights Tryz.prog 55 y.1→m∈DataW.weightsAll Tryz.prog 55 (l.map (·.1)):=by
     intro l
     induction l with
     | nil=>intro y hy;cases hy
     | cons z l ih =>
       intro y hy hm2;simp only[List.map_cons,DataW.weightsAll,List.mem_append];rcases List.mem_cons.1 hy with rfl|hy
       ·exact Or.inl hm2
       ·exact Or.inr (ih y hy hm2)
    simp only[DataW.weights,Tryz.underlying22,List.mem_cons,List.mem_append];exact Or.inr (Or.inl (hw elems _ (List.getElem_mem _) hm'))))
   exact⟨d,⟨hsp0,hd⟩,fun hi=>bulk_nd_deed hcell htr hd⟩
  obtain⟨acts,hacts,hq⟩:=list_choose len each;have hln:=bulk_len (elems.map (·.1));rw[List.length_map,hlen]at hln;refine⟨some a,len,cap,acts,rfl,hacts,fun i d hd=>?_,by omega,fun i d hd=>?_⟩
  ·obtain⟨⟨e,hd'⟩,_⟩:=hq i d hd
   exact⟨a.block,a.off,by rw[← e],hd'⟩
  ·have hi:i<elems.length:=by rw[hlen,← hacts];exact(List.getElem?_eq_some_iff.1 hd).1
   have h3:=(hq i d hd).2 hi;have h4:=bulk_mem hi;omega
theorem bulk_tn_deed {fuel:Nat}{cs:List Value}{x:DataW H × List MemPlace}{c o:Nat}{d:TnDeed}(hc:∀j,j<2→w.cell? ⟨c,o+j,none⟩=cs[j]?)
  (h:DataW.trod enc Tryz.prog w 0 (fun _=>true) true fuel 51 cs=some x) (hd:TnDeedAt w c o d):d.s.length≤Rows.uptoBulk x.1∧d.l.length≤Rows.uptoBulk x.1:=by
 obtain⟨xs,n,rfl,rfl,hlen,hxs,hf⟩:=DataW.trod_struct Tryz.underlying51 h;rw[cells_tn_act]at hlen;have f0:DataW.trod enc Tryz.prog w 0 (fun _=>true) true n 48 (List.take (Tryz.prog.cellsOf 48) (List.drop 0 cs))=xs[0]?:=hf 0 _ rfl;rw[cells_tn_ints]at f0;have f1:DataW.trod enc Tryz.prog w 0 (fun _=>true) true n 49 (List.take (Tryz.prog.cellsOf 49) (List.drop 1 cs))=xs[1]?:=hf 1 _ rfl;rw[cells_tn_n32]at f1
 match xs,hxs with
 | [x0,x1],_ =>
 match cs,hlen with
 | [c0,c1],_ =>
   have e0:=(hc 0 (by decide)).symm.trans (hd.cell 0 (by decide));have q0:c0 = .slice d.s_a d.s.length d.s_cap:=by simpa[TnDeed.cells]using e0
   have hb0:=bulk_slice Tryz.underlying48 (show DataW.trod enc Tryz.prog w 0 (fun _=>true) true _ 48 [c0]=some x0 from f0) (a:=d.s_a) (n:=d.s.length) (cap:=d.s_cap) (by rw[q0]);have e1:=(hc 1 (by decide)).symm.trans (hd.cell 1 (by decide));have q1:c1 = .slice d.l_a d.l.length d.l_cap:=by simpa[TnDeed.cells]using e1
   have hb1:=bulk_slice Tryz.underlying49 (show DataW.trod enc Tryz.prog w 0 (fun _=>true) true _ 49 [c1]=some x1 from f1) (a:=d.l_a) (n:=d.l.length) (cap:=d.l_cap) (by rw[q1]);have hbb:Rows.uptoBulk (.agg [x0.1,x1.1])=Rows.uptoBulk (.agg [x0.1,x1.1]):=rfl
   conv at hbb=>rhs;simp only[Rows.uptoBulk,Rows.uptoBulkAll]
   exact⟨(show _≤Rows.uptoBulk (.agg [x0.1,x1.1]) by omega),(show _≤Rows.uptoBulk (.agg [x0.1,x1.1]) by omega)⟩
theorem open_tn_deedsB {fuel:Nat}{cs:List Value}{x:DataW H × List MemPlace}
  (h:DataW.trod enc Tryz.prog w 0 (fun _=>true) true fuel 25 cs=some x) (hz:∀n∈DataW.weights Tryz.prog 25 x.1,n≤reachBytes) (hu:Rows.uptoBulk x.1≤1048576) :
  ∃ad n cap acts,cs=[.slice ad n cap]∧acts.length=n∧IsTnDeeds w ad acts∧n≤1048576∧∀(i:Nat) (d:TnDeed),acts[i]? = some d→d.s.length≤1048576∧d.l.length≤1048576:=by
 rcases DataW.trod_slice Tryz.underlying25 h with⟨rfl,rfl⟩|⟨a,len,cap,elems,rest,n,rfl,rfl,rfl,hb,hl,hm,hlen,hel,_,_⟩
 ·exact⟨none,0,0,[],rfl,rfl,fun i x hx=>by simp at hx,Nat.zero_le _,fun i x hx=>by simp at hx⟩
 ·rw[cells_tn_act]at hel
  have hall:Rows.uptoBulkAll (elems.map (·.1))≤1048576:=by
   have h2:=hu;simp only[Rows.uptoBulk]at h2;omega
  have each:∀i,i<len→∃d:TnDeed,(a=⟨a.block,a.off,none⟩∧TnDeedAt w a.block (a.off+i*2) d)∧∀(hi:i<elems.length),d.s.length≤Rows.uptoBulk elems[i].1∧d.l.length≤Rows.uptoBulk elems[i].1:=by
   intro i hi;have h1:=hel i hi;rw[Lge (by omega)]at h1;obtain⟨cs,hcs,htr⟩:=Option.bind_eq_some_iff.1 h1
   have hsp0:a=⟨a.block,a.off,none⟩:=by
    have h0:=hel 0 (by omega);rw[Lge (by omega)]at h0;obtain⟨cs0,hcs0,_⟩:=Option.bind_eq_some_iff.1 h0;have:=(cells_elem hcs0 (by decide)).2.1
    simpa[Addr.add]using this
   have hadd:a.add (i*2)=⟨a.block,a.off+i*2,none⟩:=by rw[hsp0,add_plain]
   rw[hadd]at hcs;obtain⟨_,_,hcell⟩:=cells_elem hcs (by decide)
   obtain⟨d,hd⟩:=open_tn_deed hcell htr (fun m hm'=>hz m (by
    have hw:∀(l:List (DataW H × List MemPlace)) (y:DataW H × List MemPlace),y∈l→m∈DataW.weights Tryz.prog 51 y.1→m∈DataW.weightsAll Tryz.prog 51 (l.map (·.1)):=by
     intro l
     induction l with
     | nil=>intro y hy;cases hy
     | cons z l ih =>
       intro y hy hm2;simp only[List.map_cons,DataW.weightsAll,List.mem_append];rcases List.mem_cons.1 hy with rfl|hy
       ·exact Or.inl hm2
       ·exact Or.inr (ih y hy hm2)
    simp only[DataW.weights,Tryz.underlying25,List.mem_cons,List.mem_append];exact Or.inr (Or.inl (hw elems _ (List.getElem_mem _) hm'))))
   exact⟨d,⟨hsp0,hd⟩,fun hi=>bulk_tn_deed hcell htr hd⟩
  obtain⟨acts,hacts,hq⟩:=list_choose len each;have hln:=bulk_len (elems.map (·.1));rw[List.length_map,hlen]at hln;refine⟨some a,len,cap,acts,rfl,hacts,fun i d hd=>?_,by omega,fun i d hd=>?_⟩
  ·obtain⟨⟨e,hd'⟩,_⟩:=hq i d hd
   exact⟨a.block,a.off,by rw[← e],hd'⟩
  ·have hi:i<elems.length:=by rw[hlen,← hacts];exact(List.getElem?_eq_some_iff.1 hd).1
   have h3:=(hq i d hd).2 hi;have h4:=bulk_mem hi;omega
theorem bulk_rd_deed {fuel:Nat}{cs:List Value}{x:DataW H × List MemPlace}{c o:Nat}{d:RdDeed}(hc:∀j,j<3→w.cell? ⟨c,o+j,none⟩=cs[j]?)
  (h:DataW.trod enc Tryz.prog w 0 (fun _=>true) true fuel 58 cs=some x) (hd:RdDeedAt w c o d):d.t_s.length≤Rows.uptoBulk x.1∧d.t_l.length≤Rows.uptoBulk x.1:=by
 obtain⟨xs,n,rfl,rfl,hlen,hxs,hf⟩:=DataW.trod_struct Tryz.underlying58 h;rw[cells_rd_act]at hlen;have f1:DataW.trod enc Tryz.prog w 0 (fun _=>true) true n 51 (List.take (Tryz.prog.cellsOf 51) (List.drop 1 cs))=xs[1]?:=hf 1 _ rfl;rw[cells_rd_tensor]at f1
 match xs,hxs with
 | [x0,x1],_ =>
 match cs,hlen with
 | [c0,c1,c2],_ =>
   obtain⟨ys1,n1,rfl,rfl,_,hys1,hg1⟩:=DataW.trod_struct Tryz.underlying51 (show DataW.trod enc Tryz.prog w 0 (fun _=>true) true n 51 [c1,c2]=some x1 from f1);have g1_0:DataW.trod enc Tryz.prog w 0 (fun _=>true) true n1 48 (List.take (Tryz.prog.cellsOf 48) (List.drop 0 [c1,c2]))=ys1[0]?:=hg1 0 _ rfl;rw[cells_rd_ints]at g1_0;have g1_1:DataW.trod enc Tryz.prog w 0 (fun _=>true) true n1 49 (List.take (Tryz.prog.cellsOf 49) (List.drop 1 [c1,c2]))=ys1[1]?:=hg1 1 _ rfl;rw[cells_rd_n32]at g1_1
   obtain⟨y1_0,y1_1,rfl⟩:∃y1_0 y1_1,ys1=[y1_0,y1_1]:=by
    match ys1,hys1 with
    | [a0,a1],_=>exact⟨a0,a1,rfl⟩
   have e1:=(hc 1 (by decide)).symm.trans (hd.cell 1 (by decide));have q1:c1 = .slice d.t_s_a d.t_s.length d.t_s_cap:=by simpa[RdDeed.cells]using e1
   have hb1:=bulk_slice Tryz.underlying48 (show DataW.trod enc Tryz.prog w 0 (fun _=>true) true _ 48 [c1]=some y1_0 from g1_0) (a:=d.t_s_a) (n:=d.t_s.length) (cap:=d.t_s_cap) (by rw[q1]);have e2:=(hc 2 (by decide)).symm.trans (hd.cell 2 (by decide));have q2:c2 = .slice d.t_l_a d.t_l.length d.t_l_cap:=by simpa[RdDeed.cells]using e2
   have hb2:=bulk_slice Tryz.underlying49 (show DataW.trod enc Tryz.prog w 0 (fun _=>true) true _ 49 [c2]=some y1_1 from g1_1) (a:=d.t_l_a) (n:=d.t_l.length) (cap:=d.t_l_cap) (by rw[q2]);have hbb:Rows.uptoBulk (.agg [x0.1,.agg [y1_0.1,y1_1.1]])=Rows.uptoBulk (.agg [x0.1,.agg [y1_0.1,y1_1.1]]):=rfl
   conv at hbb=>rhs;simp only[Rows.uptoBulk,Rows.uptoBulkAll]
   exact⟨(show _≤Rows.uptoBulk (.agg [x0.1,.agg [y1_0.1,y1_1.1]]) by omega),(show _≤Rows.uptoBulk (.agg [x0.1,.agg [y1_0.1,y1_1.1]]) by omega)⟩
theorem open_rd_deedsB {fuel:Nat}{cs:List Value}{x:DataW H × List MemPlace}
  (h:DataW.trod enc Tryz.prog w 0 (fun _=>true) true fuel 29 cs=some x) (hz:∀n∈DataW.weights Tryz.prog 29 x.1,n≤reachBytes) (hu:Rows.uptoBulk x.1≤1048576) :
  ∃ad n cap acts,cs=[.slice ad n cap]∧acts.length=n∧IsRdDeeds w ad acts∧n≤1048576∧∀(i:Nat) (d:RdDeed),acts[i]? = some d→d.t_s.length≤1048576∧d.t_l.length≤1048576:=by
 rcases DataW.trod_slice Tryz.underlying29 h with⟨rfl,rfl⟩|⟨a,len,cap,elems,rest,n,rfl,rfl,rfl,hb,hl,hm,hlen,hel,_,_⟩
 ·exact⟨none,0,0,[],rfl,rfl,fun i x hx=>by simp at hx,Nat.zero_le _,fun i x hx=>by simp at hx⟩
 ·rw[cells_rd_act]at hel
  have hall:Rows.uptoBulkAll (elems.map (·.1))≤1048576:=by
   have h2:=hu;simp only[Rows.uptoBulk]at h2;omega
  have each:∀i,i<len→∃d:RdDeed,(a=⟨a.block,a.off,none⟩∧RdDeedAt w a.block (a.off+i*3) d)∧∀(hi:i<elems.length),d.t_s.length≤Rows.uptoBulk elems[i].1∧d.t_l.length≤Rows.uptoBulk elems[i].1:=by
   intro i hi;have h1:=hel i hi;rw[Lge (by omega)]at h1;obtain⟨cs,hcs,htr⟩:=Option.bind_eq_some_iff.1 h1
   have hsp0:a=⟨a.block,a.off,none⟩:=by
    have h0:=hel 0 (by omega);rw[Lge (by omega)]at h0;obtain⟨cs0,hcs0,_⟩:=Option.bind_eq_some_iff.1 h0;have:=(cells_elem hcs0 (by decide)).2.1
    simpa[Addr.add]using this
   have hadd:a.add (i*3)=⟨a.block,a.off+i*3,none⟩:=by rw[hsp0,add_plain]
   rw[hadd]at hcs;obtain⟨_,_,hcell⟩:=cells_elem hcs (by decide)
   obtain⟨d,hd⟩:=open_rd_deed hcell htr (fun m hm'=>hz m (by
    have hw:∀(l:List (DataW H × List MemPlace)) (y:DataW H × List MemPlace),y∈l→m∈DataW.weights Tryz.prog 58 y.1→m∈DataW.weightsAll Tryz.prog 58 (l.map (·.1)):=by
     intro l
     induction l with
     | nil=>intro y hy;cases hy
     | cons z l ih =>
       intro y hy hm2;simp only[List.map_cons,DataW.weightsAll,List.mem_append];rcases List.mem_cons.1 hy with rfl|hy
       ·exact Or.inl hm2
       ·exact Or.inr (ih y hy hm2)
    simp only[DataW.weights,Tryz.underlying29,List.mem_cons,List.mem_append];exact Or.inr (Or.inl (hw elems _ (List.getElem_mem _) hm'))))
   exact⟨d,⟨hsp0,hd⟩,fun hi=>bulk_rd_deed hcell htr hd⟩
  obtain⟨acts,hacts,hq⟩:=list_choose len each;have hln:=bulk_len (elems.map (·.1));rw[List.length_map,hlen]at hln;refine⟨some a,len,cap,acts,rfl,hacts,fun i d hd=>?_,by omega,fun i d hd=>?_⟩
  ·obtain⟨⟨e,hd'⟩,_⟩:=hq i d hd
   exact⟨a.block,a.off,by rw[← e],hd'⟩
  ·have hi:i<elems.length:=by rw[hlen,← hacts];exact(List.getElem?_eq_some_iff.1 hd).1
   have h3:=(hq i d hd).2 hi;have h4:=bulk_mem hi;omega
theorem ranges_i64 {l:List Int}(h:∀y∈l,(Lit.int .i64 y).wf=true):∀y∈l,-9223372036854775808≤y∧y≤9223372036854775807:=fun y hy=>bounds_i64 (h y hy)
theorem map_at {α β:Type}(f:α→β)(l:List α)(z:β)(i:Nat)(hi:i<(l.map f).length):∃d,l[i]? = some d∧(l.map f).getD i z=f d:=by
 rw[List.length_map]at hi;exact⟨l[i],Lge hi,by rw[Lgd,List.getElem?_map,Lge hi];rfl⟩
def ndOf (d:NdDeed):Me.Node:=⟨d.kind,d.inn,d.shape,d.n,d.pad⟩
theorem nodes_of {ad:Option Addr}{acts:List NdDeed}(h:IsNdDeeds w ad acts)(hb:∀(i:Nat) (d:NdDeed),acts[i]? = some d→d.inn.length≤1048576∧d.shape.length≤1048576):NsB w ad (acts.map ndOf):=fun i hi=>by
 obtain⟨d,hd,e⟩:=map_at ndOf acts ⟨0,[],[],0,0⟩ i hi;obtain⟨c,o,rfl,hA⟩:=h i d hd;obtain⟨b1,b2⟩:=hb i d hd;have e':Me.nodeAt (acts.map ndOf) i=ndOf d:=e;rw[e']
 exact⟨c,o,d.inn_a,d.inn.length,d.inn_cap,d.shape_a,d.shape.length,d.shape_cap,rfl,⟨hA.cell 0 (by decide),hA.cell 1 (by decide),hA.cell 2 (by decide),hA.cell 3 (by decide),hA.cell 4 (by decide)⟩,
  {ir:=hA.inn_rd,il:=rfl,ic:=hA.inn_le,i6:=by omega,sr:=hA.shape_rd,sl:=rfl,sc:=hA.shape_le,s6:=by omega,k8:=hA.kind_lt,nr:=hA.n_in,pr:=hA.pad_in,irng:=ranges_i64 hA.inn_each,srng:=ranges_i64 hA.shape_each}⟩
theorem bounds_i32' {n:Int}(h:(Lit.int .i32 n).wf=true):-2147483648≤n∧n≤2147483647:=by
 simp[Lit.wf,IntKind.min,IntKind.max,IntKind.bits,IntKind.signed]at h;omega
theorem ranges_i32 {l:List Int}(h:∀y∈l,(Lit.int .i32 y).wf=true):∀y∈l,-2147483648≤y∧y≤2147483647:=fun y hy=>bounds_i32' (h y hy)
def tnOf (d:TnDeed):Me.Raw:=(d.s,d.l)
theorem tensors_of {ad:Option Addr}{acts:List TnDeed}(h:IsTnDeeds w ad acts)(hb:∀(i:Nat) (d:TnDeed),acts[i]? = some d→d.s.length≤1048576∧d.l.length≤1048576):WsIn w ad (acts.map tnOf):=fun i hi=>by
 obtain⟨d,hd,e⟩:=map_at tnOf acts ([],[]) i hi;obtain⟨c,o,rfl,hA⟩:=h i d hd;obtain⟨b1,b2⟩:=hb i d hd;have e':Me.rawAt (acts.map tnOf) i=tnOf d:=e;rw[e'];exact⟨c,o,d.s_a,d.s.length,d.s_cap,d.l_a,d.l.length,d.l_cap,rfl,hA.cell 0 (by decide),hA.cell 1 (by decide),{sr:=hA.s_rd,sn:=rfl,sc:=hA.s_le,s6:=by omega,lr:=hA.l_rd,lm:=rfl,lc:=hA.l_le,l6:=by omega,rng:=ranges_i32 hA.l_each}⟩
def rcOf (d:RdDeed):Int × Me.Raw:=((d.ix:Int),d.t_s,d.t_l)
theorem records_of {ad:Option Addr}{acts:List RdDeed}(h:IsRdDeeds w ad acts)(hb:∀(i:Nat) (d:RdDeed),acts[i]? = some d→d.t_s.length≤1048576∧d.t_l.length≤1048576):RcIn w ad (acts.map rcOf):=fun i hi=>by
 obtain⟨d,hd,e⟩:=map_at rcOf acts (0,[],[]) i hi;obtain⟨c,o,rfl,hA⟩:=h i d hd;obtain⟨b1,b2⟩:=hb i d hd;rw[e];exact⟨c,o,d.t_s_a,d.t_s.length,d.t_s_cap,d.t_l_a,d.t_l.length,d.t_l_cap,rfl,hA.cell 0 (by decide),hA.cell 1 (by decide),hA.cell 2 (by decide),{sr:=hA.t_s_rd,sn:=rfl,sc:=hA.t_s_le,s6:=by omega,lr:=hA.t_l_rd,lm:=rfl,lc:=hA.t_l_le,l6:=by omega,rng:=ranges_i32 hA.t_l_each}⟩
theorem agg4 {v:Value}{a b c d:Value}(h:v.cells.toList=[a,b,c,d]):v = .agg #[a,b,c,d]:=by
 cases v <;> simp[Value.cells]at h
 case agg cs =>
  have:cs=#[a,b,c,d]:=by
   apply Array.toList_inj.1
   simpa using h
  rw[this]
theorem cells_given:Tryz.prog.cellsOf 28=4:=by kernel_rfl
theorem cells_given_g:Tryz.prog.cellsOf 24=1:=by kernel_rfl
theorem cells_given_n:Tryz.prog.cellsOf 22=1:=by kernel_rfl
theorem cells_given_w:Tryz.prog.cellsOf 25=1:=by kernel_rfl
theorem cells_given_u:Tryz.prog.cellsOf 26=1:=by kernel_rfl
theorem open_given {fuel:Nat}{cs:List Value}{x:DataW H × List MemPlace}(h:DataW.trod enc Tryz.prog w 0 (fun _=>true) true fuel 28 cs=some x)(hz:∀n∈DataW.weights Tryz.prog 28 x.1,n≤reachBytes)(hu:Rows.uptoBulk x.1≤1048576) :
  ∃a m cap wa wn wc more sec Ns Ws,cs=[.slice a m cap,.slice wa wn wc,.int .u16 more,.int .u16 sec]∧Ns.length=m∧m≤2000000∧NsB w a Ns∧Ws.length=wn∧wn≤2000000∧WsIn w wa Ws:=by
 obtain⟨xs,n,rfl,rfl,hlen,hxs,hf⟩:=DataW.trod_struct Tryz.underlying28 h;rw[cells_given]at hlen;have f0:DataW.trod enc Tryz.prog w 0 (fun _=>true) true n 24 (List.take (Tryz.prog.cellsOf 24) (List.drop 0 cs))=xs[0]?:=hf 0 _ rfl;rw[cells_given_g]at f0;have f1:DataW.trod enc Tryz.prog w 0 (fun _=>true) true n 25 (List.take (Tryz.prog.cellsOf 25) (List.drop 1 cs))=xs[1]?:=hf 1 _ rfl;rw[cells_given_w]at f1;have f2:DataW.trod enc Tryz.prog w 0 (fun _=>true) true n 26 (List.take (Tryz.prog.cellsOf 26) (List.drop 2 cs))=xs[2]?:=hf 2 _ rfl;rw[cells_given_u]at f2;have f3:DataW.trod enc Tryz.prog w 0 (fun _=>true) true n 26 (List.take (Tryz.prog.cellsOf 26) (List.drop 3 cs))=xs[3]?:=hf 3 _ rfl;rw[cells_given_u]at f3
 match xs,hxs with
 | [x0,x1,x2,x3],_ =>
 match cs,hlen with
 | [c0,c1,c2,c3],_ =>
   obtain⟨ys,n0,rfl,rfl,_,hys,hg⟩:=DataW.trod_struct Tryz.underlying24 (show DataW.trod enc Tryz.prog w 0 (fun _=>true) true n 24 [c0]=some x0 from f0);have g0:DataW.trod enc Tryz.prog w 0 (fun _=>true) true n0 22 (List.take (Tryz.prog.cellsOf 22) (List.drop 0 [c0]))=ys[0]?:=hg 0 _ rfl;rw[cells_given_n]at g0
   obtain⟨y,rfl⟩:∃y,ys=[y]:=by
    match ys,hys with
    | [a0],_=>exact⟨a0,rfl⟩
   have hb:Rows.uptoBulk (.agg [.agg [y.1],x1.1,x2.1,x3.1])≤1048576:=hu;simp only[Rows.uptoBulk,Rows.uptoBulkAll]at hb
   obtain⟨a,m,cap,acts,e0,hm,hA,hm6,hmb⟩:=open_nd_deedsB (show DataW.trod enc Tryz.prog w 0 (fun _=>true) true n0 22 [c0]=some y from g0) (fun k hk=>hz k (by
    simp only[DataW.weights,Tryz.underlying28,Tryz.underlying24,DataW.weightsEach,List.map_cons,List.map_nil,List.mem_append];exact Or.inl (Or.inl hk))) (by omega)
   obtain⟨wa,wn,wc,acts2,e1,hwn,hB,hw6,hwb⟩:=open_tn_deedsB (show DataW.trod enc Tryz.prog w 0 (fun _=>true) true _ 25 [c1]=some x1 from f1) (fun k hk=>hz k (by
    simp only[DataW.weights,Tryz.underlying28,Tryz.underlying24,DataW.weightsEach,List.map_cons,List.map_nil,List.mem_append];exact Or.inr (Or.inl hk))) (by omega)
   obtain⟨i2,e2,_,w2⟩:=DataW.trod_int Tryz.underlying26 (show DataW.trod enc Tryz.prog w 0 (fun _=>true) true _ 26 [c2]=some x2 from f2);obtain⟨i3,e3,_,w3⟩:=DataW.trod_int Tryz.underlying26 (show DataW.trod enc Tryz.prog w 0 (fun _=>true) true _ 26 [c3]=some x3 from f3);simp only[List.cons.injEq,and_true]at e0 e1 e2 e3;subst e0 e1 e2 e3;exact⟨a,m,cap,wa,wn,wc,i2,i3,acts.map ndOf,acts2.map tnOf,rfl,by rw[List.length_map,hm],by omega,nodes_of hA hmb,by rw[List.length_map,hwn],by omega,tensors_of hB hwb⟩
end
end
end Go.Proofs.YtjlphmmalebgpaaGreat
namespace Go.Proofs.YtjlphmmalebgpaaGreat.judgesBegins
open Go.ChangeShapes Go.WideShapes Go.ChangeAt Go.RowKit
theorem contract (H:Type)(enc:TypeId × Value→H)(W:World)(base:Nat)(args:Array Value)(ds gs:List (DataW H))(before:List MemPlace)
  (hval:∀(j:Nat) t v,Tryz.f3.params[j]? = some t→args[j]? = some v→Value.okWide Tryz.prog W .any base t v)
  (hW:DataW.Whole enc Tryz.prog Tryz.f3.params.toList Rows.judgesBeginsSpec.vars false W args.toList ds gs before)
  (hz:∀n∈DataW.weightsEach Tryz.prog Tryz.f3.params.toList ds,n≤reachBytes) (hu:Rows.uptoBulkAll ds≤1048576) :
  Calls Tryz.prog 3 args W fun e W'=>∃v,e = .returned v∧Rows.judgesBeginsSpec.post enc Tryz.prog Tryz.f3 false true false false W args v W':=by
 have hW':=hW;obtain⟨p,q,hA0,hV,rfl,hfz,hnd⟩:=hW;have hA:DataW.TrodAll enc Tryz.prog W 0 (fun _=>true) true Tryz.f3.params.toList args.toList ds p:=hA0;rw[Tryz.params3]at hA hval hz;obtain⟨v0,vs0,d0,ds0,p0,q0,hargs,rfl,rfl,h0,r0⟩:=trodAll_cons hA;obtain⟨v1,vs1,d1,ds1,p1,q1,rfl,rfl,rfl,h1,r1⟩:=trodAll_cons r0;obtain⟨v2,vs2,d2,ds2,p2,q2,rfl,rfl,rfl,h2,r2⟩:=trodAll_cons r1;obtain⟨rfl,rfl,rfl⟩:=trodAll_nil r2;obtain rfl:args=#[v0,v1,v2]:=by cases args;simp_all
 obtain⟨rfl,rfl⟩:=trodVars_none hV;obtain⟨fuel0,hf0⟩:=h0;have hb0:Rows.uptoBulk d0≤1048576:=Nat.le_trans (bulk_part (by simp)) hu;obtain⟨ga,gm,gcap,gwa,gwn,gwc,more,sec,Ns,Ws,hcs,hm,hm6,hN,hWl,hW6,hW0⟩:=open_given hf0 (fun k hk=>hz k (by simp only[DataW.weightsEach,List.mem_append];exact Or.inl hk)) hb0;obtain rfl:=agg4 hcs;obtain⟨a1',len1,cap1',rfl⟩:=okWide_slice Tryz.underlying25 (hval 1 25 v1 rfl rfl);obtain⟨fuel1,hf1⟩:=h1;have hb1:Rows.uptoBulk d1≤1048576:=Nat.le_trans (bulk_part (by simp)) hu;obtain⟨ia,N',ici,ins,hcs1,hIl0,hI0,hI60,hIb⟩:=open_tn_deedsB hf1 (fun k hk=>hz k (by simp only[DataW.weightsEach,List.mem_append];exact Or.inr (Or.inl hk))) hb1;simp only[Value.cells,List.cons.injEq,Value.slice.injEq,and_true]at hcs1;obtain⟨rfl,rfl,rfl⟩:=hcs1;have hI:=tensors_of hI0 hIb;have hIl:(ins.map tnOf).length=len1:=by rw[List.length_map,hIl0]
 have hI6:len1≤2000000:=by omega
 obtain⟨a2',len2,cap2',rfl⟩:=okWide_slice Tryz.underlying29 (hval 2 29 v2 rfl rfl);obtain⟨fuel2,hf2⟩:=h2;have hb2:Rows.uptoBulk d2≤1048576:=Nat.le_trans (bulk_part (by simp)) hu;obtain⟨ra,N,rci,recs,hcs2,hRl0,hR0,hR60,hRb⟩:=open_rd_deedsB hf2 (fun k hk=>hz k (by simp only[DataW.weightsEach,List.mem_append];exact Or.inr (Or.inr (Or.inl hk)))) hb2;simp only[Value.cells,List.cons.injEq,Value.slice.injEq,and_true]at hcs2;obtain⟨rfl,rfl,rfl⟩:=hcs2;have hR:=records_of hR0 hRb;have hRl:(recs.map rcOf).length=len2:=by rw[List.length_map,hRl0]
 have hR6:len2≤2000000:=by omega
 refine(judgesBegins_walk W _ _ _ _ _ _ _ _ _ _ _ _ _ _ Ns Ws _ _ hN hm hm6 hW0 hWl hW6 hI hIl hI6 hR hRl hR6).mono fun e W' ⟨he,ht⟩=>?_
 subst he;exact⟨_,rfl,law_post laidOut (by kernel_rfl) rfl (by kernel_rfl) Tryz.underlying4 hW' rfl (ht.below (Nat.le_refl _) (fun _ _ f=>f))⟩
theorem lifted (os:Os)(started:os.Started)(H:Type)(enc:TypeId × Value→H)(F:Stop.Interp) :
  ReturnsInHanded {} Tryz.checked os 3 .any ((Rows.OpenSpec.upto Rows.judgesBeginsSpec).preRow enc Tryz.prog Tryz.f3 Rows.judgesBeginsUptoRow.domain false Rows.judgesBeginsUptoRow.laid) (((Rows.OpenSpec.upto Rows.judgesBeginsSpec).at F).post enc Tryz.prog Tryz.f3 false true false false):=by
 obtain⟨places,hx⟩:∃places,DataW.whole enc Tryz.prog ((World.holding Tryz.prog os ⟨#[],#[],[]⟩).forCall (fun _ _=>0) ⟨#[],#[.agg #[.slice none 0 0,.slice none 0 0,.int .u16 0,.int .u16 0],.slice none 0 0,.slice none 0 0],[]⟩).memory Tryz.f3.params.toList Rows.judgesBeginsSpec.vars false #[.agg #[.slice none 0 0,.slice none 0 0,.int .u16 0,.int .u16 0],.slice none 0 0,.slice none 0 0].toList 8=some ([.agg [.agg [.nil],.nil,.lit (.int .u16 0),.lit (.int .u16 0)],.nil,.nil],[],places):=⟨[],by kernel_rfl⟩
 refine returnsInHanded_of_row (C:=Tryz.checked) (s:=Rows.OpenSpec.upto Rows.judgesBeginsSpec) own started (by kernel_rfl) Tryz.func3
  (witness_row_at (enc:=enc) (C:=Tryz.checked) false (World.holding Tryz.prog os ⟨#[],#[],[]⟩) #[.agg #[.slice none 0 0,.slice none 0 0,.int .u16 0,.int .u16 0],.slice none 0 0,.slice none 0 0] rfl (by kernel_rfl) (by kernel_rfl) (by kernel_rfl)
   (OpenSpec.preRow_of_cond 8 hx (by kernel_rfl) (fun k hk=>by cases hk;kernel_rfl) (by kernel_rfl) (laidMet_of_run' 8 (by kernel_rfl) (by kernel_rfl)))) ?_
 intro W base args ds gs before hval hW _ hcond hz _ _ _;have hgs:gs=[]:=by obtain⟨_,_,_,hV,_⟩:=hW;exact(trodVars_none hV).1
 subst hgs;rw[List.append_nil,show(Rows.OpenSpec.upto Rows.judgesBeginsSpec).bare.plain.varTypes Tryz.checked.prog=[] from rfl,List.append_nil]at hz;have hu:Rows.uptoBulkAll ds≤1048576:=by have:=hcond _ rfl;rw[List.append_nil]at this;exact of_decide_eq_true this
 exact contract H enc W base args ds [] before hval hW (fun n hn=>by simpa using List.all_eq_true.1 hz n hn) hu
theorem facts:joinedFacts Tryz.pinned.checked.prog 3 Tryz.f3 (Rows.OpenSpec.upto Rows.judgesBeginsSpec).bare Rows.judgesBeginsUptoRow=true:=by
 unfold joinedFacts
 repeat' (with_reducible refine Bool.and_eq_true_iff.2 ⟨?_,?_⟩)
 all_goals as_aux_lemma=>kernel_rfl
theorem said:Rows.JudgesBeginsUptoSaid :=
 OpenClaim.holds_of_cond 3 Tryz.f3 rfl rfl rfl rfl rfl rfl rfl ⟨rfl,rfl,rfl,rfl,rfl⟩ rfl rfl rfl rfl rfl (by kernel_rfl) Tryz.func3 facts
  (of_decide_eq_true (by kernel_rfl)) (by unfold Func.isWrapper;first|(rw[if_pos (by decide +kernel)];kernel_rfl)|(rw[if_neg (by decide +kernel)];exact⟨rfl,rfl⟩))
  (fun os started H enc _ F=>by rw[OpenClaim.pre_eq_preRow];exact lifted os started H enc F)
end Go.Proofs.YtjlphmmalebgpaaGreat.judgesBegins
namespace Go.Proofs.YtjlphmmalebgpaaGreat
end Go.Proofs.YtjlphmmalebgpaaGreat
