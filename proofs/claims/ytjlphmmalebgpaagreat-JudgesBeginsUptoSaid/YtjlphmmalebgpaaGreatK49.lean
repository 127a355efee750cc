/-
  A part of the proof.
-/
import Derived.Test.YtjlphmmalebgpaaGreatK48
set_option linter.unusedSimpArgs false
set_option linter.unusedVariables false
set_option maxHeartbeats 8000000
set_option maxRecDepth 100000
namespace Go.Proofs.YtjlphmmalebgpaaGreat
section
open Go Go.RowKit
namespace Me
def g0:List Node:=[⟨1,[],[1],0,0⟩,⟨5,[0],[],0,0⟩]
theorem g0_shapes:shapes g0=some [[1],[1]]:=by
 rw[shapes_go (by decide) ⟨by decide,by decide,by decide⟩];unfold g0;rw[shapesGo_some (s:=[1]) ⟨⟨0,0,0,0,0,1⟩,by simp[asks],⟨by decide,by decide,by decide,by decide,by decide,by decide,by simp[ShapedOk];decide⟩⟩ (fun k hk=>by simp at hk) (by simp[shapeOf,nats])];rw[shapesGo_some (s:=[1]) ⟨⟨1,1,0,0,0,0⟩,by simp[asks],⟨by decide,by decide,by decide,by decide,by decide,by decide,by simp[ShapedOk]⟩⟩ (fun k hk=>by simp at hk;subst hk;simp) (by simp[shapeOf,ins,sh])];rfl
theorem g0_all:all g0 [] ([1],[-1])=some [([1],[-1]),([1],[0])]:=by
 unfold all;rw[g0_shapes,if_pos ⟨rfl,by decide⟩];have hf:fitsR ([1],[-1]) [1]=true:=by decide
 unfold g0 allGo;rw[if_pos rfl,if_pos hf];unfold allGo;rw[if_neg (by decide),if_neg (by decide)];unfold allGo;simp[shapeOf,insT,tn,ten,nats,sh,opL,reluL,at_]
 decide
theorem g0_right:right g0 [] ([1],[-1]) 0 (0,[1],[0])=true:=by
 unfold right;rw[g0_all]
 decide
def in0:List Raw:=[([1],[-1]),([1],[2])]
def out0:List (Int × Raw):=[(0,[1],[0])]
theorem begins2:begins g0 [] in0 out0=true:=by
 unfold begins;simp[in0,out0,rawAt,recAt,g0_right,List.range_succ]
theorem begins1:begins g0 [] [([1],[-1])] out0=true:=by
 unfold begins;simp[out0,rawAt,recAt,g0_right,List.range_succ]
theorem whole2:whole g0 [] in0 out0=false:=by
 unfold whole;simp[in0,out0]
theorem whole1:whole g0 [] [([1],[-1])] out0=true:=by
 unfold whole;rw[begins1];simp[out0]
end Me
def allocs (w:World):List (List Value × TypeId)→World
 | []=>w
 | (l,T)::r=>allocs (w.alloc (.cells l.toArray T)) r
theorem allocs_touch:∀(rs:List (List Value × TypeId)) (w:World),Touch No w (allocs w rs)
 | [],w=>Touch.refl _ _
 | (l,T)::r,w=>((Touch.refl No w).alloc _).trans (allocs_touch r _)
theorem allocs_row:∀(rs:List (List Value × TypeId)) (w:World) (i:Nat) (l:List Value) (T:TypeId),rs[i]? = some (l,T)→Row (allocs w rs) (w.heap.size+i) T l
 | [],w,i,l,T,h=>by simp at h
 | (l',T')::r,w,0,l,T,h=>by
   simp at h;obtain⟨rfl,rfl⟩:=h;have:=(Row.new w T' l'.toArray).touch (allocs_touch r _) id
   show Row (allocs (w.alloc (.cells l'.toArray T')) r) (w.heap.size+0) T' l'
   simpa using this
 | (l',T')::r,w,i+1,l,T,h=>by
   have:=allocs_row r (w.alloc (.cells l'.toArray T')) i l T (by simpa using h);simp at this;rw[show w.heap.size+(i+1)=w.heap.size+1+i by omega];exact this
theorem lives_in (w:World):Calls Tryz.prog 6 #[] w fun e w'=>e = .returned (.bool true)∧Touch No w w':=by
 obtain⟨X,hX⟩:∃X,X=w.heap.size:=⟨_,rfl⟩;obtain⟨w1,hw1⟩:∃w1,w1=allocs w [([.int .i64 1],3),([.int .i64 0],3),([.int .u8 1,.slice none 0 0,.slice (some ⟨X,0,none⟩) 1 1,.int .i64 0,.int .i64 0,.int .u8 5,.slice (some ⟨X+1,0,none⟩) 1 1,.slice none 0 0,.int .i64 0,.int .i64 0],55),([.slice (some ⟨X+1+1,0,none⟩) 2 2],24),([.int .i64 1],3),([.int .i32 (-1)],21),([.int .i64 1],3),([.int .i32 2],21),([.slice (some ⟨X+1+1+1+1,0,none⟩) 1 1,.slice (some ⟨X+1+1+1+1+1,0,none⟩) 1 1,.slice (some ⟨X+1+1+1+1+1+1,0,none⟩) 1 1,.slice (some ⟨X+1+1+1+1+1+1+1,0,none⟩) 1 1],51),([.int .i64 1],3),([.int .i32 0],21),([.int .u32 0,.slice (some ⟨X+1+1+1+1+1+1+1+1+1,0,none⟩) 1 1,.slice (some ⟨X+1+1+1+1+1+1+1+1+1+1,0,none⟩) 1 1],58)]:=⟨_,rfl⟩;have HT1:Hid (Touch No w w1):=by show Touch No w w1;rw[hw1];exact allocs_touch _ _
 have hrow:∀i l T,([([.int .i64 1],3),([.int .i64 0],3),([.int .u8 1,.slice none 0 0,.slice (some ⟨X,0,none⟩) 1 1,.int .i64 0,.int .i64 0,.int .u8 5,.slice (some ⟨X+1,0,none⟩) 1 1,.slice none 0 0,.int .i64 0,.int .i64 0],55),([.slice (some ⟨X+1+1,0,none⟩) 2 2],24),([.int .i64 1],3),([.int .i32 (-1)],21),([.int .i64 1],3),([.int .i32 2],21),([.slice (some ⟨X+1+1+1+1,0,none⟩) 1 1,.slice (some ⟨X+1+1+1+1+1,0,none⟩) 1 1,.slice (some ⟨X+1+1+1+1+1+1,0,none⟩) 1 1,.slice (some ⟨X+1+1+1+1+1+1+1,0,none⟩) 1 1],51),([.int .i64 1],3),([.int .i32 0],21),([.int .u32 0,.slice (some ⟨X+1+1+1+1+1+1+1+1+1,0,none⟩) 1 1,.slice (some ⟨X+1+1+1+1+1+1+1+1+1+1,0,none⟩) 1 1],58)]:List (List Value × TypeId))[i]? = some (l,T)→Row w1 (X+i) T l:=fun i l T h=>by rw[hw1,hX];rw[hX]at h;exact allocs_row _ _ _ _ _ h
 have R0:Row w1 (X) 3 [.int .i64 1]:=hrow 0 _ _ rfl;have R1:Row w1 (X+1) 3 [.int .i64 0]:=hrow 1 _ _ rfl;have R2:Row w1 (X+1+1) 55 [.int .u8 1,.slice none 0 0,.slice (some ⟨X,0,none⟩) 1 1,.int .i64 0,.int .i64 0,.int .u8 5,.slice (some ⟨X+1,0,none⟩) 1 1,.slice none 0 0,.int .i64 0,.int .i64 0]:=hrow 2 _ _ rfl;have R3:Row w1 (X+1+1+1) 24 [.slice (some ⟨X+1+1,0,none⟩) 2 2]:=hrow 3 _ _ rfl;have R4:Row w1 (X+1+1+1+1) 3 [.int .i64 1]:=hrow 4 _ _ rfl;have R5:Row w1 (X+1+1+1+1+1) 21 [.int .i32 (-1)]:=hrow 5 _ _ rfl;have R6:Row w1 (X+1+1+1+1+1+1) 3 [.int .i64 1]:=hrow 6 _ _ rfl;have R7:Row w1 (X+1+1+1+1+1+1+1) 21 [.int .i32 2]:=hrow 7 _ _ rfl;have R8:Row w1 (X+1+1+1+1+1+1+1+1) 51 [.slice (some ⟨X+1+1+1+1,0,none⟩) 1 1,.slice (some ⟨X+1+1+1+1+1,0,none⟩) 1 1,.slice (some ⟨X+1+1+1+1+1+1,0,none⟩) 1 1,.slice (some ⟨X+1+1+1+1+1+1+1,0,none⟩) 1 1]:=hrow 8 _ _ rfl;have R9:Row w1 (X+1+1+1+1+1+1+1+1+1) 3 [.int .i64 1]:=hrow 9 _ _ rfl;have R10:Row w1 (X+1+1+1+1+1+1+1+1+1+1) 21 [.int .i32 0]:=hrow 10 _ _ rfl;have R11:Row w1 (X+1+1+1+1+1+1+1+1+1+1+1) 58 [.int .u32 0,.slice (some ⟨X+1+1+1+1+1+1+1+1+1,0,none⟩) 1 1,.slice (some ⟨X+1+1+1+1+1+1+1+1+1+1,0,none⟩) 1 1]:=hrow 11 _ _ rfl
 have hNs:NsIn w1 (some ⟨X+1+1,0,none⟩) Me.g0:=fun j hj=>by
  have hj2:j=0∨j=1:=by have:j<2:=hj;omega
  rcases hj2 with rfl|rfl
  ·exact⟨_,_,none,0,0,some ⟨X,0,none⟩,1,1,rfl,⟨R2.cell 0,R2.cell 1,R2.cell 2,R2.cell 3,R2.cell 4⟩,{ir:=fun i v h=>by simp[Me.g0,Me.nodeAt,ints]at h,il:=rfl,ic:=by decide,i6:=by decide,sr:=rd_row R0,sl:=rfl,sc:=by decide,s6:=by decide,k8:=by decide,nr:=by decide,pr:=by decide,irng:=by decide,srng:=by decide}⟩
  ·exact⟨_,_,some ⟨X+1,0,none⟩,1,1,none,0,0,rfl,⟨R2.cell 5,R2.cell 6,R2.cell 7,R2.cell 8,R2.cell 9⟩,{ir:=rd_row R1,il:=rfl,ic:=by decide,i6:=by decide,sr:=fun i v h=>by simp[Me.g0,Me.nodeAt,ints]at h,sl:=rfl,sc:=by decide,s6:=by decide,k8:=by decide,nr:=by decide,pr:=by decide,irng:=by decide,srng:=by decide}⟩
 have e0:RIn w1 (some ⟨X+1+1+1+1,0,none⟩) 1 1 (some ⟨X+1+1+1+1+1,0,none⟩) 1 1 ([1],[-1]):={sr:=rd_row R4,sn:=rfl,sc:=by decide,s6:=by decide,lr:=rd_row R5,lm:=rfl,lc:=by decide,l6:=by decide,rng:=by decide};have e1:RIn w1 (some ⟨X+1+1+1+1+1+1,0,none⟩) 1 1 (some ⟨X+1+1+1+1+1+1+1,0,none⟩) 1 1 ([1],[2]):={sr:=rd_row R6,sn:=rfl,sc:=by decide,s6:=by decide,lr:=rd_row R7,lm:=rfl,lc:=by decide,l6:=by decide,rng:=by decide}
 have hI2:WsIn w1 (some ⟨X+1+1+1+1+1+1+1+1,0,none⟩) Me.in0:=fun j hj=>by
  have hj2:j=0∨j=1:=by have:j<2:=hj;omega
  rcases hj2 with rfl|rfl
  ·exact⟨_,_,_,_,_,_,_,_,rfl,R8.cell 0,R8.cell 1,e0⟩
  ·exact⟨_,_,_,_,_,_,_,_,rfl,R8.cell 2,R8.cell 3,e1⟩
 have hI1:WsIn w1 (some ⟨X+1+1+1+1+1+1+1+1,0,none⟩) [([1],[-1])]:=fun j hj=>by
  have hj2:j=0:=by have:j<1:=hj;omega
  subst hj2;exact⟨_,_,_,_,_,_,_,_,rfl,R8.cell 0,R8.cell 1,e0⟩
 have e2:RIn w1 (some ⟨X+1+1+1+1+1+1+1+1+1,0,none⟩) 1 1 (some ⟨X+1+1+1+1+1+1+1+1+1+1,0,none⟩) 1 1 ([1],[0]):={sr:=rd_row R9,sn:=rfl,sc:=by decide,s6:=by decide,lr:=rd_row R10,lm:=rfl,lc:=by decide,l6:=by decide,rng:=by decide}
 have hRc:RcIn w1 (some ⟨X+1+1+1+1+1+1+1+1+1+1+1,0,none⟩) Me.out0:=fun j hj=>by
  have hj2:j=0:=by have:j<1:=hj;omega
  subst hj2;exact⟨_,_,_,_,_,_,_,_,rfl,R11.cell 0,R11.cell 1,R11.cell 2,e2⟩
 have HF:=Lib.hid (aI hNs (aI hI2 (aI hI1 hRc)));have HR3:=Lib.hid R3;have C0:=Lib.hid (worldsNew_in w1);clear hrow R0 R1 R2 R3 R4 R5 R6 R7 R8 R9 R10 R11 hNs e0 e1 hI2 hI1 e2 hRc;go_enter Tryz.func6,Tryz.ntmps6;have HX:=Lib.hid hX;have HW:=Lib.hid hw1;clear hX hw1;go_upto_region 4 with fail;rw[← HX.out];rw[show(((((((((((w.alloc (.cells #[.int .i64 1] 3)).alloc (.cells #[.int .i64 0] 3)).alloc (.cells #[.int .u8 1,.slice none 0 0,.slice (some ⟨X,0,none⟩) 1 1,.int .i64 0,.int .i64 0,.int .u8 5,.slice (some ⟨X+1,0,none⟩) 1 1,.slice none 0 0,.int .i64 0,.int .i64 0] 55)).alloc (.cells #[.slice (some ⟨X+1+1,0,none⟩) 2 2] 24)).alloc (.cells #[.int .i64 1] 3)).alloc (.cells #[.int .i32 (-1)] 21)).alloc (.cells #[.int .i64 1] 3)).alloc (.cells #[.int .i32 2] 21)).alloc (.cells #[.slice (some ⟨X+1+1+1+1,0,none⟩) 1 1,.slice (some ⟨X+1+1+1+1+1,0,none⟩) 1 1,.slice (some ⟨X+1+1+1+1+1+1,0,none⟩) 1 1,.slice (some ⟨X+1+1+1+1+1+1+1,0,none⟩) 1 1] 51)).alloc (.cells #[.int .i64 1] 3)).alloc (.cells #[.int .i32 0] 21)).alloc (.cells #[.int .u32 0,.slice (some ⟨X+1+1+1+1+1+1+1+1+1,0,none⟩) 1 1,.slice (some ⟨X+1+1+1+1+1+1+1+1+1+1,0,none⟩) 1 1] 58)=w1 by rw[HW.out];rfl];clear HW;go_wp2_with fail;refine C0.out.mono ?_;rintro e w2 ⟨g,d0,d1,rfl,hW,t2⟩;have T2:=Lib.hid (HT1.out.trans t2);have T12:=Lib.hid t2;have k0:=KW.cell (v:=.slice (some ⟨X+1+1,0,none⟩) 2 2) ((HR3.out.touch t2 id).cell 0)
 have D1:Hid (∀p:KW w2,Calls Tryz.prog 10 #[.agg #[.slice (some ⟨X+1+1,0,none⟩) 2 2],.slice none 0 0,.slice (some ⟨X+1+1+1+1+1+1+1+1,0,none⟩) 2 2,.slice (some ⟨X+1+1+1+1+1+1+1+1+1+1+1,0,none⟩) 1 1] p.wd fun e w'=>e = .returned (.bool true)∧Touch No p.wd w'):=fun p=>by
  have tp:=T12.out.trans p.no;have h:=begins_in p.wd _ none _ _ 2 2 0 0 2 2 1 1 Me.g0 [] Me.in0 Me.out0 (HF.out.1.no tp) rfl (by decide) (WsIn.nil rfl) rfl (by decide) (by decide) (HF.out.2.1.no tp) rfl (by decide) (HF.out.2.2.2.no tp) rfl (by decide);rw[Me.begins2]at h;exact h
 have D2:Hid (∀p:KW w2,Calls Tryz.prog 12 #[.agg #[.slice (some ⟨X+1+1,0,none⟩) 2 2],.slice none 0 0,.slice (some ⟨X+1+1+1+1+1+1+1+1,0,none⟩) 2 2,.slice (some ⟨X+1+1+1+1+1+1+1+1+1+1+1,0,none⟩) 1 1] p.wd fun e w'=>e = .returned (.bool false)∧Touch No p.wd w'):=fun p=>by
  have tp:=T12.out.trans p.no;have h:=whole_in p.wd _ none _ _ 2 2 0 0 2 2 1 1 Me.g0 [] Me.in0 Me.out0 (HF.out.1.no tp) rfl (by decide) (WsIn.nil rfl) rfl (by decide) (by decide) (HF.out.2.1.no tp) rfl (by decide) (HF.out.2.2.2.no tp) rfl (by decide);rw[Me.whole2]at h;exact h
 have D3:Hid (∀p:KW w2,Calls Tryz.prog 12 #[.agg #[.slice (some ⟨X+1+1,0,none⟩) 2 2],.slice none 0 0,.slice (some ⟨X+1+1+1+1+1+1+1+1,0,none⟩) 1 2,.slice (some ⟨X+1+1+1+1+1+1+1+1+1+1+1,0,none⟩) 1 1] p.wd fun e w'=>e = .returned (.bool true)∧Touch No p.wd w'):=fun p=>by
  have tp:=T12.out.trans p.no;have h:=whole_in p.wd _ none _ _ 2 2 0 0 1 2 1 1 Me.g0 [] [([1],[-1])] Me.out0 (HF.out.1.no tp) rfl (by decide) (WsIn.nil rfl) rfl (by decide) (by decide) (HF.out.2.2.1.no tp) rfl (by decide) (HF.out.2.2.2.no tp) rfl (by decide);rw[Me.whole1]at h;exact h
 have D4:=Lib.hid (fun p:KW w2=>fine_in p.wd g d0 d1 (hW.no p.no) (some ⟨X+1+1,0,none⟩) (some ⟨X+1+1+1+1+1+1+1+1,0,none⟩) 2 2 2 2 Me.g0 Me.in0 (HF.out.1.no (t2.trans p.no)) rfl (by decide) (HF.out.2.1.no (t2.trans p.no)) rfl (by decide));have D5:=Lib.hid (fun p:KW w2=>fine_nil p.wd (some ⟨X+1+1,0,none⟩) (some ⟨X+1+1+1+1+1+1+1+1,0,none⟩) 2 2 2 2);clear C0 hW t2 HR3;go_upto_region 5 with fail;refine wp_region_kept (by kernel_rfl) (by kernel_rfl) ?_;repeat (first|go_big_quiet_step ((first|with_reducible exact Calls.kept_of (D1.out _)|with_reducible exact Calls.kept_of (D2.out _)|with_reducible exact Calls.kept_of (D3.out _)|with_reducible exact Calls.kept_of (D4.out _)|with_reducible exact Calls.kept_of (D5.out _)))|quiet_step ((first|with_reducible exact Calls.kept_of (D1.out _)|with_reducible exact Calls.kept_of (D2.out _)|with_reducible exact Calls.kept_of (D3.out _)|with_reducible exact Calls.kept_of (D4.out _)|with_reducible exact Calls.kept_of (D5.out _))))
 refine wpQuiet_nil ?_;intro _ hw';obtain⟨kw,hw''⟩:=hw';subst hw'';obtain⟨wk,tk⟩:=kw;have tk:=Lib.hid tk;dsimp only;have T3:=Lib.hid (T2.out.trans tk.out);clear D1 D2 D3 D4 D5 k0;go_wp2;go_ret;exact⟨rfl,T3.out⟩
end
section
open Go Go.RowKit
theorem LIn.front {s n:Nat}{El:Nat→World→List Value→Prop}{M:World→List Value→Prop}{w:World}{a:Option Addr}(h:LIn s (withMark n El M) w a (n+1)):LIn s El w a n:=fun j hj=>by
 obtain⟨b,o,e,h1,h2,h3,h4⟩:=h j (by omega);unfold withMark at h4;rw[if_pos hj]at h4;exact⟨b,o,e,h1,h2,h3,h4⟩
def tLens (Ws:List Me.Raw):List (Nat × Nat):=Ws.map fun x=>(x.1.length,x.2.length)
theorem tLens_get (Ws:List Me.Raw)(j:Nat):(tLens Ws).getD j (0,0)=((Me.rawAt Ws j).1.length,(Me.rawAt Ws j).2.length):=by
 rw[tLens,Me.rawAt,Lgd,Lgd,List.getElem?_map];cases Ws[j]? <;> rfl
theorem WsIn.len {w:World}{a:Option Addr}{Ws:List Me.Raw}(h:WsIn w a Ws):WsLen w a (tLens Ws):=fun j hj=>by
 obtain⟨b,o,sa,n,c,la,m,d,e,h1,h2,h3⟩:=h j (by simpa[tLens]using hj);exact⟨b,o,sa,n,c,la,m,d,e,⟨h1,h2⟩,by rw[tLens_get];exact h3.sn.symm,by rw[tLens_get];exact h3.lm.symm,h3.s6,h3.l6⟩
theorem judgesBegins_walk (w:World)(a wa ia ra:Option Addr)(m cap wn wc N' ci N cr:Nat)(more sec:Int)(Ns:List Me.Node)(Ws Ins:List Me.Raw)(Rc:List (Int × Me.Raw))(hN:NsB w a Ns)(hm:Ns.length=m)(hm6:m≤2000000)(hW:WsIn w wa Ws)(hWl:Ws.length=wn)(hW6:wn≤2000000)
  (hI:WsIn w ia Ins) (hIl:Ins.length=N') (hI6:N'≤2000000) (hR:RcIn w ra Rc) (hRl:Rc.length=N) (hR6:N≤2000000) :
  Calls Tryz.prog 3 #[.agg #[.slice a m cap,.slice wa wn wc,.int .u16 more,.int .u16 sec],.slice ia N' ci,.slice ra N cr] w fun e w'=>e = .returned (.bool true)∧Touch No w w':=by
 obtain⟨w1,hw1,t1,R1⟩:=box_row w [.slice a m cap,.slice wa wn wc,.int .u16 more,.int .u16 sec] 28;obtain⟨X,hX⟩:∃X,X=w.heap.size:=⟨_,rfl⟩;rw[← hX]at R1;have C1:=Lib.hid (great_in w1 a wa m cap wn wc more sec Ns Ws (hN.no t1) hm hm6 (hW.no t1) hWl hW6);have C2:=Lib.hid (fun wx (t:Touch No w1 wx)=>tensSize_any wx ia N' ci (tLens Ins) ((hI.no t1).no t).len (by simp[tLens,hIl]) hI6);have y0:w1.cell? ⟨X,0,none⟩=some (.slice a m cap):=R1.cell 0;have y1:w1.cell? ⟨X,1,none⟩=some (.slice wa wn wc):=R1.cell 1;have y2:w1.cell? ⟨X,2,none⟩=some (.int .u16 more):=R1.cell 2;have y3:w1.cell? ⟨X,3,none⟩=some (.int .u16 sec):=R1.cell 3;have HN:=Lib.hid (hN.no t1);have HW:=Lib.hid (hW.no t1);have HI:=Lib.hid (hI.no t1);have HR:=Lib.hid (hR.no t1);have HLen:=Lib.hid (aI hm (aI hWl (aI hIl hRl)));have HR1:=Lib.hid R1;have HT1:=Lib.hid t1;have HLv:=Lib.hid (fun wx=>lives_in wx);clear hN hm hW hWl hI hIl hR hRl t1 R1;go_enter Tryz.func3,Tryz.ntmps3;go_upto_region 1 with fail;rw[← hw1,← hX];clear hw1 hX;go_wp2_with fail;refine C1.out.mono ?_;rintro e w2 ⟨b,rfl,hb,t2⟩;have T2:=Lib.hid t2;clear C1 t2 y0 y1 y2 y3;cases b with
 | true =>
   clear hb;go_wp2_with fail;refine(HLv.out w2).mono ?_;rintro e w3 ⟨rfl,tl⟩;have TL:=Lib.hid (HT1.out.trans (T2.out.trans tl));clear tl;go_wp2;go_ret;exact⟨rfl,TL.out⟩
 | false =>
   have hsh:=hb rfl;clear hb
   by_cases h20:20<N'
   ·have h20':(20:Int)<(N':Nat):=by omega
    go_wp2_with fail;refine(HLv.out w2).mono ?_;rintro e w3 ⟨rfl,tl⟩;have TL:=Lib.hid (HT1.out.trans (T2.out.trans tl));clear tl;go_wp2;go_ret;exact⟨rfl,TL.out⟩
   ·have h20':¬(20:Int)<(N':Nat):=by omega
    go_wp2_with fail;refine(C2.out w2 T2.out).mono ?_;rintro e w3 ⟨z,rfl,_,_,t3⟩;have T3:=Lib.hid (T2.out.trans t3);clear C2 t3
    by_cases h5:5000<z
    ·have h5':(5000:Int)<(z:Nat):=by omega
     go_wp2_with fail;refine(HLv.out w3).mono ?_;rintro e w4 ⟨rfl,tl⟩;have TL:=Lib.hid (HT1.out.trans (T3.out.trans tl));clear tl;go_wp2;go_ret;exact⟨rfl,TL.out⟩
    ·have h5':¬(5000:Int)<(z:Nat):=by omega
     by_cases h30:30<N
     ·have h30':(30:Int)<(N:Nat):=by omega
      go_wp2_with fail;refine(HLv.out w3).mono ?_;rintro e w4 ⟨rfl,tl⟩;have TL:=Lib.hid (HT1.out.trans (T3.out.trans tl));clear tl;go_wp2;go_ret;exact⟨rfl,TL.out⟩
     ·have h30':¬(30:Int)<(N:Nat):=by omega
      have hNs:Hid (∀wx,Touch No w1 wx→NsIn wx a Ns):=fun wx t=>(HN.out.no t).ns hsh
      have hm3:m≤300:=by rw[← HLen.out.1];exact hsh.1
      have D1:=Lib.hid (twinGraph_in w3 a m cap Ns (hNs.out w3 T3.out) HLen.out.1 hm6);have y0:w3.cell? ⟨X,0,none⟩=some (.slice a m cap):=(HR1.out.touch T3.out id).cell 0;clear hsh;go_wp2_with fail;refine D1.out.mono ?_;rintro e w4 ⟨ga,gc,rfl,hgc,hgL,t4⟩;have T4:=Lib.hid (T3.out.trans t4);have HGL:=Lib.hid (aI hgc hgL);have y1:w4.cell? ⟨X,1,none⟩=some (.slice wa wn wc):=(HR1.out.touch T4.out id).cell 1;clear D1 y0 t4 hgL hgc;obtain⟨w5,hw5,t5,R5⟩:=box_row w4 [.slice ga m gc] 24;obtain⟨Y,hY⟩:∃Y,Y=w4.heap.size:=⟨_,rfl⟩;rw[← hY]at R5;have T5:=Lib.hid (T4.out.trans t5);have HR5:=Lib.hid R5;have HGL5:=Lib.hid (aI HGL.out.1 (HGL.out.2.no (stays_mark (nEl_stays _) markN_stays) t5));have D2:=Lib.hid (twinTs_in w5 wa wn wc Ws (HW.out.no T5.out) HLen.out.2.1 hW6);clear t5 R5 HGL y1;have y1:w5.cell? ⟨X,1,none⟩=some (.slice wa wn wc):=(HR1.out.touch T5.out id).cell 1;go_upto_region 4 with fail;rw[← hw5,← hY];clear hw5 hY;go_wp2_with fail;refine D2.out.mono ?_;rintro e w6 ⟨ta,tc,rfl,htc,htL,t6⟩;have T6:=Lib.hid (T5.out.trans t6);have T56:=Lib.hid t6;have HTL:=Lib.hid (aI htc htL);have D3:=Lib.hid (twinTs_in w6 ia N' ci Ins (HI.out.no T6.out) HLen.out.2.2.1 hI6);clear D2 y1 t6 htL htc;go_wp2_with fail;refine D3.out.mono ?_;rintro e w7 ⟨xa,xc,rfl,hxc,hxL,t7⟩;have T7:=Lib.hid (T6.out.trans t7);have T67:=Lib.hid t7;have HXL:=Lib.hid (aI hxc hxL);have D4:=Lib.hid (twinRs_in w7 ra N cr Rc (HR.out.no T7.out) HLen.out.2.2.2 hR6);clear D3 t7 hxL hxc;go_wp2_with fail;refine D4.out.mono ?_;rintro e w8 ⟨qa,qc,rfl,hqc,hqL,t8⟩;have T8:=Lib.hid (T7.out.trans t8);have HQL:=Lib.hid (aI hqc hqL);have S1:=stays_mark (n:=m) (nEl_stays Ns) markN_stays;have S2:=stays_mark (n:=wn) (tEl_stays Ws) markT_stays;have S3:=stays_mark (n:=N') (tEl_stays Ins) markT_stays;have HG8:=Lib.hid (HGL5.out.2.no S1 ((T56.out.trans T67.out).trans t8));have HT8:=Lib.hid (HTL.out.2.no S2 (T67.out.trans t8));have HX8:=Lib.hid (HXL.out.2.no S3 t8);have HS:=Lib.hid (aI S1 (aI S2 (aI S3 (stays_mark (n:=N) (rEl_stays Rc) markR_stays))))
      have HR5w:=Lib.hid (HR5.out.touch ((T56.out.trans T67.out).trans t8) id);clear D4 t8 hqL hqc S1 S2 S3;obtain⟨BB,hBB⟩:∃z,Me.begins Ns Ws Ins Rc=z:=⟨_,rfl⟩;obtain⟨WW,hWW⟩:∃z,Me.whole Ns Ws Ins Rc=z:=⟨_,rfl⟩
      have HT:Hid (∀wx,Touch No w8 wx→NsIn wx ga Ns∧WsIn wx ta Ws∧WsIn wx xa Ins∧RcIn wx qa Rc):=fun wx t=>by
       refine⟨LIn.ns (by rw[HLen.out.1];exact(HG8.out.no HS.out.1 t).front),LIn.ws (by rw[HLen.out.2.1];exact(HT8.out.no HS.out.2.1 t).front),LIn.ws (by rw[HLen.out.2.2.1];exact(HX8.out.no HS.out.2.2.1 t).front),LIn.rc (by rw[HLen.out.2.2.2];exact(HQL.out.2.no HS.out.2.2.2 t).front)⟩
      have E1:=Lib.hid (fun p:KW w8=>begins_in p.wd ga ta xa qa m gc wn tc N' xc N qc Ns Ws Ins Rc (HT.out _ p.no).1 HLen.out.1 (by omega) (HT.out _ p.no).2.1 HLen.out.2.1 (by have:=HTL.out.1;omega) hW6 (HT.out _ p.no).2.2.1 HLen.out.2.2.1 hI6 (HT.out _ p.no).2.2.2 HLen.out.2.2.2 hR6);have E2:=Lib.hid (fun p:KW w8=>refBegins_in p.wd a wa ia ra m cap wn wc N' ci N cr Ns Ws Ins Rc (hNs.out _ (T8.out.trans p.no)) HLen.out.1 (by omega) (HW.out.no (T8.out.trans p.no)) HLen.out.2.1 hW6 (HI.out.no (T8.out.trans p.no)) HLen.out.2.2.1 hI6 (HR.out.no (T8.out.trans p.no)) HLen.out.2.2.2 hR6);have E3:=Lib.hid (fun p:KW w8=>whole_in p.wd ga ta xa qa m gc wn tc N' xc N qc Ns Ws Ins Rc (HT.out _ p.no).1 HLen.out.1 (by omega) (HT.out _ p.no).2.1 HLen.out.2.1 (by have:=HTL.out.1;omega) hW6 (HT.out _ p.no).2.2.1 HLen.out.2.2.1 hI6 (HT.out _ p.no).2.2.2 HLen.out.2.2.2 hR6);have E4:=Lib.hid (fun p:KW w8=>refWhole_in p.wd a wa ia ra m cap wn wc N' ci N cr Ns Ws Ins Rc (hNs.out _ (T8.out.trans p.no)) HLen.out.1 (by omega) (HW.out.no (T8.out.trans p.no)) HLen.out.2.1 hW6 (HI.out.no (T8.out.trans p.no)) HLen.out.2.2.1 hI6 (HR.out.no (T8.out.trans p.no)) HLen.out.2.2.2 hR6);rw[hBB]at E1 E2;rw[hWW]at E3 E4;have k0:=KW.cell (v:=.slice ga m gc) (HR5w.out.cell 0);have k1:=KW.cell (v:=.slice a m cap) ((HR1.out.touch T8.out id).cell 0);have k2:=KW.cell (v:=.slice wa wn wc) ((HR1.out.touch T8.out id).cell 1);have b1:(BB != BB)=false:=by simp
      have b2:(WW != WW)=false:=by simp
      clear hBB hWW;go_upto_region 7 with fail;refine wp_region_kept (by kernel_rfl) (by kernel_rfl) ?_;repeat (first|go_big_quiet_step ((first|with_reducible exact Calls.kept_of (E1.out _)|with_reducible exact Calls.kept_of (E2.out _)|with_reducible exact Calls.kept_of (E3.out _)|with_reducible exact Calls.kept_of (E4.out _)))|quiet_step ((first|with_reducible exact Calls.kept_of (E1.out _)|with_reducible exact Calls.kept_of (E2.out _)|with_reducible exact Calls.kept_of (E3.out _)|with_reducible exact Calls.kept_of (E4.out _))))
      refine wpQuiet_nil ?_;intro _ hw';obtain⟨kw,hw''⟩:=hw';subst hw'';obtain⟨wk,tk⟩:=kw;have tk:=Lib.hid tk;dsimp only;clear E1 E2 E3 E4 k0 k1 k2 b1 b2;have F1:=Lib.hid (fun wx (t:Touch No wk wx)=>leftGraph_in wx ga a m gc cap Ns ((HG8.out.no HS.out.1 tk.out).no HS.out.1 t) HGL5.out.1 (hNs.out _ ((T8.out.trans tk.out).trans t)) HLen.out.1 hm6);have F2:=Lib.hid (fun wx (t:Touch No wk wx)=>leftTs_in wx ta wa wn tc wc Ws ((HT8.out.no HS.out.2.1 tk.out).no HS.out.2.1 t) HTL.out.1 (HW.out.no ((T8.out.trans tk.out).trans t)) HLen.out.2.1 hW6);have F3:=Lib.hid (fun wx (t:Touch No wk wx)=>leftTs_in wx xa ia N' xc ci Ins ((HX8.out.no HS.out.2.2.1 tk.out).no HS.out.2.2.1 t) HXL.out.1 (HI.out.no ((T8.out.trans tk.out).trans t)) HLen.out.2.2.1 hI6);have F4:=Lib.hid (fun wx (t:Touch No wk wx)=>leftRs_in wx qa ra N qc cr Rc ((HQL.out.2.no HS.out.2.2.2 tk.out).no HS.out.2.2.2 t) HQL.out.1 (HR.out.no ((T8.out.trans tk.out).trans t)) HLen.out.2.2.2 hR6);have HRw:=Lib.hid (fun wx (t:Touch No wk wx)=>aI (HR5w.out.touch (tk.out.trans t) id) (HR1.out.touch ((T8.out.trans tk.out).trans t) id));have z0:wk.cell? ⟨Y,0,none⟩=some (.slice ga m gc):=(HRw.out wk (Touch.refl _ _)).1.cell 0;have z1:wk.cell? ⟨X,0,none⟩=some (.slice a m cap):=(HRw.out wk (Touch.refl _ _)).2.cell 0;go_wp2_with fail;refine(F1.out wk (Touch.refl _ _)).mono ?_;rintro e w9 ⟨rfl,t9⟩;have z2:w9.cell? ⟨X,1,none⟩=some (.slice wa wn wc):=(HRw.out w9 t9).2.cell 1;have HT9:=Lib.hid t9;clear z0 z1 t9;go_wp2_with fail;refine(F2.out w9 HT9.out).mono ?_;rintro e w10 ⟨rfl,t10⟩;have HT10:=Lib.hid (HT9.out.trans t10);clear z2 t10;go_wp2_with fail;refine(F3.out w10 HT10.out).mono ?_;rintro e w11 ⟨rfl,t11⟩;have HT11:=Lib.hid (HT10.out.trans t11);clear t11;go_wp2_with fail;refine(F4.out w11 HT11.out).mono ?_;rintro e w12 ⟨rfl,t12⟩;have HT12:=Lib.hid (HT11.out.trans t12);clear t12;go_wp2_with fail;refine(HLv.out w12).mono ?_;rintro e w13 ⟨rfl,tl⟩;have TL:=Lib.hid (HT1.out.trans (((T8.out.trans tk.out).trans HT12.out).trans tl));clear tl
      go_wp2;go_ret;exact⟨rfl,TL.out⟩
end
end Go.Proofs.YtjlphmmalebgpaaGreat
