/-
  A part of the proof.
-/
import Derived.Test.YtjlphmmalebgpaaGreatK38
set_option linter.unusedSimpArgs false
set_option linter.unusedVariables false
set_option maxHeartbeats 20000000
set_option maxRecDepth 100000
namespace Go.Proofs.YtjlphmmalebgpaaGreat
section
open Go Go.RowKit Go.Shelf
attribute [local go_sem] Oper.semAt_some
theorem hmk0 (m:Nat)(hm:m≤4096):∀wx:World,(Instr.makeSlice 49 (.int .i64 0) (.int .i64 (m:Int))).run Tryz.prog wx = .ok (.slice (some ⟨wx.heap.size,0,none⟩) 0 m) (wx.alloc (.cells (List.replicate m (Value.int .i32 0)).toArray 21)):=fun wx=>by
 obtain⟨I,hi0,hi1,hi2,hi3⟩:=i32_info;have:=run_make (P:=Tryz.prog) wx 49 21 I (.int .i32 0) Tryz.underlying49 hi0 hi1 .i64 .i64 (0:Int) (m:Int) (by omega) (by omega) (by rw[hi3];omega) (by omega);rw[this,hi2,Int.toNat_natCast,Nat.mul_one]
 show Result.ok _ (wx.alloc (.cells (madeCells #[Value.int .i32 0] _) _))=_
 rw[made_fill];rfl
def poolV (A:List Int)(p1 p2 s u1 u2 i:Nat):Int:=Me.go (Me.pool A p1 p2 s (i / (u1*u2)) (i / u2%u1) (i%u2)) (Me.look A p1 p2 (i / (u1*u2)) ((i / u2%u1*s:Nat):Int) ((i%u2*s:Nat):Int)) (s*s)
theorem firstN_map {β:Type}(f:Nat→β)(N:Nat):((firstN N N).map fun x=>f x.val)=(List.range N).map f:=by
 refine List.ext_getElem (by simp[firstN]) (fun i h1 h2=>?_);simp[firstN]
theorem pool_in:PoolHas:=by
 intro w sa la n c m d s S U A hA hG hU
 obtain⟨u0,u1,u2,hUe⟩:∃u0 u1 u2,U=[u0,u1,u2]:=by
  have h:=hG.lu
  match U,h with
  | [a,b,c],_=>exact⟨a,b,c,rfl⟩
 subst hUe;obtain⟨p1,hp1⟩:∃p1,S.getD 1 0=p1:=⟨_,rfl⟩;obtain⟨p2,hp2⟩:∃p2,S.getD 2 0=p2:=⟨_,rfl⟩;rw[hp1,hp2];have HP:=Lib.hid (aI hp1 hp2);clear hp1 hp2;refine(callsIn_wide (n:=12)).1 ?_;refine callsIn_of_wp_marks Tryz.func148 rfl trivial ?_ rfl;simp only[Tryz.ntmps148,List.size_toArray,List.length_cons,List.length_nil,Nat.reduceAdd,Nat.reduceSub,Array.replicate_succ,Array.replicate_zero,List.push_toArray,List.append_toArray,List.nil_append,List.cons_append];obtain⟨w1,hw1,t1,R1,R2,R3,hs1⟩:=rows_3 w [.slice sa n c,.slice la m d] [.int .i64 ((s:Nat):Int)] [.slice none 0 0,.slice none 0 0] 51 3 51;obtain⟨X,hX⟩:∃X,X=w.heap.size:=⟨_,rfl⟩;rw[← hX]at R1 R2 R3 hs1;have C1:=Lib.hid (tenCheck_ok (c:=c) (d:=d) (hA.no t1));have y0:w1.cell? ⟨X,0,none⟩=some (.slice sa n c):=R1.cell 0;have y1:w1.cell? ⟨X,1,none⟩=some (.slice la m d):=R1.cell 1;have HT1:=Lib.hid t1;have HR1:=Lib.hid R1;have HR2:=Lib.hid R2;have HR3:=Lib.hid R3;have HA:=Lib.hid hA;have HG:=Lib.hid hG;have HU:=Lib.hid hU;have HX1:=Lib.hid hs1;have HX:=Lib.hid hX;clear t1 R1 R2 R3 hA hG hU hs1;gi_upto_region 1 with fail;rw[← hw1,← hX];clear hw1 hX;gi_wp2;refine⟨trivial,(callsIn_wide.2 C1.out).mono ?_⟩;rintro e w2 ⟨rfl,t2⟩;have HT2z:Hid (w1.heap.size≤w2.heap.size):=t2.size;have HT2:=Lib.hid (HT1.out.trans t2);have y2:w2.cell? ⟨X,0,none⟩=some (.slice sa n c):=(HR1.out.touch t2 id).cell 0;have y3:w2.cell? ⟨X+1,0,none⟩=some (.int .i64 ((s:Nat):Int)):=(HR2.out.touch t2 id).cell 0;have C2:=Lib.hid (poolShape_in w2 sa n c (s:Int) S HA.out.ok (HA.out.no HT2.out).sr HA.out.sn);rw[HU.out]at C2;clear y0 y1 C1;gi_wp2;refine⟨trivial,(callsIn_wide.2 C2.out).mono ?_⟩;rintro e w3 ⟨a3,c3,rfl,hc3,hr3,t3,hn3⟩;clear y2 y3 C2;simp only[List.length_cons,List.length_nil,Nat.reduceAdd]at hc3;obtain⟨b3,o3,rfl,_⟩:=hr3.num (i:=0) (by simp);have HS3:=Lib.hid (aI hc3 (aI hr3 hn3));have HT3:=Lib.hid (HT2.out.trans t3);have HT2s:Hid (w.heap.size≤w2.heap.size):=HT2.out.size;have HR13:=Lib.hid (HR1.out.touch (t2.trans t3) id);have HR23:=Lib.hid (HR2.out.touch (t2.trans t3) id)
 have HR33:=Lib.hid (HR3.out.touch (t2.trans t3) id);clear hc3 hr3 hn3 t3 t2 HR1 HR2 HR3 HT2;obtain⟨m2,hm2⟩:∃m2,Me.pr [u0,u1,u2]=m2:=⟨_,rfl⟩;have hm4:m2≤4096:=by rw[← hm2];exact HG.out.ok.most
 have hmk:=hmk0 m2 hm4;have hmf:∀(fn:Fn) (first cap:Array Value) (w:World),(Instr.makeFunc fn first cap).run Tryz.prog w = .ok (.func fn first cap) w:=fun _ _ _ _=>rfl
 have HM2:=Lib.hid hm2;have D1:=Lib.hid (fun p:KW w3=>(size_ok (n:=3) (c:=c3) (HS3.out.2.1.no p.no) rfl HG.out.ok hm2).mono (R':=fun e w'=>e = .returned (.int .i64 (m2:Nat))∧Touch No p.wd w') (by rintro e w' ⟨h,rfl⟩;exact⟨h,Touch.refl _ _⟩));have D2:=Lib.hid (fun p:KW w3=>picOf_in p.wd sa la n c m d S A (HA.out.no (HT3.out.trans p.no)) (by rw[← HA.out.sn];exact HG.out.ls));rw[HP.out.1,HP.out.2]at D2;clear hm2;gi_upto_region 6 with fail
 gi_cut [8,9] from 13 (fun s8 s9 wx=>∃(B8 B9 BD:Nat),s8 = .pointer (some ⟨B8,0,none⟩)∧s9 = .pointer (some ⟨B9,0,none⟩)∧Hid (Touch No w3 wx)∧Hid (w3.heap.size≤B8∧w3.heap.size≤B9∧w3.heap.size≤BD)∧
  Hid (Row wx B8 49 [.slice (some ⟨BD,0,none⟩) 0 m2])∧Hid (Row wx B9 249 [.func (.func 201) #[.agg #[.slice la m d,.int .i64 ((p1:Nat):Int),.int .i64 ((p2:Nat):Int)]] #[]])∧Hid (Own wx w3.heap.size 21 (.slice (some ⟨BD,0,none⟩) 0 m2) []))
 case first =>
  have k0:=KW.cell (v:=.slice sa n c) (HR13.out.cell 0);have k1:=KW.cell (v:=.slice la m d) (HR13.out.cell 1);refine wpIn_region_u 10 #[false,false,false,false,false,false,false,false,false,false] (by kernel_rfl) rfl rfl fun wu tu=>?_
  refine wpAnyU_take (i:=0) rfl rfl rfl (by kernel_rfl) (by kernel_rfl) (by kernel_rfl) (by kernel_rfl) tu (fun _ _ _ _ h=>h) ?_;apply Exists.intro;refine⟨fun w1 t1=>?_,?_⟩
  ·skip
   first|gi_big_quiet_step (fail)|quiet_step_in (fail)
   refine wpQuietIn_nil ?_;rfl
  try dsimp only
  refine wpAnyU_take (i:=1) rfl rfl rfl (by kernel_rfl) (by kernel_rfl) (by kernel_rfl) (by kernel_rfl) tu (fun _ _ _ _ h=>h) ?_;apply Exists.intro;refine⟨fun w1 t1=>?_,?_⟩
  ·skip
   refine wpQuietIn_step (fun _ _ _ _=>trivial) (fun K hK=>?_);go_simp;apply Exists.intro;refine⟨fun _=>?_,hK _ ?_⟩
   ·exact CallsIn.kept_of (callsIn_wide.2 (D1.out ⟨_,t1.trans (KW.no _)⟩))
   clear hK K;refine wpQuietIn_nil ?_;rfl
  try dsimp only
  refine wpAnyU_take (i:=3) rfl rfl rfl (by kernel_rfl) (by kernel_rfl) (by kernel_rfl) (by kernel_rfl) tu (fun _ _ _ _ h=>h) ?_;apply Exists.intro;refine⟨fun w1 t1=>?_,?_⟩
  ·have k0:∀p:KW w1,p.wd.cell? _=_:=fun p=>k0 ⟨p.wd,t1.trans p.no⟩
   have k1:∀p:KW w1,p.wd.cell? _=_:=fun p=>k1 ⟨p.wd,t1.trans p.no⟩
   first|gi_big_quiet_step (fail)|quiet_step_in (fail)
   refine wpQuietIn_nil ?_;rfl
  try dsimp only
  refine wpAnyU_take (i:=4) rfl rfl rfl (by kernel_rfl) (by kernel_rfl) (by kernel_rfl) (by kernel_rfl) tu (fun _ _ _ _ h=>h) ?_;apply Exists.intro;refine⟨fun w1 t1=>?_,?_⟩
  ·skip
   refine wpQuietIn_step (fun _ _ _ _=>trivial) (fun K hK=>?_);go_simp;apply Exists.intro;refine⟨fun _=>?_,hK _ ?_⟩
   ·exact CallsIn.kept_of (callsIn_wide.2 (D2.out ⟨_,t1.trans (KW.no _)⟩))
   clear hK K;refine wpQuietIn_nil ?_;rfl
  try dsimp only
  refine wpAnyU_take (i:=5) rfl rfl rfl (by kernel_rfl) (by kernel_rfl) (by kernel_rfl) (by kernel_rfl) tu (fun _ _ _ _ h=>h) ?_;apply Exists.intro;refine⟨fun w1 t1=>?_,?_⟩
  ·skip
   first|gi_big_quiet_step (fail)|quiet_step_in (fail)
   refine wpQuietIn_nil ?_;rfl
  try dsimp only
  repeat' first
   | (refine wpAnyU_end (by assumption) (by decide +kernel) ?_;intro wz tz)
   | ((first
       | refine wpAnyU_ready (rs:=[2,6,7]) (by assumption) (by decide +kernel) (by simp) ?_
       | refine wpAnyU_ready (rs:=[2,6]) (by assumption) (by decide +kernel) (by simp) ?_
       | refine wpAnyU_ready (rs:=[2,7]) (by assumption) (by decide +kernel) (by simp) ?_
       | refine wpAnyU_ready (rs:=[6,7]) (by assumption) (by decide +kernel) (by simp) ?_
       | refine wpAnyU_ready (rs:=[2]) (by assumption) (by decide +kernel) (by simp) ?_
       | refine wpAnyU_ready (rs:=[6]) (by assumption) (by decide +kernel) (by simp) ?_
       | refine wpAnyU_ready (rs:=[7]) (by assumption) (by decide +kernel) (by simp) ?_
       | refine wpAnyU_ready (rs:=[8]) (by assumption) (by decide +kernel) (by simp) ?_
       | refine wpAnyU_ready (rs:=[9]) (by assumption) (by decide +kernel) (by simp) ?_)
      intro wz tz;try have R8:=R8.touch tz id
      try have R9:=R9.touch tz id
      try have RD:=RD.touch tz id
      have tu:=tu.trans tz;try have c8:=R8.cell 0
      try have f8:=R8.soft 0
      try have c9:=R9.cell 0
      try have f9:=R9.soft 0
      try simp only[Lz0]at c8
      try simp only[Lz0]at c9)
   | exact AllReadyU.nil
   | (refine AllReadyU.cons rfl (fun K hK=>?_) ?_
      go_simp;first
      | (refine hK _ _ ?_
         clear hK K
         first
          | (obtain⟨wy,hwy,ty,R8⟩:=box_row wz [.slice none 0 0] 49
             rw[← hwy];obtain⟨B8,hB8⟩:∃B,B=wz.heap.size:=⟨_,rfl⟩;rw[← hB8]at R8 ⊢;have n8:=Lib.hid (show w3.heap.size≤B8 by rw[hB8];exact tu.size);have tu:=tu.trans ty;try have R9:=R9.touch ty id
             try have RD:=RD.touch ty id
             clear hwy hB8 ty)
          | (obtain⟨wy,hwy,ty,R9⟩:=box_row wz [.nilFunc] 249
             rw[← hwy];obtain⟨B9,hB9⟩:∃B,B=wz.heap.size:=⟨_,rfl⟩;rw[← hB9]at R9 ⊢;have n9:=Lib.hid (show w3.heap.size≤B9 by rw[hB9];exact tu.size);have tu:=tu.trans ty;try have R8:=R8.touch ty id
             try have RD:=RD.touch ty id
             clear hwy hB9 ty)
          | (obtain⟨wy,hwy⟩:∃wy,wy=wz.alloc (.cells (Array.replicate m2 (.int .i32 0)) 21):=⟨_,rfl⟩
             rw[← hwy];have ty:Touch No wz wy:=by rw[hwy];exact(Touch.refl No wz).alloc _
             have RD:Row wy wz.heap.size 21 (List.replicate m2 (.int .i32 0)):=by rw[hwy];have:=Row.new wz 21 (Array.replicate m2 (.int .i32 0));simpa using this
             obtain⟨BD,hBD⟩:∃B,B=wz.heap.size:=⟨_,rfl⟩;rw[← hBD]at RD ⊢;have nD:=Lib.hid (show w3.heap.size≤BD by rw[hBD];exact tu.size);have tu:=tu.trans ty;try have R8:=R8.touch ty id
             try have R9:=R9.touch ty id
             clear hwy hBD ty)
          | (obtain⟨wy,hwy⟩:∃wy,wy=wz.setCell ⟨B8,0,none⟩ (.slice (some ⟨BD,0,none⟩) 0 m2):=⟨_,rfl⟩
             rw[← hwy];have ty:Touch (One B8) wz wy:=by rw[hwy];exact(Touch.refl (One B8) wz).setCell (p:=⟨B8,0,none⟩) (fun _=>rfl) _
             have e1:=R9.ne R8 (by decide);have e2:=RD.ne R8 (by decide);have R8:Row wy B8 49 [.slice (some ⟨BD,0,none⟩) 0 m2]:=by rw[hwy];exact R8.setCell 0 _
             have R9:=R9.touch ty e1;have RD:=RD.touch ty e2;have tu:=tu.then ty (fun i hi e=>by have e':i=B8:=e;have:=n8.out;omega);clear hwy ty e1 e2)
          | (obtain⟨wy,hwy⟩:∃wy,wy=wz.setCell ⟨B9,0,none⟩ (.func (.func 201) #[.agg #[.slice la m d,.int .i64 ((p1:Nat):Int),.int .i64 ((p2:Nat):Int)]] #[]):=⟨_,rfl⟩
             rw[← hwy];have ty:Touch (One B9) wz wy:=by rw[hwy];exact(Touch.refl (One B9) wz).setCell (p:=⟨B9,0,none⟩) (fun _=>rfl) _
             have e1:=R8.ne R9 (by decide);have e2:=RD.ne R9 (by decide);have R9:Row wy B9 249 [.func (.func 201) #[.agg #[.slice la m d,.int .i64 ((p1:Nat):Int),.int .i64 ((p2:Nat):Int)]] #[]]:=by rw[hwy];exact R9.setCell 0 _
             have R8:=R8.touch ty e1;have RD:=RD.touch ty e2;have tu:=tu.then ty (fun i hi e=>by have e':i=B9:=e;have:=n9.out;omega);clear hwy ty e1 e2)
          | (trace_state;fail)))
  all_goals
   have hE:Hid (Touch No w3 wz):=tu.trans tz;have R8:=Lib.hid (R8.touch tz id);have R9:=Lib.hid (R9.touch tz id);have RD:=RD.touch tz id;have HOD:Hid (Own wz w3.heap.size 21 (.slice (some ⟨BD,0,none⟩) 0 m2) []):=⟨rfl,Or.inr ⟨BD,m2,_,rfl,nD.out,RD,Nat.zero_le _,by unfold maxLen;omega,by simp,rfl⟩⟩;have HN:=Lib.hid (aI n8.out (aI n9.out nD.out));gi_wp2;gi_meet;exact⟨B8,B9,BD,rfl,rfl,hE,HN.out,R8,R9,HOD⟩
 case rest =>
  obtain⟨B8,B9,BD,rfl,rfl,T6,HN6,R8,R9,HO⟩:=hcut;gi_wp2;refine⟨trivial,(callsIn_wide.2 (spots_any wc (some ⟨b3,o3,none⟩) 3 c3)).mono ?_⟩;rintro e w7 ⟨rfl,h7⟩;obtain⟨w7',hw7,t7,R7⟩:=box_row wc [.slice (some ⟨b3,o3,none⟩) 3 c3] 48;have h7':w7'=w7:=by rw[hw7,h7]
  subst h7';have hsz7:w7'.heap.size=wc.heap.size+1:=by rw[hw7];simp
  clear hw7 h7;obtain⟨Bn,hBn⟩:∃Bn,Bn=wc.heap.size:=⟨_,rfl⟩;gi_wp2;rw[← hBn]at R7 hsz7 ⊢;obtain⟨Rs,hRs⟩:∃Rs:List RowT,Rs=[(X,51,[.slice sa n c,.slice la m d]),(X+1,3,[.int .i64 ((s:Nat):Int)]),(X+1+1,51,[.slice none 0 0,.slice none 0 0]),(B9,249,[.func (.func 201) #[.agg #[.slice la m d,.int .i64 ((p1:Nat):Int),.int .i64 ((p2:Nat):Int)]] #[]]),(Bn,48,[.slice (some ⟨b3,o3,none⟩) 3 c3])]:=⟨_,rfl⟩;have T37:Touch No w3 w7':=T6.out.trans t7
  have hRsT:∀r∈Rs,r.2.1≠49∧r.2.1≠21:=by
   rw[hRs];intro r hr;simp only[List.mem_cons,List.mem_nil_iff,or_false]at hr;rcases hr with rfl|rfl|rfl|rfl|rfl <;> (refine⟨?_,?_⟩ <;> (dsimp only;decide))
  have hX3:X+3≤w3.heap.size:=by have h1:=HX1.out;have:=(HR33.out).lt;omega
  have hb3n:w.heap.size≤b3:=by have h1:=HS3.out.2.2 _ rfl;dsimp only at h1;have h2:=HT2s.out;omega
  have hb3l:b3<w3.heap.size:=by
   obtain⟨b',o',e,hc⟩:=HS3.out.2.1.num (i:=0) (by simp);cases e;exact lt_of_cell hc
  have hwX:w.heap.size=X:=HX.out.symm
  have hK0:KI w Rs B8 49 21 w3.heap.size b3 o3 (nums .i64 [u0,u1,u2]) [] w7':=by
   refine⟨HT3.out.trans T37,fun r hr=>?_,⟨_,R8.out.touch t7 id,HO.out.away t7 (fun _ _ f=>f)⟩,HS3.out.2.1.no T37⟩;rw[hRs]at hr;simp only[List.mem_cons,List.mem_nil_iff,or_false]at hr;rcases hr with rfl|rfl|rfl|rfl|rfl
   ·exact HR13.out.touch T37 id
   ·exact HR23.out.touch T37 id
   ·exact HR33.out.touch T37 id
   ·exact R9.out.touch t7 id
   ·exact R7
  have HK0:=Lib.hid hK0;have HRs:=Lib.hid (aI hRs hRsT);have HB3X:Hid (b3≠X+1+1):=fun e=>by have h1:=HS3.out.2.2 _ rfl;dsimp only at h1;have h2:=HT2z.out;have h3:=HX1.out;omega
  have HSZ:=Lib.hid (aI hX3 (aI hb3n (aI hb3l (aI hwX (aI hsz7 (aI HN6.out T37.size))))));have HR7:=Lib.hid R7;have hBnl:Bn<w7'.heap.size:=by omega
  have hb37:b3<w7'.heap.size:=by have:=T37.size;omega
  clear hK0 hRs hRsT hX3 hb3n hb3l hwX hsz7 hBn T37 t7 R7 T6 HN6 R8 R9 HO HR13 HR23 HR33
  refine wpIn_rangeFunc_ownH rfl (by decide) (gf:=227) (lb:=#[.pointer (some ⟨Bn,0,none⟩)]) rfl trivial (enters_of Tryz.func227 (by kernel_rfl) rfl)
   (spots_stops 11 (by decide) Bn b3 o3 u0 u1 u2 m2 c3 HG.out.ok HM2.out w7' hBnl hb37 (HR7.out.cell 0) HK0.out.shp) keep2_t (keep2_b hBnl hb37) (Below.refl _ _) (fun _=>rfl)
   (fun pre W=>KI w Rs B8 49 21 w3.heap.size b3 o3 (nums .i64 [u0,u1,u2]) (ints .i32 (pre.map fun x=>poolV A p1 p2 s u1 u2 x.val)) W)
   (fun _ _ _=>False)
   (KI.own _ (by have:=HK0.out.t.size;omega)) (fun _ _ _ _ _ hs _ _=>hs)
   HK0.out
   (fun x a1 W=>∃g kc ky kx:Nat,w7'.heap.size≤g∧Hid (x.val / (u1*u2)=kc∧x.val / u2%u1=ky∧x.val%u2=kx)∧a1 = {tmps:=#[.agg #[.slice sa n c,.slice la m d],.int .i64 ((s:Nat):Int),.pointer (some ⟨X,0,none⟩),.pointer (some ⟨X+1,0,none⟩),.pointer (some ⟨X+1+1,0,none⟩),.int .i64 0,.slice (some ⟨b3,o3,none⟩) 3 c3,.int .i64 0,.pointer (some ⟨B8,0,none⟩),.pointer (some ⟨B9,0,none⟩),.pointer (some ⟨g,0,none⟩),undef,undef,u13,u14,u15,u16,u17,u18,u19,u20,u21,u22,u23,u24,u25,u26,u27,u28,u29,u30,u31,u32,u33,.slice (some ⟨b3,o3,none⟩) 3 c3,.func (.func 227) #[] #[.pointer (some ⟨Bn,0,none⟩)],.agg #[.int .i64 ((kc:Nat):Int),.int .i64 ((ky:Nat):Int),.int .i64 ((kx:Nat):Int)],u37,u38,u39,u40,u41,u42,u43,u44,u45,u46,u47,u48,u49,u50,u51,u52,u53,u54,u55,u56,u57,u58,u59,u60,u61,u62,u63,u64,u65,u66,u67,u68,u69,u70,u71,u72,u73,u74,u75,u76,u77,u78,u79,u80,u81,u82,u83,u84],defers:=[]}∧Row W g 256 [.int .i64 ((kc:Nat):Int),.int .i64 ((ky:Nat):Int),.int .i64 ((kx:Nat):Int)])
   ?ownA ?assign ?body ?done ?stop
  case ownA =>
   rintro x a1 s W W' row ⟨g,kc,ky,kx,hg1,hk,rfl,hc⟩ hg hr;refine⟨g,kc,ky,kx,hg1,hk,rfl,hc.touch (touch_grown hg) (fun e2=>?_)⟩;obtain⟨_,o,h1,h2⟩:=hr g e2;rw[hc]at h1;cases h1;cases h2
  case assign =>
   rintro l pre x W K hI hK;obtain⟨kc,hkc⟩:∃z,x.val / (u1*u2)=z:=⟨_,rfl⟩;obtain⟨ky,hky⟩:∃z,x.val / u2%u1=z:=⟨_,rfl⟩;obtain⟨kx,hkx⟩:∃z,x.val%u2=z:=⟨_,rfl⟩;have HKK:=Lib.hid (aI hkc (aI hky hkx));simp only[spotV,hkc,hky,hkx];have HI1:=Lib.hid hI;have HKc:=Lib.hid hK;clear hkc hky hkx hI hK;gi_wp2;obtain⟨W1,hW1,tW,RW⟩:=box_row W [.int .i64 ((kc:Nat):Int),.int .i64 ((ky:Nat):Int),.int .i64 ((kx:Nat):Int)] 256;rw[← hW1];have hBnr:=(HI1.out.rows (Bn,48,[.slice (some ⟨b3,o3,none⟩) 3 c3]) (by rw[HRs.out.1];simp)).lt
   have hb3r:b3<W.heap.size:=by
    obtain⟨b',o',e,hc⟩:=HI1.out.shp.num (i:=0) (by simp);cases e;exact lt_of_cell hc
   exact HKc.out _ _ ((tW.keeps (fun _ f _=>f.elim)).from _) ⟨tW.block _ hBnr id,tW.block _ hb3r id⟩ (HI1.out.no tW) ⟨W.heap.size,kc,ky,kx,by have:=HSZ.out.2.2.2.2.1;dsimp only at hBnr;omega,HKK,rfl,RW⟩
  case done =>
   rintro D xs W hD hS hI hK;have hS':xs=firstN m2 m2:=hS;subst hS'
   have hxs:((firstN m2 m2).map fun x=>poolV A p1 p2 s u1 u2 x.val)=Me.poolL A p1 p2 s u0 u1 u2:=by
    rw[firstN_map (fun i=>poolV A p1 p2 s u1 u2 i)];have:u0*u1*u2=m2:=by rw[← HM2.out];simp[Me.pr,Nat.mul_assoc]
    rw[Me.poolL,this];rfl
   obtain⟨hT,hrow,⟨v,hv8,hO⟩,hsh⟩:=hI;rw[hxs]at hO;have hln:(Me.poolL A p1 p2 s u0 u1 u2).length=m2:=by rw[← hxs,List.length_map,firstN_length (Nat.le_refl _)]
   obtain⟨a8,c8,hv,hc8,_,_⟩:=hO.form' (n:=m2) (by rw[ints_length,hln]);subst hv;have y8:W.cell? ⟨B8,0,none⟩=some (.slice a8 m2 c8):=hv8.cell 0;have rX2:=hrow (X+1+1,51,[.slice none 0 0,.slice none 0 0]) (by rw[HRs.out.1];simp);dsimp only at rX2;have HX2:=Lib.hid rX2;have HOw:=Lib.hid hO;have HSh:=Lib.hid hsh;have HTw:=Lib.hid hT;have HDD:=Lib.hid (aI hD hK);have HLn:=Lib.hid hln;have HV8:=Lib.hid hv8;clear hO hsh hT hD hK hrow hxs hln hS rX2 hv8;gi_upto_region 16 with fail;refine wpIn_wide.2 ?_;go_wp2_with (refine wpList_store_mid rfl 51 _ _ rfl (X+1+1) 0 51 [.slice none 0 0,.slice none 0 0] HX2.out rfl [.slice (some ⟨b3,o3,none⟩) 3 c3,.slice a8 m2 c8] rfl (by kernel_rfl) (by simp) (by intro v hv;simp at hv;rcases hv with rfl|rfl <;> rfl) ?_);obtain⟨w9,hw9⟩:∃w9,w9=W.setRow (X+1+1) (splice [.slice none 0 0,.slice none 0 0] 0 [.slice (some ⟨b3,o3,none⟩) 3 c3,.slice a8 m2 c8]).toArray:=⟨_,rfl⟩;have tX:Touch (One (X+1+1)) W w9:=by rw[hw9];exact Touch.setOne _ _ _
   have R9:Row w9 (X+1+1) 51 [.slice (some ⟨b3,o3,none⟩) 3 c3,.slice a8 m2 c8]:=by rw[hw9];exact HX2.out.setRow _
   rw[← hw9];clear hw9
   have k5:w9.heap[D]? = some (.deferred (some [])):=by
    have hlt:=(Array.getElem?_eq_some_iff.1 HDD.out.2).1;rw[tX.block D hlt (fun e=>by have e':D=X+1+1:=e;have h1:=HDD.out.1;have h2:=HSZ.out.2.2.2.2.2.2;have h3:=HSZ.out.1;omega)];exact HDD.out.2
   gi_wp2;refine⟨by simp,.inl ⟨_,_,rfl,run_takeDeferred k5,?_⟩⟩;have t6:=touch_grown (grownBy_putObj' w9 D (.deferred none))
   have hne:∀k,CellsAt w9 k→¬(some D=some k):=fun k ⟨cc,tt,fr,e⟩ e2=>by
    cases e2
    rw[k5]at e;cases e
   have y4:=t6.cell (hne _ R9.cellsAt) (R9.cell 0);have y5:=t6.cell (hne _ R9.cellsAt) (R9.cell 1);refine⟨.tuple #[.agg #[.slice (some ⟨b3,o3,none⟩) 3 c3,.slice a8 m2 c8],.int .i64 0],by simp[results,Tryz.results148,go_sem,y4,y5],?_⟩;have hbX:∀v,49=v→True:=fun _ _=>trivial
   have hO9:=(HOw.out.away tX (fun k h1 h3=>HOw.out.off HX2.out (by decide) (by have e:k=X+1+1:=h3;rw[← e];exact h1))).cells t6 hne;have hs9:=(HSh.out.touch tX (fun b' o' e _ hI=>by cases e;have e':b3=X+1+1:=hI;exact(HB3X.out e').elim)).cells t6 hne
   have TT:Touch No w ((w9.putObj D (.deferred none))):=(HTw.out.then tX (fun i hi f=>by have e:i=X+1+1:=f;have h3:=HSZ.out.2.2.2.1;omega)).then t6 (fun i hi f=>by
    have e2:D=i:=Option.some.inj f;have h1:=HDD.out.1;have h2:=HSZ.out.2.2.2.2.2.2;have h3:=HSZ.out.1;have h4:=HSZ.out.2.2.2.1;omega)
   refine⟨_,_,_,_,_,_,rfl,{sr:=hs9,sn:=rfl,sc:=HS3.out.1,lr:=hO9.rd,lm:=HLn.out,lc:=hc8,ok:=HG.out.ok,len:=HM2.out,rng:=?_},TT,fun ad e=>by cases e;exact HSZ.out.2.1,fun ad e=>by have h1:=(HOw.out.block (k:=ad.block) (by rw[e];rfl)).1;have h2:=HSZ.out.1;have h4:=HSZ.out.2.2.2.1;omega⟩;exact Me.map_in fun _ _=>Me.go_in2 (Me.look_in HA.out.rng) (fun s _ hs=>by unfold Me.pool;exact Me.max_in hs (Me.look_in HA.out.rng)) _
  case stop =>
   rintro D cd pre W _ _ h _;exact h.elim
  case body =>
   rintro l pre x a1 W hl _ hI ⟨g,kc,ky,kx,hg,HKK,rfl,hc⟩ hlt;have rX1:Row W (X+1) 3 [.int .i64 ((s:Nat):Int)]:=hI.rows (X+1,3,[.int .i64 ((s:Nat):Int)]) (by rw[HRs.out.1];simp);have r9:Row W B9 249 [.func (.func 201) #[.agg #[.slice la m d,.int .i64 ((p1:Nat):Int),.int .i64 ((p2:Nat):Int)]] #[]]:=hI.rows (B9,249,[.func (.func 201) #[.agg #[.slice la m d,.int .i64 ((p1:Nat):Int),.int .i64 ((p2:Nat):Int)]] #[]]) (by rw[HRs.out.1];simp);have hu1:=HG.out.ok.each u1 (by simp);have hu2:=HG.out.ok.each u2 (by simp);have hst:=HG.out.step;have hNm:u0*(u1*u2)=m2:=by rw[← HM2.out];simp[Me.pr]
   have hkc:kc<u0:=by
    rw[← HKK.out.1,Nat.div_lt_iff_lt_mul (Nat.mul_pos hu1.1 hu2.1),hNm];exact x.isLt
   have hky:ky<u1:=by rw[← HKK.out.2.1];exact Nat.mod_lt _ (by omega)
   have hkx:kx<u2:=by rw[← HKK.out.2.2];exact Nat.mod_lt _ (by omega)
   have hkcS:kc<S.getD 0 0:=by have:=HG.out.u0;simp at this;simp;omega
   obtain⟨ys,hys⟩:∃z,ky*s=z:=⟨_,rfl⟩;obtain⟨xs,hxs⟩:∃z,kx*s=z:=⟨_,rfl⟩;obtain⟨one,hone⟩:∃z,s*s=z:=⟨_,rfl⟩;have by1:ys≤4096:=by rw[← hys];exact Nat.mul_le_mul (show ky≤64 by omega) hst.2
   have bx1:xs≤4096:=by rw[← hxs];exact Nat.mul_le_mul (show kx≤64 by omega) hst.2
   have bo1:one≤4096:=by rw[← hone];exact Nat.mul_le_mul hst.2 hst.2
   have e1:IntKind.i64.wrap ((ky:Int)*(s:Int))=((ys:Nat):Int):=by rw[← Int.natCast_mul,hys];exact IntWalk.i64_in _ (by omega)
   have e2:IntKind.i64.wrap ((kx:Int)*(s:Int))=((xs:Nat):Int):=by rw[← Int.natCast_mul,hxs];exact IntWalk.i64_in _ (by omega)
   have e3:IntKind.i64.wrap ((s:Int)*(s:Int))=((one:Nat):Int):=by rw[← Int.natCast_mul,hone];exact IntWalk.i64_in _ (by omega)
   have CL:=Lib.hid (fun(wx:World) (yy xx:Nat) (t:Touch No w wx) (h1:yy≤9000) (h2:xx≤9000)=>picLook_in wx sa la n c m d S A (HA.out.no t) (by rw[← HA.out.sn];exact HG.out.ls) kc (yy:Int) (xx:Int) hkcS ⟨by omega,by omega⟩ ⟨by omega,by omega⟩);rw[HP.out.1,HP.out.2]at CL;obtain⟨first,hfirst⟩:∃z,Me.look A p1 p2 kc ((ys:Nat):Int) ((xs:Nat):Int)=z:=⟨_,rfl⟩;have C0:=Lib.hid (CL.out W ys xs hI.t (by omega) (by omega));rw[hfirst]at C0
   have HPV:Hid (poolV A p1 p2 s u1 u2 x.val=Me.go (Me.pool A p1 p2 s kc ky kx) first one):=by
    show _=_
    rw[poolV,HKK.out.1,HKK.out.2.1,HKK.out.2.2,hys,hxs,hone,hfirst]
   have HYS:=Lib.hid (aI hys (aI hxs hone));have HI1:=Lib.hid hI;have HX1r:=Lib.hid rX1;have H9r:=Lib.hid r9;have Hc:=Lib.hid hc;have Hlt:=Lib.hid hlt;have s0:W.cell? ⟨g,0,none⟩=some (.int .i64 ((kc:Nat):Int)):=hc.cell 0;have s1:W.cell? ⟨g,1,none⟩=some (.int .i64 ((ky:Nat):Int)):=hc.cell 1;have s2:W.cell? ⟨g,2,none⟩=some (.int .i64 ((kx:Nat):Int)):=hc.cell 2;have y9:W.cell? ⟨B9,0,none⟩=some (.func (.func 201) #[.agg #[.slice la m d,.int .i64 ((p1:Nat):Int),.int .i64 ((p2:Nat):Int)]] #[]):=r9.cell 0;have y1:W.cell? ⟨X+1,0,none⟩=some (.int .i64 ((s:Nat):Int)):=rX1.cell 0;clear hI rX1 r9 hc hNm hkcS hys hxs hone hfirst hlt;gi_wp2;refine⟨trivial,(CallsIn.inRound l (callsIn_wide.2 C0.out)).mono ?_⟩;rintro e w9 ⟨rfl,t9⟩;have T9:=Lib.hid t9;have y1:w9.cell? ⟨X+1,0,none⟩=some (.int .i64 ((s:Nat):Int)):=(HX1r.out.touch t9 id).cell 0;clear s0 s1 s2 y9 t9 C0;gi_wp2
   gi_loopg [11,52] one (fun gh s11 s52 wr=>∃(acc:Int) (q:Nat),q+gh=one∧s52 = .int .i64 ((q:Nat):Int)∧s11 = .int .i32 acc∧Hid (acc=Me.go (Me.pool A p1 p2 s kc ky kx) first q)∧Hid (Touch No W wr))
   case atStart=>exact⟨first,0,by omega,rfl,rfl,rfl,T9.out⟩
   case round =>
    obtain⟨acc,q,hqg,rfl,rfl,HAcc,TQ⟩:=hrel;cases gk with
    | zero =>
      obtain rfl:one=q:=by omega
      obtain⟨wz,hwz,tz,Rz⟩:=box_row wr [.int .i32 acc] 21;have TWz:=Lib.hid (TQ.out.trans tz);obtain⟨LL,hLL⟩:∃LL,LL=ints .i32 (pre.map fun x=>poolV A p1 p2 s u1 u2 x.val):=⟨_,rfl⟩;have KIr:=HI1.out.no TQ.out;rw[← hLL]at KIr;have KIz:=KIr.no tz;obtain⟨v,hv8,hO⟩:=KIz.acc
      have hv8r:Row wr B8 49 [v]:=by
       obtain⟨v2,h2,_⟩:=KIr.acc;have h3:=Option.some.inj ((h2.touch tz id).symm.trans hv8);injection h3 with h4 _ _
       have h5:v2=v:=by simpa using h4
       rw[← h5];exact h2
      have hpl:pre.length≤4096:=by have:=Hlt.out;omega
      have hil:LL.length=pre.length:=by rw[hLL,ints_length,List.length_map]
      obtain⟨a8,c8,hv,hc8,_,_⟩:=hO.form' (n:=pre.length) hil;subst hv
      have HLE:Hid (ints .i32 ((pre ++ [x]).map fun x=>poolV A p1 p2 s u1 u2 x.val)=LL ++ [.int .i32 acc]):=by
       show _=_
       rw[List.map_append,List.map_singleton,Me.ints_snoc',HPV.out,← HAcc.out,hLL]
      have y8:wr.cell? ⟨B8,0,none⟩=some (.slice a8 pre.length c8):=hv8r.cell 0;have HKz:=Lib.hid KIz;have HOz:=Lib.hid hO;have HV8:=Lib.hid hv8;have HRz:=Lib.hid Rz;have HIL:=Lib.hid hil;obtain⟨J,hj0,hj1,hj2,hj3⟩:=i32_info;have HJ:=Lib.hid (aI hj0 (aI hj1 (aI hj2 hj3)));have hsz3:w3.heap.size≤wz.heap.size:=by have h1:=HSZ.out.2.2.2.2.2.2;have h2:=(HKz.out.rows (Bn,48,[.slice (some ⟨b3,o3,none⟩) 3 c3]) (by rw[HRs.out.1];simp)).lt;have h3:=HSZ.out.2.2.2.2.1;dsimp only at h2;omega
      clear KIr KIz hv8 hv8r hO Rz hil hj0 hj1 hj2 hj3 tz hLL;gi_wp2_with (gi_at_builtin;rw[← hwz];refine wpListIn_append_rd rfl _ _ 49 rfl w3.heap.size 21 J (.int .i32 0) 4 Tryz.underlying49 HJ.out.1 HJ.out.2.1 HJ.out.2.2.1 HJ.out.2.2.2 rfl (.slice a8 pre.length c8) LL HOz.out rfl (some ⟨wr.heap.size,0,none⟩) 1 1 [.int .i32 acc] rfl rfl (rd_row HRz.out) (by intro u hu;simp at hu;rw[hu];rfl) (by rw[HIL.out];unfold maxLen;simp;omega) (by rw[HIL.out];omega) hsz3 ?_;intro v' w2 hO2 ht2;obtain⟨a9,c9,hv9,hc9,_,_⟩:=hO2.form' (n:=pre.length+1) (by rw[List.length_append,HIL.out];rfl);subst hv9;have hnb:¬InBlock (.slice a8 pre.length c8) B8:=HOz.out.off HV8.out (by decide);have hv82:=HV8.out.touch ht2 hnb;have y82:w2.cell? ⟨B8,0,none⟩=some (.slice a8 pre.length c8):=hv82.cell 0;have f82:=hv82.soft 0);have HST:=Lib.hid (HKz.out.step HRs.out.2 (by decide) (by have:=HSZ.out;omega) (by have:=HSZ.out;omega) (by have:=HSZ.out;omega) (by have:=HSZ.out;omega) HV8.out HOz.out ht2 hO2)
      have HBl:Hid (Bn<W.heap.size∧b3<W.heap.size):=by
       refine⟨(HI1.out.rows (Bn,48,[.slice (some ⟨b3,o3,none⟩) 3 c3]) (by rw[HRs.out.1];simp)).lt,?_⟩;obtain⟨b',o',e,hc⟩:=HI1.out.shp.num (i:=0) (by simp);cases e;exact lt_of_cell hc
      clear hO2 ht2 hnb hv82 y8;obtain⟨K1,K2,K3,K4⟩:=HST.out;refine⟨((TWz.out.keeps (fun _ f _=>f.elim)).trans K2).from _,⟨(K3 (Bn,48,[.slice (some ⟨b3,o3,none⟩) 3 c3]) (by rw[HRs.out.1];simp) Bn rfl).trans (TWz.out.block _ HBl.out.1 id),(K4 (Nat.lt_of_lt_of_le HBl.out.2 TWz.out.size)).trans (TWz.out.block _ HBl.out.2 id)⟩,?_⟩;dsimp only;rw[HLE.out];exact K1
    | succ g3 =>
      have hqo:q<one:=by omega
      have c2:decide ((q:Int)<(one:Nat))=true:=by simp;omega
      obtain⟨qy,hqy⟩:∃z,q / s=z:=⟨_,rfl⟩;obtain⟨qx,hqx⟩:∃z,q%s=z:=⟨_,rfl⟩;have bky:qy≤q:=by rw[← hqy];exact Nat.div_le_self _ _
      have bkx:qx≤q:=by rw[← hqx];exact Nat.mod_le _ _
      have s2:(q:Int).tdiv (s:Int)=((qy:Nat):Int):=by rw[Int.tdiv_eq_ediv_of_nonneg (by omega),← hqy];omega
      have s2':(q:Int) / (s:Int)=((qy:Nat):Int):=by rw[← hqy];omega
      have s4:(q:Int).tmod (s:Int)=((qx:Nat):Int):=by rw[Int.tmod_eq_emod_of_nonneg (by omega),← hqx];omega
      have s4':(q:Int)%(s:Int)=((qx:Nat):Int):=by rw[← hqx];omega
      have s5:IntKind.i64.wrap ((qy:Nat):Int)=((qy:Nat):Int):=IntWalk.i64_in _ (by omega);have z01:((s:Int)==0)=false:=by simp;omega
      have z02:¬(s:Int)=0:=by omega
      have z03:¬s=0:=by omega
      obtain⟨Y2,hY2⟩:∃z,ys+qy=z:=⟨_,rfl⟩;obtain⟨X2,hX2⟩:∃z,xs+qx=z:=⟨_,rfl⟩;have e5:IntKind.i64.wrap ((ys:Int)+(qy:Int))=((Y2:Nat):Int):=by rw[← Int.natCast_add,hY2];exact IntWalk.i64_in _ (by omega)
      have e6:IntKind.i64.wrap ((xs:Int)+(qx:Int))=((X2:Nat):Int):=by rw[← Int.natCast_add,hX2];exact IntWalk.i64_in _ (by omega)
      obtain⟨lk,hlk⟩:∃z,Me.look A p1 p2 kc ((Y2:Nat):Int) ((X2:Nat):Int)=z:=⟨_,rfl⟩;have CK:=Lib.hid (fun p:KW wr=>CL.out p.wd Y2 X2 (HI1.out.t.trans (TQ.out.trans p.no)) (by omega) (by omega));rw[hlk]at CK
      have HAC:Hid (max acc lk=Me.go (Me.pool A p1 p2 s kc ky kx) first (q+1)):=by
       show _=_
       rw[Me.go_succ,← HAcc.out,Me.pool,hqy,hqx,HYS.out.1,HYS.out.2.1,hY2,hX2,hlk]
      have k0:=KW.cell (v:=.int .i64 ((kc:Nat):Int)) ((Hc.out.touch TQ.out id).cell 0);have k1:=KW.cell (v:=.int .i64 ((ky:Nat):Int)) ((Hc.out.touch TQ.out id).cell 1);have k2:=KW.cell (v:=.int .i64 ((kx:Nat):Int)) ((Hc.out.touch TQ.out id).cell 2);have k9:=KW.cell (v:=.func (.func 201) #[.agg #[.slice la m d,.int .i64 ((p1:Nat):Int),.int .i64 ((p2:Nat):Int)]] #[]) ((H9r.out.touch TQ.out id).cell 0);have k4:=KW.cell (v:=.int .i64 ((s:Nat):Int)) ((HX1r.out.touch TQ.out id).cell 0);clear hqy hqx hY2 hX2 hlk y1;have hmx:acc<lk∨¬acc<lk:=by omega
      rcases hmx with k3|k3
      all_goals
       gi_upto_region 13 with fail;refine wpIn_region_kept_tail 22 (by kernel_rfl) (by kernel_rfl) (by kernel_rfl) ?_;simp only[List.take_succ_cons,List.take_zero,List.drop_succ_cons,List.drop_zero];repeat (first|gi_big_quiet_step (fail)|quiet_step_in (fail)|(refine wpQuietIn_step (fun _ _ _ _=>trivial) (fun K hK=>?_);go_simp;apply Exists.intro;refine⟨fun _=>?_,hK _ ?_⟩;exact CallsIn.kept_of (CallsIn.inRound l (callsIn_wide.2 (CK.out _)));clear hK K))
       refine wpQuietIn_nil ?_;intro _ hw';obtain⟨kw,hw''⟩:=hw';subst hw'';obtain⟨wk,tk⟩:=kw;have tk:=Lib.hid tk;dsimp only;have Sk:Hid (Touch No W wk):=TQ.out.trans tk.out;clear CK e5 e6 s2 s2' s4 s4' s5 k0 k1 k2 k9 k4;gi_wp2
       gi_roundg g3
       case measure=>omega
       case rel=>exact⟨_,q+1,by omega,by go_num,rfl,(by show _=_;rw[← HAC.out];omega),Sk⟩
end
end Go.Proofs.YtjlphmmalebgpaaGreat
