/-
  A part of the proof.
-/
import Derived.Test.YtjlphmmalebgpaaGreatK39
set_option linter.unusedSimpArgs false
set_option linter.unusedVariables false
set_option maxHeartbeats 20000000
set_option maxRecDepth 100000
namespace Go.Proofs.YtjlphmmalebgpaaGreat
section
open Go Go.RowKit Go.Shelf
attribute [local go_sem] Oper.semAt_some
theorem rows_5 (w:World)(A B C D E:List Value)(T1 T2 T3 T4 T5:TypeId):∃w1,w1=((((w.alloc (.cells A.toArray T1)).alloc (.cells B.toArray T2)).alloc (.cells C.toArray T3)).alloc (.cells D.toArray T4)).alloc (.cells E.toArray T5)∧Touch No w w1∧Row w1 w.heap.size T1 A∧Row w1 (w.heap.size+1) T2 B∧Row w1 (w.heap.size+1+1) T3 C∧Row w1 (w.heap.size+1+1+1) T4 D∧Row w1 (w.heap.size+1+1+1+1) T5 E∧w1.heap.size=w.heap.size+5:=by
 obtain⟨w1,h1,t1,R1,R2,R3,hs1⟩:=rows_3 w A B C T1 T2 T3;obtain⟨w2,h2,t2,R4⟩:=box_row w1 D T4;have s2:w2.heap.size=w1.heap.size+1:=by rw[h2];simp
 obtain⟨w3,h3,t3,R5⟩:=box_row w2 E T5;have s3:w3.heap.size=w2.heap.size+1:=by rw[h3];simp
 have e4:w1.heap.size=w.heap.size+1+1+1:=by omega
 have e5:w2.heap.size=w.heap.size+1+1+1+1:=by omega
 rw[e4]at R4;rw[e5]at R5;have t23:=t2.trans t3;exact⟨w3,by rw[h3,h2,h1],t1.trans t23,R1.touch t23 id,R2.touch t23 id,R3.touch t23 id,R4.touch t3 id,R5,by omega⟩
structure KJ (W:World) (Rs:List RowT) (W':World):Prop where
 t:Touch No W W'
 rows:∀r∈Rs,Row W' r.1 r.2.1 r.2.2
theorem KJ.no {W W1 W2:World}{Rs:List RowT}(h:KJ W Rs W1)(t:Touch No W1 W2):KJ W Rs W2:=⟨h.t.trans t,fun r hr=>(h.rows r hr).touch t id⟩
theorem KJ.own {W:World}{B:Nat}{α:Type}(f:α→List RowT)(hB:W.heap.size≤B):OwnFrom B (fun(s:α) W'=>KJ W (f s) W'):=fun s A Z row hs hg hr=>by
 refine⟨hs.t.then (touch_grown hg) (fun k hk e2=>?_),fun r hm=>(hs.rows r hm).touch (touch_grown hg) (fun e2=>?_)⟩
 ·have:=(hr k e2).1
  omega
 ·obtain⟨_,o,h1,h2⟩:=hr r.1 e2
  rw[hs.rows r hm]at h1;cases h1;cases h2
def accF {α:Type}(f:Int→Nat→α→Int)(pre:List α):Int × Nat:=pre.foldl (fun st x=>(f st.1 st.2 x,st.2+1)) (0,0)
theorem accF_snoc' {α:Type}(f:Int→Nat→α→Int)(pre:List α)(x:α):accF f (pre ++ [x])=(f (accF f pre).1 (accF f pre).2 x,(accF f pre).2+1):=by simp[accF]
theorem fold_len {α:Type}(f:Int→Nat→α→Int):∀(pre:List α) (st:Int × Nat),(pre.foldl (fun st x=>(f st.1 st.2 x,st.2+1)) st).2=st.2+pre.length
 | [],st=>rfl
 | x::pre,st=>by rw[List.foldl_cons,fold_len f pre,List.length_cons];dsimp only;omega
theorem accF_len {α:Type}(f:Int→Nat→α→Int)(pre:List α):(accF f pre).2=pre.length:=by rw[accF,fold_len];simp
theorem accF_snoc {α:Type}(f:Int→Nat→α→Int)(pre:List α)(x:α):(accF f (pre ++ [x])).1=f (accF f pre).1 pre.length x:=by rw[accF_snoc',accF_len]
theorem accF_first {N:Nat}(f:Int→Nat→Fin N→Int)(g:Int→Nat→Int)(h:∀s (x:Fin N),f s x.val x=g s x.val):∀k,k≤N→(accF f (firstN N k)).1=Me.go g 0 k
 | 0,_=>by simp[accF,firstN,Me.go]
 | k+1,hk=>by
   have hk':k<N:=by omega
   rw[firstN_next hk',accF_snoc,accF_first f g h k (by omega),firstN_length (by omega),Me.go_succ];exact h _ ⟨k,hk'⟩
def winF {N:Nat}(A B:List Int)(p1 p2 t2 t3 s p kk ky kx:Nat)(acc:Int)(n:Nat)(x:Fin N):Int :=
 wrap32 (acc+wrap32 (Me.look A p1 p2 (x.val / (t2*t3)) ((ky:Int)*s-p+(x.val / t3%t2:Nat)) ((kx:Int)*s-p+(x.val%t3:Nat))*Me.at_ B (kk+n)))
theorem KJ.set2 {W wk:World}{g1 g2 B2:Nat}{T1 T2 T3:TypeId}{a b:Value}{l:List Value}(h:KJ W [(g1,T1,[a]),(g2,T2,[b]),(B2,T3,l)] wk)(h12:T1≠T2)(h13:T1≠T3)(h23:T2≠T3)(hg1:W.heap.size≤g1)(hg2:W.heap.size≤g2)(a' b':Value) :
  KJ W [(g1,T1,[a']),(g2,T2,[b']),(B2,T3,l)] ((wk.setCell ⟨g1,0,none⟩ a').setCell ⟨g2,0,none⟩ b')∧KeepsOthers wk ((wk.setCell ⟨g1,0,none⟩ a').setCell ⟨g2,0,none⟩ b')∧((wk.setCell ⟨g1,0,none⟩ a').setCell ⟨g2,0,none⟩ b').heap[B2]? = wk.heap[B2]?∧
   ∀k,k<W.heap.size→((wk.setCell ⟨g1,0,none⟩ a').setCell ⟨g2,0,none⟩ b').heap[k]? = wk.heap[k]?:=by
 have r1:Row wk g1 T1 [a]:=h.rows (g1,T1,[a]) (by simp);have r2:Row wk g2 T2 [b]:=h.rows (g2,T2,[b]) (by simp);have r3:Row wk B2 T3 l:=h.rows (B2,T3,l) (by simp);obtain⟨wa,hwa⟩:∃wa,wa=wk.setCell ⟨g1,0,none⟩ a':=⟨_,rfl⟩;have ta:Touch (One g1) wk wa:=by rw[hwa];exact(Touch.refl (One g1) wk).setCell (p:=⟨g1,0,none⟩) (fun _=>rfl) _
 have ra:Row wa g1 T1 [a']:=by rw[hwa];exact r1.setCell 0 _
 have ra2:=r2.touch ta (r2.ne r1 (Ne.symm h12));have ra3:=r3.touch ta (r3.ne r1 (Ne.symm h13));rw[← hwa];obtain⟨wb,hwb⟩:∃wb,wb=wa.setCell ⟨g2,0,none⟩ b':=⟨_,rfl⟩;have tb:Touch (One g2) wa wb:=by rw[hwb];exact(Touch.refl (One g2) wa).setCell (p:=⟨g2,0,none⟩) (fun _=>rfl) _
 have rb2:Row wb g2 T2 [b']:=by rw[hwb];exact ra2.setCell 0 _
 have rb1:=ra.touch tb (ra.ne ra2 h12);have rb3:=ra3.touch tb (ra3.ne ra2 (Ne.symm h23));rw[← hwb];refine⟨⟨(h.t.then ta (fun i hi e=>by have e':i=g1:=e;omega)).then tb (fun i hi e=>by have e':i=g2:=e;omega),fun r hr=>?_⟩,?_,?_,fun k hk=>?_⟩
 ·simp only[List.mem_cons,List.mem_nil_iff,or_false]at hr
  rcases hr with rfl|rfl|rfl
  ·exact rb1
  ·exact rb2
  ·exact rb3
 ·exact(ta.keeps fun k e _=>by have e':k=g1:=e;rw[e'];exact r1.cellsAt).trans (tb.keeps fun k e _=>by have e':k=g2:=e;rw[e'];exact ra2.cellsAt)
 ·rw[tb.block B2 ra3.lt (ra3.ne ra2 (Ne.symm h23)),ta.block B2 r3.lt (r3.ne r1 (Ne.symm h13))]
 ·have h1:=h.t.size
  have h2:=ta.size;rw[tb.block k (by omega) (fun e=>by have e':k=g2:=e;omega),ta.block k (by omega) (fun e=>by have e':k=g1:=e;omega)]
def winV (A B:List Int)(p1 p2 t2 t3 one s p u1 u2 i:Nat):Int:=Me.go (Me.win A B p1 p2 t2 t3 one s p (i / (u1*u2)) (i / u2%u1) (i%u2)) 0 one
theorem ok_tail3 {a b c d:Nat}(h:Me.Ok [a,b,c,d]):Me.Ok [b,c,d]:=by
 have ha:=h.each a (by simp);refine {one:=by simp,four:=by simp,each:=fun x hx=>h.each x (List.mem_cons_of_mem _ hx),most:=?_};have h1:=h.most;have h2:Me.pr [a,b,c,d]=a*Me.pr [b,c,d]:=by simp[Me.pr]
 rw[h2]at h1;exact Nat.le_trans (Nat.le_mul_of_pos_left _ ha.1) h1
theorem win_in:WinHas:=by
 intro w sa la sb lb n c m d n' c' m' d' s p S T U A B hA hB hG hU
 obtain⟨u0,u1,u2,hUe⟩:∃u0 u1 u2,U=[u0,u1,u2]:=by
  have h:=hG.lu
  match U,h with
  | [a,b,c],_=>exact⟨a,b,c,rfl⟩
 subst hUe
 obtain⟨t0,t1,t2,t3,hTe⟩:∃t0 t1 t2 t3,T=[t0,t1,t2,t3]:=by
  have h:=hG.lt
  match T,h with
  | [a,b,c,d],_=>exact⟨a,b,c,d,rfl⟩
 subst hTe;obtain⟨p1,hp1⟩:∃p1,S.getD 1 0=p1:=⟨_,rfl⟩;obtain⟨p2,hp2⟩:∃p2,S.getD 2 0=p2:=⟨_,rfl⟩;rw[hp1,hp2];have hn':n'=4:=hB.sn.symm;subst hn';obtain⟨bb,ob,hsb,_⟩:=hB.dir (k:=0) (by omega);subst hsb;obtain⟨bl,ol,hlb,_⟩:=hB.num (k:=0) (by have:=hB.m1;omega);subst hlb;obtain⟨one,hone⟩:∃one,Me.pr [t1,t2,t3]=one:=⟨_,rfl⟩;have ok3:Me.Ok [t1,t2,t3]:=ok_tail3 hB.ok;have hu0:u0=t0:=by have:=hG.u0;simpa using this
 subst hu0;have hm':m'=u0*one:=by rw[← hB.len,← hone];simp[Me.pr]
 have hb1:=ok3.most;rw[hone]at hb1;have HP:=Lib.hid (aI hp1 hp2);have HONE:=Lib.hid (aI hone (aI ok3 hm'));clear hp1 hp2 hone ok3 hm';refine(callsIn_wide (n:=12)).1 ?_;refine callsIn_of_wp_marks Tryz.func156 rfl trivial ?_ rfl;simp only[Tryz.ntmps156,List.size_toArray,List.length_cons,List.length_nil,Nat.reduceAdd,Nat.reduceSub,Array.replicate_succ,Array.replicate_zero,List.push_toArray,List.append_toArray,List.nil_append,List.cons_append];obtain⟨w1,hw1,t1',R1,R2,R3,R4,R5,hs1⟩:=rows_5 w [.slice sa n c,.slice la m d] [.slice (some ⟨bb,ob,none⟩) 4 c',.slice (some ⟨bl,ol,none⟩) m' d'] [.int .i64 ((s:Nat):Int)] [.int .i64 ((p:Nat):Int)] [.slice none 0 0,.slice none 0 0] 51 51 3 3 51;obtain⟨X,hX⟩:∃X,X=w.heap.size:=⟨_,rfl⟩;rw[← hX]at R1 R2 R3 R4 R5 hs1;have C1:=Lib.hid (tenCheck_ok (c:=c) (d:=d) (hA.no t1'));have C1b:=Lib.hid (fun wx (t:Touch No w wx)=>tenCheck_ok (c:=c') (d:=d') (hB.no t));have y0:w1.cell? ⟨X,0,none⟩=some (.slice sa n c):=R1.cell 0;have y1:w1.cell? ⟨X,1,none⟩=some (.slice la m d):=R1.cell 1;have HT1:=Lib.hid t1';have HRR:=Lib.hid (aI R1 (aI R2 (aI R3 (aI R4 R5))));have HA:=Lib.hid hA;have HB:=Lib.hid hB;have HG:=Lib.hid hG;have HU:=Lib.hid hU;have HX1:=Lib.hid hs1;have HX:=Lib.hid hX;clear t1' R1 R2 R3 R4 R5 hA hB hG hU hs1;gi_upto_region 1 with fail;rw[← hw1,← hX];clear hw1 hX;gi_wp2;refine⟨trivial,(callsIn_wide.2 C1.out).mono ?_⟩;rintro e wb ⟨rfl,tb⟩;have HTb:=Lib.hid (HT1.out.trans tb);have HTb1:=Lib.hid tb;have R2b:=HRR.out.2.1.touch tb id;have y0:wb.cell? ⟨X+1,0,none⟩=some (.slice (some ⟨bb,ob,none⟩) 4 c'):=R2b.cell 0;have y1:wb.cell? ⟨X+1,1,none⟩=some (.slice (some ⟨bl,ol,none⟩) m' d'):=R2b.cell 1;have C1c:=Lib.hid (C1b.out wb HTb.out);clear R2b tb C1;gi_wp2;refine⟨trivial,(callsIn_wide.2 C1c.out).mono ?_⟩;rintro e w2 ⟨rfl,t2'⟩;have HT2:=Lib.hid (HTb.out.trans t2');have HT12:=Lib.hid (HTb1.out.trans t2');have HT2z:Hid (w1.heap.size≤w2.heap.size):=(HTb1.out.trans t2').size;have HRR2:=Lib.hid (aI (HRR.out.1.touch HT12.out id) (aI (HRR.out.2.1.touch HT12.out id) (aI (HRR.out.2.2.1.touch HT12.out id) (aI (HRR.out.2.2.2.1.touch HT12.out id) (HRR.out.2.2.2.2.touch HT12.out id)))))
 have y2:w2.cell? ⟨X,0,none⟩=some (.slice sa n c):=HRR2.out.1.cell 0;have y3:w2.cell? ⟨X+1,0,none⟩=some (.slice (some ⟨bb,ob,none⟩) 4 c'):=HRR2.out.2.1.cell 0;have y4:w2.cell? ⟨X+1+1,0,none⟩=some (.int .i64 ((s:Nat):Int)):=HRR2.out.2.2.1.cell 0;have y5:w2.cell? ⟨X+1+1+1,0,none⟩=some (.int .i64 ((p:Nat):Int)):=HRR2.out.2.2.2.1.cell 0;have C2:=Lib.hid (winShape_in w2 sa (some ⟨bb,ob,none⟩) n c 4 c' (s:Int) (p:Int) S [u0,t1,t2,t3] HA.out.ok HB.out.ok (HA.out.no HT2.out).sr HA.out.sn (HB.out.no HT2.out).sr HB.out.sn);rw[HU.out]at C2;clear y0 y1 C1b C1c t2';gi_wp2;refine⟨trivial,(callsIn_wide.2 C2.out).mono ?_⟩;rintro e w3 ⟨a3,c3,rfl,hc3,hr3,t3',hn3⟩;clear y2 y3 y4 y5 C2;simp only[List.length_cons,List.length_nil,Nat.reduceAdd]at hc3;obtain⟨b3,o3,rfl,hb30⟩:=hr3.num (i:=0) (by simp);have HB30:Hid (w3.cell? ⟨b3,o3,none⟩=some (.int .i64 ((u0:Nat):Int))):=by show _=_;simpa using hb30
 clear hb30;have HS3:=Lib.hid (aI hc3 (aI hr3 hn3));have HT3:=Lib.hid (HT2.out.trans t3');have HT2s:Hid (w.heap.size≤w2.heap.size):=HT2.out.size;have HRR3:=Lib.hid (aI (HRR2.out.1.touch t3' id) (aI (HRR2.out.2.1.touch t3' id) (aI (HRR2.out.2.2.1.touch t3' id) (aI (HRR2.out.2.2.2.1.touch t3' id) (HRR2.out.2.2.2.2.touch t3' id)))));have HR1:=Lib.hid HRR3.out.1;clear hc3 hr3 hn3 t3' HRR HRR2 HT2 HT12 HTb HTb1;obtain⟨m2,hm2⟩:∃m2,Me.pr [u0,u1,u2]=m2:=⟨_,rfl⟩;have hm4:m2≤4096:=by rw[← hm2];exact HG.out.ok.most
 have hmk:=hmk0 m2 hm4;have hmf:∀(fn:Fn) (first cap:Array Value) (w:World),(Instr.makeFunc fn first cap).run Tryz.prog w = .ok (.func fn first cap) w:=fun _ _ _ _=>rfl
 have HM2:=Lib.hid hm2;have D1:=Lib.hid (fun p:KW w3=>(size_ok (n:=3) (c:=c3) (HS3.out.2.1.no p.no) rfl HG.out.ok hm2).mono (R':=fun e w'=>e = .returned (.int .i64 (m2:Nat))∧Touch No p.wd w') (by rintro e w' ⟨h,rfl⟩;exact⟨h,Touch.refl _ _⟩));have D2:=Lib.hid (fun p:KW w3=>picOf_in p.wd sa la n c m d S A (HA.out.no (HT3.out.trans p.no)) (by rw[← HA.out.sn];exact HG.out.ls));rw[HP.out.1,HP.out.2]at D2;clear hm2;gi_upto_region 6 with fail
 gi_cut [12,13] from 15 (fun s8 s9 wx=>∃(B8 B9 BD:Nat),s8 = .pointer (some ⟨B8,0,none⟩)∧s9 = .pointer (some ⟨B9,0,none⟩)∧Hid (Touch No w3 wx)∧Hid (w3.heap.size≤B8∧w3.heap.size≤B9∧w3.heap.size≤BD)∧
  Hid (Row wx B8 49 [.slice (some ⟨BD,0,none⟩) 0 m2])∧Hid (Row wx B9 249 [.func (.func 201) #[.agg #[.slice la m d,.int .i64 ((p1:Nat):Int),.int .i64 ((p2:Nat):Int)]] #[]])∧Hid (Own wx w3.heap.size 21 (.slice (some ⟨BD,0,none⟩) 0 m2) []))
 case first =>
  have k0:=KW.cell (v:=.slice sa n c) (HR1.out.cell 0);have k1:=KW.cell (v:=.slice la m d) (HR1.out.cell 1);refine wpIn_region_u 10 #[false,false,false,false,false,false,false,false,false,false] (by kernel_rfl) rfl rfl fun wu tu=>?_
  refine wpAnyU_take (i:=0) rfl rfl rfl (by kernel_rfl) (by kernel_rfl) (by kernel_rfl) (by kernel_rfl) tu (fun _ _ _ _ h=>h) ?_;apply Exists.intro;refine⟨fun w1 t1=>?_,?_⟩
  ·skip
   first|gi_big_quiet_step (fail)|quiet_step_in (fail)
   refine wpQuietIn_nil ?_;rfl
  try dsimp only
  refine wpAnyU_take (i:=1) rfl rfl rfl (by kernel_rfl) (by kernel_rfl) (by kernel_rfl) (by kernel_rfl) tu (fun _ _ _ _ h=>h) ?_;apply Exists.intro;refine⟨fun w1 t1=>?_,?_⟩
  ·skip
   refine wpQuietIn_step (fun _ _ _ _=>trivial) (fun K hK=>?_);go_simp;apply Exists.intro;refine⟨fun _=>?_,hK _ ?_⟩
   ·exact CallsIn.kept_of (callsIn_wide.2 (D1.out ⟨_,t1.trans (KW.no _)⟩))
   clear hK K;refine wpQuietIn_nil ?_;rfl
  try dsimp only
  refine wpAnyU_take (i:=3) rfl rfl rfl (by kernel_rfl) (by kernel_rfl) (by kernel_rfl) (by kernel_rfl) tu (fun _ _ _ _ h=>h) ?_;apply Exists.intro;refine⟨fun w1 t1=>?_,?_⟩
  ·have k0:∀p:KW w1,p.wd.cell? _=_:=fun p=>k0 ⟨p.wd,t1.trans p.no⟩
   have k1:∀p:KW w1,p.wd.cell? _=_:=fun p=>k1 ⟨p.wd,t1.trans p.no⟩
   first|gi_big_quiet_step (fail)|quiet_step_in (fail)
   refine wpQuietIn_nil ?_;rfl
  try dsimp only
  refine wpAnyU_take (i:=4) rfl rfl rfl (by kernel_rfl) (by kernel_rfl) (by kernel_rfl) (by kernel_rfl) tu (fun _ _ _ _ h=>h) ?_;apply Exists.intro;refine⟨fun w1 t1=>?_,?_⟩
  ·skip
   refine wpQuietIn_step (fun _ _ _ _=>trivial) (fun K hK=>?_);go_simp;apply Exists.intro;refine⟨fun _=>?_,hK _ ?_⟩
   ·exact CallsIn.kept_of (callsIn_wide.2 (D2.out ⟨_,t1.trans (KW.no _)⟩))
   clear hK K;refine wpQuietIn_nil ?_;rfl
  try dsimp only
  refine wpAnyU_take (i:=5) rfl rfl rfl (by kernel_rfl) (by kernel_rfl) (by kernel_rfl) (by kernel_rfl) tu (fun _ _ _ _ h=>h) ?_;apply Exists.intro;refine⟨fun w1 t1=>?_,?_⟩
  ·skip
   first|gi_big_quiet_step (fail)|quiet_step_in (fail)
   refine wpQuietIn_nil ?_;rfl
  try dsimp only
  repeat' first
   | (refine wpAnyU_end (by assumption) (by decide +kernel) ?_;intro wz tz)
   | ((first
       | refine wpAnyU_ready (rs:=[2,6,7]) (by assumption) (by decide +kernel) (by simp) ?_
       | refine wpAnyU_ready (rs:=[2,6]) (by assumption) (by decide +kernel) (by simp) ?_
       | refine wpAnyU_ready (rs:=[2,7]) (by assumption) (by decide +kernel) (by simp) ?_
       | refine wpAnyU_ready (rs:=[6,7]) (by assumption) (by decide +kernel) (by simp) ?_
       | refine wpAnyU_ready (rs:=[2]) (by assumption) (by decide +kernel) (by simp) ?_
       | refine wpAnyU_ready (rs:=[6]) (by assumption) (by decide +kernel) (by simp) ?_
       | refine wpAnyU_ready (rs:=[7]) (by assumption) (by decide +kernel) (by simp) ?_
       | refine wpAnyU_ready (rs:=[8]) (by assumption) (by decide +kernel) (by simp) ?_
       | refine wpAnyU_ready (rs:=[9]) (by assumption) (by decide +kernel) (by simp) ?_)
      intro wz tz;try have R8:=R8.touch tz id
      try have R9:=R9.touch tz id
      try have RD:=RD.touch tz id
      have tu:=tu.trans tz;try have c8:=R8.cell 0
      try have f8:=R8.soft 0
      try have c9:=R9.cell 0
      try have f9:=R9.soft 0
      try simp only[Lz0]at c8
      try simp only[Lz0]at c9)
   | exact AllReadyU.nil
   | (refine AllReadyU.cons rfl (fun K hK=>?_) ?_
      go_simp;first
      | (refine hK _ _ ?_
         clear hK K
         first
          | (obtain⟨wy,hwy,ty,R8⟩:=box_row wz [.slice none 0 0] 49
             rw[← hwy];obtain⟨B8,hB8⟩:∃B,B=wz.heap.size:=⟨_,rfl⟩;rw[← hB8]at R8 ⊢;have n8:=Lib.hid (show w3.heap.size≤B8 by rw[hB8];exact tu.size);have tu:=tu.trans ty;try have R9:=R9.touch ty id
             try have RD:=RD.touch ty id
             clear hwy hB8 ty)
          | (obtain⟨wy,hwy,ty,R9⟩:=box_row wz [.nilFunc] 249
             rw[← hwy];obtain⟨B9,hB9⟩:∃B,B=wz.heap.size:=⟨_,rfl⟩;rw[← hB9]at R9 ⊢;have n9:=Lib.hid (show w3.heap.size≤B9 by rw[hB9];exact tu.size);have tu:=tu.trans ty;try have R8:=R8.touch ty id
             try have RD:=RD.touch ty id
             clear hwy hB9 ty)
          | (obtain⟨wy,hwy⟩:∃wy,wy=wz.alloc (.cells (Array.replicate m2 (.int .i32 0)) 21):=⟨_,rfl⟩
             rw[← hwy];have ty:Touch No wz wy:=by rw[hwy];exact(Touch.refl No wz).alloc _
             have RD:Row wy wz.heap.size 21 (List.replicate m2 (.int .i32 0)):=by rw[hwy];have:=Row.new wz 21 (Array.replicate m2 (.int .i32 0));simpa using this
             obtain⟨BD,hBD⟩:∃B,B=wz.heap.size:=⟨_,rfl⟩;rw[← hBD]at RD ⊢;have nD:=Lib.hid (show w3.heap.size≤BD by rw[hBD];exact tu.size);have tu:=tu.trans ty;try have R8:=R8.touch ty id
             try have R9:=R9.touch ty id
             clear hwy hBD ty)
          | (obtain⟨wy,hwy⟩:∃wy,wy=wz.setCell ⟨B8,0,none⟩ (.slice (some ⟨BD,0,none⟩) 0 m2):=⟨_,rfl⟩
             rw[← hwy];have ty:Touch (One B8) wz wy:=by rw[hwy];exact(Touch.refl (One B8) wz).setCell (p:=⟨B8,0,none⟩) (fun _=>rfl) _
             have e1:=R9.ne R8 (by decide);have e2:=RD.ne R8 (by decide);have R8:Row wy B8 49 [.slice (some ⟨BD,0,none⟩) 0 m2]:=by rw[hwy];exact R8.setCell 0 _
             have R9:=R9.touch ty e1;have RD:=RD.touch ty e2;have tu:=tu.then ty (fun i hi e=>by have e':i=B8:=e;have:=n8.out;omega);clear hwy ty e1 e2)
          | (obtain⟨wy,hwy⟩:∃wy,wy=wz.setCell ⟨B9,0,none⟩ (.func (.func 201) #[.agg #[.slice la m d,.int .i64 ((p1:Nat):Int),.int .i64 ((p2:Nat):Int)]] #[]):=⟨_,rfl⟩
             rw[← hwy];have ty:Touch (One B9) wz wy:=by rw[hwy];exact(Touch.refl (One B9) wz).setCell (p:=⟨B9,0,none⟩) (fun _=>rfl) _
             have e1:=R8.ne R9 (by decide);have e2:=RD.ne R9 (by decide);have R9:Row wy B9 249 [.func (.func 201) #[.agg #[.slice la m d,.int .i64 ((p1:Nat):Int),.int .i64 ((p2:Nat):Int)]] #[]]:=by rw[hwy];exact R9.setCell 0 _
             have R8:=R8.touch ty e1;have RD:=RD.touch ty e2;have tu:=tu.then ty (fun i hi e=>by have e':i=B9:=e;have:=n9.out;omega);clear hwy ty e1 e2)
          | (trace_state;fail)))
  all_goals
   have hE:Hid (Touch No w3 wz):=tu.trans tz;have R8:=Lib.hid (R8.touch tz id);have R9:=Lib.hid (R9.touch tz id);have RD:=RD.touch tz id;have HOD:Hid (Own wz w3.heap.size 21 (.slice (some ⟨BD,0,none⟩) 0 m2) []):=⟨rfl,Or.inr ⟨BD,m2,_,rfl,nD.out,RD,Nat.zero_le _,by unfold maxLen;omega,by simp,rfl⟩⟩;have HN:=Lib.hid (aI n8.out (aI n9.out nD.out));gi_wp2;gi_meet;exact⟨B8,B9,BD,rfl,rfl,hE,HN.out,R8,R9,HOD⟩
 case rest =>
  obtain⟨B8,B9,BD,rfl,rfl,T6,HN6,R8,R9,HO⟩:=hcut;obtain⟨w6,hw6⟩:∃w6:World,w6=wc:=⟨_,rfl⟩;subst hw6;have hz0:1≤u0:=(HG.out.ok.each u0 (by simp)).1;have q2:(m':Int).tdiv (u0:Int)=((one:Nat):Int):=by rw[HONE.out.2.2,Int.tdiv_eq_ediv_of_nonneg (by omega),Int.natCast_mul,Int.mul_ediv_cancel_left _ (by omega)]
  have q2':(m':Int) / (u0:Int)=((one:Nat):Int):=by rw[HONE.out.2.2,Int.natCast_mul,Int.mul_ediv_cancel_left _ (by omega)]
  have q5:IntKind.i64.wrap ((one:Nat):Int)=((one:Nat):Int):=IntWalk.i64_in _ (by omega);have z01:((u0:Int)==0)=false:=by simp;omega
  have z02:¬(u0:Int)=0:=by omega
  have z03:¬u0=0:=by omega
  gi_upto_region 7 with fail
  gi_cut [14] from 15 (fun s14 wy=>∃(B14:Nat),s14 = .pointer (some ⟨B14,0,none⟩)∧Hid (Touch No w6 wy)∧Hid (w6.heap.size≤B14)∧Hid (Row wy B14 3 [.int .i64 ((one:Nat):Int)]))
  case first =>
   have k0:=KW.cell (v:=.slice (some ⟨bl,ol,none⟩) m' d') ((HRR3.out.2.1.touch T6.out id).cell 1);have k1:=KW.cell (v:=.int .i64 ((u0:Nat):Int)) (T6.out.cell id HB30.out);refine wpIn_region_u 9 #[false,false,false,false,false,false,false,false,false] (by kernel_rfl) rfl rfl fun wu tu=>?_
   refine wpAnyU_take (i:=0) rfl rfl rfl (by kernel_rfl) (by kernel_rfl) (by kernel_rfl) (by kernel_rfl) tu (fun _ _ _ _ h=>h) ?_;apply Exists.intro;refine⟨fun w1 t1=>?_,?_⟩
   ·skip
    first|gi_big_quiet_step (fail)|quiet_step_in (fail)
    refine wpQuietIn_nil ?_;rfl
   try dsimp only
   refine wpAnyU_take (i:=1) rfl rfl rfl (by kernel_rfl) (by kernel_rfl) (by kernel_rfl) (by kernel_rfl) tu (fun _ _ _ _ h=>h) ?_;apply Exists.intro;refine⟨fun w1 t1=>?_,?_⟩
   ·have k0:∀p:KW w1,p.wd.cell? _=_:=fun p=>k0 ⟨p.wd,t1.trans p.no⟩
    first|gi_big_quiet_step (fail)|quiet_step_in (fail)
    refine wpQuietIn_nil ?_;rfl
   try dsimp only
   refine wpAnyU_take (i:=2) rfl rfl rfl (by kernel_rfl) (by kernel_rfl) (by kernel_rfl) (by kernel_rfl) tu (fun _ _ _ _ h=>h) ?_;apply Exists.intro;refine⟨fun w1 t1=>?_,?_⟩
   ·skip
    first|gi_big_quiet_step (fail)|quiet_step_in (fail)
    refine wpQuietIn_nil ?_;rfl
   try dsimp only
   refine wpAnyU_take (i:=3) rfl rfl rfl (by kernel_rfl) (by kernel_rfl) (by kernel_rfl) (by kernel_rfl) tu (fun _ _ _ _ h=>h) ?_;apply Exists.intro;refine⟨fun w1 t1=>?_,?_⟩
   ·skip
    first|gi_big_quiet_step (fail)|quiet_step_in (fail)
    refine wpQuietIn_nil ?_;rfl
   try dsimp only
   refine wpAnyU_take (i:=4) rfl rfl rfl (by kernel_rfl) (by kernel_rfl) (by kernel_rfl) (by kernel_rfl) tu (fun _ _ _ _ h=>h) ?_;apply Exists.intro;refine⟨fun w1 t1=>?_,?_⟩
   ·skip
    first|gi_big_quiet_step (fail)|quiet_step_in (fail)
    refine wpQuietIn_nil ?_;rfl
   try dsimp only
   refine wpAnyU_take (i:=5) rfl rfl rfl (by kernel_rfl) (by kernel_rfl) (by kernel_rfl) (by kernel_rfl) tu (fun _ _ _ _ h=>h) ?_;apply Exists.intro;refine⟨fun w1 t1=>?_,?_⟩
   ·have k1:∀p:KW w1,p.wd.cell? _=_:=fun p=>k1 ⟨p.wd,t1.trans p.no⟩
    first|gi_big_quiet_step (fail)|quiet_step_in (fail)
    refine wpQuietIn_nil ?_;rfl
   try dsimp only
   refine wpAnyU_take (i:=6) rfl rfl rfl (by kernel_rfl) (by kernel_rfl) (by kernel_rfl) (by kernel_rfl) tu (fun _ _ _ _ h=>h) ?_;apply Exists.intro;refine⟨fun w1 t1=>?_,?_⟩
   ·skip
    first|gi_big_quiet_step (fail)|quiet_step_in (fail)
    refine wpQuietIn_nil ?_;rfl
   try dsimp only
   repeat' first
    | (refine wpAnyU_end (by assumption) (by decide +kernel) ?_;intro wz tz)
    | ((first
        | refine wpAnyU_ready (rs:=[7]) (by assumption) (by decide +kernel) (by simp) ?_
        | refine wpAnyU_ready (rs:=[8]) (by assumption) (by decide +kernel) (by simp) ?_)
       intro wz tz;try have R14:=R14.touch tz id
       have tu:=tu.trans tz;try have c14:=R14.cell 0
       try have f14:=R14.soft 0)
    | exact AllReadyU.nil
    | (refine AllReadyU.cons rfl (fun K hK=>?_) ?_
       go_simp;first
       | (refine hK _ _ ?_
          clear hK K
          first
           | (obtain⟨wy,hwy,ty,R14⟩:=box_row wz [.int .i64 0] 3
              rw[← hwy];obtain⟨B14,hB14⟩:∃B,B=wz.heap.size:=⟨_,rfl⟩;rw[← hB14]at R14 ⊢;have n14:=Lib.hid (show w6.heap.size≤B14 by rw[hB14];exact tu.size);have tu:=tu.trans ty;clear hwy hB14 ty)
           | (obtain⟨wy,hwy⟩:∃wy,wy=wz.setCell ⟨B14,0,none⟩ (.int .i64 ((one:Nat):Int)):=⟨_,rfl⟩
              rw[← hwy];have ty:Touch (One B14) wz wy:=by rw[hwy];exact(Touch.refl (One B14) wz).setCell (p:=⟨B14,0,none⟩) (fun _=>rfl) _
              have R14:Row wy B14 3 [.int .i64 ((one:Nat):Int)]:=by rw[hwy];exact R14.setCell 0 _
              have tu:=tu.then ty (fun i hi e=>by have e':i=B14:=e;have:=n14.out;omega);clear hwy ty)
           | (trace_state;fail)))
   all_goals
    have hE:Hid (Touch No w6 wz):=tu.trans tz;have R14:=Lib.hid (R14.touch tz id);gi_wp2;gi_meet;exact⟨B14,rfl,hE,n14,R14⟩
  case rest =>
   obtain⟨B14,rfl,T7,HN7,R14⟩:=hcut;gi_wp2;refine⟨trivial,(callsIn_wide.2 (spots_any wc (some ⟨b3,o3,none⟩) 3 c3)).mono ?_⟩;rintro e w7 ⟨rfl,h7⟩;obtain⟨w7',hw7,t7,R7⟩:=box_row wc [.slice (some ⟨b3,o3,none⟩) 3 c3] 48;have h7':w7'=w7:=by rw[hw7,h7]
   subst h7';have hsz7:w7'.heap.size=wc.heap.size+1:=by rw[hw7];simp
   clear hw7 h7;obtain⟨Bn,hBn⟩:∃Bn,Bn=wc.heap.size:=⟨_,rfl⟩;gi_wp2;rw[← hBn]at R7 hsz7 ⊢;obtain⟨Rs,hRs⟩:∃Rs:List RowT,Rs=[(X,51,[.slice sa n c,.slice la m d]),(X+1,51,[.slice (some ⟨bb,ob,none⟩) 4 c',.slice (some ⟨bl,ol,none⟩) m' d']),(X+1+1,3,[.int .i64 ((s:Nat):Int)]),(X+1+1+1,3,[.int .i64 ((p:Nat):Int)]),(X+1+1+1+1,51,[.slice none 0 0,.slice none 0 0]),(B9,249,[.func (.func 201) #[.agg #[.slice la m d,.int .i64 ((p1:Nat):Int),.int .i64 ((p2:Nat):Int)]] #[]]),(B14,3,[.int .i64 ((one:Nat):Int)]),(Bn,48,[.slice (some ⟨b3,o3,none⟩) 3 c3])]:=⟨_,rfl⟩;have T37:Touch No w3 w7':=(T6.out.trans T7.out).trans t7;have T67:Touch No w6 w7':=T7.out.trans t7
   have hRsT:∀r∈Rs,r.2.1≠49∧r.2.1≠21:=by
    rw[hRs];intro r hr;simp only[List.mem_cons,List.mem_nil_iff,or_false]at hr;rcases hr with rfl|rfl|rfl|rfl|rfl|rfl|rfl|rfl <;> (refine⟨?_,?_⟩ <;> (dsimp only;decide))
   have hX3:X+5≤w3.heap.size:=by have h1:=HX1.out;have:=(HRR3.out.2.2.2.2).lt;omega
   have hb3n:w.heap.size≤b3:=by have h1:=HS3.out.2.2 _ rfl;dsimp only at h1;have h2:=HT2s.out;omega
   have hb3l:b3<w3.heap.size:=by
    obtain⟨b',o',e,hc⟩:=HS3.out.2.1.num (i:=0) (by simp);cases e;exact lt_of_cell hc
   have hwX:w.heap.size=X:=HX.out.symm
   have hK0:KI w Rs B8 49 21 w3.heap.size b3 o3 (nums .i64 [u0,u1,u2]) [] w7':=by
    refine⟨HT3.out.trans T37,fun r hr=>?_,⟨_,R8.out.touch T67 id,HO.out.away T67 (fun _ _ f=>f)⟩,HS3.out.2.1.no T37⟩;rw[hRs]at hr;simp only[List.mem_cons,List.mem_nil_iff,or_false]at hr;rcases hr with rfl|rfl|rfl|rfl|rfl|rfl|rfl|rfl
    ·exact HRR3.out.1.touch T37 id
    ·exact HRR3.out.2.1.touch T37 id
    ·exact HRR3.out.2.2.1.touch T37 id
    ·exact HRR3.out.2.2.2.1.touch T37 id
    ·exact HRR3.out.2.2.2.2.touch T37 id
    ·exact R9.out.touch T67 id
    ·exact R14.out.touch t7 id
    ·exact R7
   have HK0:=Lib.hid hK0;have HRs:=Lib.hid (aI hRs hRsT);have HB3X:Hid (b3≠X+1+1+1+1):=fun e=>by have h1:=HS3.out.2.2 _ rfl;dsimp only at h1;have h2:=HT2z.out;have h3:=HX1.out;omega
   have HSZ:=Lib.hid (aI hX3 (aI hb3n (aI hb3l (aI hwX (aI hsz7 (aI HN6.out T37.size))))));have HR7:=Lib.hid R7;have hBnl:Bn<w7'.heap.size:=by omega
   have hb37:b3<w7'.heap.size:=by have:=T37.size;omega
   clear hK0 hRs hRsT hX3 hb3n hb3l hwX hsz7 hBn T37 T67 t7 R7 T6 T7 HN6 HN7 R8 R9 R14 HO HRR3 HR1 q2 q2' q5 z01 z02 z03 hmk hmf
   refine wpIn_rangeFunc_ownH rfl (by decide) (gf:=227) (lb:=#[.pointer (some ⟨Bn,0,none⟩)]) rfl trivial (enters_of Tryz.func227 (by kernel_rfl) rfl)
    (spots_stops 11 (by decide) Bn b3 o3 u0 u1 u2 m2 c3 HG.out.ok HM2.out w7' hBnl hb37 (HR7.out.cell 0) HK0.out.shp) keep2_t (keep2_b hBnl hb37) (Below.refl _ _) (fun _=>rfl)
    (fun pre W=>KI w Rs B8 49 21 w3.heap.size b3 o3 (nums .i64 [u0,u1,u2]) (ints .i32 (pre.map fun x=>winV A B p1 p2 t2 t3 one s p u1 u2 x.val)) W)
    (fun _ _ _=>False)
    (KI.own _ (by have:=HK0.out.t.size;omega)) (fun _ _ _ _ _ hs _ _=>hs)
    HK0.out
    (fun x a1 W=>∃g kc ky kx:Nat,w7'.heap.size≤g∧Hid (x.val / (u1*u2)=kc∧x.val / u2%u1=ky∧x.val%u2=kx)∧a1 = {tmps:=#[.agg #[.slice sa n c,.slice la m d],.agg #[.slice (some ⟨bb,ob,none⟩) 4 c',.slice (some ⟨bl,ol,none⟩) m' d'],.int .i64 ((s:Nat):Int),.int .i64 ((p:Nat):Int),.pointer (some ⟨X,0,none⟩),.pointer (some ⟨X+1,0,none⟩),.pointer (some ⟨X+1+1,0,none⟩),.pointer (some ⟨X+1+1+1,0,none⟩),.pointer (some ⟨X+1+1+1+1,0,none⟩),.int .i64 0,.slice (some ⟨b3,o3,none⟩) 3 c3,.int .i64 0,.pointer (some ⟨B8,0,none⟩),.pointer (some ⟨B9,0,none⟩),.pointer (some ⟨B14,0,none⟩),.pointer (some ⟨g,0,none⟩),u16,u17,u18,u19,u20,u21,u22,u23,u24,u25,u26,u27,u28,u29,u30,u31,u32,u33,u34,u35,u36,u37,u38,u39,u40,u41,u42,u43,u44,u45,u46,u47,u48,u49,u50,u51,u52,u53,u54,.slice (some ⟨b3,o3,none⟩) 3 c3,.func (.func 227) #[] #[.pointer (some ⟨Bn,0,none⟩)],.agg #[.int .i64 ((kc:Nat):Int),.int .i64 ((ky:Nat):Int),.int .i64 ((kx:Nat):Int)],u58,u59,u60,u61,u62,u63,u64,u65,u66,u67,u68,u69,u70,u71,u72,u73,u74,u75,u76,u77,u78,u79,u80,u81,u82,u83,u84,u85,u86,u87,u88,u89,u90,u91,u92,u93,u94,u95,u96,u97,u98,u99,u100,u101,u102,u103,u104,u105],defers:=[]}∧Row W g 256 [.int .i64 ((kc:Nat):Int),.int .i64 ((ky:Nat):Int),.int .i64 ((kx:Nat):Int)])
    ?ownA ?assign ?body ?done ?stop
   case ownA =>
    rintro x a1 s W W' row ⟨g,kc,ky,kx,hg1,hk,rfl,hc⟩ hg hr;refine⟨g,kc,ky,kx,hg1,hk,rfl,hc.touch (touch_grown hg) (fun e2=>?_)⟩;obtain⟨_,o,h1,h2⟩:=hr g e2;rw[hc]at h1;cases h1;cases h2
   case assign =>
    rintro l pre x W K hI hK;obtain⟨kc,hkc⟩:∃z,x.val / (u1*u2)=z:=⟨_,rfl⟩;obtain⟨ky,hky⟩:∃z,x.val / u2%u1=z:=⟨_,rfl⟩;obtain⟨kx,hkx⟩:∃z,x.val%u2=z:=⟨_,rfl⟩;have HKK:=Lib.hid (aI hkc (aI hky hkx));simp only[spotV,hkc,hky,hkx];have HI1:=Lib.hid hI;have HKc:=Lib.hid hK;clear hkc hky hkx hI hK;gi_wp2;obtain⟨W1,hW1,tW,RW⟩:=box_row W [.int .i64 ((kc:Nat):Int),.int .i64 ((ky:Nat):Int),.int .i64 ((kx:Nat):Int)] 256;rw[← hW1];have hBnr:=(HI1.out.rows (Bn,48,[.slice (some ⟨b3,o3,none⟩) 3 c3]) (by rw[HRs.out.1];simp)).lt
    have hb3r:b3<W.heap.size:=by
     obtain⟨b',o',e,hc⟩:=HI1.out.shp.num (i:=0) (by simp);cases e;exact lt_of_cell hc
    exact HKc.out _ _ ((tW.keeps (fun _ f _=>f.elim)).from _) ⟨tW.block _ hBnr id,tW.block _ hb3r id⟩ (HI1.out.no tW) ⟨W.heap.size,kc,ky,kx,by have:=HSZ.out.2.2.2.2.1;dsimp only at hBnr;omega,HKK,rfl,RW⟩
   case done =>
    rintro D xs W hD hS hI hK;have hS':xs=firstN m2 m2:=hS;subst hS'
    have hxs:((firstN m2 m2).map fun x=>winV A B p1 p2 t2 t3 one s p u1 u2 x.val)=Me.winL A B p1 p2 t2 t3 one s p u0 u1 u2:=by
     rw[firstN_map (fun i=>winV A B p1 p2 t2 t3 one s p u1 u2 i)];have:u0*u1*u2=m2:=by rw[← HM2.out];simp[Me.pr,Nat.mul_assoc]
     rw[Me.winL,this];rfl
    obtain⟨hT,hrow,⟨v,hv8,hO⟩,hsh⟩:=hI;rw[hxs]at hO;have hln:(Me.winL A B p1 p2 t2 t3 one s p u0 u1 u2).length=m2:=by rw[← hxs,List.length_map,firstN_length (Nat.le_refl _)]
    obtain⟨a8,c8,hv,hc8,_,_⟩:=hO.form' (n:=m2) (by rw[ints_length,hln]);subst hv;have y8:W.cell? ⟨B8,0,none⟩=some (.slice a8 m2 c8):=hv8.cell 0;have rX2:=hrow (X+1+1+1+1,51,[.slice none 0 0,.slice none 0 0]) (by rw[HRs.out.1];simp);dsimp only at rX2;have HX2:=Lib.hid rX2;have HOw:=Lib.hid hO;have HSh:=Lib.hid hsh;have HTw:=Lib.hid hT;have HDD:=Lib.hid (aI hD hK);have HLn:=Lib.hid hln;have HV8:=Lib.hid hv8;clear hO hsh hT hD hK hrow hxs hln hS rX2 hv8;gi_upto_region 16 with fail;refine wpIn_wide.2 ?_;go_wp2_with (refine wpList_store_mid rfl 51 _ _ rfl (X+1+1+1+1) 0 51 [.slice none 0 0,.slice none 0 0] HX2.out rfl [.slice (some ⟨b3,o3,none⟩) 3 c3,.slice a8 m2 c8] rfl (by kernel_rfl) (by simp) (by intro v hv;simp at hv;rcases hv with rfl|rfl <;> rfl) ?_);obtain⟨w9,hw9⟩:∃w9,w9=W.setRow (X+1+1+1+1) (splice [.slice none 0 0,.slice none 0 0] 0 [.slice (some ⟨b3,o3,none⟩) 3 c3,.slice a8 m2 c8]).toArray:=⟨_,rfl⟩;have tX:Touch (One (X+1+1+1+1)) W w9:=by rw[hw9];exact Touch.setOne _ _ _
    have R9:Row w9 (X+1+1+1+1) 51 [.slice (some ⟨b3,o3,none⟩) 3 c3,.slice a8 m2 c8]:=by rw[hw9];exact HX2.out.setRow _
    rw[← hw9];clear hw9
    have k5:w9.heap[D]? = some (.deferred (some [])):=by
     have hlt:=(Array.getElem?_eq_some_iff.1 HDD.out.2).1;rw[tX.block D hlt (fun e=>by have e':D=X+1+1+1+1:=e;have h1:=HDD.out.1;have h2:=HSZ.out.2.2.2.2.2.2;have h3:=HSZ.out.1;omega)];exact HDD.out.2
    gi_wp2;refine⟨by simp,.inl ⟨_,_,rfl,run_takeDeferred k5,?_⟩⟩;have t6:=touch_grown (grownBy_putObj' w9 D (.deferred none))
    have hne:∀k,CellsAt w9 k→¬(some D=some k):=fun k ⟨cc,tt,fr,e⟩ e2=>by
     cases e2
     rw[k5]at e;cases e
    have y4:=t6.cell (hne _ R9.cellsAt) (R9.cell 0);have y5:=t6.cell (hne _ R9.cellsAt) (R9.cell 1);refine⟨.tuple #[.agg #[.slice (some ⟨b3,o3,none⟩) 3 c3,.slice a8 m2 c8],.int .i64 0],by simp[results,Tryz.results156,go_sem,y4,y5],?_⟩;have hbX:∀v,49=v→True:=fun _ _=>trivial
    have hO9:=(HOw.out.away tX (fun k h1 h3=>HOw.out.off HX2.out (by decide) (by have e:k=X+1+1+1+1:=h3;rw[← e];exact h1))).cells t6 hne;have hs9:=(HSh.out.touch tX (fun b' o' e _ hI=>by cases e;have e':b3=X+1+1+1+1:=hI;exact(HB3X.out e').elim)).cells t6 hne
    have TT:Touch No w ((w9.putObj D (.deferred none))):=(HTw.out.then tX (fun i hi f=>by have e:i=X+1+1+1+1:=f;have h3:=HSZ.out.2.2.2.1;omega)).then t6 (fun i hi f=>by
     have e2:D=i:=Option.some.inj f;have h1:=HDD.out.1;have h2:=HSZ.out.2.2.2.2.2.2;have h3:=HSZ.out.1;have h4:=HSZ.out.2.2.2.1;omega)
    have hQ:[u0,t1,t2,t3].getD 1 0*[u0,t1,t2,t3].getD 2 0*[u0,t1,t2,t3].getD 3 0=one:=by rw[← HONE.out.1];simp[Me.pr,Nat.mul_assoc]
    rw[hQ];refine⟨_,_,_,_,_,_,rfl,{sr:=hs9,sn:=rfl,sc:=HS3.out.1,lr:=hO9.rd,lm:=HLn.out,lc:=hc8,ok:=HG.out.ok,len:=HM2.out,rng:=?_},TT,fun ad e=>by cases e;exact HSZ.out.2.1,fun ad e=>by have h1:=(HOw.out.block (k:=ad.block) (by rw[e];rfl)).1;have h2:=HSZ.out.1;have h4:=HSZ.out.2.2.2.1;omega⟩;exact Me.map_in fun _ _=>Me.go_in (by omega) (fun _ _=>Me.w32_in _) _
   case stop =>
    rintro D cd pre W _ _ h _;exact h.elim
   case body =>
    rintro l pre x a1 W hl ⟨rl,hrl⟩ hI ⟨g,kc,ky,kx,hg,HKK,rfl,hc⟩ hlt;have rX1:Row W (X+1) 51 [.slice (some ⟨bb,ob,none⟩) 4 c',.slice (some ⟨bl,ol,none⟩) m' d']:=hI.rows (X+1,51,[.slice (some ⟨bb,ob,none⟩) 4 c',.slice (some ⟨bl,ol,none⟩) m' d']) (by rw[HRs.out.1];simp);have rX2:Row W (X+1+1) 3 [.int .i64 ((s:Nat):Int)]:=hI.rows (X+1+1,3,[.int .i64 ((s:Nat):Int)]) (by rw[HRs.out.1];simp);have rX3:Row W (X+1+1+1) 3 [.int .i64 ((p:Nat):Int)]:=hI.rows (X+1+1+1,3,[.int .i64 ((p:Nat):Int)]) (by rw[HRs.out.1];simp);have r9:Row W B9 249 [.func (.func 201) #[.agg #[.slice la m d,.int .i64 ((p1:Nat):Int),.int .i64 ((p2:Nat):Int)]] #[]]:=hI.rows (B9,249,[.func (.func 201) #[.agg #[.slice la m d,.int .i64 ((p1:Nat):Int),.int .i64 ((p2:Nat):Int)]] #[]]) (by rw[HRs.out.1];simp);have r14:Row W B14 3 [.int .i64 ((one:Nat):Int)]:=hI.rows (B14,3,[.int .i64 ((one:Nat):Int)]) (by rw[HRs.out.1];simp);have hu1:=HG.out.ok.each u1 (by simp);have hu2:=HG.out.ok.each u2 (by simp);have hNm:u0*(u1*u2)=m2:=by rw[← HM2.out];simp[Me.pr]
    have hkc:kc<u0:=by
     rw[← HKK.out.1,Nat.div_lt_iff_lt_mul (Nat.mul_pos hu1.1 hu2.1),hNm];exact x.isLt
    have hky:ky<u1:=by rw[← HKK.out.2.1];exact Nat.mod_lt _ (by omega)
    have hkx:kx<u2:=by rw[← HKK.out.2.2];exact Nat.mod_lt _ (by omega)
    obtain⟨kk,hkk⟩:∃z,kc*one=z:=⟨_,rfl⟩;have hm'4:=HB.out.m4
    have hkm:kk+one≤m':=by
     rw[← hkk,HONE.out.2.2,← Nat.succ_mul];exact Nat.mul_le_mul_right _ hkc
    have e1:IntKind.i64.wrap ((kc:Int)*(one:Int))=((kk:Nat):Int):=by rw[← Int.natCast_mul,hkk];exact IntWalk.i64_in _ (by omega)
    have k0:=KW.cell (v:=.int .i64 ((kc:Nat):Int)) (hc.cell 0);have k1:=KW.cell (v:=.int .i64 ((one:Nat):Int)) (r14.cell 0);have HI1:=Lib.hid hI;have HR2:=Lib.hid (aI rX1 (aI rX2 (aI rX3 r9)));have Hc:=Lib.hid hc;have Hlt:=Lib.hid hlt;have HKB:=Lib.hid (aI hky hkx);have Hrl:=Lib.hid (aI hl hrl);have HKK2:=Lib.hid hkk;clear hI rX1 rX2 rX3 r9 r14 hc hlt hNm hky hkx hl hrl hkk;dsimp only;gi_upto_region 10 with fail
    gi_cut [16,17] from 18 (fun s16 s17 wx=>∃(g16 g17:Nat),s16 = .pointer (some ⟨g16,0,none⟩)∧s17 = .pointer (some ⟨g17,0,none⟩)∧Hid (Touch No W wx)∧Hid (W.heap.size≤g16∧W.heap.size≤g17)∧Hid (Row wx g16 21 [.int .i32 0])∧Hid (Row wx g17 3 [.int .i64 ((kk:Nat):Int)]))
    case first =>
     refine wpIn_region_u 8 #[false,false,false,false,false,false,false,false] (by kernel_rfl) rfl rfl fun wu tu=>?_
     refine wpAnyU_take (i:=0) rfl rfl rfl (by kernel_rfl) (by kernel_rfl) (by kernel_rfl) (by kernel_rfl) tu (fun _ _ _ _ h=>h) ?_;apply Exists.intro;refine⟨fun w1 t1=>?_,?_⟩
     ·skip
      first|gi_big_quiet_step (fail)|quiet_step_in (fail)
      refine wpQuietIn_nil ?_;rfl
     try dsimp only
     refine wpAnyU_take (i:=1) rfl rfl rfl (by kernel_rfl) (by kernel_rfl) (by kernel_rfl) (by kernel_rfl) tu (fun _ _ _ _ h=>h) ?_;apply Exists.intro;refine⟨fun w1 t1=>?_,?_⟩
     ·have k0:∀p:KW w1,p.wd.cell? _=_:=fun p=>k0 ⟨p.wd,t1.trans p.no⟩
      first|gi_big_quiet_step (fail)|quiet_step_in (fail)
      refine wpQuietIn_nil ?_;rfl
     try dsimp only
     refine wpAnyU_take (i:=2) rfl rfl rfl (by kernel_rfl) (by kernel_rfl) (by kernel_rfl) (by kernel_rfl) tu (fun _ _ _ _ h=>h) ?_;apply Exists.intro;refine⟨fun w1 t1=>?_,?_⟩
     ·have k1:∀p:KW w1,p.wd.cell? _=_:=fun p=>k1 ⟨p.wd,t1.trans p.no⟩
      first|gi_big_quiet_step (fail)|quiet_step_in (fail)
      refine wpQuietIn_nil ?_;rfl
     try dsimp only
     refine wpAnyU_take (i:=3) rfl rfl rfl (by kernel_rfl) (by kernel_rfl) (by kernel_rfl) (by kernel_rfl) tu (fun _ _ _ _ h=>h) ?_;apply Exists.intro;refine⟨fun w1 t1=>?_,?_⟩
     ·skip
      first|gi_big_quiet_step (fail)|quiet_step_in (fail)
      refine wpQuietIn_nil ?_;rfl
     try dsimp only
     repeat' first
      | (refine wpAnyU_end (by assumption) (by decide +kernel) ?_;intro wz tz)
      | ((first
          | refine wpAnyU_ready (rs:=[4,5]) (by assumption) (by decide +kernel) (by simp) ?_
          | refine wpAnyU_ready (rs:=[4]) (by assumption) (by decide +kernel) (by simp) ?_
          | refine wpAnyU_ready (rs:=[5]) (by assumption) (by decide +kernel) (by simp) ?_
          | refine wpAnyU_ready (rs:=[6]) (by assumption) (by decide +kernel) (by simp) ?_
          | refine wpAnyU_ready (rs:=[7]) (by assumption) (by decide +kernel) (by simp) ?_)
         intro wz tz;try have R6:=R6.touch tz id
         try have R7:=R7.touch tz id
         have tu:=tu.trans tz;try have c6:=R6.cell 0
         try have f6:=R6.soft 0
         try have c7:=R7.cell 0
         try have f7:=R7.soft 0)
      | exact AllReadyU.nil
      | (refine AllReadyU.cons rfl (fun K hK=>?_) ?_
         go_simp;first
         | (refine hK _ _ ?_
            clear hK K
            first
             | (obtain⟨wy,hwy,ty,R6⟩:=box_row wz [.int .i32 0] 21
                rw[← hwy];obtain⟨g16,hg16⟩:∃B,B=wz.heap.size:=⟨_,rfl⟩;rw[← hg16]at R6 ⊢;have n6:=Lib.hid (show W.heap.size≤g16 by rw[hg16];exact tu.size);have tu:=tu.trans ty;try have R7:=R7.touch ty id
                clear hwy hg16 ty)
             | (obtain⟨wy,hwy,ty,R7⟩:=box_row wz [.int .i64 0] 3
                rw[← hwy];obtain⟨g17,hg17⟩:∃B,B=wz.heap.size:=⟨_,rfl⟩;rw[← hg17]at R7 ⊢;have n7:=Lib.hid (show W.heap.size≤g17 by rw[hg17];exact tu.size);have tu:=tu.trans ty;try have R6:=R6.touch ty id
                clear hwy hg17 ty)
             | (obtain⟨wy,hwy⟩:∃wy,wy=wz.setCell ⟨g16,0,none⟩ (.int .i32 0):=⟨_,rfl⟩
                rw[← hwy];have ty:Touch (One g16) wz wy:=by rw[hwy];exact(Touch.refl (One g16) wz).setCell (p:=⟨g16,0,none⟩) (fun _=>rfl) _
                have e1':=R7.ne R6 (by decide);have R6:Row wy g16 21 [.int .i32 0]:=by rw[hwy];exact R6.setCell 0 _
                have R7:=R7.touch ty e1';have tu:=tu.then ty (fun i hi e=>by have e':i=g16:=e;have:=n6.out;omega);clear hwy ty e1')
             | (obtain⟨wy,hwy⟩:∃wy,wy=wz.setCell ⟨g17,0,none⟩ (.int .i64 ((kk:Nat):Int)):=⟨_,rfl⟩
                rw[← hwy];have ty:Touch (One g17) wz wy:=by rw[hwy];exact(Touch.refl (One g17) wz).setCell (p:=⟨g17,0,none⟩) (fun _=>rfl) _
                have e1':=R6.ne R7 (by decide);have R7:Row wy g17 3 [.int .i64 ((kk:Nat):Int)]:=by rw[hwy];exact R7.setCell 0 _
                have R6:=R6.touch ty e1';have tu:=tu.then ty (fun i hi e=>by have e':i=g17:=e;have:=n7.out;omega);clear hwy ty e1')
             | (trace_state;fail)))
     all_goals
      have hE:Hid (Touch No W wz):=tu.trans tz;have R6:=Lib.hid (R6.touch tz id);have R7:=Lib.hid (R7.touch tz id);gi_wp2;gi_meet;exact⟨g16,g17,rfl,rfl,hE,aI n6.out n7.out,R6,R7⟩
    case rest =>
     obtain⟨g16,g17,rfl,rfl,T10,HN10,R16,R17⟩:=hcut;obtain⟨w10,hw10⟩:∃w10:World,w10=wc:=⟨_,rfl⟩;subst hw10;have hc4:4≤c':=HB.out.sc;have y1:w10.cell? ⟨X+1,0,none⟩=some (.slice (some ⟨bb,ob,none⟩) 4 c'):=(HR2.out.1.touch T10.out id).cell 0;have z1:decide ((c':Nat)<1)=false:=by simp;omega
     gi_wp2;refine⟨trivial,(CallsIn.inRound l (callsIn_wide.2 (spots_any w10 (some ⟨bb,ob+1,none⟩) 3 (c'-1)))).mono ?_⟩;rintro e w11 ⟨rfl,h11⟩;obtain⟨w11',hw11,tb11,RB⟩:=box_row w10 [.slice (some ⟨bb,ob+1,none⟩) 3 (c'-1)] 48;have h11':w11'=w11:=by rw[hw11,h11]
     subst h11';have hsz11:w11'.heap.size=w10.heap.size+1:=by rw[hw11];simp
     clear hw11 h11 y1 z1;obtain⟨B2,hB2⟩:∃B2,B2=w10.heap.size:=⟨_,rfl⟩;gi_wp2;rw[← hB2]at RB hsz11 ⊢;have T11:Touch No W w11':=T10.out.trans tb11;have hr11:w11'.heap[l]? = some (.loop rl):=by rw[T11.block l (Array.getElem?_eq_some_iff.1 Hrl.out.2).1 id];exact Hrl.out.2
     have hbbl:bb<w.heap.size:=by
      obtain⟨b',o',e,hc⟩:=HB.out.sr.num (i:=0) (by simp);cases e;exact lt_of_cell hc
     have hB2l:B2<w11'.heap.size:=by omega
     have hbb1:bb<w11'.heap.size:=by have:=HI1.out.t.size;have:=T11.size;omega
     have rd3:Rd w11' (some ⟨bb,ob+1,none⟩) (nums .i64 [t1,t2,t3]):=fun i v hi=>by
      have h1:=(HB.out.no (HI1.out.t.trans T11)).sr (i+1) v (by simpa[nums]using hi);obtain⟨b',o',e,hc⟩:=h1;cases e
      exact⟨_,_,rfl,by rw[show ob+1+i=ob+(i+1) by omega];exact hc⟩
     have HT11:=Lib.hid T11;have HS11:=Lib.hid (aI hsz11 (aI hB2 hbbl))
     have h0:KJ W [(g16,21,[.int .i32 0]),(g17,3,[.int .i64 ((kk:Nat):Int)]),(B2,48,[.slice (some ⟨bb,ob+1,none⟩) 3 (c'-1)])] w11':=by
      refine⟨T11,fun r hr=>?_⟩;simp only[List.mem_cons,List.mem_nil_iff,or_false]at hr;rcases hr with rfl|rfl|rfl
      ·exact R16.out.touch tb11 id
      ·exact R17.out.touch tb11 id
      ·exact RB
     have HRB:=Lib.hid RB;have H0:=Lib.hid h0;clear T10 R16 R17 T11 hsz11 hB2 hbbl h0 RB tb11
     refine wpIn_rangeFunc_ownN (l₀:=l) (r₀:=rl) rfl hr11 (by decide) (gf:=227) (lb:=#[.pointer (some ⟨B2,0,none⟩)]) rfl trivial (enters_of Tryz.func227 (by kernel_rfl) rfl)
      ((spots_stops 9 (by decide) B2 bb (ob+1) t1 t2 t3 one (c'-1) HONE.out.2.1 HONE.out.1 w11' hB2l hbb1 (HRB.out.cell 0) rd3).inRound l) keep2_t (keep2_b hB2l hbb1) (Below.refl _ _) (fun _=>rfl)
      (fun pre' W'=>KJ W [(g16,21,[.int .i32 (accF (winF A B p1 p2 t2 t3 s p kk ky kx) pre').1]),(g17,3,[.int .i64 ((kk+pre'.length:Nat):Int)]),(B2,48,[.slice (some ⟨bb,ob+1,none⟩) 3 (c'-1)])] W')
      (fun _ _ _=>False)
      (KJ.own _ (by have:=HT11.out.size;omega)) (fun _ _ _ _ _ hs _ _=>hs)
      H0.out
      (fun x2 a2 W'=>∃h jc jy jx:Nat,w11'.heap.size≤h∧Hid (x2.val / (t2*t3)=jc∧x2.val / t3%t2=jy∧x2.val%t3=jx)∧a2 = {tmps:=#[.agg #[.slice sa n c,.slice la m d],.agg #[.slice (some ⟨bb,ob,none⟩) 4 c',.slice (some ⟨bl,ol,none⟩) m' d'],.int .i64 ((s:Nat):Int),.int .i64 ((p:Nat):Int),.pointer (some ⟨X,0,none⟩),.pointer (some ⟨X+1,0,none⟩),.pointer (some ⟨X+1+1,0,none⟩),.pointer (some ⟨X+1+1+1,0,none⟩),.pointer (some ⟨X+1+1+1+1,0,none⟩),.int .i64 0,.slice (some ⟨b3,o3,none⟩) 3 c3,.int .i64 0,.pointer (some ⟨B8,0,none⟩),.pointer (some ⟨B9,0,none⟩),.pointer (some ⟨B14,0,none⟩),.pointer (some ⟨g,0,none⟩),.pointer (some ⟨g16,0,none⟩),.pointer (some ⟨g17,0,none⟩),.pointer (some ⟨h,0,none⟩),u19,u20,u21,u22,u23,u24,u25,u26,u27,u28,u29,u30,u31,u32,u33,u34,u35,u36,u37,u38,u39,u40,u41,u42,u43,u44,u45,u46,u47,u48,u49,u50,u51,u52,u53,u54,u55,u56,u57,u58,u59,u60,u61,.pointer (some ⟨X+1,0,none⟩),.slice (some ⟨bb,ob,none⟩) 4 c',.slice (some ⟨bb,ob+1,none⟩) 3 (c'-1),.func (.func 227) #[] #[.pointer (some ⟨B2,0,none⟩)],.agg #[.int .i64 ((jc:Nat):Int),.int .i64 ((jy:Nat):Int),.int .i64 ((jx:Nat):Int)],u67,u68,u69,u70,u71,u72,u73,u74,u75,u76,u77,u78,u79,u80,u81,u82,u83,u84,u85,u86,u87,u88,u89,u90,u91,u92,u93,u94,u95,u96,u97,u98,u99,u100,u101,u102,u103,u104,u105],defers:=[]}∧Row W' h 256 [.int .i64 ((jc:Nat):Int),.int .i64 ((jy:Nat):Int),.int .i64 ((jx:Nat):Int)])
      ?ownA2 ?assign2 ?body2 ?done2 ?stop2
     case ownA2 =>
      rintro x1 a1 s1 W1 W1' row ⟨h,jc,jy,jx,hg1,hk,rfl,hc⟩ hg hr;refine⟨h,jc,jy,jx,hg1,hk,rfl,hc.touch (touch_grown hg) (fun e2=>?_)⟩;obtain⟨_,o,h1,h2⟩:=hr h e2;rw[hc]at h1;cases h1;cases h2
     case assign2 =>
      rintro l2 pre2 x2 W2 K hI hK;obtain⟨jc,hjc⟩:∃z,x2.val / (t2*t3)=z:=⟨_,rfl⟩;obtain⟨jy,hjy⟩:∃z,x2.val / t3%t2=z:=⟨_,rfl⟩;obtain⟨jx,hjx⟩:∃z,x2.val%t3=z:=⟨_,rfl⟩;have HJJ:=Lib.hid (aI hjc (aI hjy hjx));simp only[spotV,hjc,hjy,hjx];have HI2:=Lib.hid hI;have HKc:=Lib.hid hK;clear hjc hjy hjx hI hK;gi_wp2;obtain⟨W1,hW1,tW,RW⟩:=box_row W2 [.int .i64 ((jc:Nat):Int),.int .i64 ((jy:Nat):Int),.int .i64 ((jx:Nat):Int)] 256;rw[← hW1];have hBnr:=(HI2.out.rows (B2,48,[.slice (some ⟨bb,ob+1,none⟩) 3 (c'-1)]) (by simp)).lt;have hbr:bb<W2.heap.size:=by have h1:=HS11.out.2.2;have h2:=HI1.out.t.size;have h3:=HI2.out.t.size;omega
      exact HKc.out _ _ ((tW.keeps (fun _ f _=>f.elim)).from _) ⟨tW.block _ hBnr id,tW.block _ hbr id⟩ (HI2.out.no tW) ⟨W2.heap.size,jc,jy,jx,by have:=HS11.out;dsimp only at hBnr;omega,HJJ,rfl,RW⟩
     case done2 =>
      rintro ys2 wr hS2 hI2;have hS2':ys2=firstN one one:=hS2;subst hS2';have r16:=hI2.rows _ (List.mem_cons_self ..);dsimp only at r16;obtain⟨acc,hacc⟩:∃z,(accF (winF A B p1 p2 t2 t3 s p kk ky kx) (firstN one one)).1=z:=⟨_,rfl⟩;rw[hacc]at r16
      have HPV:Hid (winV A B p1 p2 t2 t3 one s p u1 u2 x.val=acc):=by
       show _=_
       rw[← hacc,accF_first (winF A B p1 p2 t2 t3 s p kk ky kx) (Me.win A B p1 p2 t2 t3 one s p kc ky kx) (fun st y=>by rw[winF,Me.win,HKK2.out]) one (Nat.le_refl _),winV,HKK.out.1,HKK.out.2.1,HKK.out.2.2]
      have TQ:Hid (Touch No W wr):=hI2.t;have y16:wr.cell? ⟨g16,0,none⟩=some (.int .i32 acc):=r16.cell 0;clear hS2 hI2 hacc e1;obtain⟨wz,hwz,tz,Rz⟩:=box_row wr [.int .i32 acc] 21;have TWz:=Lib.hid (TQ.out.trans tz);obtain⟨LL,hLL⟩:∃LL,LL=ints .i32 (pre.map fun x=>winV A B p1 p2 t2 t3 one s p u1 u2 x.val):=⟨_,rfl⟩;have KIr:=HI1.out.no TQ.out;rw[← hLL]at KIr;have KIz:=KIr.no tz;obtain⟨v,hv8,hO⟩:=KIz.acc
      have hv8r:Row wr B8 49 [v]:=by
       obtain⟨v2,h2,_⟩:=KIr.acc;have h3:=Option.some.inj ((h2.touch tz id).symm.trans hv8);injection h3 with h4 _ _
       have h5:v2=v:=by simpa using h4
       rw[← h5];exact h2
      have hpl:pre.length≤4096:=by have:=Hlt.out;omega
      have hil:LL.length=pre.length:=by rw[hLL,ints_length,List.length_map]
      obtain⟨a8,c8,hv,hc8,_,_⟩:=hO.form' (n:=pre.length) hil;subst hv
      have HLE:Hid (ints .i32 ((pre ++ [x]).map fun x=>winV A B p1 p2 t2 t3 one s p u1 u2 x.val)=LL ++ [.int .i32 acc]):=by
       show _=_
       rw[List.map_append,List.map_singleton,Me.ints_snoc',HPV.out,hLL]
      have y8:wr.cell? ⟨B8,0,none⟩=some (.slice a8 pre.length c8):=hv8r.cell 0;have HKz:=Lib.hid KIz;have HOz:=Lib.hid hO;have HV8:=Lib.hid hv8;have HRz:=Lib.hid Rz;have HIL:=Lib.hid hil;obtain⟨J,hj0,hj1,hj2,hj3⟩:=i32_info;have HJ:=Lib.hid (aI hj0 (aI hj1 (aI hj2 hj3)));have hsz3:w3.heap.size≤wz.heap.size:=by have h1:=HSZ.out.2.2.2.2.2.2;have h2:=(HKz.out.rows (Bn,48,[.slice (some ⟨b3,o3,none⟩) 3 c3]) (by rw[HRs.out.1];simp)).lt;have h3:=HSZ.out.2.2.2.2.1;dsimp only at h2;omega
      clear KIr KIz hv8 hv8r hO Rz hil hj0 hj1 hj2 hj3 tz hLL;gi_wp2_with (gi_at_builtin;rw[← hwz];refine wpListIn_append_rd rfl _ _ 49 rfl w3.heap.size 21 J (.int .i32 0) 4 Tryz.underlying49 HJ.out.1 HJ.out.2.1 HJ.out.2.2.1 HJ.out.2.2.2 rfl (.slice a8 pre.length c8) LL HOz.out rfl (some ⟨wr.heap.size,0,none⟩) 1 1 [.int .i32 acc] rfl rfl (rd_row HRz.out) (by intro u hu;simp at hu;rw[hu];rfl) (by rw[HIL.out];unfold maxLen;simp;omega) (by rw[HIL.out];omega) hsz3 ?_;intro v' w2 hO2 ht2;obtain⟨a9,c9,hv9,hc9,_,_⟩:=hO2.form' (n:=pre.length+1) (by rw[List.length_append,HIL.out];rfl);subst hv9;have hnb:¬InBlock (.slice a8 pre.length c8) B8:=HOz.out.off HV8.out (by decide);have hv82:=HV8.out.touch ht2 hnb;have y82:w2.cell? ⟨B8,0,none⟩=some (.slice a8 pre.length c8):=hv82.cell 0;have f82:=hv82.soft 0);have HST:=Lib.hid (HKz.out.step HRs.out.2 (by decide) (by have:=HSZ.out;omega) (by have:=HSZ.out;omega) (by have:=HSZ.out;omega) (by have:=HSZ.out;omega) HV8.out HOz.out ht2 hO2)
      have HBl:Hid (Bn<W.heap.size∧b3<W.heap.size):=by
       refine⟨(HI1.out.rows (Bn,48,[.slice (some ⟨b3,o3,none⟩) 3 c3]) (by rw[HRs.out.1];simp)).lt,?_⟩;obtain⟨b',o',e,hc⟩:=HI1.out.shp.num (i:=0) (by simp);cases e;exact lt_of_cell hc
      clear hO2 ht2 hnb hv82 y8;obtain⟨K1,K2,K3,K4⟩:=HST.out;refine⟨((TWz.out.keeps (fun _ f _=>f.elim)).trans K2).from _,⟨(K3 (Bn,48,[.slice (some ⟨b3,o3,none⟩) 3 c3]) (by rw[HRs.out.1];simp) Bn rfl).trans (TWz.out.block _ HBl.out.1 id),(K4 (Nat.lt_of_lt_of_le HBl.out.2 TWz.out.size)).trans (TWz.out.block _ HBl.out.2 id)⟩,?_⟩;dsimp only;rw[HLE.out];exact K1
     case stop2 =>
      rintro cd pre2 W2 _ h;exact h.elim
     case body2 =>
      rintro l2 pre2 x2 a2 W2 hl2 _ hI2 ⟨h,jc,jy,jx,hg2,HJJ,rfl,hc2⟩ hlt2;have r16:=hI2.rows _ (List.mem_cons_self ..);have r17:=hI2.rows _ (List.mem_cons_of_mem _ (List.mem_cons_self ..));dsimp only at r16 r17;have h3:=HONE.out.2.1;have ht2:=h3.each t2 (by simp);have ht3:=h3.each t3 (by simp);have hst:=HG.out.step;have hpd:=HG.out.pad;have hNm:t1*(t2*t3)=one:=by rw[← HONE.out.1];simp[Me.pr]
      have hjc:jc<t1:=by
       rw[← HJJ.out.1,Nat.div_lt_iff_lt_mul (Nat.mul_pos ht2.1 ht3.1),hNm];exact x2.isLt
      have hjy:jy<t2:=by rw[← HJJ.out.2.1];exact Nat.mod_lt _ (by omega)
      have hjx:jx<t3:=by rw[← HJJ.out.2.2];exact Nat.mod_lt _ (by omega)
      have hjcS:jc<S.getD 0 0:=by have:=HG.out.deep;simp at this;rw[Lgd,this];exact hjc
      have hky:=HKB.out.1;have hkx:=HKB.out.2;have hu1:=HG.out.ok.each u1 (by simp);have hu2:=HG.out.ok.each u2 (by simp);obtain⟨q,hq⟩:∃q,pre2.length=q:=⟨_,rfl⟩;obtain⟨acc,hacc⟩:∃z,(accF (winF A B p1 p2 t2 t3 s p kk ky kx) pre2).1=z:=⟨_,rfl⟩;rw[hacc]at r16;rw[hq]at r17 hlt2;obtain⟨ys,hys⟩:∃z,ky*s=z:=⟨_,rfl⟩;obtain⟨xs,hxs⟩:∃z,kx*s=z:=⟨_,rfl⟩;have by1:ys≤512:=by rw[← hys];exact Nat.mul_le_mul (show ky≤64 by omega) hst.2
      have bx1:xs≤512:=by rw[← hxs];exact Nat.mul_le_mul (show kx≤64 by omega) hst.2
      obtain⟨Y1,hY1⟩:∃z:Int,(ys:Int)-(p:Int)=z:=⟨_,rfl⟩;obtain⟨X1,hX1⟩:∃z:Int,(xs:Int)-(p:Int)=z:=⟨_,rfl⟩;obtain⟨Y2,hY2⟩:∃z:Int,Y1+((jy:Nat):Int)=z:=⟨_,rfl⟩;obtain⟨X2,hX2⟩:∃z:Int,X1+((jx:Nat):Int)=z:=⟨_,rfl⟩;obtain⟨kq,hkq⟩:∃z,kk+q=z:=⟨_,rfl⟩;rw[hkq]at r17;have m1:IntKind.i64.wrap ((ky:Int)*(s:Int))=((ys:Nat):Int):=by rw[← Int.natCast_mul,hys];exact IntWalk.i64_in _ (by omega)
      have m2':IntKind.i64.wrap ((kx:Int)*(s:Int))=((xs:Nat):Int):=by rw[← Int.natCast_mul,hxs];exact IntWalk.i64_in _ (by omega)
      have m3:IntKind.i64.wrap ((ys:Int)-(p:Int))=Y1:=by rw[hY1];exact IntWalk.i64_in _ (by omega)
      have m4:IntKind.i64.wrap ((xs:Int)-(p:Int))=X1:=by rw[hX1];exact IntWalk.i64_in _ (by omega)
      have m5:IntKind.i64.wrap (Y1+(jy:Int))=Y2:=by rw[hY2];exact IntWalk.i64_in _ (by omega)
      have m6:IntKind.i64.wrap (X1+(jx:Int))=X2:=by rw[hX2];exact IntWalk.i64_in _ (by omega)
      have m7:IntKind.i64.wrap ((kq:Int)+1)=((kq+1:Nat):Int):=IntWalk.i64_in _ (by omega);obtain⟨lk,hlk⟩:∃z,Me.look A p1 p2 jc Y2 X2=z:=⟨_,rfl⟩;obtain⟨bv,hbv⟩:∃z,Me.at_ B kq=z:=⟨_,rfl⟩;have hwt:Touch No w W2:=HI1.out.t.trans hI2.t;obtain⟨bl',ol',ebl,cb⟩:=(HB.out.no hwt).num (k:=kq) (by omega);cases ebl
      rw[hbv]at cb;have CK:=Lib.hid (fun pw:KW W2=>picLook_in pw.wd sa la n c m d S A (HA.out.no (hwt.trans pw.no)) (by rw[← HA.out.sn];exact HG.out.ls) jc Y2 X2 hjcS ⟨by omega,by omega⟩ ⟨by omega,by omega⟩);rw[HP.out.1,HP.out.2,hlk]at CK
      have HAC:Hid ((accF (winF A B p1 p2 t2 t3 s p kk ky kx) (pre2 ++ [x2])).1=wrap32 (acc+wrap32 (lk*bv))):=by
       show _=_
       rw[accF_snoc,hacc,hq,winF,HJJ.out.1,HJJ.out.2.1,HJJ.out.2.2,hkq,hbv];rw[show((ky:Int)*(s:Int)-(p:Int)+((jy:Nat):Int))=Y2 by rw[← hY2,← hY1,← hys,Int.natCast_mul]];rw[show((kx:Int)*(s:Int)-(p:Int)+((jx:Nat):Int))=X2 by rw[← hX2,← hX1,← hxs,Int.natCast_mul],hlk]
      have HLQ:Hid (kk+(pre2 ++ [x2]).length=kq+1):=by show _=_;rw[List.length_append,hq];simp;omega
      have TI2:=hI2.t;have k0:=KW.cell (v:=.int .i32 acc) (r16.cell 0);have k1:=KW.cell (v:=.func (.func 201) #[.agg #[.slice la m d,.int .i64 ((p1:Nat):Int),.int .i64 ((p2:Nat):Int)]] #[]) ((HR2.out.2.2.2.touch TI2 id).cell 0);have k2:=KW.cell (v:=.int .i64 ((jc:Nat):Int)) (hc2.cell 0);have k3:=KW.cell (v:=.int .i64 ((jy:Nat):Int)) (hc2.cell 1);have k4:=KW.cell (v:=.int .i64 ((jx:Nat):Int)) (hc2.cell 2);have k5:=KW.cell (v:=.int .i64 ((ky:Nat):Int)) ((Hc.out.touch TI2 id).cell 1);have k6:=KW.cell (v:=.int .i64 ((kx:Nat):Int)) ((Hc.out.touch TI2 id).cell 2);have k7:=KW.cell (v:=.int .i64 ((s:Nat):Int)) ((HR2.out.2.1.touch TI2 id).cell 0);have k8:=KW.cell (v:=.int .i64 ((p:Nat):Int)) ((HR2.out.2.2.1.touch TI2 id).cell 0);have k9:=KW.cell (v:=.slice (some ⟨bl,ol,none⟩) m' d') ((HR2.out.1.touch TI2 id).cell 1);have k10:=KW.cell (v:=.int .i64 ((kq:Nat):Int)) (r17.cell 0);have k11:=KW.cell cb;have hbii:(kq:Int)<(m':Nat):=by omega
      have HI2:=Lib.hid hI2;have HR16:=Lib.hid r16;have HR17:=Lib.hid r17;have Hqa:=Lib.hid (aI hq (aI hacc hkq));clear hc2 hNm hjc hjy hjx hjcS hky hkx hys hxs by1 bx1 hY1 hX1 hY2 hX2 hkq hlk hbv hwt cb TI2 r16 r17 hI2 hq hacc hg2 hl2 hlt2 e1 hkm;dsimp only;gi_upto_region 13 with fail;refine wpIn_region_kept_tail 30 (by kernel_rfl) (by kernel_rfl) (by kernel_rfl) ?_;simp only[List.take_succ_cons,List.take_zero,List.drop_succ_cons,List.drop_zero];repeat (first|gi_big_quiet_step (fail)|quiet_step_in (fail)|(refine wpQuietIn_step (fun _ _ _ _=>trivial) (fun K hK=>?_);go_simp;apply Exists.intro;refine⟨fun _=>?_,hK _ ?_⟩;exact CallsIn.kept_of (CallsIn.inRound l2 (CallsIn.inRound l (callsIn_wide.2 (CK.out _))));clear hK K))
      refine wpQuietIn_nil ?_;intro _ hw';obtain⟨kw,hw''⟩:=hw';subst hw'';obtain⟨wk,tk⟩:=kw;have tk:=Lib.hid tk;dsimp only;clear CK m1 m2' m3 m4 m5 m6 k0 k1 k2 k3 k4 k5 k6 k7 k8 k9 k10 k11;have y16:wk.cell? ⟨g16,0,none⟩=some (.int .i32 acc):=(HR16.out.touch tk.out id).cell 0;have f16:=(HR16.out.touch tk.out id).soft 0;obtain⟨av,hav⟩:∃z,wrap32 (acc+wrap32 (lk*bv))=z:=⟨_,rfl⟩;have hne:=HR17.out.ne HR16.out (by decide);have r17a:=(HR17.out.touch tk.out id).touch ((Touch.refl (One g16) wk).setCell (p:=⟨g16,0,none⟩) (fun _=>rfl) (.int .i32 av)) hne;have y17:=r17a.cell 0;have f17:=r17a.soft 0;have HAV:Hid ((accF (winF A B p1 p2 t2 t3 s p kk ky kx) (pre2 ++ [x2])).1=av):=by show _=_;rw[HAC.out,hav]
      have HI2k:=Lib.hid (HI2.out.no tk.out);clear r17a hne;gi_wp2;have hk0:=HI2k.out;rw[Hqa.out.1,Hqa.out.2.1,Hqa.out.2.2]at hk0;obtain⟨K1,K2,K3,K4⟩:=hk0.set2 (by decide) (by decide) (by decide) HN10.out.1 HN10.out.2 (.int .i32 av) (.int .i64 ((kq+1:Nat):Int));have hb1:B2<W2.heap.size:=(HI2.out.rows (B2,48,[.slice (some ⟨bb,ob+1,none⟩) 3 (c'-1)]) (by simp)).lt;have hb2:bb<W.heap.size:=by have h1:=HS11.out.2.2;have h2:=HI1.out.t.size;omega
      refine⟨((tk.out.keeps (fun _ f _=>f.elim)).trans (by first|exact K2|simpa using K2)).from _,⟨?_,?_⟩,?_⟩
      ·first|exact K3.trans (tk.out.block B2 hb1 id)|simpa using K3.trans (tk.out.block B2 hb1 id)
      ·have:=(K4 bb hb2).trans (tk.out.block bb (by have:=HI2.out.t.size;omega) id)
       first|exact this|simpa using this
      ·dsimp only
       rw[HAV.out,HLQ.out];first|exact K1|simpa using K1
end
end Go.Proofs.YtjlphmmalebgpaaGreat
