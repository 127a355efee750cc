/-
  A part of the proof.
-/
import Derived.Test.YtjlphmmalebgpaaGreatK44
set_option linter.unusedSimpArgs false
set_option linter.unusedVariables false
set_option maxHeartbeats 4000000
set_option maxRecDepth 100000
namespace Go.Proofs.YtjlphmmalebgpaaGreat
section
open Go Go.RowKit
theorem info_Nod:∃i,Tryz.prog.info? 55=some i∧i.zero=some (.agg #[.int .u8 0,.slice none 0 0,.slice none 0 0,.int .i64 0,.int .i64 0])∧i.size=5∧i.bytes=72:=any_info (by kernel_rfl)
theorem info_Rec:∃i,Tryz.prog.info? 58=some i∧i.zero=some (.agg #[.int .u32 0,.slice none 0 0,.slice none 0 0])∧i.size=3∧i.bytes=56:=any_info (by kernel_rfl)
def withMark (n:Nat)(El:Nat→World→List Value→Prop)(M:World→List Value→Prop)(j:Nat)(w:World)(e:List Value):Prop:=if j<n then El j w e else M w e
theorem stays_mark {n:Nat}{El:Nat→World→List Value→Prop}{M:World→List Value→Prop}(h:Stays El)(hM:Stays (fun _=>M)):Stays (withMark n El M) where
 touch:=by
  intro j w w' F e hE t ho;unfold withMark at hE ⊢;split at hE
  case isTrue hj=>rw[if_pos hj];exact h.touch hE t ho
  case isFalse hj=>rw[if_neg hj];exact hM.touch (j:=0) hE t ho
 lt:=by
  intro j w e hE k hk;unfold withMark at hE;split at hE
  ·exact h.lt hE k hk
  ·exact hM.lt (j:=0) hE k hk
def MarkT (w:World)(e:List Value):Prop:=∃ma cm,e=[.slice ma 1 cm,.slice none 0 0]∧Rd w ma [.int .i64 77]
def MarkN (_:World)(e:List Value):Prop:=e=[.int .u8 0,.slice none 0 0,.slice none 0 0,.int .i64 77,.int .i64 0]
def MarkR (_:World)(e:List Value):Prop:=e=[.int .u32 77,.slice none 0 0,.slice none 0 0]
theorem markT_stays:Stays (fun _=>MarkT) where
 touch:=by
  rintro j w w' F e ⟨ma,cm,rfl,h⟩ t ho;exact⟨ma,cm,rfl,h.off t (fun k hk=>ho k hk ma 1 cm (by simp))⟩
 lt:=by
  rintro j w e ⟨ma,cm,rfl,h⟩ k hk a n' c' hm ad ha hb;simp only[List.mem_cons,List.mem_nil_iff,or_false,Value.slice.injEq]at hm;rcases hm with⟨rfl,_,_⟩|⟨rfl,_,_⟩
  ·have:=h.lt (by simp) ad ha;omega
  ·cases ha
theorem markN_stays:Stays (fun _=>MarkN) where
 touch:=fun h _ _=>h
 lt:=by
  rintro j w e rfl k hk a n' c' hm ad ha hb;simp at hm;obtain⟨rfl,_⟩:=hm;cases ha
theorem markR_stays:Stays (fun _=>MarkR) where
 touch:=fun h _ _=>h
 lt:=by
  rintro j w e rfl k hk a n' c' hm ad ha hb;simp at hm;obtain⟨rfl,_⟩:=hm;cases ha
theorem twinTs_in (w:World)(a:Option Addr)(n c:Nat)(Ws:List Me.Raw)(hW:WsIn w a Ws)(hl:Ws.length=n)(hn:n≤2000000) :
  Calls Tryz.prog 8 #[.slice a n c] w fun e w'=>∃a' c',e = .returned (.slice a' n c')∧n<c'∧LIn 2 (withMark n (TEl Ws) MarkT) w' a' (n+1)∧Touch No w w':=by
 have HW:=Lib.hid hW;have Hl:=Lib.hid hl;have HS:Hid (Stays (withMark n (TEl Ws) MarkT)):=stays_mark (tEl_stays _) markT_stays;obtain⟨J,hj0,hj1,hj2,hj3⟩:=info_Ten;have HJ:=Lib.hid (aI hj0 (aI hj1 (aI hj2 hj3)));clear hW hl hj0 hj1 hj2 hj3;go_enter Tryz.func8,Tryz.ntmps8;go_wp2_with (at_make;refine wpList_make_own _ rfl _ _ _ rfl w.heap.size _ J _ 2 Tryz.underlying25 HJ.out.1 HJ.out.2.1 HJ.out.2.2.1 .i64 .i64 _ (n+1) rfl rfl (by omega) (by rw[HJ.out.2.2.2];omega) (by unfold maxLen;omega) (Nat.le_refl _) ?_;intro w1 hown hgrow);have T1:Hid (Touch No w w1):=(Touch.refl No w).grown hgrow (fun k hk _=>by cases hk);have O1:Hid (LG 2 (withMark n (TEl Ws) MarkT) 51 w1 w.heap.size (.slice (some ⟨w.heap.size,0,none⟩) 0 (n+1)) 0):=⟨[],hown,fun j hj=>absurd hj (Nat.not_lt_zero j)⟩;clear hown hgrow
 go_loopg [3,4] n (fun g s3 s4 wr=>∃(k:Nat) (v:Value),k+g=n∧s4 = .int .i64 ((k:Nat):Int)∧v=s3∧Hid (LG 2 (withMark n (TEl Ws) MarkT) 51 wr w.heap.size v k)∧Hid (Touch No w wr))
 case atStart=>exact⟨0,_,by omega,rfl,rfl,O1,T1⟩
 case round =>
  obtain⟨k,v,hkg,rfl,rfl,O,T⟩:=hrel;cases gk with
  | zero =>
    obtain rfl:k=n:=by omega
    obtain⟨cs,hown,hlv⟩:=O.out;obtain⟨al,cl,hv,_⟩:=O.out.form (by decide);subst hv;obtain⟨wm,hwm⟩:∃wm,wm=wr:=⟨_,rfl⟩;subst hwm;obtain⟨wm1,hwm1,tm1,Rm1⟩:=box_row wm [.int .i64 77] 3;obtain⟨wm2,hwm2,tm2,Rm2⟩:=box_row wm1 [.slice (some ⟨wm.heap.size,0,none⟩) 1 1,.slice none 0 0] 51;have hsm:wm1.heap.size=wm.heap.size+1:=by rw[hwm1];simp
    rw[hsm]at Rm2;have Tm:=Lib.hid (tm1.trans tm2);have hvk:=Lib.hid (fun q (hk:InBlock (.slice al k cl) q)=>ownsRow_block hown hk);have hown0:=Lib.hid (ownsRow_no (ownsRow_zero hown) Tm.out);have HOW:=Lib.hid (aI (ownsRow_no hown Tm.out) (hlv.no HS.out Tm.out))
    have HMk:Hid (withMark k (TEl Ws) MarkT k wm2 [.slice (some ⟨wm.heap.size,0,none⟩) 1 1,.slice none 0 0]):=by
     show withMark k (TEl Ws) MarkT k wm2 [.slice (some ⟨wm.heap.size,0,none⟩) 1 1,.slice none 0 0]
     unfold withMark;rw[if_neg (Nat.lt_irrefl _)];exact⟨_,1,rfl,(rd_row Rm1).no (tm2)⟩
    have HOff:Hid (∀q,InBlock (.slice al k cl) q→OffE [.slice (some ⟨wm.heap.size,0,none⟩) 1 1,.slice none 0 0] q):=fun q hq a n' c' hm ad ha hb=>by
     simp only[List.mem_cons,List.mem_nil_iff,or_false,Value.slice.injEq]at hm;rcases hm with⟨rfl,_,_⟩|⟨rfl,_,_⟩
     ·cases ha;have:=(hvk.out q hq).2;dsimp only at hb;omega
     ·cases ha
    have HRm:=Lib.hid Rm2;have Hsm:=Lib.hid hsm;clear hown hlv O Rm2 tm1 tm2;go_wp2_with (at_builtin;rw[← hwm1,← hwm2];refine wpList_append_rows rfl _ _ 25 rfl 51 J _ 2 48 Tryz.underlying25 HJ.out.1 HJ.out.2.1 HJ.out.2.2.1 HJ.out.2.2.2 rfl (by decide) (.slice al k cl) k cs hown0.out rfl (some ⟨wm.heap.size+1,0,none⟩) 1 1 [.slice (some ⟨wm.heap.size,0,none⟩) 1 1,.slice none 0 0] rfl rfl (rd_row HRm.out) (by intro u hu;simp at hu;rcases hu with rfl|rfl <;> rfl) (by unfold maxLen;omega) (by omega) ?_;intro a3 c3 w3 hown3 ht3 hb3;have HG3:=Lib.hid (LG.grow HS.out HOW.out.1 HOW.out.2 hown3 ht3 hb3 (by have h1:=T.out.size;have h2:=Tm.out.size;omega) rfl HMk.out HOff.out);obtain⟨a4,c4,hv4,hc4,hL4,_⟩:=HG3.out.form (by decide);cases hv4;have hhead:=fun wx:World=>run_headS (P:=Tryz.prog) Tryz.underlying25 HJ.out.1 a3 (k+1) c3 k .i64 (show k≤c3 by omega) wx);have HF:Hid (k<c3∧LIn 2 (withMark k (TEl Ws) MarkT) w3 a3 (k+1)∧Touch No w w3):=⟨by omega,hL4,(T.out.trans Tm.out).then ht3 (fun i hi e=>absurd (hvk.out i e).1 (by omega))⟩;clear hown3 ht3 hb3 HG3 hL4 hc4;go_wp2;go_ret;exact⟨a3,c3,rfl,HF.out.1,HF.out.2.1,HF.out.2.2⟩
  | succ g =>
    have hlt:(k:Int)<(n:Nat):=by omega
    obtain⟨b,o,ea,en,ec,la,em,ed,rfl,z0,z1,hEl⟩:=(HW.out.no T.out) k (by rw[Hl.out];omega)
    skip
    have C:=Lib.hid (twinTen_in wr ea la en ec em ed (Me.rawAt Ws k).1 (Me.rawAt Ws k).2 hEl.sn (by have:=hEl.s6;omega) hEl.sr hEl.lm (by have:=hEl.l6;omega) hEl.lr);have C:=C.out;unfold TwinTen at C;rw[hEl.sn,hEl.lm]at C;have C:=Lib.hid C;have HEl:=Lib.hid hEl;clear hEl;go_wp2_with fail;refine C.out.mono ?_;rintro e w5 ⟨sa',c2,la',d2,rfl,t5,g1,g2,g3,g4,g5,g6⟩;obtain⟨w6,hw6,t6,R6⟩:=box_row w5 [.slice sa' en c2,.slice la' em d2] 51;have T6r:=Lib.hid (t5.trans t6);obtain⟨cs,hown,hlv⟩:=O.out;have hvk:=Lib.hid (fun q (hk:InBlock v q)=>ownsRow_block hown hk);have hown0:=Lib.hid (ownsRow_no (ownsRow_zero hown) T6r.out);have HOW:=Lib.hid (aI (ownsRow_no hown T6r.out) (hlv.no HS.out T6r.out));have HG5:=Lib.hid (aI g1 (aI g2 (aI g3 (aI g4 (aI g5 g6)))))
    have HMk:Hid (withMark n (TEl Ws) MarkT k w6 [.slice sa' en c2,.slice la' em d2]):=by
     have h0:TEl Ws k w5 [.slice sa' en c2,.slice la' em d2]:=⟨sa',en,c2,la',em,d2,rfl,{HEl.out with sr:=HG5.out.2.2.1.headL,lr:=HG5.out.2.2.2.1.headL,sc:=Nat.le_of_lt HG5.out.1,lc:=Nat.le_of_lt HG5.out.2.1},HG5.out.1,HG5.out.2.1,HG5.out.2.2.1,HG5.out.2.2.2.1⟩
     show withMark n (TEl Ws) MarkT k w6 [.slice sa' en c2,.slice la' em d2]
     unfold withMark;rw[if_pos (by omega)];exact(tEl_stays _).touch h0 t6 (fun q f=>f.elim)
    have HOff:Hid (∀q,InBlock v q→OffE [.slice sa' en c2,.slice la' em d2] q):=fun q hq a n' c' hm ad ha hb=>by
     simp at hm;have h1:=(hvk.out q hq).2;rcases hm with⟨rfl,_,_⟩|⟨rfl,_,_⟩
     ·have:=HG5.out.2.2.2.2.1 ad ha;omega
     ·have:=HG5.out.2.2.2.2.2 ad ha;omega
    have HR6:=Lib.hid R6;clear hown hlv t5 t6 R6 g1 g2 g3 g4 g5 g6 C;go_wp2_with (at_builtin;rw[← hw6];refine wpList_append_rows rfl _ _ 25 rfl 51 J _ 2 48 Tryz.underlying25 HJ.out.1 HJ.out.2.1 HJ.out.2.2.1 HJ.out.2.2.2 rfl (by decide) v k cs hown0.out rfl (some ⟨w5.heap.size,0,none⟩) 1 1 [.slice sa' en c2,.slice la' em d2] rfl rfl (rd_row HR6.out) (by intro u hu;simp at hu;rcases hu with rfl|rfl <;> rfl) (by unfold maxLen;omega) (by omega) ?_;intro a3 c3 w3 hown3 ht3 hb3);have HG3:=Lib.hid (LG.grow HS.out HOW.out.1 HOW.out.2 hown3 ht3 hb3 (by have h1:=T.out.size;have h2:=T6r.out.size;omega) rfl HMk.out HOff.out);have T3:Hid (Touch No w w3):=(T.out.trans T6r.out).then ht3 (fun i hi e=>absurd (hvk.out i e).1 (by omega));clear hown3 ht3 hb3 hown0 HOW HMk HOff HR6
    go_roundg g
    case measure=>omega
    case rel=>exact⟨k+1,_,by omega,by go_num,rfl,HG3,T3⟩
theorem twinNs_in (w:World)(a:Option Addr)(n c:Nat)(Ns:List Me.Node)(hW:NsIn w a Ns)(hl:Ns.length=n)(hn:n≤2000000) :
  Calls Tryz.prog 22 #[.slice a n c] w fun e w'=>∃a' c',e = .returned (.slice a' n c')∧n<c'∧LIn 5 (withMark n (NEl Ns) MarkN) w' a' (n+1)∧Touch No w w':=by
 have HW:=Lib.hid hW;have Hl:=Lib.hid hl;have HS:Hid (Stays (withMark n (NEl Ns) MarkN)):=stays_mark (nEl_stays _) markN_stays;obtain⟨J,hj0,hj1,hj2,hj3⟩:=info_Nod;have HJ:=Lib.hid (aI hj0 (aI hj1 (aI hj2 hj3)));clear hW hl hj0 hj1 hj2 hj3;go_enter Tryz.func22,Tryz.ntmps22;go_wp2_with (at_make;refine wpList_make_own _ rfl _ _ _ rfl w.heap.size _ J _ 5 Tryz.underlying22 HJ.out.1 HJ.out.2.1 HJ.out.2.2.1 .i64 .i64 _ (n+1) rfl rfl (by omega) (by rw[HJ.out.2.2.2];omega) (by unfold maxLen;omega) (Nat.le_refl _) ?_;intro w1 hown hgrow);have T1:Hid (Touch No w w1):=(Touch.refl No w).grown hgrow (fun k hk _=>by cases hk);have O1:Hid (LG 5 (withMark n (NEl Ns) MarkN) 55 w1 w.heap.size (.slice (some ⟨w.heap.size,0,none⟩) 0 (n+1)) 0):=⟨[],hown,fun j hj=>absurd hj (Nat.not_lt_zero j)⟩;clear hown hgrow
 go_loopg [3,4] n (fun g s3 s4 wr=>∃(k:Nat) (v:Value),k+g=n∧s4 = .int .i64 ((k:Nat):Int)∧v=s3∧Hid (LG 5 (withMark n (NEl Ns) MarkN) 55 wr w.heap.size v k)∧Hid (Touch No w wr))
 case atStart=>exact⟨0,_,by omega,rfl,rfl,O1,T1⟩
 case round =>
  obtain⟨k,v,hkg,rfl,rfl,O,T⟩:=hrel;cases gk with
  | zero =>
    obtain rfl:k=n:=by omega
    obtain⟨cs,hown,hlv⟩:=O.out;obtain⟨al,cl,hv,_⟩:=O.out.form (by decide);subst hv;obtain⟨wm,hwm⟩:∃wm,wm=wr:=⟨_,rfl⟩;subst hwm;obtain⟨wm1,hwm1,tm1⟩:∃wm1:World,wm1=wm∧Touch No wm wm1:=⟨_,rfl,Touch.refl _ _⟩;subst hwm1;obtain⟨wm2,hwm2,tm2,Rm2⟩:=box_row wm1 [.int .u8 0,.slice none 0 0,.slice none 0 0,.int .i64 77,.int .i64 0] 55;have hsm:True:=trivial;have Tm:=Lib.hid (tm1.trans tm2);have hvk:=Lib.hid (fun q (hk:InBlock (.slice al k cl) q)=>ownsRow_block hown hk);have hown0:=Lib.hid (ownsRow_no (ownsRow_zero hown) Tm.out);have HOW:=Lib.hid (aI (ownsRow_no hown Tm.out) (hlv.no HS.out Tm.out))
    have HMk:Hid (withMark k (NEl Ns) MarkN k wm2 [.int .u8 0,.slice none 0 0,.slice none 0 0,.int .i64 77,.int .i64 0]):=by
     show withMark k (NEl Ns) MarkN k wm2 [.int .u8 0,.slice none 0 0,.slice none 0 0,.int .i64 77,.int .i64 0]
     unfold withMark;rw[if_neg (Nat.lt_irrefl _)];exact rfl
    have HOff:Hid (∀q,InBlock (.slice al k cl) q→OffE [.int .u8 0,.slice none 0 0,.slice none 0 0,.int .i64 77,.int .i64 0] q):=fun q hq a n' c' hm ad ha hb=>by
     simp at hm;obtain⟨rfl,_⟩:=hm;cases ha
    have HRm:=Lib.hid Rm2;have Hsm:=Lib.hid hsm;clear hown hlv O Rm2 tm1 tm2;go_wp2_with (at_builtin;rw[← hwm2];refine wpList_append_rows rfl _ _ 22 rfl 55 J _ 5 72 Tryz.underlying22 HJ.out.1 HJ.out.2.1 HJ.out.2.2.1 HJ.out.2.2.2 rfl (by decide) (.slice al k cl) k cs hown0.out rfl (some ⟨wm1.heap.size,0,none⟩) 1 1 [.int .u8 0,.slice none 0 0,.slice none 0 0,.int .i64 77,.int .i64 0] rfl rfl (rd_row HRm.out) (by intro u hu;simp at hu;rcases hu with rfl|rfl|rfl|rfl|rfl <;> rfl) (by unfold maxLen;omega) (by omega) ?_;intro a3 c3 w3 hown3 ht3 hb3;have HG3:=Lib.hid (LG.grow HS.out HOW.out.1 HOW.out.2 hown3 ht3 hb3 (by have h1:=T.out.size;have h2:=Tm.out.size;omega) rfl HMk.out HOff.out);obtain⟨a4,c4,hv4,hc4,hL4,_⟩:=HG3.out.form (by decide);cases hv4;have hhead:=fun wx:World=>run_headS (P:=Tryz.prog) Tryz.underlying22 HJ.out.1 a3 (k+1) c3 k .i64 (show k≤c3 by omega) wx);have HF:Hid (k<c3∧LIn 5 (withMark k (NEl Ns) MarkN) w3 a3 (k+1)∧Touch No w w3):=⟨by omega,hL4,(T.out.trans Tm.out).then ht3 (fun i hi e=>absurd (hvk.out i e).1 (by omega))⟩;clear hown3 ht3 hb3 HG3 hL4 hc4;go_wp2;go_ret;exact⟨a3,c3,rfl,HF.out.1,HF.out.2.1,HF.out.2.2⟩
  | succ g =>
    have hlt:(k:Int)<(n:Nat):=by omega
    obtain⟨b,o,ea,en,ec,la,em,ed,rfl,⟨z0,z1,z2,z3,z4⟩,hEl⟩:=(HW.out.no T.out) k (by rw[Hl.out];omega);obtain⟨kd,hkd⟩:∃z,(((Me.nodeAt Ns k).kind:Nat):Int)=z:=⟨_,rfl⟩;obtain⟨NN,hNN⟩:∃z,(Me.nodeAt Ns k).n=z:=⟨_,rfl⟩;obtain⟨PP,hPP⟩:∃z,(Me.nodeAt Ns k).pad=z:=⟨_,rfl⟩;rw[hkd]at z0;rw[hNN]at z3;rw[hPP]at z4;have HNm:=Lib.hid (aI hkd (aI hNN hPP));clear hkd hNN hPP;have C:=Lib.hid (twinNode_in wr ea la en ec em ed kd NN PP (Me.nodeAt Ns k).inn (Me.nodeAt Ns k).shape hEl.il (by have:=hEl.i6;omega) hEl.ir hEl.sl (by have:=hEl.s6;omega) hEl.sr)
    skip
    have HEl:=Lib.hid hEl;clear hEl;go_wp2_with fail;refine C.out.mono ?_;rintro e w5 ⟨sa',c2,la',d2,rfl,t5,g1,g2,g3,g4,g5,g6⟩;obtain⟨w6,hw6,t6,R6⟩:=box_row w5 [.int .u8 kd,.slice sa' en c2,.slice la' em d2,.int .i64 NN,.int .i64 PP] 55;have T6r:=Lib.hid (t5.trans t6);obtain⟨cs,hown,hlv⟩:=O.out;have hvk:=Lib.hid (fun q (hk:InBlock v q)=>ownsRow_block hown hk);have hown0:=Lib.hid (ownsRow_no (ownsRow_zero hown) T6r.out);have HOW:=Lib.hid (aI (ownsRow_no hown T6r.out) (hlv.no HS.out T6r.out));have HG5:=Lib.hid (aI g1 (aI g2 (aI g3 (aI g4 (aI g5 g6)))))
    have HMk:Hid (withMark n (NEl Ns) MarkN k w6 [.int .u8 kd,.slice sa' en c2,.slice la' em d2,.int .i64 NN,.int .i64 PP]):=by
     have h0:NEl Ns k w5 [.int .u8 kd,.slice sa' en c2,.slice la' em d2,.int .i64 NN,.int .i64 PP]:=⟨sa',en,c2,la',em,d2,by rw[HNm.out.1,HNm.out.2.1,HNm.out.2.2],{HEl.out with ir:=HG5.out.2.2.1.headL,sr:=HG5.out.2.2.2.1.headL,ic:=Nat.le_of_lt HG5.out.1,sc:=Nat.le_of_lt HG5.out.2.1},HG5.out.1,HG5.out.2.1,HG5.out.2.2.1,HG5.out.2.2.2.1⟩
     show withMark n (NEl Ns) MarkN k w6 [.int .u8 kd,.slice sa' en c2,.slice la' em d2,.int .i64 NN,.int .i64 PP]
     unfold withMark;rw[if_pos (by omega)];exact(nEl_stays _).touch h0 t6 (fun q f=>f.elim)
    have HOff:Hid (∀q,InBlock v q→OffE [.int .u8 kd,.slice sa' en c2,.slice la' em d2,.int .i64 NN,.int .i64 PP] q):=fun q hq a n' c' hm ad ha hb=>by
     simp at hm;have h1:=(hvk.out q hq).2;rcases hm with⟨rfl,_,_⟩|⟨rfl,_,_⟩
     ·have:=HG5.out.2.2.2.2.1 ad ha;omega
     ·have:=HG5.out.2.2.2.2.2 ad ha;omega
    have HR6:=Lib.hid R6;clear hown hlv t5 t6 R6 g1 g2 g3 g4 g5 g6 C;go_wp2_with (at_builtin;rw[← hw6];refine wpList_append_rows rfl _ _ 22 rfl 55 J _ 5 72 Tryz.underlying22 HJ.out.1 HJ.out.2.1 HJ.out.2.2.1 HJ.out.2.2.2 rfl (by decide) v k cs hown0.out rfl (some ⟨w5.heap.size,0,none⟩) 1 1 [.int .u8 kd,.slice sa' en c2,.slice la' em d2,.int .i64 NN,.int .i64 PP] rfl rfl (rd_row HR6.out) (by intro u hu;simp at hu;rcases hu with rfl|rfl|rfl|rfl|rfl <;> rfl) (by unfold maxLen;omega) (by omega) ?_;intro a3 c3 w3 hown3 ht3 hb3);have HG3:=Lib.hid (LG.grow HS.out HOW.out.1 HOW.out.2 hown3 ht3 hb3 (by have h1:=T.out.size;have h2:=T6r.out.size;omega) rfl HMk.out HOff.out);have T3:Hid (Touch No w w3):=(T.out.trans T6r.out).then ht3 (fun i hi e=>absurd (hvk.out i e).1 (by omega));clear hown3 ht3 hb3 hown0 HOW HMk HOff HR6
    go_roundg g
    case measure=>omega
    case rel=>exact⟨k+1,_,by omega,by go_num,rfl,HG3,T3⟩
theorem twinRs_in (w:World)(a:Option Addr)(n c:Nat)(Rc:List (Int × Me.Raw))(hW:RcIn w a Rc)(hl:Rc.length=n)(hn:n≤2000000) :
  Calls Tryz.prog 9 #[.slice a n c] w fun e w'=>∃a' c',e = .returned (.slice a' n c')∧n<c'∧LIn 3 (withMark n (REl Rc) MarkR) w' a' (n+1)∧Touch No w w':=by
 have HW:=Lib.hid hW;have Hl:=Lib.hid hl;have HS:Hid (Stays (withMark n (REl Rc) MarkR)):=stays_mark (rEl_stays _) markR_stays;obtain⟨J,hj0,hj1,hj2,hj3⟩:=info_Rec;have HJ:=Lib.hid (aI hj0 (aI hj1 (aI hj2 hj3)));clear hW hl hj0 hj1 hj2 hj3;go_enter Tryz.func9,Tryz.ntmps9;go_wp2_with (at_make;refine wpList_make_own _ rfl _ _ _ rfl w.heap.size _ J _ 3 Tryz.underlying29 HJ.out.1 HJ.out.2.1 HJ.out.2.2.1 .i64 .i64 _ (n+1) rfl rfl (by omega) (by rw[HJ.out.2.2.2];omega) (by unfold maxLen;omega) (Nat.le_refl _) ?_;intro w1 hown hgrow);have T1:Hid (Touch No w w1):=(Touch.refl No w).grown hgrow (fun k hk _=>by cases hk);have O1:Hid (LG 3 (withMark n (REl Rc) MarkR) 58 w1 w.heap.size (.slice (some ⟨w.heap.size,0,none⟩) 0 (n+1)) 0):=⟨[],hown,fun j hj=>absurd hj (Nat.not_lt_zero j)⟩;clear hown hgrow
 go_loopg [3,4] n (fun g s3 s4 wr=>∃(k:Nat) (v:Value),k+g=n∧s4 = .int .i64 ((k:Nat):Int)∧v=s3∧Hid (LG 3 (withMark n (REl Rc) MarkR) 58 wr w.heap.size v k)∧Hid (Touch No w wr))
 case atStart=>exact⟨0,_,by omega,rfl,rfl,O1,T1⟩
 case round =>
  obtain⟨k,v,hkg,rfl,rfl,O,T⟩:=hrel;cases gk with
  | zero =>
    obtain rfl:k=n:=by omega
    obtain⟨cs,hown,hlv⟩:=O.out;obtain⟨al,cl,hv,_⟩:=O.out.form (by decide);subst hv;obtain⟨wm,hwm⟩:∃wm,wm=wr:=⟨_,rfl⟩;subst hwm;obtain⟨wm1,hwm1,tm1⟩:∃wm1:World,wm1=wm∧Touch No wm wm1:=⟨_,rfl,Touch.refl _ _⟩;subst hwm1;obtain⟨wm2,hwm2,tm2,Rm2⟩:=box_row wm1 [.int .u32 77,.slice none 0 0,.slice none 0 0] 58;have hsm:True:=trivial;have Tm:=Lib.hid (tm1.trans tm2);have hvk:=Lib.hid (fun q (hk:InBlock (.slice al k cl) q)=>ownsRow_block hown hk);have hown0:=Lib.hid (ownsRow_no (ownsRow_zero hown) Tm.out);have HOW:=Lib.hid (aI (ownsRow_no hown Tm.out) (hlv.no HS.out Tm.out))
    have HMk:Hid (withMark k (REl Rc) MarkR k wm2 [.int .u32 77,.slice none 0 0,.slice none 0 0]):=by
     show withMark k (REl Rc) MarkR k wm2 [.int .u32 77,.slice none 0 0,.slice none 0 0]
     unfold withMark;rw[if_neg (Nat.lt_irrefl _)];exact rfl
    have HOff:Hid (∀q,InBlock (.slice al k cl) q→OffE [.int .u32 77,.slice none 0 0,.slice none 0 0] q):=fun q hq a n' c' hm ad ha hb=>by
     simp at hm;obtain⟨rfl,_⟩:=hm;cases ha
    have HRm:=Lib.hid Rm2;have Hsm:=Lib.hid hsm;clear hown hlv O Rm2 tm1 tm2;go_wp2_with (at_builtin;rw[← hwm2];refine wpList_append_rows rfl _ _ 29 rfl 58 J _ 3 56 Tryz.underlying29 HJ.out.1 HJ.out.2.1 HJ.out.2.2.1 HJ.out.2.2.2 rfl (by decide) (.slice al k cl) k cs hown0.out rfl (some ⟨wm1.heap.size,0,none⟩) 1 1 [.int .u32 77,.slice none 0 0,.slice none 0 0] rfl rfl (rd_row HRm.out) (by intro u hu;simp at hu;rcases hu with rfl|rfl|rfl <;> rfl) (by unfold maxLen;omega) (by omega) ?_;intro a3 c3 w3 hown3 ht3 hb3;have HG3:=Lib.hid (LG.grow HS.out HOW.out.1 HOW.out.2 hown3 ht3 hb3 (by have h1:=T.out.size;have h2:=Tm.out.size;omega) rfl HMk.out HOff.out);obtain⟨a4,c4,hv4,hc4,hL4,_⟩:=HG3.out.form (by decide);cases hv4;have hhead:=fun wx:World=>run_headS (P:=Tryz.prog) Tryz.underlying29 HJ.out.1 a3 (k+1) c3 k .i64 (show k≤c3 by omega) wx);have HF:Hid (k<c3∧LIn 3 (withMark k (REl Rc) MarkR) w3 a3 (k+1)∧Touch No w w3):=⟨by omega,hL4,(T.out.trans Tm.out).then ht3 (fun i hi e=>absurd (hvk.out i e).1 (by omega))⟩;clear hown3 ht3 hb3 HG3 hL4 hc4;go_wp2;go_ret;exact⟨a3,c3,rfl,HF.out.1,HF.out.2.1,HF.out.2.2⟩
  | succ g =>
    have hlt:(k:Int)<(n:Nat):=by omega
    obtain⟨b,o,ea,en,ec,la,em,ed,rfl,z0,z1,z2,hEl⟩:=(HW.out.no T.out) k (by rw[Hl.out];omega);replace z0:wr.cell? ⟨b,o+k*3,none⟩=some (.int .u32 (Me.recAt Rc k).1):=z0;replace hEl:RIn wr ea en ec la em ed (Me.recAt Rc k).2:=hEl;obtain⟨ix,hix⟩:∃z,(Me.recAt Rc k).1=z:=⟨_,rfl⟩;rw[hix]at z0;have HNm:=Lib.hid hix;clear hix;have C:=Lib.hid (twinRec_in wr ea la en ec em ed ix (Me.recAt Rc k).2.1 (Me.recAt Rc k).2.2 hEl.sn (by have:=hEl.s6;omega) hEl.sr hEl.lm (by have:=hEl.l6;omega) hEl.lr)
    skip
    have HEl:=Lib.hid hEl;clear hEl;go_wp2_with fail;refine C.out.mono ?_;rintro e w5 ⟨sa',c2,la',d2,rfl,t5,g1,g2,g3,g4,g5,g6⟩;obtain⟨w6,hw6,t6,R6⟩:=box_row w5 [.int .u32 ix,.slice sa' en c2,.slice la' em d2] 58;have T6r:=Lib.hid (t5.trans t6);obtain⟨cs,hown,hlv⟩:=O.out;have hvk:=Lib.hid (fun q (hk:InBlock v q)=>ownsRow_block hown hk);have hown0:=Lib.hid (ownsRow_no (ownsRow_zero hown) T6r.out);have HOW:=Lib.hid (aI (ownsRow_no hown T6r.out) (hlv.no HS.out T6r.out));have HG5:=Lib.hid (aI g1 (aI g2 (aI g3 (aI g4 (aI g5 g6)))))
    have HMk:Hid (withMark n (REl Rc) MarkR k w6 [.int .u32 ix,.slice sa' en c2,.slice la' em d2]):=by
     have h0:REl Rc k w5 [.int .u32 ix,.slice sa' en c2,.slice la' em d2]:=⟨_,by rw[HNm.out],sa',en,c2,la',em,d2,rfl,{HEl.out with sr:=HG5.out.2.2.1.headL,lr:=HG5.out.2.2.2.1.headL,sc:=Nat.le_of_lt HG5.out.1,lc:=Nat.le_of_lt HG5.out.2.1},HG5.out.1,HG5.out.2.1,HG5.out.2.2.1,HG5.out.2.2.2.1⟩
     show withMark n (REl Rc) MarkR k w6 [.int .u32 ix,.slice sa' en c2,.slice la' em d2]
     unfold withMark;rw[if_pos (by omega)];exact(rEl_stays _).touch h0 t6 (fun q f=>f.elim)
    have HOff:Hid (∀q,InBlock v q→OffE [.int .u32 ix,.slice sa' en c2,.slice la' em d2] q):=fun q hq a n' c' hm ad ha hb=>by
     simp at hm;have h1:=(hvk.out q hq).2;rcases hm with⟨rfl,_,_⟩|⟨rfl,_,_⟩
     ·have:=HG5.out.2.2.2.2.1 ad ha;omega
     ·have:=HG5.out.2.2.2.2.2 ad ha;omega
    have HR6:=Lib.hid R6;clear hown hlv t5 t6 R6 g1 g2 g3 g4 g5 g6 C;go_wp2_with (at_builtin;rw[← hw6];refine wpList_append_rows rfl _ _ 29 rfl 58 J _ 3 56 Tryz.underlying29 HJ.out.1 HJ.out.2.1 HJ.out.2.2.1 HJ.out.2.2.2 rfl (by decide) v k cs hown0.out rfl (some ⟨w5.heap.size,0,none⟩) 1 1 [.int .u32 ix,.slice sa' en c2,.slice la' em d2] rfl rfl (rd_row HR6.out) (by intro u hu;simp at hu;rcases hu with rfl|rfl|rfl <;> rfl) (by unfold maxLen;omega) (by omega) ?_;intro a3 c3 w3 hown3 ht3 hb3);have HG3:=Lib.hid (LG.grow HS.out HOW.out.1 HOW.out.2 hown3 ht3 hb3 (by have h1:=T.out.size;have h2:=T6r.out.size;omega) rfl HMk.out HOff.out);have T3:Hid (Touch No w w3):=(T.out.trans T6r.out).then ht3 (fun i hi e=>absurd (hvk.out i e).1 (by omega));clear hown3 ht3 hb3 hown0 HOW HMk HOff HR6
    go_roundg g
    case measure=>omega
    case rel=>exact⟨k+1,_,by omega,by go_num,rfl,HG3,T3⟩
end
end Go.Proofs.YtjlphmmalebgpaaGreat
