/-
  A part of the proof.
-/
import Derived.Test.YtjlphmmalebgpaaGreatK35
set_option linter.unusedSimpArgs false
set_option linter.unusedVariables false
set_option maxHeartbeats 2000000
set_option maxRecDepth 100000
namespace Go.Proofs.YtjlphmmalebgpaaGreat
section
open Go Go.RowKit
namespace Me
def FitAt (g:List Node)(ws:List Raw)(input:Raw)(i:Nat):Prop :=
 ((nodeAt g i).kind=1→fitsR input (nodeAt g i).shape=true)∧((nodeAt g i).kind=2→fitsR (rawAt ws (weights g i).length) (nodeAt g i).shape=true)
theorem allGo_len:∀{r:List Node} {ws:List Raw} {input:Raw} {Ts:List Ten} {k:Nat} {O:List Ten},allGo ws input r Ts k=some O→O.length=Ts.length+r.length:=by
 intro r
 induction r with
 | nil=>intro ws input Ts k O h;rw[allGo]at h;cases h;rfl
 | cons x r ih =>
   intro ws input Ts k O h;rw[allGo]at h;split at h
   ·split at h
    ·have:=ih h;simp only[List.length_append,List.length_cons,List.length_nil]at this ⊢;omega
    ·cases h
   ·split at h
    ·split at h
     ·have:=ih h;simp only[List.length_append,List.length_cons,List.length_nil]at this ⊢;omega
     ·cases h
    ·have:=ih h;simp only[List.length_append,List.length_cons,List.length_nil]at this ⊢;omega
theorem allGo_fit (g:List Node)(ws:List Raw)(input:Raw):∀(n i:Nat) (Ts:List Ten),i+n=g.length→((allGo ws input (g.drop i) Ts (weights g i).length).isSome=true↔∀j,i≤j→j<g.length→FitAt g ws input j):=by
 intro n
 induction n with
 | zero =>
   intro i Ts h;rw[List.drop_of_length_le (by omega),allGo];exact iff_of_true rfl fun j h1 h2=>by omega
 | succ n ih =>
   intro i Ts h;have hi:i<g.length:=by omega
   have step:∀Ts' k',k'=(weights g (i+1)).length→FitAt g ws input i→((allGo ws input (g.drop (i+1)) Ts' k').isSome=true↔∀j,i≤j→j<g.length→FitAt g ws input j):=fun Ts' k' hk hf=>by
    rw[hk,ih (i+1) Ts' (by omega)];constructor
    ·intro H j h1 h2
     rcases Nat.lt_or_ge i j with h3|h3
     ·exact H j h3 h2
     ·obtain rfl:i=j:=by omega
      exact hf
    ·intro H j h1 h2;exact H j (by omega) h2
   have no:¬FitAt g ws input i→((none:Option (List Ten)).isSome=true↔∀j,i≤j→j<g.length→FitAt g ws input j):=fun hn =>
    iff_of_false (by simp) fun H=>hn (H i (Nat.le_refl _) hi)
   by_cases h1:(nodeAt g i).kind=1
   ·have hw:(weights g i).length=(weights g (i+1)).length:=by rw[weights,if_neg (by omega)]
    cases hf:fitsR input (nodeAt g i).shape with
    | true=>rw[all_in hi h1 hf];exact step _ _ hw ⟨fun _=>hf,fun h=>by omega⟩
    | false=>rw[all_in_no hi h1 hf];exact no fun H=>by have:=H.1 h1;rw[hf]at this;cases this
   ·by_cases h2:(nodeAt g i).kind=2
    ·have hw:(weights g i).length+1=(weights g (i+1)).length:=by rw[weights,if_pos h2,List.length_append];rfl
     cases hf:fitsR (rawAt ws (weights g i).length) (nodeAt g i).shape with
     | true=>rw[all_w hi h2 hf];exact step _ _ hw ⟨fun h=>by omega,fun _=>hf⟩
     | false=>rw[all_w_no hi h2 hf];exact no fun H=>by have:=H.2 h2;rw[hf]at this;cases this
    ·have hw:(weights g i).length=(weights g (i+1)).length:=by rw[weights,if_neg h2]
     rw[drop_node hi,allGo,if_neg h1,if_neg h2];exact step _ _ hw ⟨fun h=>by omega,fun h=>by omega⟩
theorem weights_get {g:List Node}:∀{n i:Nat},i<n→(nodeAt g i).kind=2→(weights g n)[(weights g i).length]? = some i:=by
 intro n
 induction n with
 | zero=>intro i h;omega
 | succ n ih =>
   intro i h hk;rw[weights];rcases Nat.lt_or_ge i n with h1|h1
   ·have:=ih h1 hk
    split
    ·rw[List.getElem?_append_left]
     ·exact this
     ·rcases Nat.lt_or_ge (weights g i).length (weights g n).length with h2|h2
      ·exact h2
      ·rw[Lgn h2]at this;cases this
    ·exact this
   ·obtain rfl:i=n:=by omega
    rw[if_pos hk,List.getElem?_append_right (Nat.le_refl _),Nat.sub_self];rfl
theorem weights_of {g:List Node}:∀{n j i:Nat},(weights g n)[j]? = some i→i<n∧(nodeAt g i).kind=2∧(weights g i).length=j:=by
 intro n
 induction n with
 | zero=>intro j i h;rw[weights]at h;simp at h
 | succ n ih =>
   intro j i h;rw[weights]at h;split at h
   case isTrue hk =>
    rcases Nat.lt_or_ge j (weights g n).length with h1|h1
    ·rw[List.getElem?_append_left h1]at h
     have:=ih h;exact⟨by omega,this.2⟩
    ·rw[List.getElem?_append_right h1]at h
     have hj:j-(weights g n).length=0:=by
      rcases Nat.eq_zero_or_pos (j-(weights g n).length) with h2|h2
      ·exact h2
      ·rw[Lgn (by simp only[List.length_singleton];exact h2)]at h;cases h
     rw[hj]at h;simp at h;subst h;exact⟨by omega,hk,by omega⟩
   case isFalse hk =>
    have:=ih h;exact⟨by omega,this.2⟩
theorem inputs_le_take (g:List Node)(i j:Nat)(h:i≤j):inputs (g.take i)≤inputs (g.take j):=by
 unfold inputs;refine((List.Sublist.filter _ ?_)).length_le;have:g.take i=(g.take j).take i:=by rw[List.take_take];congr 1;omega
 rw[this];exact List.take_sublist _ _
theorem input_at {g:List Node}(h:inputs g=1):∃p,p<g.length∧(nodeAt g p).kind=1∧(∀j,j<p→(nodeAt g j).kind≠1)∧∀j,j<g.length→(nodeAt g j).kind=1→j=p:=by
 have hex:∃p,p<g.length∧(nodeAt g p).kind=1:=by
  unfold inputs at h
  obtain⟨x,hx⟩:∃x:Node,x∈g.filter fun x:Node=>decide (x.kind=1):=by
   cases hl:g.filter fun x:Node=>decide (x.kind=1) with
   | nil=>rw[hl]at h;cases h
   | cons x r=>exact⟨x,List.mem_cons_self ..⟩
  obtain⟨h1,h2⟩:=List.mem_filter.1 hx;obtain⟨p,hp,he⟩:=List.mem_iff_getElem.1 h1;refine⟨p,hp,?_⟩;rw[nodeAt,Lgd,Lge hp,he]
  simpa using h2
 obtain⟨p,hp,hk⟩:=hex;obtain⟨h0,h1⟩:=inputs_one h hp hk
 have uniq:∀j,j<g.length→(nodeAt g j).kind=1→j=p:=fun j hj hkj=>by
  obtain⟨k0,k1⟩:=inputs_one h hj hkj;rcases Nat.lt_trichotomy j p with h2|h2|h2
  ·have:=inputs_le_take g (j+1) p (by omega);omega
  ·exact h2
  ·have:=inputs_le_take g (p+1) j (by omega);omega
 exact⟨p,hp,hk,fun j hj hkj=>by have:=uniq j (by omega) hkj;omega,uniq⟩
theorem all_some {g:List Node}{ws:List Raw}{input:Raw}(hs:(shapes g).isSome=true){p:Nat}(hp:p<g.length)(hk:(nodeAt g p).kind=1)(hu:∀j,j<g.length→(nodeAt g j).kind=1→j=p) :
  (all g ws input).isSome=true↔fitsR input (nodeAt g p).shape=true∧ws.length=(weights g g.length).length∧∀j,j<(weights g g.length).length→fitsR (rawAt ws j) (nodeAt g ((weights g g.length).getD j 0)).shape=true:=by
 unfold all;constructor
 ·intro h
  split at h
  case isTrue hh =>
   have H:=(allGo_fit g ws input g.length 0 [] (by omega)).1 h;refine⟨(H p (Nat.zero_le _) hp).1 hk,hh.2,fun j hj=>?_⟩;obtain⟨i,hi⟩:∃i,(weights g g.length)[j]? = some i:=⟨_,Lge hj⟩;obtain⟨h1,h2,h3⟩:=weights_of hi;rw[Lgd,hi];have:=(H i (Nat.zero_le _) h1).2 h2;rw[h3]at this;exact this
  case isFalse=>cases h
 ·rintro⟨h1,h2,h3⟩
  rw[if_pos ⟨hs,h2⟩];refine(allGo_fit g ws input g.length 0 [] (by omega)).2 fun j _ hj=>⟨fun hk1=>?_,fun hk2=>?_⟩
  ·rw[hu j hj hk1];exact h1
  ·have hg:=weights_get hj hk2
   have hlt:(weights g j).length<(weights g g.length).length:=by
    rcases Nat.lt_or_ge (weights g j).length (weights g g.length).length with h|h
    ·exact h
    ·rw[Lgn h]at hg;cases hg
   have:=h3 _ hlt;rw[Lgd,hg]at this;exact this
theorem all_none {g:List Node}{ws:List Raw}{input:Raw}(hs:(shapes g).isSome=false):all g ws input=none:=by
 unfold all;rw[if_neg];rintro⟨h,_⟩;rw[hs]at h;cases h
theorem shapes_inputs {g:List Node}(h:(shapes g).isSome=true):(1≤g.length∧g.length≤32)∧inputs g=1∧∃l,shapesGo g []=some l:=by
 unfold shapes at h;split at h
 case isTrue hh=>exact⟨hh.1,hh.2.1,by cases h':shapesGo g [] with|none=>rw[h']at h;cases h|some l=>exact⟨l,rfl⟩⟩
 case isFalse=>cases h
theorem all_len {g:List Node}{ws:List Raw}{input:Raw}{O:List Ten}(h:all g ws input=some O):O.length=g.length∧1≤g.length:=by
 unfold all at h;split at h
 case isTrue hh =>
  have:=allGo_len h;exact⟨by simpa using this,(shapes_inputs hh.1).1.1⟩
 case isFalse=>cases h
end Me
end
section
open Go Go.RowKit
theorem refGiven_in (w:World)(a wa sa la:Option Addr)(mm cap wn wc n c m d:Nat)(Ns:List Me.Node)(Ws:List Me.Raw)(input:Me.Raw)(hN:NsIn w a Ns)(hm:Ns.length=mm)(hm6:mm≤1000)(hW:WsIn w wa Ws)(hWl:Ws.length=wn)(hW6:wn≤2000000)(hI:RIn w sa n c la m d input) :
  Calls Tryz.prog 68 #[.agg #[.slice a mm cap],.slice wa wn wc,.agg #[.slice sa n c,.slice la m d]] w fun e w'=>e = .returned (.bool (Me.all Ns Ws input).isSome)∧Touch No w w':=by
 obtain⟨w1,hw1,t1,R1,R2,hs1⟩:=rows_2 w [.slice a mm cap] [.slice sa n c,.slice la m d] 24 51;obtain⟨Z,hZ⟩:∃Z,Me.all Ns Ws input=Z:=⟨_,rfl⟩;obtain⟨bs,hbs⟩:∃bs,(Me.shapes Ns).isSome=bs:=⟨_,rfl⟩;rw[hZ];have C1:=Lib.hid (fun p:KW w1=>refCheck10_in p.wd a mm cap Ns (hN.no (t1.trans p.no)) hm hm6);rw[hbs]at C1;obtain⟨X,hX⟩:∃X,X=w.heap.size:=⟨_,rfl⟩;rw[← hX]at R1 R2;have k0:=KW.cell (v:=.slice a mm cap) (R1.cell 0);have HT1:=Lib.hid t1;have HR1:=Lib.hid R1;cases bs with
 | false =>
   have HE:Hid (Z=none):=by rw[← hZ];exact Me.all_none hbs
   clear hN hm hW hWl hI hZ hbs t1 R1 R2 hs1;go_enter Tryz.func68,Tryz.ntmps68;go_upto_region 1 with fail;rw[← hw1,← hX];clear hw1 hX;refine wp_region_kept (by kernel_rfl) (by kernel_rfl) ?_;repeat (first|go_big_quiet_step (with_reducible exact Calls.kept_of (C1.out _))|quiet_step (with_reducible exact Calls.kept_of (C1.out _)))
   refine wpQuiet_nil ?_;intro _ hw';obtain⟨kw,hw''⟩:=hw';subst hw'';obtain⟨wk,tk⟩:=kw;have tk:=Lib.hid tk;dsimp only;go_wp2;go_ret;rw[HE.out];exact⟨rfl,HT1.out.trans tk.out⟩
 | true =>
   obtain⟨h132,hin,_⟩:=Me.shapes_inputs hbs;obtain⟨p,hp,hpk,hpl,hpu⟩:=Me.input_at hin;have hEQ:=Me.all_some (ws:=Ws) (input:=input) hbs hp hpk hpu;rw[hZ,hm,hWl]at hEQ;rw[hm]at hp;have C2:=Lib.hid (fun q:KW w1=>refInput_in q.wd a mm cap p Ns (hN.no (t1.trans q.no)) hm hm6 hp hpk hpl);obtain⟨b,o,ia,nn,cc,xa,n',c',rfl,⟨h0,h1,h2,h3,h4⟩,hx⟩:=(hN.no t1) p (by rw[hm];exact hp);obtain⟨x,hxx⟩:∃x,Me.nodeAt Ns p=x:=⟨_,rfl⟩;rw[hxx]at hx hEQ;obtain⟨bf,hbf⟩:∃bf,Me.fitsR input x.shape=bf:=⟨_,rfl⟩;have C3:=Lib.hid (fun q:KW w1=>refFits_any q.wd sa la xa n c m d n' c' input x.shape (hI.no (t1.trans q.no)) (hx.sr.no q.no) hx.sl hx.s6);rw[hbf]at C3 hEQ;obtain⟨Q,hQ⟩:∃Q,(Me.weights Ns mm).length=Q:=⟨_,rfl⟩;rw[hQ]at hEQ;have HEQ:=Lib.hid hEQ;have HN:=Lib.hid hN;have HM:=Lib.hid hm;have HWs:=Lib.hid (aI hW hWl);have HQ:=Lib.hid hQ;have k1:=KW.cell h2;have k2:=KW.cell (v:=.slice sa n c) (R2.cell 0);have k3:=KW.cell (v:=.slice la m d) (R2.cell 1);have hpm:(p:Int)<(mm:Nat):=by omega
   have hb32:mm≤32:=by rw[← hm];exact h132.2
   clear hN hm hW hWl hI hZ hbs t1 R1 R2 hs1 h132 hin hpk hpl hpu hEQ hQ h0 h1 h2 h3 h4 hx hxx hbf;go_enter Tryz.func68,Tryz.ntmps68;go_upto_region 1 with fail;rw[← hw1,← hX];clear hw1 hX;cases bf with
   | false =>
     refine wp_region_kept (by kernel_rfl) (by kernel_rfl) ?_;repeat (first|go_big_quiet_step (first|with_reducible exact Calls.kept_of (C1.out _)|with_reducible exact Calls.kept_of (C2.out _)|with_reducible exact Calls.kept_of (C3.out _))|quiet_step (first|with_reducible exact Calls.kept_of (C1.out _)|with_reducible exact Calls.kept_of (C2.out _)|with_reducible exact Calls.kept_of (C3.out _)))
     refine wpQuiet_nil ?_;intro _ hw';obtain⟨kw,hw''⟩:=hw';subst hw'';obtain⟨wk,tk⟩:=kw;have tk:=Lib.hid tk;dsimp only
     have HE:Hid (Z.isSome=false):=by
      show _=_
      cases hz:Z.isSome with
      | false=>rfl
      | true=>have:=(HEQ.out.1 hz).1;cases this
     go_wp2;go_ret;rw[HE.out];exact⟨rfl,HT1.out.trans tk.out⟩
   | true =>
     refine wp_region_kept (by kernel_rfl) (by kernel_rfl) ?_;repeat (first|go_big_quiet_step (first|with_reducible exact Calls.kept_of (C1.out _)|with_reducible exact Calls.kept_of (C2.out _)|with_reducible exact Calls.kept_of (C3.out _))|quiet_step (first|with_reducible exact Calls.kept_of (C1.out _)|with_reducible exact Calls.kept_of (C2.out _)|with_reducible exact Calls.kept_of (C3.out _)))
     refine wpQuiet_nil ?_;intro _ hw';obtain⟨kw,hw''⟩:=hw';subst hw'';obtain⟨wk,tk⟩:=kw;have tk:=Lib.hid tk;dsimp only;have T2:=Lib.hid (HT1.out.trans tk.out);have k4:=(HR1.out.touch tk.out id).cell 0;have HR2:=Lib.hid (HR1.out.touch tk.out id);simp only[Lz0]at k4;have C4:=Lib.hid (refWeights_in wk (some ⟨b,o,none⟩) mm cap Ns (HN.out.no T2.out) HM.out hm6);rw[HQ.out]at C4;clear k0 k1 k2 k3 C1 C2 C3 hpm;have hQ32:Q≤32:=by have:=Me.weights_len Ns mm;rw[HQ.out]at this;omega
     go_wp2_with fail;refine C4.out.mono ?_;rintro e w3 ⟨a5,c5,rfl,hc5,hr5,t3⟩;have T3:=Lib.hid (T2.out.trans t3);have HR3:=Lib.hid (HR2.out.touch t3 id);have HL5:=Lib.hid hr5;clear k4 t3 hr5 C4
     by_cases hq:Q=wn
     ·subst hq
      have f1:((Q:Int) != (Q:Int))=false:=by simp
      go_wp2_with fail
      go_loopg [8] Q (fun gh s8 wr=>∃(j:Nat),j+gh=Q∧s8 = .int .i64 ((j:Nat):Int)∧Hid (Touch No w3 wr)∧Hid (∀j',j'<j→Me.fitsR (Me.rawAt Ws j') (Me.nodeAt Ns ((Me.weights Ns mm).getD j' 0)).shape=true))
      case atStart=>exact⟨0,by omega,rfl,Touch.refl _ _,fun j' h=>absurd h (Nat.not_lt_zero j')⟩
      case round =>
       obtain⟨j,hjg,rfl,T,HF⟩:=hrel;cases gk with
       | zero =>
         obtain rfl:Q=j:=by omega
         have HE:Hid (Z.isSome=true):=HEQ.out.2 ⟨by trivial,by trivial,HF.out⟩;have TE:=Lib.hid (T3.out.trans T.out);go_wp2;go_ret;rw[HE.out];exact⟨rfl,TE.out⟩
       | succ g' =>
         have hjq:(j:Int)<(Q:Nat):=by omega
         have hjl:j<(Me.weights Ns mm).length:=by rw[HQ.out];omega
         obtain⟨i,hi⟩:∃i,(Me.weights Ns mm)[j]? = some i:=⟨_,Lge hjl⟩;obtain⟨him,hik,hiw⟩:=Me.weights_of hi;obtain⟨ba,oa,rfl,ca⟩:=(HL5.out.no T.out) j (.int .i64 ((i:Nat):Int)) (by rw[nums,List.getElem?_map,hi];rfl);obtain⟨qb,qo,qa,qn,qc,ql,qm,qd,rfl,hq1,hq2,hq3⟩:=(HWs.out.1.no (T3.out.trans T.out)) j (by rw[HWs.out.2];omega);obtain⟨b',o',ia2,nn2,cc2,xa2,n2,c2,e,⟨h0,h1,h2,h3,h4⟩,hx⟩:=(HN.out.no (T3.out.trans T.out)) i (by rw[HM.out];exact him);cases e
         obtain⟨x2,hx2⟩:∃x2,Me.nodeAt Ns i=x2:=⟨_,rfl⟩;rw[hx2]at hx;obtain⟨bg,hbg⟩:∃bg,Me.fitsR (Me.rawAt Ws j) x2.shape=bg:=⟨_,rfl⟩;have C:=Lib.hid (fun q:KW wr=>refFits_any q.wd qa ql xa2 qn qc qm qd n2 c2 (Me.rawAt Ws j) x2.shape (hq3.no q.no) (hx.sr.no q.no) hx.sl hx.s6);rw[hbg]at C;have him':(i:Int)<(mm:Nat):=by omega
         have HBG:Hid (Me.fitsR (Me.rawAt Ws j) (Me.nodeAt Ns ((Me.weights Ns mm).getD j 0)).shape=bg):=by
          show _=_
          rw[Lgd,hi,Option.getD_some,hx2,hbg]
         have k0:=KW.cell ca;have k1:=KW.cell hq1;have k2:=KW.cell hq2;have k3:=KW.cell h2;have k4:=KW.cell (v:=.slice (some ⟨b,o,none⟩) mm cap) ((HR3.out.touch T.out id).cell 0);clear hjl hi him hik hiw ca hq1 hq2 hq3 h0 h1 h2 h3 h4 hx hx2 hbg;go_upto_region 9 with fail;cases bg with
         | false =>
           have HE:Hid (Z.isSome=false):=by
            show _=_
            cases hz:Z.isSome with
            | false=>rfl
            | true=>have h:=(HEQ.out.1 hz).2.2 j (by omega);rw[HBG.out]at h;cases h
           refine wp_region_kept (by kernel_rfl) (by kernel_rfl) ?_;repeat (first|go_big_quiet_step (with_reducible exact Calls.kept_of (C.out _))|quiet_step (with_reducible exact Calls.kept_of (C.out _)))
           refine wpQuiet_nil ?_;intro _ hw';obtain⟨kw,hw''⟩:=hw';subst hw'';obtain⟨wk,tk⟩:=kw;have tk:=Lib.hid tk;dsimp only;have TE:=Lib.hid ((T3.out.trans T.out).trans tk.out);go_wp2;go_ret;rw[HE.out];exact⟨rfl,TE.out⟩
         | true =>
           refine wp_region_kept (by kernel_rfl) (by kernel_rfl) ?_;repeat (first|go_big_quiet_step (with_reducible exact Calls.kept_of (C.out _))|quiet_step (with_reducible exact Calls.kept_of (C.out _)))
           refine wpQuiet_nil ?_;intro _ hw';obtain⟨kw,hw''⟩:=hw';subst hw'';obtain⟨wk,tk⟩:=kw;have tk:=Lib.hid tk;dsimp only
           have HF2:Hid (∀j',j'<j+1→Me.fitsR (Me.rawAt Ws j') (Me.nodeAt Ns ((Me.weights Ns mm).getD j' 0)).shape=true):=fun j' h=>by
            rcases Nat.lt_or_ge j' j with h1|h1
            ·exact HF.out j' h1
            ·obtain rfl:j=j':=by omega
             exact HBG.out
           clear k0 k1 k2 k3 k4 C;go_wp2
           go_roundg g'
           case measure=>omega
           case rel=>exact⟨j+1,by omega,by go_num,T.out.trans tk.out,HF2⟩
     ·have f1:((Q:Int) != (wn:Int))=true:=by simp;omega
      have HE:Hid (Z.isSome=false):=by
       show _=_
       cases hz:Z.isSome with
       | false=>rfl
       | true=>exact absurd (HEQ.out.1 hz).2.1.symm hq
      go_wp2;go_ret;rw[HE.out];exact⟨rfl,T3.out⟩
end
section
open Go Go.RowKit
theorem ref13All_in (w:World)(a wa sa la:Option Addr)(mm cap wn wc n c m d:Nat)(Ns:List Me.Node)(Ws:List Me.Raw)(input:Me.Raw)(hN:NsIn w a Ns)(hm:Ns.length=mm)(hm6:mm≤1000)(hW:WsIn w wa Ws)(hWl:Ws.length=wn)(hW6:wn≤2000000)(hI:RIn w sa n c la m d input) :
  Calls Tryz.prog 48 #[.agg #[.slice a mm cap],.slice wa wn wc,.agg #[.slice sa n c,.slice la m d]] w (AllOut w (Me.all Ns Ws input)):=by
 obtain⟨J,hj0,hj1,hj2,hj3⟩:=info_Ten;have HJ:=Lib.hid (aI hj0 (aI hj1 (aI hj2 hj3)));clear hj0 hj1 hj2 hj3;obtain⟨w1,hw1,t1,R1,R2,hs1⟩:=rows_2 w [.slice a mm cap] [.slice sa n c,.slice la m d] 24 51;obtain⟨Z,hZ⟩:∃Z,Me.all Ns Ws input=Z:=⟨_,rfl⟩;have C1:=Lib.hid (refGiven_in w1 a wa sa la mm cap wn wc n c m d Ns Ws input (hN.no t1) hm hm6 (hW.no t1) hWl hW6 (hI.no t1));rw[hZ]at C1 ⊢;obtain⟨bz,hbz⟩:∃bz,Z.isSome=bz:=⟨_,rfl⟩;rw[hbz]at C1;obtain⟨X,hX⟩:∃X,X=w.heap.size:=⟨_,rfl⟩;rw[← hX]at R1 R2 hs1;have y0:w1.cell? ⟨X,0,none⟩=some (.slice a mm cap):=R1.cell 0;have y1:w1.cell? ⟨X+1,0,none⟩=some (.slice sa n c):=R2.cell 0;have y2:w1.cell? ⟨X+1,1,none⟩=some (.slice la m d):=R2.cell 1;have HT1:=Lib.hid t1;have HR1:=Lib.hid R1;have HR2:=Lib.hid R2;cases bz with
 | false =>
   have HE:Hid (Z=none):=by
    cases Z with
    | none=>rfl
    | some O=>cases hbz
   clear hN hm hW hWl hI hZ hbz t1 R1 R2 hs1;go_enter Tryz.func48,Tryz.ntmps48;go_wp2_with fail;rw[← hw1];clear hw1 hX;refine C1.out.mono ?_;rintro e w2 ⟨rfl,t2⟩;have T2:=Lib.hid (HT1.out.trans t2);go_wp2;refine bodyPost_ret (v:=.tuple #[.slice none 0 0,.int .i64 1]) (by simp[results,Tryz.results48,go_sem]) rfl ?_;rw[HE.out];exact⟨rfl,T2.out⟩
 | true =>
   have HL:Hid ((1≤mm∧mm≤32)∧(∃l,Me.shapesGo Ns []=some l)∧Me.allGo Ws input Ns [] 0=Z∧wn=(Me.weights Ns mm).length∧∀j,j<mm→Me.FitAt Ns Ws input j):=by
    rw[← hZ]at hbz;have hz:=hZ;unfold Me.all at hz hbz;split at hbz
    case isFalse=>cases hbz
    case isTrue hh =>
     rw[if_pos hh]at hz;obtain⟨h1,h2,h3⟩:=Me.shapes_inputs hh.1;refine⟨by rw[hm]at h1;exact h1,h3,hz,by rw[← hWl,← hm];exact hh.2,fun j hj=>?_⟩;exact(Me.allGo_fit Ns Ws input Ns.length 0 [] (by omega)).1 hbz j (Nat.zero_le _) (by omega)
   have HN:=Lib.hid hN;have HM:=Lib.hid hm;have HWs:=Lib.hid (aI hW hWl);have HI:=Lib.hid hI;clear hN hm hW hWl hI hZ hbz t1 R1 R2 hs1;obtain⟨l,hl⟩:=HL.out.2.1;have HLl:=Lib.hid hl;clear hl;go_enter Tryz.func48,Tryz.ntmps48;go_wp2_with fail;rw[← hw1,← hX];clear hw1 hX;refine C1.out.mono ?_;rintro e w4 ⟨rfl,t2⟩;have T4:=Lib.hid (HT1.out.trans t2);have HR14:=Lib.hid (HR1.out.touch t2 id);have HR24:=Lib.hid (HR2.out.touch t2 id);have hX4:X+1<w4.heap.size:=HR24.out.lt;have hw4:w.heap.size≤w4.heap.size:=T4.out.size;clear y0 y1 y2 t2 C1;go_wp2_with fail
   go_loopg [8,9,10] mm (fun gh s8 s9 s10 wr=>∃(i k:Nat) (v:Value) (Ts:List Me.Ten),i+gh=mm∧s10 = .int .i64 ((i:Nat):Int)∧s9 = .int .i64 ((k:Nat):Int)∧v=s8∧k≤i∧
    Hid (Touch No w4 wr)∧Hid (TsG wr w4.heap.size v Ts)∧Hid (Ts.length=i∧Me.shapesGo (Ns.drop i) (Ts.map Prod.fst)=some l∧Me.allGo Ws input (Ns.drop i) Ts k=Z∧k=(Me.weights Ns i).length))
   case atStart=>exact⟨0,0,_,[],by omega,rfl,rfl,rfl,Nat.le_refl _,Touch.refl _ _,TsG.nil _ _,rfl,HLl.out,HL.out.2.2.1,rfl⟩
   case round =>
    obtain⟨i,k,v,Ts,hig,rfl,rfl,rfl,hki,T,HG,HP⟩:=hrel;have k0:wr.cell? ⟨X,0,none⟩=some (.slice a mm cap):=(HR14.out.touch T.out id).cell 0;cases gk with
    | zero =>
      obtain rfl:mm=i:=by omega
      obtain⟨a5,c5,rfl,hc5,hT5,_⟩:=HG.out.form (n:=mm) HP.out.1
      have HE:Hid (AllOut w Z (.returned (.tuple #[.slice a5 mm c5,.int .i64 0])) wr):=by
       have e:=HP.out.2.2.1;rw[List.drop_of_length_le (by rw[HM.out];exact Nat.le_refl _)]at e;rw[← e];exact⟨a5,c5,by rw[HP.out.1],by rw[HP.out.1];exact hc5,hT5,T4.out.trans T.out⟩
      clear hT5 HG HP;go_wp2;refine bodyPost_ret (v:=.tuple #[.slice a5 mm c5,.int .i64 0]) (by simp[results,Tryz.results48,go_sem]) rfl ?_;exact HE.out
    | succ g' =>
      have hik:(i:Int)<(mm:Nat):=by omega
      have hiN:i<Ns.length:=by rw[HM.out];omega
      obtain⟨b,o,ia,nn,cc,xa,n',c',rfl,⟨h0,h1,h2,h3,h4⟩,hx⟩:=(HN.out.no (T4.out.trans T.out)) i hiN;obtain⟨xok,xah,s,hs,hgo⟩:=Me.go_node hiN HP.out.1 HP.out.2.1;have hkd13:=Me.node_kind xok;have hfit:=HL.out.2.2.2.2 i (by omega);unfold Me.FitAt at hfit;obtain⟨x,hxx⟩:∃x,Me.nodeAt Ns i=x:=⟨_,rfl⟩;rw[hxx]at h0 h3 h4 hx xok xah hs hkd13 hfit;obtain⟨kd,hkd⟩:∃kd,x.kind=kd:=⟨_,rfl⟩;obtain⟨NN,hNN⟩:∃NN,x.n=NN:=⟨_,rfl⟩;obtain⟨PP,hPP⟩:∃PP,x.pad=PP:=⟨_,rfl⟩;have HND:Hid (nodeV ia nn cc xa n' c' x = .agg #[.int .u8 ((kd:Nat):Int),.slice ia nn cc,.slice xa n' c',.int .i64 NN,.int .i64 PP]):=by show _=_;rw[nodeV,hkd,hNN,hPP]
      rw[hkd]at h0 hkd13 hfit;rw[hNN]at h3;rw[hPP]at h4;have HXX:=Lib.hid (aI hxx hkd);have HX:=Lib.hid (aI hx (aI xok (aI xah (aI hs hgo))));have HF:=Lib.hid hfit;clear hx xok xah hs hgo hfit;go_upto_region 9 with fail;obtain⟨w5,hw5,t5,R5⟩:=box_row wr [.int .u8 ((kd:Nat):Int),.slice ia nn cc,.slice xa n' c',.int .i64 NN,.int .i64 PP] 55;rw[← hw5];obtain⟨X5,hX5⟩:∃X5,X5=wr.heap.size:=⟨_,rfl⟩;rw[← hX5]at R5 ⊢;have T5:Hid (Touch No w4 w5):=T.out.trans t5;have HR5:=Lib.hid R5;have hs6:w4.heap.size≤X5:=by rw[hX5];exact T.out.size
      have T5r:Hid (Touch No wr w5):=t5;have hsr:wr.heap.size=X5:=hX5.symm;have HS5:Hid (w5.heap.size=X5+1):=by show _=_;rw[hw5,hX5];simp
      have q0:=R5.cell 0;simp only[Lz0]at q0;have hTl:Ts.length≤1000:=by have:=HP.out.1;omega
      have hk1000:(k:Int)<1000:=by omega
      clear hw5 t5 R5 h0 h1 h2 h3 h4 hxx hX5 hkd hNN hPP
      by_cases hk1:kd=1
      ·subst hk1
       have f1:((1:Int)==1)=true:=rfl;have hTin:=HI.out.ten (Me.fitsR_ten (HF.out.1 rfl)).1;have HTin:Hid (TIn w sa n c la m d (Me.nats input.1) input.2):=hTin;have hlt:=hTin.lt
       have HS:Hid (s=Me.nats x.shape∧Me.ten input=(Me.nats x.shape,input.2)∧k=(Me.weights Ns (i+1)).length∧Me.allGo Ws input (Ns.drop (i+1)) (Ts ++ [Me.ten input]) k=Z):=by
        have h:=HX.out.2.2.2.1;rw[Me.shapeOf,if_pos (Or.inl HXX.out.2)]at h;refine⟨(Option.some.inj h).symm,(Me.fitsR_ten (HF.out.1 rfl)).2,?_,?_⟩
        ·rw[Me.weights,if_neg (by rw[HXX.out.1,HXX.out.2];decide)]
         exact HP.out.2.2.2
        ·rw[← Me.all_in hiN (by rw[HXX.out.1];exact HXX.out.2) (by rw[HXX.out.1];exact HF.out.1 rfl)]
         exact HP.out.2.2.1
       have hlt1:=Lib.hid hlt.1;have hlt2:=Lib.hid hlt.2;have g0:w5.cell? ⟨X+1,0,none⟩=some (.slice sa n c):=(HR24.out.touch T5.out id).cell 0;have g1:w5.cell? ⟨X+1,1,none⟩=some (.slice la m d):=(HR24.out.touch T5.out id).cell 1;clear hTin hlt;go_upto_region 10 with fail;obtain⟨wz,hwz,tz,Rz⟩:=box_row w5 [.slice sa n c,.slice la m d] 51;obtain⟨cs,hown,htv⟩:=HG.out;have hvk:=Lib.hid (fun k (hk:InBlock v k)=>ownsRow_block hown hk);have Tz:=Lib.hid (T5r.out.trans tz);have hown0:=Lib.hid (ownsRow_no (ownsRow_zero hown) Tz.out);have HOW:=Lib.hid (aI (ownsRow_no hown Tz.out) (htv.no Tz.out));have HRz:=Lib.hid Rz;have hszz:w4.heap.size≤wz.heap.size:=by have:=Tz.out.size;omega
       clear tz Rz hown htv;go_wp2_with (at_builtin;rw[← hwz];refine wpList_append_rows rfl _ _ 25 rfl 51 J _ 2 48 Tryz.underlying25 HJ.out.1 HJ.out.2.1 HJ.out.2.2.1 HJ.out.2.2.2 rfl (by decide) v Ts.length cs hown0.out rfl (some ⟨w5.heap.size,0,none⟩) 1 1 [.slice sa n c,.slice la m d] rfl rfl (rd_row HRz.out) (by intro u hu;simp at hu;rcases hu with rfl|rfl <;> rfl) (by unfold maxLen;omega) (by omega) ?_;intro a' c' w13 hown3 ht3 hb3)
       have HGn:Hid (TsG w13 w4.heap.size (.slice a' (Ts.length+1) c') (Ts ++ [(Me.nats input.1,input.2)])) :=
        TsG.grow HOW.out.1 HOW.out.2 hown3 ht3 hb3 hszz (HTin.out.no (T4.out.trans (T.out.trans Tz.out))) (fun k hk=>⟨fun ad e he=>by have:=hlt1.out ad e;have:=(hvk.out k hk).1;omega,fun ad e he=>by have:=hlt2.out ad e;have:=(hvk.out k hk).1;omega⟩)
       have T13:Hid (Touch No w4 w13):=(T.out.trans Tz.out).then ht3 (fun i hi e=>absurd (hvk.out i e).1 (by omega))
       have HY2:Hid (Me.shapesGo (Ns.drop (i+1)) ((Ts ++ [(Me.nats input.1,input.2)]).map Prod.fst)=some l∧Me.allGo Ws input (Ns.drop (i+1)) (Ts ++ [(Me.nats input.1,input.2)]) k=Z):=by
        refine⟨?_,HS.out.2.2.2⟩;have h:=HX.out.2.2.2.2 input.2;rw[HS.out.1]at h;have h2:Me.nats input.1=Me.nats x.shape:=congrArg Prod.fst HS.out.2.1;rw[h2];exact h
       go_roundg g'
       case measure=>omega
       case rel=>exact⟨i+1,k,_,Ts ++ [(Me.nats input.1,input.2)],by omega,by go_num,rfl,rfl,by omega,T13,HGn,by rw[List.length_append,HP.out.1];rfl,HY2.out.1,HY2.out.2,HS.out.2.2.1⟩
      ·by_cases hk2:kd=2
       ·subst hk2
        have f1:((2:Int)==1)=false:=rfl;have f2:((2:Int)==2)=true:=rfl
        have hkw:k<wn:=by
         rw[HL.out.2.2.2.1,HP.out.2.2.2];exact Me.weights_lt Ns i mm (by omega) (by rw[HXX.out.1];exact HXX.out.2)
        have hfk:=HF.out.2 rfl;rw[← HP.out.2.2.2]at hfk;obtain⟨qb,qo,qa,qn,qc,ql,qm,qd,rfl,hq1,hq2,hq3⟩:=HWs.out.1 k (by rw[HWs.out.2];exact hkw);obtain⟨ww,hww⟩:∃ww,Me.rawAt Ws k=ww:=⟨_,rfl⟩;rw[hww]at hfk hq3;have hTin:=hq3.ten (Me.fitsR_ten hfk).1;have HTin:Hid (TIn w qa qn qc ql qm qd (Me.nats ww.1) ww.2):=hTin;have hlt:=hTin.lt
        have HS:Hid (s=Me.nats x.shape∧Me.ten ww=(Me.nats x.shape,ww.2)∧k+1=(Me.weights Ns (i+1)).length∧Me.allGo Ws input (Ns.drop (i+1)) (Ts ++ [Me.ten ww]) (k+1)=Z):=by
         have h:=HX.out.2.2.2.1;rw[Me.shapeOf,if_pos (Or.inr HXX.out.2)]at h;refine⟨(Option.some.inj h).symm,(Me.fitsR_ten hfk).2,?_,?_⟩
         ·rw[Me.weights,if_pos (by rw[HXX.out.1,HXX.out.2]),List.length_append,List.length_singleton,← HP.out.2.2.2]
         ·rw[← hww,← Me.all_w hiN (by rw[HXX.out.1];exact HXX.out.2) (by rw[HXX.out.1,hww];exact hfk)]
          exact HP.out.2.2.1
        have hlt1:=Lib.hid hlt.1;have hlt2:=Lib.hid hlt.2;have g0:w5.cell? ⟨qb,qo+k*2,none⟩=some (.slice qa qn qc):=(T4.out.trans T5.out).cell id hq1;have g1:w5.cell? ⟨qb,qo+k*2+1,none⟩=some (.slice ql qm qd):=(T4.out.trans T5.out).cell id hq2;have hkw':(k:Int)<(wn:Nat):=by omega
        clear hTin hlt hq1 hq2 hq3 hww hfk;go_upto_region 12 with fail;obtain⟨wz,hwz,tz,Rz⟩:=box_row w5 [.slice qa qn qc,.slice ql qm qd] 51;obtain⟨cs,hown,htv⟩:=HG.out;have hvk:=Lib.hid (fun k (hk:InBlock v k)=>ownsRow_block hown hk);have Tz:=Lib.hid (T5r.out.trans tz);have hown0:=Lib.hid (ownsRow_no (ownsRow_zero hown) Tz.out);have HOW:=Lib.hid (aI (ownsRow_no hown Tz.out) (htv.no Tz.out));have HRz:=Lib.hid Rz;have hszz:w4.heap.size≤wz.heap.size:=by have:=Tz.out.size;omega
        clear tz Rz hown htv;go_wp2_with (at_builtin;rw[← hwz];refine wpList_append_rows rfl _ _ 25 rfl 51 J _ 2 48 Tryz.underlying25 HJ.out.1 HJ.out.2.1 HJ.out.2.2.1 HJ.out.2.2.2 rfl (by decide) v Ts.length cs hown0.out rfl (some ⟨w5.heap.size,0,none⟩) 1 1 [.slice qa qn qc,.slice ql qm qd] rfl rfl (rd_row HRz.out) (by intro u hu;simp at hu;rcases hu with rfl|rfl <;> rfl) (by unfold maxLen;omega) (by omega) ?_;intro a' c' w13 hown3 ht3 hb3)
        have HGn:Hid (TsG w13 w4.heap.size (.slice a' (Ts.length+1) c') (Ts ++ [(Me.nats ww.1,ww.2)])) :=
         TsG.grow HOW.out.1 HOW.out.2 hown3 ht3 hb3 hszz (HTin.out.no (T4.out.trans (T.out.trans Tz.out))) (fun k hk=>⟨fun ad e he=>by have:=hlt1.out ad e;have:=(hvk.out k hk).1;omega,fun ad e he=>by have:=hlt2.out ad e;have:=(hvk.out k hk).1;omega⟩)
        have T13:Hid (Touch No w4 w13):=(T.out.trans Tz.out).then ht3 (fun i hi e=>absurd (hvk.out i e).1 (by omega))
        have HY2:Hid (Me.shapesGo (Ns.drop (i+1)) ((Ts ++ [(Me.nats ww.1,ww.2)]).map Prod.fst)=some l∧Me.allGo Ws input (Ns.drop (i+1)) (Ts ++ [(Me.nats ww.1,ww.2)]) (k+1)=Z):=by
         refine⟨?_,HS.out.2.2.2⟩;have h:=HX.out.2.2.2.2 ww.2;rw[HS.out.1]at h;have h2:Me.nats ww.1=Me.nats x.shape:=congrArg Prod.fst HS.out.2.1;rw[h2];exact h
        go_roundg g'
        case measure=>omega
        case rel=>exact⟨i+1,k+1,_,Ts ++ [(Me.nats ww.1,ww.2)],by omega,by go_num,by go_num,rfl,by omega,T13,HGn,by rw[List.length_append,HP.out.1];rfl,HY2.out.1,HY2.out.2,HS.out.2.2.1⟩
       ·have h3:3≤kd:=by omega
        obtain⟨a6,c6,hv6,hc6,hT6,_⟩:=HG.out.form (n:=i) HP.out.1;have HT6:=Lib.hid hT6;subst hv6;have f1:((kd:Int)==1)=false:=by simp;omega
        have f2:((kd:Int)==2)=false:=by simp;omega
        have hbb:w4.heap.size≤wr.heap.size:=T.out.size;have hn1k:nn≤1000:=HX.out.1.i6;clear hT6;obtain⟨wo,rfl⟩:∃wo:World,wo=wr:=⟨_,rfl⟩;go_wp2_with fail
        go_loopg [12,13] nn (fun gh s12 s13 wr=>∃(j:Nat) (v3:Value),j+gh=nn∧s13 = .int .i64 ((j:Nat):Int)∧v3=s12∧Hid (Touch No w5 wr)∧Hid (TsG wr w5.heap.size v3 (Me.insT Ts (x.inn.take j))))
        case atStart=>exact⟨0,_,by omega,rfl,rfl,Touch.refl _ _,TsG.nil _ _⟩
        case round =>
         obtain⟨j,v3,hjg,rfl,rfl,TQ,HGQ⟩:=hrel;have q1:wr.cell? ⟨X5,1,none⟩=some (.slice ia nn cc):=(HR5.out.touch TQ.out id).cell 1;cases gk with
         | succ g3 =>
           have hjn:(j:Int)<(nn:Nat):=by omega
           have hil:=HX.out.1.il;have hji:j<x.inn.length:=by rw[hil];omega
           obtain⟨bi,oi,rfl,ci⟩:=(HX.out.1.ir.no (T5r.out.trans TQ.out)).int (i:=j) hji;have hyr:=HX.out.2.2.1 (x.inn.getD j 0) (by rw[Lgd,Lge hji];exact List.getElem_mem hji);obtain⟨q,hq⟩:∃q:Nat,(x.inn.getD j 0)=((q:Nat):Int):=⟨(x.inn.getD j 0).toNat,by omega⟩;have hins:=Me.insT_take (Ts:=Ts) hji;rw[hq]at ci hyr hins;have hqi:(q:Int)<(i:Nat):=hyr.2;obtain⟨bl,ol,ta,tn,tc,tl,tm,td,rfl,p0,p1,hT0⟩:=HT6.out q (by rw[HP.out.1];omega);have hToff:=Lib.hid (aI hT0.lt.1 hT0.lt.2);have HTn:=Lib.hid (hT0.no (T5r.out.trans TQ.out));have p0:=(T5r.out.trans TQ.out).cell id p0;have p1:=(T5r.out.trans TQ.out).cell id p1;have HINS:=Lib.hid hins;clear hil hji hyr hq hins hT0;go_upto_region 18 with fail;obtain⟨wz,hwz,tz,Rz⟩:=box_row wr [.slice ta tn tc,.slice tl tm td] 51;obtain⟨cs,hown,htv⟩:=HGQ.out;have hvk:=Lib.hid (fun k (hk:InBlock v3 k)=>ownsRow_block hown hk);have hown0:=Lib.hid (ownsRow_no (ownsRow_zero hown) tz);have HOW:=Lib.hid (aI (ownsRow_no hown tz) (htv.no tz));have HRz:=Lib.hid Rz;have HTz:=Lib.hid tz;have hcl:(Me.insT Ts (x.inn.take j)).length≤1000:=by rw[Me.insT_length,List.length_take];have:=HX.out.1.i6;omega
           have hsw:w5.heap.size≤wr.heap.size:=TQ.out.size;clear tz Rz hown htv;go_wp2_with (at_builtin;rw[← hwz];refine wpList_append_rows rfl _ _ 25 rfl 51 J _ 2 48 Tryz.underlying25 HJ.out.1 HJ.out.2.1 HJ.out.2.2.1 HJ.out.2.2.2 rfl (by decide) v3 (Me.insT Ts (x.inn.take j)).length cs hown0.out rfl (some ⟨wr.heap.size,0,none⟩) 1 1 [.slice ta tn tc,.slice tl tm td] rfl rfl (rd_row HRz.out) (by intro u hu;simp at hu;rcases hu with rfl|rfl <;> rfl) (by unfold maxLen;omega) (by omega) ?_;intro a' c' w13 hown3 ht3 hb3)
           have HGn:Hid (TsG w13 w5.heap.size (.slice a' ((Me.insT Ts (x.inn.take j)).length+1) c') (Me.insT Ts (x.inn.take (j+1)))):=by
            have h:=TsG.grow HOW.out.1 HOW.out.2 hown3 ht3 hb3 (by have:=HTz.out.size;omega) (HTn.out.no HTz.out) (fun k hk=>⟨fun ad e he=>by have:=hToff.out.1 ad e;have:=(hvk.out k hk).1;have:=HS5.out;omega,fun ad e he=>by have:=hToff.out.2 ad e;have:=(hvk.out k hk).1;have:=HS5.out;omega⟩);rw[HINS.out];exact h
           have T13:Hid (Touch No w5 w13):=(TQ.out.trans HTz.out).then ht3 (fun i hi e=>absurd (hvk.out i e).1 (by omega))
           go_roundg g3
           case measure=>omega
           case rel=>exact⟨j+1,_,by omega,by go_num,rfl,T13,HGn⟩
         | zero =>
           obtain rfl:nn=j:=by omega
           have hil:=HX.out.1.il;have HGQ2:=HGQ.out;rw[List.take_of_length_le (by rw[hil];exact Nat.le_refl _)]at HGQ2;have hXl:(Me.insT Ts x.inn).length=nn:=by rw[Me.insT_length,hil]
           obtain⟨a7,c7,rfl,hc7,hT7,_⟩:=HGQ2.form (n:=nn) hXl;have T2q:=Lib.hid (T5r.out.trans TQ.out);have C:=Lib.hid (refDo_in wr ia xa a7 nn cc n' c' c7 x (Me.insT Ts x.inn) s (HX.out.1.no T2q.out) HX.out.2.1 (by rw[HXX.out.2];exact h3) hT7 hXl HX.out.2.2.2.1);rw[HND.out]at C
           have HALL:Hid (Me.allGo Ws input (Ns.drop (i+1)) (Ts ++ [(s,Me.opL x (Me.insT Ts x.inn))]) k=Z∧Me.shapesGo (Ns.drop (i+1)) ((Ts ++ [(s,Me.opL x (Me.insT Ts x.inn))]).map Prod.fst)=some l∧k=(Me.weights Ns (i+1)).length):=by
            have e1:=Me.all_do (Ns:=Ns) (i:=i) (Ts:=Ts) (ws:=Ws) (input:=input) (k:=k) (s:=s) hiN (by rw[HXX.out.1,HXX.out.2];exact h3) (by rw[HXX.out.1];exact HX.out.2.2.2.1);rw[HXX.out.1]at e1;refine⟨by rw[← e1];exact HP.out.2.2.1,HX.out.2.2.2.2 _,?_⟩;rw[Me.weights,if_neg (by rw[HXX.out.1,HXX.out.2];omega)];exact HP.out.2.2.2
           have m0:wr.cell? ⟨X5,0,none⟩=some (.int .u8 ((kd:Nat):Int)):=(HR5.out.touch TQ.out id).cell 0;have m2:wr.cell? ⟨X5,2,none⟩=some (.slice xa n' c'):=(HR5.out.touch TQ.out id).cell 2;have m3:wr.cell? ⟨X5,3,none⟩=some (.int .i64 NN):=(HR5.out.touch TQ.out id).cell 3;have m4:wr.cell? ⟨X5,4,none⟩=some (.int .i64 PP):=(HR5.out.touch TQ.out id).cell 4;clear hil HGQ HGQ2 hXl hT7;go_wp2_with fail;refine C.out.mono ?_;rintro e w7 ⟨ta,tn,tc,tl,tm,td,rfl,hT,t7,hn1,hn2⟩;have hsz7:wo.heap.size≤wr.heap.size:=T2q.out.size;have HNW:=Lib.hid (aI hn1 hn2);have HTn:=Lib.hid hT;have T7q:=Lib.hid (T2q.out.trans t7);clear m0 m2 m3 m4 C t7 hT hn1 hn2 T2q q1;go_upto_region 20 with fail;obtain⟨w9,hw9,t9,R9⟩:=box_row w7 [.slice ta tn tc,.slice tl tm td] 51;rw[← hw9];have T9q:Hid (Touch No wo w9):=T7q.out.trans t9;have HT9:Hid (TIn w9 ta tn tc tl tm td s (Me.opL x (Me.insT Ts x.inn))):=HTn.out.no t9;have r0:w9.cell? ⟨w7.heap.size,0,none⟩=some (.slice ta tn tc):=R9.cell 0;have r1:w9.cell? ⟨w7.heap.size,1,none⟩=some (.slice tl tm td):=R9.cell 1;clear hw9 R9 t9 HTn;obtain⟨wz,hwz,tz,Rz⟩:=box_row w9 [.slice ta tn tc,.slice tl tm td] 51;obtain⟨cs,hown,htv⟩:=HG.out;have hvk:=Lib.hid (fun k (hk:InBlock (.slice a6 i c6) k)=>ownsRow_block hown hk);have Tz:=Lib.hid (T9q.out.trans tz);have hown0:=Lib.hid (ownsRow_no (ownsRow_zero hown) Tz.out);have HOW:=Lib.hid (aI (ownsRow_no hown Tz.out) (htv.no Tz.out));have HRz:=Lib.hid Rz;have HTz:=Lib.hid tz;clear tz Rz hown htv;go_wp2_with (at_builtin;rw[← hwz];refine wpList_append_rows rfl _ _ 25 rfl 51 J _ 2 48 Tryz.underlying25 HJ.out.1 HJ.out.2.1 HJ.out.2.2.1 HJ.out.2.2.2 rfl (by decide) (.slice a6 i c6) Ts.length cs hown0.out rfl (some ⟨w9.heap.size,0,none⟩) 1 1 [.slice ta tn tc,.slice tl tm td] rfl rfl (rd_row HRz.out) (by intro u hu;simp at hu;rcases hu with rfl|rfl <;> rfl) (by unfold maxLen;omega) (by omega) ?_;intro a' c' w13 hown3 ht3 hb3)
           have HGn:Hid (TsG w13 w4.heap.size (.slice a' (Ts.length+1) c') (Ts ++ [(s,Me.opL x (Me.insT Ts x.inn))])):=by
            exact TsG.grow HOW.out.1 HOW.out.2 hown3 ht3 hb3 (by have:=Tz.out.size;omega) (HT9.out.no HTz.out) (fun k hk=>⟨fun ad e he=>by have:=HNW.out.1 ad e;have:=(hvk.out k hk).2;omega,fun ad e he=>by have:=HNW.out.2 ad e;have:=(hvk.out k hk).2;omega⟩)
           have T13:Hid (Touch No w4 w13):=(T.out.trans Tz.out).then ht3 (fun i hi e=>absurd (hvk.out i e).1 (by omega))
           go_roundg g'
           case measure=>omega
           case rel=>exact⟨i+1,k,_,Ts ++ [(s,Me.opL x (Me.insT Ts x.inn))],by omega,by go_num,rfl,rfl,by omega,T13,HGn,by rw[List.length_append,HP.out.1];rfl,HALL.out.2.1,HALL.out.1,HALL.out.2.2⟩
end
end Go.Proofs.YtjlphmmalebgpaaGreat
