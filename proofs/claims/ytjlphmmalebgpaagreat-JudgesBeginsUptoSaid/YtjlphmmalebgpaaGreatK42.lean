/-
  A part of the proof.
-/
import Derived.Test.YtjlphmmalebgpaaGreatK41
set_option linter.unusedSimpArgs false
set_option linter.unusedVariables false
set_option maxHeartbeats 8000000
set_option maxRecDepth 100000
namespace Go.Proofs.YtjlphmmalebgpaaGreat
section
open Go Go.RowKit Go.Shelf
theorem refTenSame_any (w:World)(sa la sb lb:Option Addr)(n c m d n' c' m' d':Nat)(s l s' l':List Int)(hs:s.length=n)(hn:(n:Int)≤1000000000000)(hr:Rd w sa (ints .i64 s))(hl:l.length=m)(hm:(m:Int)≤1000000000000)(hr2:Rd w la (ints .i32 l))
  (hs':s'.length=n') (hr':Rd w sb (ints .i64 s')) (hl':l'.length=m') (hr2':Rd w lb (ints .i32 l')) :
  Calls Tryz.prog 29 #[.agg #[.slice sa n c,.slice la m d],.agg #[.slice sb n' c',.slice lb m' d']] w fun e w'=>e = .returned (.bool (decide (s=s')&&decide (l=l')))∧Touch No w w':=by
 obtain⟨w1,hw1,t1,R1,R2,hs1⟩:=rows_2 w [.slice sa n c,.slice la m d] [.slice sb n' c',.slice lb m' d'] 51 51;obtain⟨X,hX⟩:∃X,X=w.heap.size:=⟨_,rfl⟩;rw[← hX]at R1 R2 hs1;have C:=Lib.hid (refSame_any w1 sa sb n c n' c' s s' (hr.no t1) hs (hr'.no t1) hs' hn);have y0:w1.cell? ⟨X,0,none⟩=some (.slice sa n c):=R1.cell 0;have y1:w1.cell? ⟨X+1,0,none⟩=some (.slice sb n' c'):=R2.cell 0;have HT1:=Lib.hid t1;have HR1:=Lib.hid R1;have HR2:=Lib.hid R2;have HL:=Lib.hid (hr2.no t1);have HL':=Lib.hid (hr2'.no t1);have Hl:=Lib.hid hl;have Hl':=Lib.hid hl';clear hr hr' hr2 hr2' hs hs' hl hl' t1 R1 R2 hn;obtain⟨b1,hb1⟩:∃b1,decide (s=s')=b1:=⟨_,rfl⟩;rw[hb1]at C ⊢;go_enter Tryz.func29,Tryz.ntmps29;go_upto_region 1 with fail;rw[← hw1,← hX];clear hw1 hX;go_wp2_with fail;refine C.out.mono ?_;rintro e w3 ⟨rfl,t3⟩;have HT3:=Lib.hid (HT1.out.trans t3);have HT13:=Lib.hid t3;have z0:w3.cell? ⟨X,1,none⟩=some (.slice la m d):=(HR1.out.touch t3 id).cell 1;have z1:w3.cell? ⟨X+1,1,none⟩=some (.slice lb m' d'):=(HR2.out.touch t3 id).cell 1;clear C y0 y1 t3 hb1;cases b1 with
 | false =>
   go_wp2;go_ret;exact⟨by rfl,HT3.out⟩
 | true =>
   by_cases hmm:m=m'
   ·subst hmm
    have hnb:((m:Int) != (m:Int))=false:=by simp
    go_wp2
    go_loopg [5] m (fun gh s5 wr=>∃k:Nat,k+gh=m∧s5 = .int .i64 ((k:Nat):Int)∧Hid (l.take k=l'.take k)∧Hid (Touch No w3 wr))
    case atStart=>exact⟨0,by omega,rfl,rfl,Touch.refl _ _⟩
    case round =>
     obtain⟨k,hkg,rfl,HE,T⟩:=hrel;have q0:wr.cell? ⟨X,1,none⟩=some (.slice la m d):=T.out.cell id z0;have q1:wr.cell? ⟨X+1,1,none⟩=some (.slice lb m d'):=T.out.cell id z1;cases gk with
     | zero =>
       obtain rfl:k=m:=by omega
       have Hres:Hid (decide (l=l')=true):=by
        have h:=HE.out;rw[List.take_of_length_le (by rw[Hl.out];omega),List.take_of_length_le (by rw[Hl'.out];omega)]at h;exact decide_eq_true h
       go_wp2;go_ret;exact⟨by rw[Hres.out];rfl,HT3.out.trans T.out⟩
     | succ g' =>
       have hki:(k:Int)<(m:Nat):=by omega
       obtain⟨x,hx⟩:∃x,l.getD k 0=x:=⟨_,rfl⟩;obtain⟨y,hy⟩:∃y,l'.getD k 0=y:=⟨_,rfl⟩;obtain⟨g1,o1,rfl,hc1⟩:=((HL.out.no HT13.out).no T.out).int (i:=k) (by rw[Hl.out];omega);obtain⟨g2,o2,rfl,hc2⟩:=((HL'.out.no HT13.out).no T.out).int (i:=k) (by rw[Hl'.out];omega);rw[hx]at hc1;rw[hy]at hc2;have e1:l.take (k+1)=l.take k ++ [x]:=by rw[List.take_add_one,← hx,Lgd,Lge (by rw[Hl.out];omega)];rfl
       have e2:l'.take (k+1)=l'.take k ++ [y]:=by rw[List.take_add_one,← hy,Lgd,Lge (by rw[Hl'.out];omega)];rfl
       by_cases hxy:x=y
       ·subst hxy
        have HE2:Hid (l.take (k+1)=l'.take (k+1)):=by show _=_;rw[e1,e2,HE.out]
        have hb:(x != x)=false:=by simp
        clear e1 e2 hx hy;go_wp2
        go_quiet (fail)
        go_wp2;have T2:=Lib.hid (T.out.drewN nq);clear q0 q1
        go_roundg g'
        case measure=>omega
        case rel=>exact⟨k+1,by omega,by go_num,HE2.out,T2.out⟩
       ·have hb:(x != y)=true:=by simpa using hxy
        have Hres:Hid (decide (l=l')=false):=decide_eq_false (fun e=>hxy (by rw[← hx,← hy,e]));clear e1 e2 hx hy hxy;go_wp2
        go_quiet (fail)
        go_wp2;go_ret;exact⟨by rw[Hres.out];rfl,HT3.out.trans (T.out.drewN _)⟩
   ·have hnb:((m:Int) != (m':Int))=true:=by simp;omega
    have Hres:Hid (decide (l=l')=false):=decide_eq_false (fun e=>hmm (by rw[← Hl.out,← Hl'.out,e]));clear hmm;go_wp2;go_ret;exact⟨by rw[Hres.out];rfl,HT3.out⟩
theorem all_no {N k:Nat}{f:Nat→Bool}(hk:k<N)(h:f k=false):(List.range N).all f=false:=by
 rw[← Bool.not_eq_true,List.all_eq_true];intro hh;have h2:=hh k (by simpa using hk);rw[h]at h2;cases h2
theorem Rd.one {w w':World}{a:Option Addr}{vs:List Value}{g:Nat}(h:Rd w a vs)(t:Touch (One g) w w')(ho:Off a g):Rd w' a vs:=h.touch t (fun b o e _ hI=>ho _ e hI)
theorem TIn.one {w w':World}{sa la:Option Addr}{n c m d g:Nat}{S:List Nat}{L:List Int}(h:TIn w sa n c la m d S L)(t:Touch (One g) w w')(h1:Off sa g)(h2:Off la g):TIn w' sa n c la m d S L:={h with sr:=h.sr.one t h1,lr:=h.lr.one t h2}
theorem refBegins_in (w:World)(a wa ia ra:Option Addr)(mm cap wn wc N' ci N cr:Nat)(Ns:List Me.Node)(Ws Ins:List Me.Raw)(Rc:List (Int × Me.Raw))(hNs:NsIn w a Ns)(hm:Ns.length=mm)(hm6:mm≤1000)(hW:WsIn w wa Ws)(hWl:Ws.length=wn)(hW6:wn≤2000000)
  (hI:WsIn w ia Ins) (hIl:Ins.length=N') (hI6:N'≤2000000) (hR:RcIn w ra Rc) (hRl:Rc.length=N) (hR6:N≤2000000) :
  Calls Tryz.prog 11 #[.agg #[.slice a mm cap],.slice wa wn wc,.slice ia N' ci,.slice ra N cr] w fun e w'=>e = .returned (.bool (Me.begins Ns Ws Ins Rc))∧Touch No w w':=by
 obtain⟨BB,hBB⟩:∃z,Me.begins Ns Ws Ins Rc=z:=⟨_,rfl⟩;rw[hBB];have HBB:=Lib.hid hBB;obtain⟨w1,hw1,t1,R1⟩:=box_row w [.slice a mm cap] 24;obtain⟨X,hX⟩:∃X,X=w.heap.size:=⟨_,rfl⟩;rw[← hX]at R1;have HNs:=Lib.hid hNs;have HW:=Lib.hid hW;have HI:=Lib.hid hI;have HR:=Lib.hid hR;have HX:=Lib.hid hX;have HT1:=Lib.hid t1;have HR1:=Lib.hid R1;clear hNs hW hI hR hBB t1 R1;go_enter Tryz.func11,Tryz.ntmps11;go_upto_region 1 with fail;rw[← hw1,← hX];clear hw1 hX
 by_cases hle:N'<N
 ·have h1:((N':Nat):Int)<((N:Nat):Int):=by omega
  go_wp2;go_ret;refine⟨?_,HT1.out⟩;rw[← HBB.out,Me.begins,hRl,hIl];simp[show ¬N≤N' by omega]
 ·have h1:¬((N':Nat):Int)<((N:Nat):Int):=by omega
  have hNN:N≤N':=by omega
  go_wp2
  go_loopg [9] N (fun gh s9 wr=>∃k:Nat,k+gh=N∧s9 = .int .i64 ((k:Nat):Int)∧Hid (∀i,i<k→Me.right Ns Ws (Me.rawAt Ins i) i (Me.recAt Rc i)=true)∧Hid (Touch No w1 wr))
  case atStart=>exact⟨0,by omega,rfl,fun i h=>absurd h (Nat.not_lt_zero i),Touch.refl _ _⟩
  case round =>
   obtain⟨k,hkg,rfl,HE,TT⟩:=hrel;cases gk with
   | zero =>
     obtain rfl:k=N:=by omega
     go_wp2;go_ret;refine⟨?_,HT1.out.trans TT.out⟩;rw[← HBB.out,Me.begins,hRl,hIl,show(List.range k).all (fun i=>Me.right Ns Ws (Me.rawAt Ins i) i (Me.recAt Rc i))=true by rw[List.all_eq_true];intro i hi;exact HE.out i (by simpa using hi)];simp[hNN]
   | succ g' =>
     have hki:(k:Int)<(N:Nat):=by omega
     have hki':(k:Int)<(N':Nat):=by omega
     obtain⟨ba,oa,sa,n1,c1,la,m1,d1,rfl,a0,a1,a2,hRr⟩:=(HR.out.no (HT1.out.trans TT.out)) k (by omega);obtain⟨bb,ob,sa',n1',c1',la',m1',d1',rfl,b1,b2,hRi⟩:=(HI.out.no (HT1.out.trans TT.out)) k (by omega);obtain⟨ix,hix⟩:∃z,(Rc.getD k (0,[],[])).1=z:=⟨_,rfl⟩;rw[hix]at a0;obtain⟨O,hO⟩:∃z,Me.all Ns Ws (Me.rawAt Ins k)=z:=⟨_,rfl⟩;have C:=Lib.hid (fun(wx:World) (t:Touch No wr wx)=>ref13Run_in wx a wa sa' la' mm cap wn wc n1' c1' m1' d1' Ns Ws (Me.rawAt Ins k) (HNs.out.no (HT1.out.trans (TT.out.trans t))) hm hm6 (HW.out.no (HT1.out.trans (TT.out.trans t))) hWl hW6 (hRi.no t));rw[hO]at C;obtain⟨gd,hgd⟩:∃z,Me.right Ns Ws (Me.rawAt Ins k) k (Me.recAt Rc k)=z:=⟨_,rfl⟩;have hgd2:=hgd;rw[Me.right,hO]at hgd2;have q0:=KW.cell (v:=.slice a mm cap) ((HR1.out.touch TT.out id).cell 0);have q1:=KW.cell b1;have q2:=KW.cell b2;have HA:=Lib.hid (aI a0 (aI a1 (aI a2 hRr)));have HGD:=Lib.hid (aI hgd (aI hgd2 hix));have HR1w:=Lib.hid (HR1.out.touch TT.out id);clear a0 a1 a2 hRr b1 b2 hRi hO hgd hgd2 hix;go_upto_region 6 with fail;refine(wpIn_wide (n:=12)).1 ?_;cases O with
     | none =>
       gi_cut [10,11] from 17 (fun s10 s11 wx=>∃g10:Nat,s10 = .pointer (some ⟨g10,0,none⟩)∧s11 = .int .i64 1∧Hid (Touch No wr wx))
       case first =>
        refine wpIn_region_u 13 #[false,false,false,false,false,false,false,false,false,false,false,false,false] (by kernel_rfl) rfl rfl fun wu tu=>?_
        refine wpAnyU_take (i:=0) rfl rfl rfl (by kernel_rfl) (by kernel_rfl) (by kernel_rfl) (by kernel_rfl) tu (fun _ _ _ _ h=>h) ?_;apply Exists.intro;refine⟨fun w1 t1=>?_,?_⟩
        ·have q0:∀p:KW w1,p.wd.cell? _=_:=fun p=>q0 ⟨p.wd,t1.trans p.no⟩
         first|gi_big_quiet_step (fail)|quiet_step_in (fail)
         refine wpQuietIn_nil ?_;rfl
        try dsimp only
        refine wpAnyU_take (i:=1) rfl rfl rfl (by kernel_rfl) (by kernel_rfl) (by kernel_rfl) (by kernel_rfl) tu (fun _ _ _ _ h=>h) ?_;apply Exists.intro;refine⟨fun w1 t1=>?_,?_⟩
        ·skip
         first|gi_big_quiet_step (fail)|quiet_step_in (fail)
         refine wpQuietIn_nil ?_;rfl
        try dsimp only
        refine wpAnyU_take (i:=2) rfl rfl rfl (by kernel_rfl) (by kernel_rfl) (by kernel_rfl) (by kernel_rfl) tu (fun _ _ _ _ h=>h) ?_;apply Exists.intro;refine⟨fun w1 t1=>?_,?_⟩
        ·skip
         first|gi_big_quiet_step (fail)|quiet_step_in (fail)
         refine wpQuietIn_nil ?_;rfl
        try dsimp only
        refine wpAnyU_take (i:=3) rfl rfl rfl (by kernel_rfl) (by kernel_rfl) (by kernel_rfl) (by kernel_rfl) tu (fun _ _ _ _ h=>h) ?_;apply Exists.intro;refine⟨fun w1 t1=>?_,?_⟩
        ·skip
         first|gi_big_quiet_step (fail)|quiet_step_in (fail)
         refine wpQuietIn_nil ?_;rfl
        try dsimp only
        refine wpAnyU_take (i:=4) rfl rfl rfl (by kernel_rfl) (by kernel_rfl) (by kernel_rfl) (by kernel_rfl) tu (fun _ _ _ _ h=>h) ?_;apply Exists.intro;refine⟨fun w1 t1=>?_,?_⟩
        ·skip
         first|gi_big_quiet_step (fail)|quiet_step_in (fail)
         refine wpQuietIn_nil ?_;rfl
        try dsimp only
        refine wpAnyU_take (i:=5) rfl rfl rfl (by kernel_rfl) (by kernel_rfl) (by kernel_rfl) (by kernel_rfl) tu (fun _ _ _ _ h=>h) ?_;apply Exists.intro;refine⟨fun w1 t1=>?_,?_⟩
        ·have q1:∀p:KW w1,p.wd.cell? _=_:=fun p=>q1 ⟨p.wd,t1.trans p.no⟩
         have q2:∀p:KW w1,p.wd.cell? _=_:=fun p=>q2 ⟨p.wd,t1.trans p.no⟩
         first|gi_big_quiet_step (fail)|quiet_step_in (fail)
         refine wpQuietIn_nil ?_;rfl
        try dsimp only
        repeat' first
         | (refine wpAnyU_end (by assumption) (by decide +kernel) ?_;intro wz tz)
         | ((first
             | refine wpAnyU_ready (rs:=[6,10]) (by assumption) (by decide +kernel) (by simp) ?_
             | refine wpAnyU_ready (rs:=[7,10]) (by assumption) (by decide +kernel) (by simp) ?_
             | refine wpAnyU_ready (rs:=[8,9,10]) (by assumption) (by decide +kernel) (by simp) ?_
             | refine wpAnyU_ready (rs:=[8,10]) (by assumption) (by decide +kernel) (by simp) ?_
             | refine wpAnyU_ready (rs:=[9,10]) (by assumption) (by decide +kernel) (by simp) ?_
             | refine wpAnyU_ready (rs:=[8,9]) (by assumption) (by decide +kernel) (by simp) ?_
             | refine wpAnyU_ready (rs:=[9,11]) (by assumption) (by decide +kernel) (by simp) ?_
             | refine wpAnyU_ready (rs:=[6]) (by assumption) (by decide +kernel) (by simp) ?_
             | refine wpAnyU_ready (rs:=[7]) (by assumption) (by decide +kernel) (by simp) ?_
             | refine wpAnyU_ready (rs:=[8]) (by assumption) (by decide +kernel) (by simp) ?_
             | refine wpAnyU_ready (rs:=[9]) (by assumption) (by decide +kernel) (by simp) ?_
             | refine wpAnyU_ready (rs:=[10]) (by assumption) (by decide +kernel) (by simp) ?_
             | refine wpAnyU_ready (rs:=[11]) (by assumption) (by decide +kernel) (by simp) ?_
             | refine wpAnyU_ready (rs:=[12]) (by assumption) (by decide +kernel) (by simp) ?_)
            intro wz tz;try have R10:=R10.touch tz id
            try have hT8:=hT8.no tz
            have tu:=tu.trans tz;try have c0:=R10.cell 0
            try have c1':=R10.cell 1
            try have f0:=R10.soft 0
            try have f1:=R10.soft 1)
         | exact AllReadyU.nil
         | (refine AllReadyU.cons rfl (fun K hK=>?_) ?_
            go_simp;first
            | (refine hK _ _ ?_
               clear hK K
               first
                | (obtain⟨wy,hwy,ty,R10⟩:=box_row wz [.slice none 0 0,.slice none 0 0] 51
                   rw[← hwy];obtain⟨g10,hg10⟩:∃B,B=wz.heap.size:=⟨_,rfl⟩;rw[← hg10]at R10 ⊢;have n10:=Lib.hid (show wr.heap.size≤g10 by rw[hg10];exact tu.size);have tu:=tu.trans ty;try have hT8:=hT8.no ty
                   clear hwy hg10 ty)
                | (show wpAnyU _ _ _ _ _ _ _ _ _ _ wz;skip)
                | (obtain⟨wy,hwy⟩:∃wy,wy=(wz.setCell ⟨g10,0,none⟩ (.slice none 0 0)).setCell ⟨g10,1,none⟩ (.slice none 0 0):=⟨_,rfl⟩
                   rw[← hwy];have ty:Touch (One g10) wz wy:=by rw[hwy];exact((Touch.refl (One g10) wz).setCell (p:=⟨g10,0,none⟩) (fun _=>rfl) _).setCell (p:=⟨g10,1,none⟩) (fun _=>rfl) _
                   try have hap:=hT8.apart R10 (by intro v hv k z;simp at hv;rw[hv];simp)
                   try have hT8:=hT8.one ty hap.1 hap.2
                   have R10:Row wy g10 51 [.slice none 0 0,.slice none 0 0]:=by rw[hwy];exact(R10.setCell 0 _).setCell 1 _
                   have tu:=tu.then ty (fun i hi e=>by have e':i=g10:=e;have:=n10.out;omega);clear hwy ty))
            | (refine⟨trivial,(callsIn_wide.2 (C.out _ tu)).mono ?_⟩;rintro e wy ⟨rfl,ty⟩;have tu:=tu.trans ty;try have R10:=R10.touch ty id;clear ty;dsimp only
               refine hK _ _ ?_;clear hK K))
        all_goals
         have hE:Hid (Touch No wr wz):=tu.trans tz;gi_wp2;gi_meet;exact⟨g10,rfl,rfl,hE⟩
       case rest =>
        obtain⟨g10,rfl,rfl,T6⟩:=hcut;clear q0 q1 q2 C;have hf:Me.right Ns Ws (Me.rawAt Ins k) k (Me.recAt Rc k)=false:=by rw[HGD.out.1,← HGD.out.2.1]
        go_wp2
        go_quiet (fail)
        go_wp2;go_ret;refine⟨?_,HT1.out.trans (TT.out.trans (T6.out.drewN _))⟩;rw[← HBB.out,Me.begins,hRl,all_no (show k<N by omega) hf,Bool.and_false];rfl
     | some Ts =>
       gi_cut [10,11] from 17 (fun s10 s11 wx=>∃(g10:Nat) (ta:Option Addr) (tn tc:Nat) (tla:Option Addr) (tm td:Nat),s10 = .pointer (some ⟨g10,0,none⟩)∧s11 = .int .i64 0∧Hid (Touch No wr wx)∧Hid (Row wx g10 51 [.slice ta tn tc,.slice tla tm td])∧Hid (TIn wx ta tn tc tla tm td (Me.tn Ts (Ts.length-1)).1 (Me.tn Ts (Ts.length-1)).2))
       case first =>
        refine wpIn_region_u 13 #[false,false,false,false,false,false,false,false,false,false,false,false,false] (by kernel_rfl) rfl rfl fun wu tu=>?_
        refine wpAnyU_take (i:=0) rfl rfl rfl (by kernel_rfl) (by kernel_rfl) (by kernel_rfl) (by kernel_rfl) tu (fun _ _ _ _ h=>h) ?_;apply Exists.intro;refine⟨fun w1 t1=>?_,?_⟩
        ·have q0:∀p:KW w1,p.wd.cell? _=_:=fun p=>q0 ⟨p.wd,t1.trans p.no⟩
         first|gi_big_quiet_step (fail)|quiet_step_in (fail)
         refine wpQuietIn_nil ?_;rfl
        try dsimp only
        refine wpAnyU_take (i:=1) rfl rfl rfl (by kernel_rfl) (by kernel_rfl) (by kernel_rfl) (by kernel_rfl) tu (fun _ _ _ _ h=>h) ?_;apply Exists.intro;refine⟨fun w1 t1=>?_,?_⟩
        ·skip
         first|gi_big_quiet_step (fail)|quiet_step_in (fail)
         refine wpQuietIn_nil ?_;rfl
        try dsimp only
        refine wpAnyU_take (i:=2) rfl rfl rfl (by kernel_rfl) (by kernel_rfl) (by kernel_rfl) (by kernel_rfl) tu (fun _ _ _ _ h=>h) ?_;apply Exists.intro;refine⟨fun w1 t1=>?_,?_⟩
        ·skip
         first|gi_big_quiet_step (fail)|quiet_step_in (fail)
         refine wpQuietIn_nil ?_;rfl
        try dsimp only
        refine wpAnyU_take (i:=3) rfl rfl rfl (by kernel_rfl) (by kernel_rfl) (by kernel_rfl) (by kernel_rfl) tu (fun _ _ _ _ h=>h) ?_;apply Exists.intro;refine⟨fun w1 t1=>?_,?_⟩
        ·skip
         first|gi_big_quiet_step (fail)|quiet_step_in (fail)
         refine wpQuietIn_nil ?_;rfl
        try dsimp only
        refine wpAnyU_take (i:=4) rfl rfl rfl (by kernel_rfl) (by kernel_rfl) (by kernel_rfl) (by kernel_rfl) tu (fun _ _ _ _ h=>h) ?_;apply Exists.intro;refine⟨fun w1 t1=>?_,?_⟩
        ·skip
         first|gi_big_quiet_step (fail)|quiet_step_in (fail)
         refine wpQuietIn_nil ?_;rfl
        try dsimp only
        refine wpAnyU_take (i:=5) rfl rfl rfl (by kernel_rfl) (by kernel_rfl) (by kernel_rfl) (by kernel_rfl) tu (fun _ _ _ _ h=>h) ?_;apply Exists.intro;refine⟨fun w1 t1=>?_,?_⟩
        ·have q1:∀p:KW w1,p.wd.cell? _=_:=fun p=>q1 ⟨p.wd,t1.trans p.no⟩
         have q2:∀p:KW w1,p.wd.cell? _=_:=fun p=>q2 ⟨p.wd,t1.trans p.no⟩
         first|gi_big_quiet_step (fail)|quiet_step_in (fail)
         refine wpQuietIn_nil ?_;rfl
        try dsimp only
        repeat' first
         | (refine wpAnyU_end (by assumption) (by decide +kernel) ?_;intro wz tz)
         | ((first
             | refine wpAnyU_ready (rs:=[6,10]) (by assumption) (by decide +kernel) (by simp) ?_
             | refine wpAnyU_ready (rs:=[7,10]) (by assumption) (by decide +kernel) (by simp) ?_
             | refine wpAnyU_ready (rs:=[8,9,10]) (by assumption) (by decide +kernel) (by simp) ?_
             | refine wpAnyU_ready (rs:=[8,10]) (by assumption) (by decide +kernel) (by simp) ?_
             | refine wpAnyU_ready (rs:=[9,10]) (by assumption) (by decide +kernel) (by simp) ?_
             | refine wpAnyU_ready (rs:=[8,9]) (by assumption) (by decide +kernel) (by simp) ?_
             | refine wpAnyU_ready (rs:=[9,11]) (by assumption) (by decide +kernel) (by simp) ?_
             | refine wpAnyU_ready (rs:=[6]) (by assumption) (by decide +kernel) (by simp) ?_
             | refine wpAnyU_ready (rs:=[7]) (by assumption) (by decide +kernel) (by simp) ?_
             | refine wpAnyU_ready (rs:=[8]) (by assumption) (by decide +kernel) (by simp) ?_
             | refine wpAnyU_ready (rs:=[9]) (by assumption) (by decide +kernel) (by simp) ?_
             | refine wpAnyU_ready (rs:=[10]) (by assumption) (by decide +kernel) (by simp) ?_
             | refine wpAnyU_ready (rs:=[11]) (by assumption) (by decide +kernel) (by simp) ?_
             | refine wpAnyU_ready (rs:=[12]) (by assumption) (by decide +kernel) (by simp) ?_)
            intro wz tz;try have R10:=R10.touch tz id
            try have hT8:=hT8.no tz
            have tu:=tu.trans tz;try have c0:=R10.cell 0
            try have c1':=R10.cell 1
            try have f0:=R10.soft 0
            try have f1:=R10.soft 1)
         | exact AllReadyU.nil
         | (refine AllReadyU.cons rfl (fun K hK=>?_) ?_
            go_simp;first
            | (refine hK _ _ ?_
               clear hK K
               first
                | (obtain⟨wy,hwy,ty,R10⟩:=box_row wz [.slice none 0 0,.slice none 0 0] 51
                   rw[← hwy];obtain⟨g10,hg10⟩:∃B,B=wz.heap.size:=⟨_,rfl⟩;rw[← hg10]at R10 ⊢;have n10:=Lib.hid (show wr.heap.size≤g10 by rw[hg10];exact tu.size);have tu:=tu.trans ty;try have hT8:=hT8.no ty
                   clear hwy hg10 ty)
                | (show wpAnyU _ _ _ _ _ _ _ _ _ _ wz;skip)
                | (obtain⟨wy,hwy⟩:∃wy,wy=(wz.setCell ⟨g10,0,none⟩ (.slice ta tn tc)).setCell ⟨g10,1,none⟩ (.slice tla tm td):=⟨_,rfl⟩
                   rw[← hwy];have ty:Touch (One g10) wz wy:=by rw[hwy];exact((Touch.refl (One g10) wz).setCell (p:=⟨g10,0,none⟩) (fun _=>rfl) _).setCell (p:=⟨g10,1,none⟩) (fun _=>rfl) _
                   try have hap:=hT8.apart R10 (by intro v hv k z;simp at hv;rw[hv];simp)
                   try have hT8:=hT8.one ty hap.1 hap.2
                   have R10:Row wy g10 51 [(.slice ta tn tc),(.slice tla tm td)]:=by rw[hwy];exact(R10.setCell 0 _).setCell 1 _
                   have tu:=tu.then ty (fun i hi e=>by have e':i=g10:=e;have:=n10.out;omega);clear hwy ty))
            | (refine⟨trivial,(callsIn_wide.2 (C.out _ tu)).mono ?_⟩;rintro e wy ⟨ta,tn,tc,tla,tm,td,rfl,hT8,ty⟩;have tu:=tu.trans ty;try have R10:=R10.touch ty id;clear ty;dsimp only
               refine hK _ _ ?_;clear hK K))
        all_goals
         have hE:Hid (Touch No wr wz):=tu.trans tz;have R10:=Lib.hid (R10.touch tz id);have hT8:=Lib.hid (hT8.no tz);gi_wp2;gi_meet;exact⟨g10,ta,tn,tc,tla,tm,td,rfl,rfl,hE,R10,hT8⟩
       case rest =>
        obtain⟨g10,ta,tn,tc,tla,tm,td,rfl,rfl,T6,R10,HT8⟩:=hcut;clear q0 q1 q2 C;have p0:=KW.cell (T6.out.cell id HA.out.1);have p1:=KW.cell (T6.out.cell id HA.out.2.1);have p2:=KW.cell (T6.out.cell id HA.out.2.2.1);have p3:=KW.cell (R10.out.cell 0);have p4:=KW.cell (R10.out.cell 1);have hgd:=HGD.out.2.1;have hix2:(Me.recAt Rc k).1=ix:=HGD.out.2.2;simp only[hix2]at hgd
        by_cases hid:ix=(k:Int)
        ·have hne:(ix != (k:Int))=false:=by rw[hid];simp
         have e1:IntKind.u32.wrap (k:Int)=((k:Nat):Int):=IntWalk.u32_in _ (by omega);have hRr:=HA.out.2.2.2.no T6.out;have hT8:=HT8.out;have CS:=Lib.hid (fun p:KW wc=>refTenSame_any p.wd ta tla sa la tn tc tm td n1 c1 m1 d1 (Me.zs (Me.tn Ts (Ts.length-1)).1) (Me.tn Ts (Ts.length-1)).2 (Rc.getD k (0,[],[])).2.1 (Rc.getD k (0,[],[])).2.2 hT8.zn (by have:=hT8.n4;omega) (hT8.no p.no).srz hT8.lm (by have:=hT8.m4;omega) (hT8.no p.no).lr hRr.sn (hRr.no p.no).sr hRr.lm (hRr.no p.no).lr);obtain⟨bb2,hbb⟩:∃z,(decide (Me.zs (Me.tn Ts (Ts.length-1)).1=(Rc.getD k (0,[],[])).2.1)&&decide ((Me.tn Ts (Ts.length-1)).2=(Rc.getD k (0,[],[])).2.2))=z:=⟨_,rfl⟩;rw[hbb]at CS
         have hf:Hid (Me.right Ns Ws (Me.rawAt Ins k) k (Me.recAt Rc k)=bb2):=by
          show _=_
          have h:=HGD.out.1;rw[h,← hgd,← hbb];simp[hid,Me.recAt]
         clear hT8 hRr hbb hgd hix2 hid;go_upto_region 7 with fail;refine wp_region_kept (by kernel_rfl) (by kernel_rfl) ?_;repeat (first|go_big_quiet_step (with_reducible exact Calls.kept_of (CS.out _))|quiet_step (with_reducible exact Calls.kept_of (CS.out _)))
         refine wpQuiet_nil ?_;intro _ hw';obtain⟨kw,hw''⟩:=hw';subst hw'';obtain⟨wk,tk⟩:=kw;have tk:=Lib.hid tk;dsimp only;have TF:=Lib.hid (HT1.out.trans (TT.out.trans (T6.out.trans tk.out)));clear CS p0 p1 p2 p3 p4;cases bb2
         ·go_wp2
          go_ret;refine⟨?_,TF.out⟩;rw[← HBB.out,Me.begins,hRl,all_no (show k<N by omega) hf.out,Bool.and_false];rfl
         ·have HE2:Hid (∀i,i<k+1→Me.right Ns Ws (Me.rawAt Ins i) i (Me.recAt Rc i)=true):=fun i hi=>by
           by_cases h:i<k
           ·exact HE.out i h
           ·have e:i=k:=by omega
            subst e;exact hf.out
          have TT2:=Lib.hid (TT.out.trans (T6.out.trans tk.out));go_wp2
          go_roundg g'
          case measure=>omega
          case rel=>exact⟨k+1,by omega,by go_num,HE2,TT2⟩
        ·have hne:(ix != (k:Int))=true:=by simp[hid]
         have e1:IntKind.u32.wrap (k:Int)=((k:Nat):Int):=IntWalk.u32_in _ (by omega)
         have hf:Me.right Ns Ws (Me.rawAt Ins k) k (Me.recAt Rc k)=false:=by
          have h:=HGD.out.1;rw[h,← hgd];simp[hid]
         go_upto_region 7 with fail;refine wp_region_kept (by kernel_rfl) (by kernel_rfl) ?_;repeat (first|go_big_quiet_step (fail)|quiet_step (fail))
         refine wpQuiet_nil ?_;intro _ hw';obtain⟨kw,hw''⟩:=hw';subst hw'';obtain⟨wk,tk⟩:=kw;have tk:=Lib.hid tk;dsimp only;go_wp2;go_ret;refine⟨?_,HT1.out.trans (TT.out.trans (T6.out.trans tk.out))⟩;rw[← HBB.out,Me.begins,hRl,all_no (show k<N by omega) hf,Bool.and_false];rfl
end
end Go.Proofs.YtjlphmmalebgpaaGreat
