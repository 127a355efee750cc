/-
  A part of the proof.
-/
import Derived.Test.YtjlphmmalebgpaaGreatK14
set_option linter.unusedSimpArgs false
set_option linter.unusedVariables false
set_option maxHeartbeats 2000000
set_option maxRecDepth 100000
namespace Go.Proofs.YtjlphmmalebgpaaGreat
section
open Go Go.RowKit
theorem Me.Joins.one {Xs:List Me.Ten}{al:Nat}{S:List Nat}(h:Me.Joins Xs al S):1≤Xs.length:=by
 rcases Xs with _|⟨x,r⟩
 ·have h1:=h.sum
  have h2:=(h.ok.get h.inn).1;have h3:(Me.dims ([]:List Me.Ten) al).sum=0:=rfl;omega
 ·simp
theorem Me.Joins.set {Xs:List Me.Ten}{al:Nat}{S:List Nat}(h:Me.Joins Xs al S){n:Nat}(hn:n<Xs.length):(Me.tn Xs n).1.set al (S.getD al 0)=S:=by
 obtain⟨o1,o2,o3⟩:=h.each _ (Me.tn_mem hn);refine List.ext_getElem? fun k=>?_
 by_cases hk:k<S.length
 ·by_cases he:al=k
  ·subst he
   rw[List.getElem?_set_self (by rw[o3];exact hk),Lgd,Lge hk];rfl
  ·rw[List.getElem?_set_ne he]
   have:=h.like _ (Me.tn_mem hn) k hk (fun e=>he e.symm);rw[Lgd,Lgd,Lge (by rw[o3];exact hk),Lge hk]at this;rw[Lge (by rw[o3];exact hk),Lge hk]
   simpa using this
 ·rw[Lgn (by rw[List.length_set,o3];omega),Lgn (by omega)]
theorem movesJoin_in (w:World)(a:Option Addr)(k kc al:Nat)(Xs:List Me.Ten)(S:List Nat)(hJ:Me.Joins Xs al S)(hX:TsIn w a Xs)(hk:Xs.length=k)(hk4:k≤4)(hrg:∀x∈Xs,∀y∈x.2,-2147483648≤y∧y≤2147483647) :
  Calls Tryz.prog 158 #[.slice a k kc,.int .i64 ((al:Nat):Int)] w (TOut w S (Me.joinL Xs al S)):=by
 obtain⟨n,hn⟩:∃n,S.length=n:=⟨_,rfl⟩;obtain⟨m,hm⟩:∃m,Me.pr S=m:=⟨_,rfl⟩;have hm4:m≤4096:=by rw[← hm];exact hJ.ok.most
 have hn4:n≤4:=by rw[← hn];exact hJ.ok.four
 have hn0:0<n:=by rw[← hn];exact hJ.ok.one
 have hal:al<n:=by rw[← hn];exact hJ.inn
 have hk1:1≤k:=by rw[← hk];exact hJ.one
 have hk0:¬k=0:=by omega
 have hk0':(0:Int)<(k:Nat):=by omega
 have g3:decide ((k:Int)<1)=false:=by simp;omega
 have g4:decide ((4:Int)<(k:Nat))=false:=by simp;omega
 have g5:decide ((n:Int)≤(al:Nat))=false:=by simp;omega
 have g6:decide ((al:Int)<0)=false:=by simp
 have g7:decide (n≤al)=false:=by simp;omega
 have g8:decide (4<k)=false:=by simp;omega
 have g1:¬n≤al:=by omega
 have g2:¬4<k:=by omega
 have hs64:S.getD al 0≤64:=(hJ.ok.get hJ.inn).2
 have hsum:Hid (∀j,j≤k→((Me.dims Xs al).take j).sum≤64):=fun j hj=>by
  have h1:=Me.take_sum_mono (Me.dims Xs al) (i:=j) (j:=k) hj;rw[List.take_of_length_le (l:=Me.dims Xs al) (i:=k) (by rw[Me.dims_length,hk];exact Nat.le_refl _),← hJ.sum]at h1;omega
 have hsucc:Hid (∀j,j<k→((Me.dims Xs al).take (j+1)).sum=((Me.dims Xs al).take j).sum+(Me.tn Xs j).1.getD al 0):=fun j hj=>by
  rw[Me.take_sum_succ _ _ (by rw[Me.dims_length,hk];exact hj),Me.dims_get (by rw[hk];exact hj)]
 have hend:Hid ((Me.tn Xs 0).1.set al (((Me.dims Xs al).take k).sum)=S):=by
  show _=_
  rw[List.take_of_length_le (by rw[Me.dims_length,hk];exact Nat.le_refl _),← hJ.sum,hJ.set (by omega)]
 have hl0:(Me.tn Xs 0).1.length=n:=by rw[(hJ.each _ (Me.tn_mem (by omega))).2.2,hn]
 have hf:∀(args:Array Value) (wx:World),(callFunc 213 args).run Tryz.prog wx = .ok (.enter 213 args) wx:=fun args wx=>by simp[callFunc,Tryz.func213,Tryz.f213]
 have Hf:=Lib.hid hf;have hmf:∀(fn:Fn) (first cap:Array Value) (w:World),(Instr.makeFunc fn first cap).run Tryz.prog w = .ok (.func fn first cap) w:=fun _ _ _ _=>rfl
 obtain⟨b,o,sa0,n0,c0,la0,m0,d0,rfl,c1,c2,hT0⟩:=hX 0 (by omega);obtain rfl:n0=n:=by rw[← hT0.sn,hl0]
 rw[Nat.zero_mul,Nat.add_zero]at c1 c2;have HC:=Lib.hid (aI c1 c2);have HT0:=Lib.hid hT0;have HJ:=Lib.hid hJ;have HX:=Lib.hid hX;have HK:=Lib.hid (aI hk (aI hn hm));have HL0:=Lib.hid hl0;have HRG:=Lib.hid hrg;have CT:Hid (∀wx:World,Touch No w wx→Calls Tryz.prog 210 #[.slice (some ⟨b,o,none⟩) k kc,.func (.func 211) #[] #[]] wx fun e w'=>e = .returned (.bool false)∧Touch No wx w'):=fun wx t=>containsT wx _ k kc Xs hk (by omega) (hX.no t)
 clear hJ hX hk hn hm hl0 hf c1 c2 hT0 hrg;go_enter Tryz.func158,Tryz.ntmps158;go_wp2_with fail;obtain⟨w1,hw1,t1,b2,b3,b4,hsz⟩:=rows_TIT w #[.slice (some ⟨b,o,none⟩) k kc] #[.int .i64 ((al:Nat):Int)] #[.slice none 0 0,.slice none 0 0] 25 3 51;rw[← hw1];have H1:=Lib.hid (aI t1 (aI b2 (aI b3 b4)));clear hw1 t1 b2 b3 b4;have q1:=KW.cell (H1.out.2.1.cell 0);have q2:=KW.cell (H1.out.2.2.1.cell 0);have q3:=KW.cell (H1.out.1.cell id HC.out.1);have CT1:Hid (∀p:KW w1,Calls Tryz.prog 210 #[.slice (some ⟨b,o,none⟩) k kc,.func (.func 211) #[] #[]] p.wd fun e w'=>e = .returned (.bool false)∧Touch No p.wd w'):=fun p=>CT.out _ (H1.out.1.trans p.no)
 refine wp_region_kept (by kernel_rfl) (by kernel_rfl) ?_;repeat (first|go_big_quiet_step (with_reducible exact Calls.kept_of (CT1.out _))|quiet_step (with_reducible exact Calls.kept_of (CT1.out _)))
 refine wpQuiet_nil ?_;intro _ hw';obtain⟨kw,hw''⟩:=hw';subst hw'';obtain⟨wk,tk⟩:=kw;have tk:=Lib.hid tk;dsimp only;have H2:=Lib.hid (aI (H1.out.1.trans tk.out) (aI (H1.out.2.1.touch tk.out id) (aI (H1.out.2.2.1.touch tk.out id) (H1.out.2.2.2.touch tk.out id))));have hsz2:w.heap.size+3≤wk.heap.size:=by have:=tk.out.size;omega
 obtain⟨w2,hw2⟩:∃w2,w2=wk:=⟨_,rfl⟩;subst hw2;clear tk H1 q1 q2 q3 CT1 CT hsz;have k1:=H2.out.2.1.cell 0;have k3:=H2.out.1.cell id HC.out.1;go_wp2_with fail;refine(cloneP_in w2 sa0 n0 c0 (Me.tn Xs 0).1 hn0 hn4 (HT0.out.no H2.out.1).sr HL0.out).mono ?_;rintro e w3 ⟨g,c',rfl,hg,hc',hR,t3⟩;have H3:=Lib.hid (aI (H2.out.1.trans t3) (aI (H2.out.2.1.touch t3 id) (aI (H2.out.2.2.1.touch t3 id) (aI (H2.out.2.2.2.touch t3 id) hR))));have hgX:w.heap.size+3≤g:=by omega
 have hg3:=hR.lt;clear t3 hR H2 k1 k3 hg;have k2:=H3.out.2.2.1.cell 0;have k1:=H3.out.2.1.cell 0;have cz:=H3.out.2.2.2.2.soft al;obtain⟨z0,hz0⟩:∃z0,(Me.tn Xs 0).1.getD al 0=z0:=⟨_,rfl⟩;have cg:w3.cell? ⟨g,al,none⟩=some (.int .i64 ((z0:Nat):Int)):=by rw[← hz0];exact H3.out.2.2.2.2.cell (nums_get (by rw[HL0.out];exact hal))
 have hali:(al:Int)<(n0:Nat):=by omega
 clear hz0;have k1':∀v:Value,(w3.setCell ⟨g,al,none⟩ v).cell? ⟨w.heap.size,0,none⟩=some (.slice (some ⟨b,o,none⟩) k kc):=fun v=>((H3.out.2.1.touch (F:=One g) ((Touch.refl (One g) w3).setCell (p:=⟨g,al,none⟩) (fun _=>rfl) v)) (fun e=>by unfold One at e;omega)).cell 0
 go_wp2_with fail;obtain⟨w4,hw4⟩:∃w4,w4=w3.setCell ⟨g,al,none⟩ (.int .i64 0):=⟨_,rfl⟩
 have H4:Hid (Touch No w w4∧Row w4 w.heap.size 25 [.slice (some ⟨b,o,none⟩) k kc]∧Row w4 (w.heap.size+1) 3 [.int .i64 ((al:Nat):Int)]∧Row w4 (w.heap.size+1+1) 51 [.slice none 0 0,.slice none 0 0]∧RowP w4 g 3 (nums .i64 ((Me.tn Xs 0).1.set al 0))):=by
  have t:Touch (One g) w3 w4:=by rw[hw4];exact(Touch.refl (One g) w3).setCell (p:=⟨g,al,none⟩) (fun _=>rfl) _
  refine⟨H3.out.1.oneNo t (by omega),H3.out.2.1.keep t (by omega),H3.out.2.2.1.keep t (by omega),H3.out.2.2.2.1.keep t (by omega),?_⟩;have:=H3.out.2.2.2.2.set (k:=al) (by rw[nums_length,HL0.out];exact hal) (.int .i64 ((0:Nat):Int));rw[nums_set]at this;rw[hw4];exact this
 rw[← hw4];clear hw4 H3 k1 k2 k1' cz cg hg3
 go_loopg [45] k (fun gh s45 wr=>∃j:Nat,j+gh=k∧s45 = .int .i64 ((j:Nat):Int)∧Hid (Touch (One g) w4 wr)∧Hid (RowP wr g 3 (nums .i64 ((Me.tn Xs 0).1.set al (((Me.dims Xs al).take j).sum)))))
 case atStart=>exact⟨0,by omega,rfl,Touch.refl _ _,H4.out.2.2.2.2⟩
 case round =>
  obtain⟨j,hjg,rfl,T,R⟩:=hrel;have hwr:Hid (Touch No w wr):=H4.out.1.oneNo T.out (by omega);cases gk with
  | succ g' =>
    have hjk:(j:Int)<(k:Nat):=by omega
    obtain⟨tb,t_o,sa,n',c,la,mj,d,hbo,c1,c2,hT⟩:=(HX.out.no hwr.out) j (by rw[HK.out.1];omega);obtain⟨rfl,rfl⟩:b=tb∧o=t_o:=by simpa using hbo
    have hlj:(Me.tn Xs j).1.length=n0:=by rw[(HJ.out.each _ (Me.tn_mem (by rw[HK.out.1];omega))).2.2,HK.out.2.1]
    obtain rfl:n'=n0:=by rw[← hT.sn,hlj]
    obtain⟨b2,o2,rfl,cd⟩:=hT.dir (k:=al) hal;obtain⟨D,hD⟩:∃D,(Me.tn Xs j).1.getD al 0=D:=⟨_,rfl⟩;obtain⟨x,hx⟩:∃x,((Me.dims Xs al).take j).sum=x:=⟨_,rfl⟩;have hsj:=hsucc.out j (by omega);have hs1:=hsum.out (j+1) (by omega);rw[hD]at cd hsj;rw[hx]at R hsj
    have cx:wr.cell? ⟨g,al,none⟩=some (.int .i64 ((x:Nat):Int)):=R.out.cell (by
     have:=nums_get (k:=.i64) (xs:=(Me.tn Xs 0).1.set al x) (i:=al) (by rw[List.length_set,HL0.out];exact hal);rw[Me.getD_set_self (by rw[HL0.out];exact hal)]at this;exact this)
    obtain⟨B,hB⟩:∃B,B=wr.heap.size:=⟨_,rfl⟩;obtain⟨wb,hwb⟩:∃wb,wb=wr.alloc (.cells #[.slice (some ⟨b2,o2,none⟩) n' c,.slice la mj d] 51):=⟨_,rfl⟩;have tb:Touch No wr wb:=by rw[hwb];exact(Touch.refl No wr).alloc _
    have HB:Hid (Touch No wr wb∧Row wb B 51 [.slice (some ⟨b2,o2,none⟩) n' c,.slice la mj d]):=⟨tb,by rw[hwb,hB];exact Row.new _ _ _⟩;have k3':∀ob:Obj,(wr.alloc ob).cell? ⟨w.heap.size+1,0,none⟩=some (.int .i64 ((al:Nat):Int)):=fun ob=>((H4.out.2.2.1.keep T.out (by omega)).touch ((Touch.refl No wr).alloc ob) id).cell 0
    have CA:=alike_in wb (some ⟨b2,o2,none⟩) (some ⟨g,0,none⟩) n' c c' al (Me.tn Xs j).1 ((Me.tn Xs 0).1.set al x) hn4 hlj (by rw[List.length_set,HL0.out]) hT.sc hc' hal (hT.sr.no HB.out.1) (R.out.touch HB.out.1 id).rd (fun i hi he=>by
     rw[Me.getD_set_ne (fun e=>he e.symm),HJ.out.like _ (Me.tn_mem (by rw[HK.out.1];omega)) i (by rw[HK.out.2.1];exact hi) he,HJ.out.like _ (Me.tn_mem (by rw[HK.out.1];omega)) i (by rw[HK.out.2.1];exact hi) he])
    have HCA:=Lib.hid CA;have HCD:=Lib.hid cd;have HCX:=Lib.hid cx;have HDX:=Lib.hid (aI hsj hs1);clear CA hlj hT hD hx hsj hs1 tb hbo cd cx;go_wp2_with fail;rw[← hwb,← hB];refine HCA.out.mono ?_;rintro e w9 ⟨rfl,t9⟩;have HT9:=Lib.hid (HB.out.1.trans t9);have hBk:=HB.out.2.touch t9 id;have q1:=KW.cell hBk.c0;have q2:=KW.cell (HT9.out.cell id HCD.out);have q3:=KW.cell (HT9.out.cell id HCX.out);have q4:=KW.cell (((H4.out.2.2.1.keep T.out (by omega)).touch HT9.out id).cell 0);obtain⟨y,hy⟩:∃y,x+D=y:=⟨_,rfl⟩;have hy64:y≤64:=by have h1:=HDX.out.1;have h2:=HDX.out.2;omega
    have e1:IntKind.i64.wrap ((x:Int)+(D:Int))=((y:Nat):Int):=by rw[← hy,← Int.natCast_add];exact IntWalk.i64_in _ (by omega)
    have HN:Hid (∀W:World,Touch No w9 W→W.frozen? ⟨g,al,none⟩=false∧Touch (One g) w4 (W.setCell ⟨g,al,none⟩ (.int .i64 ((y:Nat):Int)))∧RowP (W.setCell ⟨g,al,none⟩ (.int .i64 ((y:Nat):Int))) g 3 (nums .i64 ((Me.tn Xs 0).1.set al (((Me.dims Xs al).take (j+1)).sum)))):=fun W t=>by
     have RW:=R.out.touch (HT9.out.trans t) id;refine⟨RW.soft al,(T.out.trans (HT9.out.trans t).no).setCell (p:=⟨g,al,none⟩) (fun _=>rfl) _,?_⟩;have h2:=RW.set (k:=al) (by rw[nums_length,List.length_set,HL0.out];exact hal) (.int .i64 ((y:Nat):Int));rw[nums_set,List.set_set]at h2;rw[HDX.out.1,hy];exact h2
    clear hwb hB k3' hBk t9 HCA HB hy c1 c2 T R;go_wp2_with fail;refine wp_region_kept_tail 10 (by kernel_rfl) (by kernel_rfl) ?_;simp only[List.take_succ_cons,List.take_zero,List.drop_succ_cons,List.drop_zero];repeat (first|go_big_quiet_step (fail)|quiet_step (fail))
    refine wpQuiet_nil ?_;intro _ hw';obtain⟨kw,hw''⟩:=hw';subst hw'';obtain⟨wk,tk⟩:=kw;have tk:=Lib.hid tk;dsimp only;have HN2:=Lib.hid (HN.out wk tk.out);have cz:=HN2.out.1;have cg:=q3 ⟨wk,tk.out⟩;dsimp only at cg;clear q1 q2 q3 q4;go_wp2
    go_roundg g'
    case measure=>omega
    case rel=>exact⟨j+1,by omega,by go_num,HN2.out.2.1,HN2.out.2.2⟩
  | zero =>
    obtain rfl:j=k:=by omega
    have RT:Hid (RowP wr g 3 (nums .i64 S)):=by have:=R.out;rw[hend.out]at this;exact this
    have H7:=Lib.hid (aI hwr.out (aI (H4.out.2.1.keep T.out (by omega)) (aI (H4.out.2.2.1.keep T.out (by omega)) (H4.out.2.2.2.1.keep T.out (by omega)))));have hszr:w.heap.size+3≤wr.heap.size:=by have:=RT.out.lt;omega
    clear T R H4 hwr;go_wp2_with fail;refine(shapeCheck_ok (c:=c') RT.out.rd HK.out.2.1 HJ.out.ok).mono ?_;rintro e w' ⟨rfl,rfl⟩;go_wp2_with fail
    have C:=filled_in wr 213 Hf.out (.pointer (some ⟨w.heap.size+1,0,none⟩)) (.pointer (some ⟨w.heap.size,0,none⟩)) (some ⟨g,0,none⟩) n0 c' m S (Me.joinI Xs al S) HJ.out.ok HK.out.2.1 HK.out.2.2 RT.out.rd
     (fun i W h hi t hR=>join2_in W h (w.heap.size+1) w.heap.size (some ⟨b,o,none⟩) j kc n0 al Xs S (Me.unrank S i) HJ.out HK.out.2.1 (HX.out.no (H7.out.1.trans t)) HK.out.1 hk4 (Me.unrank_box HJ.out.ok.each i) ((H7.out.2.2.1.touch t id).cell 0) ((H7.out.2.1.touch t id).cell 0) hR)
     (fun i hi=>by
      have:=Me.joinL_in (al:=al) (S:=S) HRG.out;refine this _ ?_;rw[Me.joinL,HK.out.2.2];exact List.mem_map_of_mem (List.mem_range.2 hi))
    rw[show(List.range m).map (Me.joinI Xs al S)=Me.joinL Xs al S by rw[Me.joinL,HK.out.2.2]]at C;refine C.mono ?_;clear C;rintro e w8 ⟨sc,n3,d3,lc,m3,e3,rfl,hin,t2,hs,hl⟩;have H8:=Lib.hid (aI hin (aI t2 (aI hs hl)));have kx:=H7.out.2.2.2.touch t2 id;clear hin t2 hs hl;go_wp2_with (refine wpList_store_mid rfl 51 _ _ rfl (w.heap.size+1+1) 0 51 [.slice none 0 0,.slice none 0 0] kx rfl [.slice sc n3 d3,.slice lc m3 e3] rfl (by kernel_rfl) (by simp) (by intro v hv;simp at hv;rcases hv with rfl|rfl <;> rfl) ?_);obtain⟨w9,hw9⟩:∃w9,w9=w8.setRow (w.heap.size+1+1) (splice [.slice none 0 0,.slice none 0 0] 0 [.slice sc n3 d3,.slice lc m3 e3]).toArray:=⟨_,rfl⟩;have R9:Row w9 (w.heap.size+1+1) 51 [.slice sc n3 d3,.slice lc m3 e3]:=by rw[hw9];exact kx.setRow _
    have HN:=Lib.hid (H8.out.1.boxed H7.out.1 H8.out.2.1 (X:=w.heap.size+1+1) (by omega) (by omega) (show Touch (One (w.heap.size+1+1)) w8 w9 by rw[hw9];exact Touch.setOne _ _ _) H8.out.2.2.1 H8.out.2.2.2);have y0:=R9.c0;have y1:=R9.c1;rw[← hw9];clear hw9 kx R9;go_wp2;refine bodyPost_ret (v:=.tuple #[.agg #[.slice sc n3 d3,.slice lc m3 e3],.int .i64 0]) (by simp[results,Tryz.results158,go_sem,y0,y1]) rfl ?_;exact⟨sc,n3,d3,lc,m3,e3,rfl,HN.out.1,HN.out.2⟩
end
section
open Go Go.RowKit
theorem any_info {T:TypeId}{z:Value}{n bytes:Nat}(h:(Tryz.prog.info? T).map (fun i=>(i.zero,i.size,i.bytes))=some (some z,n,bytes)) :
  ∃i,Tryz.prog.info? T=some i∧i.zero=some z∧i.size=n∧i.bytes=bytes:=by
 cases hi:Tryz.prog.info? T with
 | none=>simp[hi]at h
 | some i =>
   rw[hi]at h;simp only[Option.map_some,Option.some.injEq,Prod.mk.injEq]at h;exact⟨i,rfl,h.1,h.2.1,h.2.2⟩
theorem info_LI:∃i,Tryz.prog.info? 48=some i∧i.zero=some (.slice none 0 0)∧i.size=1∧i.bytes=24:=any_info (by kernel_rfl)
theorem Me.sh_map {Xs:List Me.Ten}{j:Nat}(h:j<Xs.length):Me.sh (Xs.map Prod.fst) j=(Me.tn Xs j).1:=by
 simp[Me.sh,Me.tn,Lgd,h]
theorem Me.dims_map (Xs:List Me.Ten)(al:Nat):Me.dimsS (Xs.map Prod.fst) al=Me.dims Xs al:=by
 simp[Me.dimsS,Me.dims,List.map_map,Function.comp]
theorem Me.Joins.shape {Xs:List Me.Ten}{al:Nat}{S:List Nat}(h:Me.Joins Xs al S):Me.joinS (Xs.map Prod.fst) al=some S:=by
 have h1:=h.one;have e0:=Me.sh_map (Xs:=Xs) (j:=0) (by omega);have hl:=(h.each _ (Me.tn_mem (Xs:=Xs) (n:=0) (by omega))).2.2
 have eT:Me.joinT (Xs.map Prod.fst) al=S:=by
  rw[Me.joinT,e0,Me.dims_map,← h.sum,h.set (by omega)]
 rw[Me.joinS_some ⟨by rw[e0,hl];exact h.inn,fun j hj=>?_,by rw[eT];exact h.ok⟩,eT];have hj:j<Xs.length:=by simpa using hj
 rw[Me.likeJ,e0,Me.sh_map hj,hl,(h.each _ (Me.tn_mem hj)).2.2];exact⟨rfl,fun i hi hne=>by rw[h.like _ (Me.tn_mem hj) i hi hne,h.like _ (Me.tn_mem (by omega)) i hi hne]⟩
theorem refJoin_in (w:World)(a:Option Addr)(k kc al:Nat)(Xs:List Me.Ten)(S:List Nat)(hJ:Me.Joins Xs al S)(hX:TsIn w a Xs)(hk:Xs.length=k)(hk4:k≤4)(hrg:∀x∈Xs,∀y∈x.2,-2147483648≤y∧y≤2147483647) :
  Calls Tryz.prog 107 #[.slice a k kc,.int .i64 ((al:Nat):Int)] w (TOut w S (Me.joinL Xs al S)):=by
 obtain⟨I,hi0,hi1,hi2,hi3⟩:=info_LI;have HI:=Lib.hid (aI hi0 (aI hi1 (aI hi2 hi3)));obtain⟨n,hn⟩:∃n,S.length=n:=⟨_,rfl⟩;obtain⟨m,hm⟩:∃m,Me.pr S=m:=⟨_,rfl⟩;have hm4:m≤4096:=by rw[← hm];exact hJ.ok.most
 have hn4:n≤4:=by rw[← hn];exact hJ.ok.four
 have hal:al<n:=by rw[← hn];exact hJ.inn
 have hk1:1≤k:=by rw[← hk];exact hJ.one
 have hk0':(0:Int)<(k:Nat):=by omega
 have hs64:S.getD al 0≤64:=(hJ.ok.get hJ.inn).2
 have hsum:Hid (∀j,j≤k→((Me.dims Xs al).take j).sum≤64):=fun j hj=>by
  have h1:=Me.take_sum_mono (Me.dims Xs al) (i:=j) (j:=k) hj;rw[List.take_of_length_le (l:=Me.dims Xs al) (i:=k) (by rw[Me.dims_length,hk];exact Nat.le_refl _),← hJ.sum]at h1;omega
 have hsucc:Hid (∀j,j<k→((Me.dims Xs al).take (j+1)).sum=((Me.dims Xs al).take j).sum+(Me.tn Xs j).1.getD al 0):=fun j hj=>by
  rw[Me.take_sum_succ _ _ (by rw[Me.dims_length,hk];exact hj),Me.dims_get (by rw[hk];exact hj)]
 have HTl:Hid ((Me.joinL Xs al S).length=m):=by show _=_;rw[Me.joinL,List.length_map,List.length_range,hm]
 have hRG:=Lib.hid (Me.joinL_in (al:=al) (S:=S) hrg);obtain⟨b,o,sa0,n0,c0,la0,m0,d0,rfl,_,_,_⟩:=hX 0 (by omega);have HJ:=Lib.hid hJ;have HX:=Lib.hid hX;have HK:=Lib.hid (aI hk (aI hn hm));clear hJ hX hk hn hm hrg hi0 hi1 hi2 hi3;go_enter Tryz.func107,Tryz.ntmps107;go_wp2_with fail;obtain⟨w1,hw1⟩:∃w1,w1=w.alloc (.cells #[.slice none 0 0,.slice none 0 0] 51):=⟨_,rfl⟩;have H1:Hid (Touch No w w1∧Row w1 w.heap.size 51 [.slice none 0 0,.slice none 0 0]):=by rw[hw1];exact⟨(Touch.refl No w).alloc _,Row.new _ _ _⟩
 have hsz1:=H1.out.2.lt;rw[← hw1];clear hw1
 go_loopg [6,7] k (fun gh s6 s7 wr=>∃(i:Nat) (v:Value),i+gh=k∧s7 = .int .i64 ((i:Nat):Int)∧v=s6∧Hid (Touch No w1 wr)∧Hid (∃vs,vs.length=i∧Own wr w1.heap.size 48 v vs∧∀j,j<i→∃sa n c,vs[j]? = some (.slice sa n c)∧(Me.tn Xs j).1.length=n∧n≤c∧Rd w sa (nums .i64 (Me.tn Xs j).1)))
 case atStart=>exact⟨0,_,by omega,rfl,rfl,Touch.refl _ _,[],rfl,Own.nil _ _ _,fun j hj=>absurd hj (Nat.not_lt_zero _)⟩
 case round =>
  obtain⟨i,v,hig,rfl,rfl,T,HV⟩:=hrel;have hwr:Hid (Touch No w wr):=H1.out.1.trans T.out;cases gk with
  | succ g' =>
    have hik:(i:Int)<(k:Nat):=by omega
    have g1:decide ((i:Int)≤4)=true:=by simp;omega
    have g2:decide (i≤4)=true:=by simp;omega
    obtain⟨b',o',sa,n',c,la,mj,d,hbo,c1,c2,hT⟩:=(HX.out.no hwr.out) i (by rw[HK.out.1];omega);obtain⟨rfl,rfl⟩:b=b'∧o=o':=by simpa using hbo
    have hC:=Lib.hid (refCheck_ok hT)
    have HTS:Hid ((Me.tn Xs i).1.length=n'∧n'≤c∧Rd w sa (nums .i64 (Me.tn Xs i).1)):=by
     obtain⟨b2,o2,sa2,n2,c2',la2,m2,d2,hbo2,c12,_,hT2⟩:=HX.out i (by rw[HK.out.1];omega);obtain⟨rfl,rfl⟩:b=b2∧o=o2:=by simpa using hbo2
     have:=hwr.out.cell id c12;rw[c1]at this;injection this with this
     injection this with e1 e2 e3
     subst e1 e2 e3;exact⟨hT2.sn,hT2.sc,hT2.sr⟩
    have HC1:=Lib.hid (aI c1 c2);clear hT hbo;go_wp2_with fail;refine hC.out.mono ?_;rintro e w2 ⟨rfl,t2⟩;have c1':=t2.cell id HC1.out.1;obtain⟨vs,hvs,hown,hall⟩:=HV.out;have hown2:=hown.touch t2 (fun _ _ _ f=>f);have OW:=Lib.hid hown2;have Hvs:=Lib.hid hvs;have T2:Hid (Touch No w1 w2):=T.out.trans t2;have hAll:=Lib.hid hall;clear hown hown2 hvs hall HV c1 c2 hC t2 T hwr;go_wp2_with (at_builtin;refine wpList_append1 rfl _ _ _ rfl w1.heap.size _ I _ 24 Tryz.underlying75 HI.out.1 HI.out.2.1 HI.out.2.2.1 HI.out.2.2.2 rfl _ _ _ OW.out rfl rfl rfl (by have:=Hvs.out;unfold maxLen;omega) (by have:=Hvs.out;omega) T2.out.size ?_;intro v' w3 hown3 ht3)
    go_roundg g'
    case measure=>omega
    case rel=>exact⟨i+1,v',by omega,by go_num,rfl,T2.out.then ht3 (fun i hi e=>absurd ((OW.out.block e).1) (by omega)),vs ++ [.slice sa n' c],by rw[List.length_append,Hvs.out];rfl,hown3,fun j hj=>by
     rcases Nat.lt_or_ge j i with h1|h1
     ·rw[List.getElem?_append_left (by rw[Hvs.out];exact h1)];exact hAll.out j h1
     ·obtain rfl:i=j:=by omega
      refine⟨sa,n',c,?_,HTS.out⟩;rw[List.getElem?_append_right (by rw[Hvs.out];exact Nat.le_refl _),Hvs.out];simp⟩
  | zero =>
    obtain rfl:k=i:=by omega
    obtain⟨vs,hvs,hown,hall⟩:=HV.out;obtain⟨a6,c6,rfl,_,_⟩:=hown.form' (n:=k) hvs;obtain⟨g6,rfl,hg6,hc6,hR6⟩:=own_rowP hown hvs (by omega)
    have C:Hid (Calls Tryz.prog 116 #[.slice (some ⟨g6,0,none⟩) k c6,.int .i64 ((al:Nat):Int)] wr fun e w'=>∃a5 c5,e = .returned (.tuple #[.slice a5 n c5,.int .i64 0])∧n≤c5∧Rd w' a5 (nums .i64 S)∧Touch No wr w'):=by
     have:=refJoined_in wr (some ⟨g6,0,none⟩) k c6 al (Xs.map Prod.fst) (fun j hj=>by
      have hj:j<k:=by rw[List.length_map,HK.out.1]at hj;exact hj
      obtain⟨sa,n',c,h1,h2,h3,h4⟩:=hall j hj;refine⟨g6,0,sa,n',c,rfl,by rw[Nat.zero_add];exact hR6.cell h1,?_,h3,?_⟩
      ·rw[Me.sh_map (by rw[HK.out.1];exact hj)];exact h2
      ·rw[Me.sh_map (by rw[HK.out.1];exact hj)];exact h4.no hwr.out) (by rw[List.length_map,HK.out.1]) hk1 hk4 (fun j hj=>by
      rw[Me.sh_map (by rw[HK.out.1];exact hj)];exact(HJ.out.each _ (Me.tn_mem (by rw[HK.out.1];exact hj))).1) (by omega)
     rw[HJ.out.shape]at this;exact this.mono fun e w' ⟨a5,c5,h1,h2,h3,h4,_⟩=>⟨a5,c5,by rw[h1,HK.out.2.1],by rw[← HK.out.2.1];exact h2,h3,h4⟩
    clear hvs hown hg6 hc6 hR6 hall HV;go_wp2_with fail;refine C.out.mono ?_;clear C;rintro e w2 ⟨a5,c5,rfl,hc5,hrd5,t2⟩;have H2:=Lib.hid (aI (hwr.out.trans t2) (aI (H1.out.2.touch (T.out.trans t2) id) hrd5));clear t2 hrd5 hwr T H1;go_wp2_with fail;refine(refNew_in w2 a5 n c5 S H2.out.2.2 HK.out.2.1 HJ.out.ok).mono ?_;rintro e w4 ⟨sc,n3,d3,g,m3,rfl,hn3,hm3,hd3,hsr,hsc,hg,hrow,t3⟩;obtain rfl:n=n3:=by rw[← hn3,HK.out.2.1]
    obtain rfl:m=m3:=by rw[← hm3,HK.out.2.2]
    obtain⟨Y,hY⟩:∃Y,Y=w4.heap.size:=⟨_,rfl⟩;obtain⟨w5,hw5⟩:∃w5,w5=w4.alloc (.cells #[.slice sc n d3,.slice (some ⟨g,0,none⟩) m m] 51):=⟨_,rfl⟩;have FH:Hid (Fld w w5 w.heap.size g Y sc n d3 m S):=by rw[hw5,hY];exact Fld.make H2.out.1 H2.out.2.1.lt (Nat.le_refl _) HJ.out.ok HK.out.2.1 HK.out.2.2 hd3 hsr hsc hg hrow t3
    have HB5:Hid (Row w5 w.heap.size 51 [.slice none 0 0,.slice none 0 0]):=by
     have t3:Touch No w2 w5:=by rw[hw5];exact t3.alloc _
     exact H2.out.2.1.touch t3 id
    have HA5:Hid (∀W,Touch (One g) w5 W→Rd W a5 (nums .i64 S)):=fun W t=>by
     have t3:Touch No w2 w5:=by rw[hw5];exact t3.alloc _
     exact H2.out.2.2.no (t3.oneNo t hg)
    clear hn3 hm3 hd3 hsr hsc hg hrow t3 H2;have hXg:w.heap.size<g:=FH.out.Xg;have hgY:g<Y:=FH.out.gY;go_wp2_with fail;rw[← hw5,← hY];clear hw5 hY
    go_loopg [12,13] k (fun gh s12 s13 wr=>∃(q x:Nat),q+gh=k∧s13 = .int .i64 ((q:Nat):Int)∧s12 = .int .i64 ((x:Nat):Int)∧Hid (x=((Me.dims Xs al).take q).sum)∧Hid (Touch (One g) w5 wr)∧Hid (Row wr g 21 (ints .i32 (Me.scat Xs al S q))))
    case atStart=>exact⟨0,0,by omega,rfl,rfl,(by show _=_;simp),Touch.refl _ _,by show Row _ _ _ _;rw[Me.scat,← ints_zero,HK.out.2.2];exact FH.out.rowG⟩
    case round =>
     obtain⟨q,x,hqg,rfl,rfl,HQ,T,R⟩:=hrel;cases gk with
     | zero =>
       obtain rfl:k=q:=by omega
       have ky:=FH.out.cell T.out;have kx:=HB5.out.keep T.out (by omega);have ky0:=FH.out.cell0 T.out;have R:=Lib.hid (show Row wr g 21 (ints .i32 (Me.joinL Xs al S)) by have:=R.out;have h2:=HJ.out.all;rw[HK.out.1]at h2;rw[h2]at this;exact this);go_wp2_with (refine wpList_store_mid rfl 51 _ _ rfl (w.heap.size) 0 51 [.slice none 0 0,.slice none 0 0] kx rfl [.slice sc n d3,.slice (some ⟨g,0,none⟩) m m] rfl (by kernel_rfl) (by simp) (by intro v hv;simp at hv;rcases hv with rfl|rfl <;> rfl) ?_);obtain⟨w9,hw9⟩:∃w9,w9=wr.setRow (w.heap.size) (splice [.slice none 0 0,.slice none 0 0] 0 [.slice sc n d3,.slice (some ⟨g,0,none⟩) m m]).toArray:=⟨_,rfl⟩;have R9:Row w9 (w.heap.size) 51 [.slice sc n d3,.slice (some ⟨g,0,none⟩) m m]:=by rw[hw9];exact kx.setRow _
       have HN:=Lib.hid (FH.out.done T.out R.out HTl.out hRG.out (show Touch (One (w.heap.size)) wr w9 by rw[hw9];exact Touch.setOne _ _ _));have y0:=R9.c0;have y1:=R9.c1;rw[← hw9];clear hw9 kx R9;go_wp2;refine bodyPost_ret (v:=.tuple #[.agg #[.slice sc n d3,.slice (some ⟨g,0,none⟩) m m],.int .i64 0]) (by simp[results,Tryz.results107,go_sem,y0,y1]) rfl ?_;exact⟨sc,n,d3,_,m,m,rfl,HN.out.1,HN.out.2⟩
     | succ g' =>
       have hqk:(q:Int)<(k:Nat):=by omega
       obtain⟨b',o',sa,nq,c,la,mq,d,hbo,c1,c2,hT⟩:=HX.out q (by rw[HK.out.1];omega);obtain⟨rfl,rfl⟩:b=b'∧o=o':=by simpa using hbo
       have hnq:nq=n:=by rw[← hT.sn,(HJ.out.each _ (Me.tn_mem (by rw[HK.out.1];omega))).2.2,HK.out.2.1]
       obtain rfl:n=nq:=hnq.symm;have hx64:x≤64:=by rw[HQ.out];exact hsum.out q (by omega)
       have hx64':=hsum.out (q+1) (by omega);have hsq:=hsucc.out q (by omega);rw[← HQ.out]at hsq;have hmq:=hT.m4;have HT:=Lib.hid hT;have HC1:=Lib.hid (aI c1 c2);have HSQ:=Lib.hid hsq;have Hx64:=Lib.hid hx64';have hmq':Hid (Me.pr (Me.tn Xs q).1=mq):=hT.len;clear hT c1 c2 hbo hsq hx64';obtain⟨wo,hwo⟩:∃wo:World,wo=wr:=⟨_,rfl⟩;subst hwo;go_wp2_with fail
       go_loopg [14] mq (fun gh s14 wr=>∃i:Nat,i+gh=mq∧s14 = .int .i64 ((i:Nat):Int)∧Hid (Touch (One g) w5 wr)∧Hid (Row wr g 21 (ints .i32 (Me.sets (Me.joinD Xs al S q) (fun i=>Me.at_ (Me.tn Xs q).2 i) (Me.scat Xs al S q) i))))
       case atStart=>exact⟨0,by omega,rfl,T,R⟩
       case round =>
        obtain⟨i,hig,rfl,Ti,Ri⟩:=hrel;have hwr:Hid (Touch No w wr):=FH.out.t.oneNo Ti.out (by omega);have k2:=hwr.out.cell id HC1.out.2;cases gk with
        | zero =>
          obtain rfl:mq=i:=by omega
          have k1:=hwr.out.cell id HC1.out.1;obtain⟨bd,od,rfl,cd⟩:=(HT.out.no hwr.out).dir (k:=al) hal;obtain⟨D,hD⟩:∃D,(Me.tn Xs q).1.getD al 0=D:=⟨_,rfl⟩;rw[hD]at cd;obtain⟨y,hy⟩:∃y,x+D=y:=⟨_,rfl⟩;have hy64:y≤64:=by have h1:=HSQ.out;have h2:=Hx64.out;rw[hD]at h1;omega
          have e1:IntKind.i64.wrap ((x:Int)+(D:Int))=((y:Nat):Int):=by rw[← hy,← Int.natCast_add];exact IntWalk.i64_in _ (by omega)
          have HY:Hid (y=((Me.dims Xs al).take (q+1)).sum):=by show _=_;rw[HSQ.out,hD,hy]
          have hali:(al:Int)<(n:Nat):=by omega
          have HN:Hid (Row wr g 21 (ints .i32 (Me.scat Xs al S (q+1)))):=by
           show Row _ _ _ _
           rw[Me.scat,hmq'.out];exact Ri.out
          clear hD hy Ri R T;go_wp2_with fail
          go_roundg g'
          case measure=>omega
          case rel=>exact⟨q+1,y,by omega,by go_num,rfl,HY,Ti,HN⟩
        | succ g2 =>
          have him:(i:Int)<(mq:Nat):=by omega
          have k1:=hwr.out.cell id HC1.out.1;go_wp2_with fail;have hlen:=hmq'.out;refine(refAt_in wr sa n c i (Me.tn Xs q).1 HT.out.ok HT.out.sn (HT.out.no hwr.out).sr (by rw[hlen];omega)).mono ?_;rintro e w6 ⟨h,rfl,hrow,hhg,t6⟩;have hbx:=Me.unrank_box HT.out.ok.each i;have hul:=Me.unrank_length (Me.tn Xs q).1 i;rw[HT.out.sn]at hul;obtain⟨u,hu⟩:∃u,(Me.unrank (Me.tn Xs q).1 i).getD al 0=u:=⟨_,rfl⟩
          have hu64:u≤64:=by
           have h1:=hbx.2 al (by rw[HT.out.sn];exact hal);have h2:=(HT.out.ok.get (k:=al) (by rw[HT.out.sn];exact hal)).2;omega
          have hgh:g<h:=by have:=Ti.out.size;have:=(FH.out.rowY.lt);omega
          have h5h:w5.heap.size≤h:=by have:=Ti.out.size;omega
          have cu:w6.cell? ⟨h,al,none⟩=some (.int .i64 ((u:Nat):Int)):=by
           rw[hrow.cell,← hu];exact nums_get (by rw[hul];exact hal)
          have cuz:=hrow.soft al;obtain⟨y,hy⟩:∃y,u+x=y:=⟨_,rfl⟩;have e1:IntKind.i64.wrap ((u:Int)+(x:Int))=((y:Nat):Int):=by rw[← hy,← Int.natCast_add];exact IntWalk.i64_in _ (by omega)
          have hali:(al:Int)<(n:Nat):=by omega
          have T6:Hid (Touch (One g) w5 w6):=Ti.out.trans t6.no;obtain⟨w7,hw7⟩:∃w7,w7=w6.setCell ⟨h,al,none⟩ (.int .i64 ((y:Nat):Int)):=⟨_,rfl⟩
          have H7:Hid (Touch (One g) w5 w7∧Touch No w w7∧Row w7 g 21 (ints .i32 (Me.sets (Me.joinD Xs al S q) (fun i=>Me.at_ (Me.tn Xs q).2 i) (Me.scat Xs al S q) i))∧Row w7 h 3 (nums .i64 ((Me.unrank (Me.tn Xs q).1 i).set al y))):=by
           have th:Touch (One h) w6 w7:=by rw[hw7];exact(Touch.refl (One h) w6).setCell (p:=⟨h,al,none⟩) (fun _=>rfl) _
           have t57:Touch (One g) w5 w7:=by rw[hw7];exact T6.out.setCell (p:=⟨h,al,none⟩) (fun hh=>absurd hh (Nat.not_lt.2 h5h)) _
           refine⟨t57,FH.out.t.oneNo t57 (by omega),(Ri.out.touch t6 id).keep th (by omega),?_⟩;have:=hrow.setCell al (.int .i64 ((y:Nat):Int));rw[nums_set]at this;rw[hw7];exact this
          obtain⟨Dq,hDq⟩:∃Dq,Me.joinD Xs al S q i=Dq:=⟨_,rfl⟩;have hup:=HJ.out.up (n:=q) (by rw[HK.out.1];omega) hbx
          have hDq2:Me.rank S ((Me.unrank (Me.tn Xs q).1 i).set al y)=Dq:=by
           rw[← hDq,Me.joinD,hu,← HQ.out,hy]
          rw[hu,← HQ.out,hy]at hup;have hDqm:Dq<m:=by rw[← hDq,← HK.out.2.2];exact HJ.out.joinD_lt (by rw[HK.out.1];omega) i
          have C:Hid (Calls Tryz.prog 167 #[.slice a5 n c5,.slice (some ⟨h,0,none⟩) n n] w7 fun e w'=>e = .returned (.tuple #[.int .i64 ((Dq:Nat):Int),.int .i64 0])∧Touch No w7 w'):=by
           have:=refIndex_in w7 a5 (some ⟨h,0,none⟩) n c5 n S ((Me.unrank (Me.tn Xs q).1 i).set al y) HJ.out.ok HK.out.2.1 hup (HA5.out w7 H7.out.1) (rd_row H7.out.2.2.2);rw[hDq2]at this;exact this
          have HDQ:=Lib.hid hDq;clear hlen hrow hbx hul hu hy hup hDq hDq2 t6 T6 k1 k2 Ri R T hhg;go_wp2_with fail;rw[← hw7];clear hw7 cu cuz e1;refine C.out.mono ?_;clear C;rintro e w8 ⟨rfl,t8⟩;have H8:Hid (Touch (One g) w5 w8∧Touch No w w8∧Row w8 g 21 (ints .i32 (Me.sets (Me.joinD Xs al S q) (fun i=>Me.at_ (Me.tn Xs q).2 i) (Me.scat Xs al S q) i))):=⟨H7.out.1.trans t8.no,H7.out.2.1.trans t8,H7.out.2.2.1.touch t8 id⟩;clear t8 H7 hwr;obtain⟨ga,oa,rfl,ca⟩:=(HT.out.no H8.out.2.1).num (k:=i) (by omega);obtain⟨v,hv⟩:∃v,Me.at_ (Me.tn Xs q).2 i=v:=⟨_,rfl⟩;rw[hv]at ca;have hsl:(Me.sets (Me.joinD Xs al S q) (fun i=>Me.at_ (Me.tn Xs q).2 i) (Me.scat Xs al S q) i).length=m:=by rw[Me.sets_length,Me.scat_length,HK.out.2.2]
          have cg:w8.cell? ⟨g,Dq,none⟩=some (.int .i32 ((Me.sets (Me.joinD Xs al S q) (fun i=>Me.at_ (Me.tn Xs q).2 i) (Me.scat Xs al S q) i).getD Dq 0)):=by
           rw[H8.out.2.2.cell];exact ints_get (by omega)
          have q1:=KW.cell (FH.out.cell H8.out.1);have q2:=KW.cell (H8.out.2.1.cell id HC1.out.2);have q3:=KW.cell ca;have q4:=KW.cell cg
          have HN:Hid (∀W:World,Touch No w8 W→W.frozen? ⟨g,Dq,none⟩=false∧Touch (One g) w5 (W.setCell ⟨g,Dq,none⟩ (.int .i32 v))∧Row (W.setCell ⟨g,Dq,none⟩ (.int .i32 v)) g 21 (ints .i32 (Me.sets (Me.joinD Xs al S q) (fun i=>Me.at_ (Me.tn Xs q).2 i) (Me.scat Xs al S q) (i+1)))):=fun W t=>by
           have RW:=H8.out.2.2.touch t id;refine⟨RW.soft Dq,(H8.out.1.trans t.no).setCell (p:=⟨g,Dq,none⟩) (fun _=>rfl) _,?_⟩;have h2:=RW.setCell Dq (.int .i32 v);rw[ints_set]at h2;rw[Me.sets,HDQ.out,hv];exact h2
          have hDi:(Dq:Int)<(m:Nat):=by omega
          clear hv hsl ca cg;go_wp2_with fail;refine wp_region_kept_tail 11 (by kernel_rfl) (by kernel_rfl) ?_;simp only[List.take_succ_cons,List.take_zero,List.drop_succ_cons,List.drop_zero];repeat (first|go_big_quiet_step (fail)|quiet_step (fail))
          refine wpQuiet_nil ?_;intro _ hw';obtain⟨kw,hw''⟩:=hw';subst hw'';obtain⟨wk,tk⟩:=kw;have tk:=Lib.hid tk;dsimp only;have HN2:=Lib.hid (HN.out wk tk.out);have cz:=HN2.out.1;have cg:=q4 ⟨wk,tk.out⟩;dsimp only at cg;clear q1 q2 q3 q4;go_wp2
          go_roundg g2
          case measure=>omega
          case rel=>exact⟨i+1,by omega,by go_num,HN2.out.2.1,HN2.out.2.2⟩
end
end Go.Proofs.YtjlphmmalebgpaaGreat
