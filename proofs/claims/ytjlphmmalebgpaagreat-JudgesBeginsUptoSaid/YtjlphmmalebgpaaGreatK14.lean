/-
  A part of the proof.
-/
import Derived.Test.YtjlphmmalebgpaaGreatK13
set_option linter.unusedSimpArgs false
set_option linter.unusedVariables false
set_option maxHeartbeats 2000000
set_option maxRecDepth 100000
namespace Go.Proofs.YtjlphmmalebgpaaGreat
section
open Go Go.RowKit
def Me.joinV (Xs:List Me.Ten)(al:Nat)(L:List Nat):Int :=
 Me.at_ (Me.tn Xs (Me.findJ (Me.dims Xs al) 0 (L.getD al 0)).1).2 (Me.rank (Me.tn Xs (Me.findJ (Me.dims Xs al) 0 (L.getD al 0)).1).1 (L.set al (Me.findJ (Me.dims Xs al) 0 (L.getD al 0)).2))
theorem Me.take_sum_succ:∀(l:List Nat) (j:Nat),j<l.length→(l.take (j+1)).sum=(l.take j).sum+l.getD j 0
 | [],j,h=>by simp at h
 | d::r,0,h=>by simp
 | d::r,j+1,h=>by
   rw[List.take_succ_cons,List.sum_cons,Me.take_sum_succ r j (by simpa using h),List.take_succ_cons,List.sum_cons];simp[Nat.add_assoc]
theorem Me.take_sum_mono (l:List Nat){i j:Nat}(h:i≤j):(l.take i).sum≤(l.take j).sum:=by
 rw[show l.take i=(l.take j).take i by rw[List.take_take,Nat.min_eq_left h]];have:=congrArg List.sum (List.take_append_drop i (l.take j));rw[List.sum_append]at this;omega
def RowP (w:World)(g:Nat)(T:TypeId)(vs:List Value):Prop:=∃r,Row w g T (vs++r)
theorem RowP.cell {w:World}{g:Nat}{T:TypeId}{vs:List Value}(h:RowP w g T vs){k:Nat}{v:Value}(hv:vs[k]? = some v):w.cell? ⟨g,k,none⟩=some v:=by
 obtain⟨r,h⟩:=h
 have hk:k<vs.length:=by
  rcases Nat.lt_or_ge k vs.length with h1|h1
  ·exact h1
  ·rw[Lgn h1]at hv;cases hv
 rw[h.cell,List.getElem?_append_left hk];exact hv
theorem RowP.soft {w:World}{g:Nat}{T:TypeId}{vs:List Value}(h:RowP w g T vs)(k:Nat):w.frozen? ⟨g,k,none⟩=false:=by
 obtain⟨r,h⟩:=h;exact h.soft k
theorem RowP.lt {w:World}{g:Nat}{T:TypeId}{vs:List Value}(h:RowP w g T vs):g<w.heap.size:=by obtain⟨r,h⟩:=h;exact h.lt
theorem RowP.touch {F:Nat→Prop}{w w':World}{g:Nat}{T:TypeId}{vs:List Value}(h:RowP w g T vs)(t:Touch F w w')(hF:¬F g):RowP w' g T vs:=by
 obtain⟨r,h⟩:=h;exact⟨r,h.touch t hF⟩
theorem RowP.set {w:World}{g:Nat}{T:TypeId}{vs:List Value}(h:RowP w g T vs){k:Nat}(hk:k<vs.length)(v:Value):RowP (w.setCell ⟨g,k,none⟩ v) g T (vs.set k v):=by
 obtain⟨r,h⟩:=h;have h2:=h.setCell k v;rw[List.set_append_left _ _ hk]at h2;exact⟨r,h2⟩
theorem RowP.rd {w:World}{g:Nat}{T:TypeId}{vs:List Value}(h:RowP w g T vs):Rd w (some ⟨g,0,none⟩) vs:=fun i v hi=>⟨g,0,rfl,by rw[Nat.zero_add];exact h.cell hi⟩
theorem own_rowP {w:World}{base:Nat}{T:TypeId}{a:Option Addr}{n c:Nat}{vs:List Value}(h:Own w base T (.slice a n c) vs)(hn:vs.length=n)(h0:0<n):∃g,a=some ⟨g,0,none⟩∧base≤g∧n≤c∧RowP w g T vs:=by
 obtain⟨_,h⟩:=h;rcases h with⟨_,h⟩|⟨g,cap,cur,e,hb,hh,h1,h2,h3,h4⟩
 ·omega
 ·cases e
  refine⟨g,rfl,hb,by omega,cur.toList.drop vs.length,?_⟩
  have h5:vs++cur.toList.drop vs.length=cur.toList:=by
   rw[Nat.mul_one]at h4;have h6:=List.take_append_drop vs.length cur.toList;rw[h4]at h6;exact h6
  rw[h5,Row,Array.toArray_toList];exact hh
theorem nums_set (l:List Nat)(k x:Nat):(nums .i64 l).set k (.int .i64 ((x:Nat):Int))=nums .i64 (l.set k x):=by
 simp only[nums,List.map_set]
theorem cloneP_in (w:World)(a:Option Addr)(n c:Nat)(S:List Nat)(h0:0<n)(hn4:n≤4)(hr:Rd w a (nums .i64 S))(hl:S.length=n) :
  Calls Tryz.prog 91 #[.slice a n c] w fun e w'=>∃g c',e = .returned (.slice (some ⟨g,0,none⟩) n c')∧w.heap.size≤g∧n≤c'∧RowP w' g 3 (nums .i64 S)∧Touch No w w':=by
 have hne:a≠none:=by obtain⟨b,o,e,_⟩:=hr.num (i:=0) (by omega);rw[e];simp
 refine(cloneI_own w a n c (Me.zs S) hne (by rw[Me.ints_zs];exact hr) (by rw[Me.zs_length,hl]) (by omega)).mono ?_;rintro e w' ⟨a',c',rfl,o,hc,t⟩;rw[Me.ints_zs]at o;obtain⟨g,rfl,hb,_,hR⟩:=own_rowP o (by rw[nums_length,hl]) h0;exact⟨g,c',rfl,hb,hc,hR,t⟩
theorem alike_in (w:World)(a b:Option Addr)(n c c' al:Nat)(S T:List Nat)(hn4:n≤4)(hS:S.length=n)(hT:T.length=n)(hc:n≤c)(hc':n≤c')(hal:al<n)(hr:Rd w a (nums .i64 S))(hr':Rd w b (nums .i64 T))(hlike:∀k,k<n→k≠al→S.getD k 0=T.getD k 0) :
  Calls Tryz.prog 212 #[.slice a n c,.slice b n c',.int .i64 ((al:Nat):Int)] w fun e w'=>e = .returned (.bool true)∧Touch No w w':=by
 obtain⟨I,hi0,hi1,hi2,hi3⟩:=info_I
 have hh1:Hid (∀wx:World,(Instr.slice 48 (.slice a n c) none (some (.int .i64 ((al:Nat):Int))) none).run Tryz.prog wx = .ok (.slice a al c) wx):=fun wx =>
  run_head (P:=Tryz.prog) Tryz.underlying48 hi0 hi2 a n c al .i64 (by omega) wx
 have hh2:Hid (∀wx:World,(Instr.slice 48 (.slice b n c') none (some (.int .i64 ((al:Nat):Int))) none).run Tryz.prog wx = .ok (.slice b al c') wx):=fun wx =>
  run_head (P:=Tryz.prog) Tryz.underlying48 hi0 hi2 b n c' al .i64 (by omega) wx
 have ht1:Hid (∀wx:World,(Instr.slice 48 (.slice a n c) (some (.int .i64 ((al:Int)+1))) none none).run Tryz.prog wx = .ok (.slice (cutAddr a c (al+1)) (n-(al+1)) (c-(al+1))) wx):=fun wx =>
  run_cut (P:=Tryz.prog) Tryz.underlying48 hi0 hi2 a n c (al+1) .i64 (by omega) wx
 have ht2:Hid (∀wx:World,(Instr.slice 48 (.slice b n c') (some (.int .i64 ((al:Int)+1))) none none).run Tryz.prog wx = .ok (.slice (cutAddr b c' (al+1)) (n-(al+1)) (c'-(al+1))) wx):=fun wx =>
  run_cut (P:=Tryz.prog) Tryz.underlying48 hi0 hi2 b n c' (al+1) .i64 (by omega) wx
 have eqT:S.take al=T.take al:=by
  refine List.ext_getElem? fun k=>?_
  rw[List.getElem?_take,List.getElem?_take];split
  ·have:=hlike k (by omega) (by omega)
   rw[Lgd,Lgd,Lge (by omega),Lge (by omega)]at this;rw[Lge (by omega),Lge (by omega)]
   simpa using this
  ·rfl
 have eqD:S.drop (al+1)=T.drop (al+1):=by
  refine List.ext_getElem? fun k=>?_
  rw[List.getElem?_drop,List.getElem?_drop]
  by_cases hk:al+1+k<n
  ·have:=hlike (al+1+k) (by omega) (by omega)
   rw[Lgd,Lgd,Lge (by omega),Lge (by omega)]at this;rw[Lge (by omega),Lge (by omega)]
   simpa using this
  ·rw[Lgn (by omega),Lgn (by omega)]
 have E1:Hid (∀p:KW w,Calls Tryz.prog 46 #[.slice a al c,.slice b al c'] p.wd fun e w'=>e = .returned (.bool true)∧Touch No p.wd w'):=fun p=>by
  have:=equalI_any p.wd a b al c al c' (Me.zs (S.take al)) (Me.zs (T.take al)) (by
   rw[Me.ints_zs];have:=(hr.no p.no).take al;simpa[nums,List.map_take]using this) (by rw[Me.zs_length,List.length_take];omega) (by
   rw[Me.ints_zs];have:=(hr'.no p.no).take al;simpa[nums,List.map_take]using this) (by rw[Me.zs_length,List.length_take];omega) (by omega)
  rw[decide_eq_true (by rw[eqT])]at this;exact this
 have E2:Hid (∀p:KW w,Calls Tryz.prog 46 #[.slice (cutAddr a c (al+1)) (n-(al+1)) (c-(al+1)),.slice (cutAddr b c' (al+1)) (n-(al+1)) (c'-(al+1))] p.wd fun e w'=>e = .returned (.bool true)∧Touch No p.wd w'):=fun p=>by
  have:=equalI_any p.wd (cutAddr a c (al+1)) (cutAddr b c' (al+1)) (n-(al+1)) (c-(al+1)) (n-(al+1)) (c'-(al+1)) (Me.zs (S.drop (al+1))) (Me.zs (T.drop (al+1))) (by
   rw[Me.ints_zs];have:=(hr.no p.no).cut (cap:=c) (l:=al+1) (by rw[nums_length];omega);simpa[nums,List.map_drop]using this) (by rw[Me.zs_length,List.length_drop];omega) (by
   rw[Me.ints_zs];have:=(hr'.no p.no).cut (cap:=c') (l:=al+1) (by rw[nums_length];omega);simpa[nums,List.map_drop]using this) (by rw[Me.zs_length,List.length_drop];omega) (by omega)
  rw[decide_eq_true (by rw[eqD])]at this;exact this
 have hnn:((n:Int)==(n:Int))=true:=by simp
 have x1:=hh1.out;have x2:=hh2.out;have x3:=ht1.out;have x4:=ht2.out;clear hr hr' hlike eqT eqD hS hT hi0 hi1 hi2 hi3;go_enter Tryz.func212,Tryz.ntmps212;go_wp2_with fail;refine wp_region_kept (by kernel_rfl) (by kernel_rfl) ?_;repeat (first|go_big_quiet_step (first|with_reducible exact Calls.kept_of (E1.out _)|with_reducible exact Calls.kept_of (E2.out _))|quiet_step (first|with_reducible exact Calls.kept_of (E1.out _)|with_reducible exact Calls.kept_of (E2.out _)))
 refine wpQuiet_nil ?_;intro _ hw';obtain⟨kw,hw''⟩:=hw';subst hw'';obtain⟨wk,tk⟩:=kw;have tk:=Lib.hid tk;dsimp only;go_wp2;go_ret;exact⟨rfl,tk.out⟩
theorem join2_in (w:World)(h p1 p2:Nat)(a:Option Addr)(k kc n al:Nat)(Xs:List Me.Ten)(S L:List Nat)(hJ:Me.Joins Xs al S)(hn:S.length=n)(hX:TsIn w a Xs)(hk:Xs.length=k)(hk4:k≤4)(hb:Me.Box S L)
  (k1:w.cell? ⟨p1,0,none⟩=some (.int .i64 ((al:Nat):Int))) (k2:w.cell? ⟨p2,0,none⟩=some (.slice a k kc)) (hr:Row w h 3 (nums .i64 L)) :
  Calls Tryz.prog 213 #[.slice (some ⟨h,0,none⟩) n n,.pointer (some ⟨p1,0,none⟩),.pointer (some ⟨p2,0,none⟩)] w fun e w'=>e = .returned (.int .i32 (Me.joinV Xs al L))∧Touch No w w':=by
 have hL:L.length=n:=by rw[hb.1,hn]
 have hn4:n≤4:=by rw[← hn];exact hJ.ok.four
 have h0:0<n:=by rw[← hn];exact hJ.ok.one
 have halI:(al:Int)<(n:Nat):=by have:=hJ.inn;omega
 have hx64:L.getD al 0<64:=by have h1:=hb.2 al hJ.inn;have h2:=(hJ.ok.get hJ.inn).2;omega
 have hxs:=hb.2 al hJ.inn;rw[hJ.sum]at hxs;obtain⟨N,b,hF,hN,hbd,hxe⟩:=Me.findJ_spec (Me.dims Xs al) 0 _ hxs;rw[Nat.zero_add]at hF;rw[Me.dims_length,hk]at hN;have HV:Hid (Me.joinV Xs al L=Me.at_ (Me.tn Xs N).2 (Me.rank (Me.tn Xs N).1 (L.set al b))):=by show _=_;rw[Me.joinV,hF]
 have hnext:Hid (∀j,j<N→((Me.dims Xs al).take (j+1)).sum=((Me.dims Xs al).take j).sum+(Me.tn Xs j).1.getD al 0∧((Me.dims Xs al).take (j+1)).sum≤((Me.dims Xs al).take N).sum):=fun j hj =>
  ⟨by rw[Me.take_sum_succ _ _ (by rw[Me.dims_length,hk];omega),Me.dims_get (by rw[hk];omega)],Me.take_sum_mono _ (by omega)⟩
 rw[Me.dims_get (by rw[hk];exact hN)]at hbd;obtain⟨X,hXd⟩:∃X,L.getD al 0=X:=⟨_,rfl⟩;rw[hXd]at hxe hx64;have HXD:=Lib.hid hXd;have HXE:=Lib.hid (aI hxe hbd);have HJ:=Lib.hid hJ;have HX:=Lib.hid hX;have HK:=Lib.hid (aI hk hn);have HB:=Lib.hid hb;have HL:=Lib.hid hL;have K1:=Lib.hid k1;have K2:=Lib.hid k2;have CL:=Lib.hid (cloneP_in w (some ⟨h,0,none⟩) n n L h0 hn4 (fun i v hi=>⟨h,0,rfl,by rw[Nat.zero_add,hr.cell];exact hi⟩) hL);clear hJ hX hk hn hb hL k1 k2 hr hXd hxe hbd hxs hF;go_enter Tryz.func213,Tryz.ntmps213;go_wp2_with fail;refine CL.out.mono ?_;rintro e w1 ⟨g,c',rfl,hg,hc',hR,t1⟩;have H1:=Lib.hid (aI t1 hR);have hg1:=hR.lt;clear t1 hR CL;go_wp2_with fail
 go_loopg [5] N (fun gh s5 wr=>∃j:Nat,j+gh=N∧s5 = .int .i64 ((j:Nat):Int)∧Hid (Touch (One g) w1 wr)∧Hid (RowP wr g 3 (nums .i64 (L.set al (X-((Me.dims Xs al).take j).sum)))))
 case atStart=>exact⟨0,by omega,rfl,Touch.refl _ _,by show RowP _ _ _ _;rw[List.take_zero,List.sum_nil,Nat.sub_zero,← HXD.out,Me.set_getD];exact H1.out.2⟩
 case round =>
  obtain⟨j,hjg,rfl,T,R⟩:=hrel;have hjN:j≤N:=by omega
  have hwr:Hid (Touch No w wr):=H1.out.1.oneNo T.out hg;have hjk:(j:Int)<(k:Nat):=by omega
  obtain⟨tb,t_o,sa,n',c,la,m,d,rfl,c1,c2,hT⟩:=(HX.out.no hwr.out) j (by rw[HK.out.1];omega);obtain rfl:n'=n:=by rw[← hT.sn,(HJ.out.each _ (Me.tn_mem (by rw[HK.out.1];omega))).2.2,HK.out.2]
  obtain⟨b2,o2,rfl,cd⟩:=hT.dir (k:=al) (by omega);have HT:=Lib.hid hT;obtain⟨D,hD⟩:∃D,(Me.tn Xs j).1.getD al 0=D:=⟨_,rfl⟩;obtain⟨x,hx⟩:∃x,X-((Me.dims Xs al).take j).sum=x:=⟨_,rfl⟩
  have hD64:D≤64:=by
   have o:=(HJ.out.each _ (Me.tn_mem (Xs:=Xs) (n:=j) (by rw[HK.out.1];omega)));have:=(o.1.get (k:=al) (by rw[o.2.2];exact HJ.out.inn)).2;rw[hD]at this;exact this
  rw[hD]at cd;rw[hx]at R
  have cx:wr.cell? ⟨g,al,none⟩=some (.int .i64 ((x:Nat):Int)):=R.out.cell (by
   have:=nums_get (k:=.i64) (xs:=L.set al x) (i:=al) (by rw[List.length_set,HL.out];omega);rw[Me.getD_set_self (by rw[HL.out];omega)]at this;exact this)
  have q1:=KW.cell (hwr.out.cell id K1.out);have q2:=KW.cell (hwr.out.cell id K2.out);have q3:=KW.cell c1;have q4:=KW.cell cd;have q5:=KW.cell cx;have q6:=KW.cell c2;cases gk with
  | zero =>
    obtain rfl:j=N:=by omega
    have hlt:decide (D≤x)=false:=by
     have h1:=HXE.out.1;have h2:=HXE.out.2;rw[hD]at h2;simp;omega
    have hxb:x=b:=by have h1:=HXE.out.1;omega
    have HR:Hid (RowP wr g 3 (nums .i64 (L.set al b))):=by rw[← hxb];exact R.out
    clear hx hD c1 c2 cd cx R hxb T;go_wp2_with fail;refine wp_region_kept (by kernel_rfl) (by kernel_rfl) ?_;repeat (first|go_big_quiet_step (fail)|quiet_step (fail))
    refine wpQuiet_nil ?_;intro _ hw';obtain⟨kw,hw''⟩:=hw';subst hw'';obtain⟨wk,tk⟩:=kw;have tk:=Lib.hid tk;dsimp only;have HR2:=Lib.hid (HR.out.touch tk.out id);have hwk:Hid (Touch No w wk):=hwr.out.trans tk.out;have r1:=q2 ⟨wk,tk.out⟩;have r2:=q3 ⟨wk,tk.out⟩;have r3:=q6 ⟨wk,tk.out⟩;dsimp only at r1 r2 r3;have C:=tenAt_in wk (some ⟨b2,o2,none⟩) la (some ⟨g,0,none⟩) n' c m d c' (Me.tn Xs j).1 (L.set al b) (Me.tn Xs j).2 (HT.out.no tk.out) (HJ.out.down (by rw[HK.out.1];omega) HXE.out.2 HB.out) HR2.out.rd;rw[← HV.out]at C;clear q1 q2 q3 q4 q5 q6 hwr HR tk;go_wp2_with fail;refine C.mono ?_;clear C r1 r2 r3;rintro e w' ⟨rfl,t⟩;have HW:Hid (Touch No w w'):=hwk.out.trans t;clear t;go_wp2;go_ret;exact⟨rfl,HW.out⟩
  | succ g' =>
    obtain⟨n1,n2⟩:=hnext.out j (by omega);rw[hD]at n1
    have hle:decide (D≤x)=true:=by
     have h1:=HXE.out.1;simp;omega
    have hDx:D≤x:=by simpa using hle
    obtain⟨y,hy⟩:∃y,x-D=y:=⟨_,rfl⟩;have e1:IntKind.i64.wrap ((x:Int)-(D:Int))=((y:Nat):Int):=by rw[← hy,← Int.natCast_sub hDx];exact IntWalk.i64_in _ (by omega)
    have hy2:X-((Me.dims Xs al).take (j+1)).sum=y:=by omega
    have HN:Hid (∀W:World,Touch No wr W→W.frozen? ⟨g,al,none⟩=false∧Touch (One g) w1 (W.setCell ⟨g,al,none⟩ (.int .i64 ((y:Nat):Int)))∧RowP (W.setCell ⟨g,al,none⟩ (.int .i64 ((y:Nat):Int))) g 3 (nums .i64 (L.set al (X-((Me.dims Xs al).take (j+1)).sum)))):=fun W t=>by
     have RW:=R.out.touch t id;refine⟨RW.soft al,(T.out.trans t.no).setCell (p:=⟨g,al,none⟩) (fun _=>rfl) _,?_⟩;have h2:=RW.set (k:=al) (by rw[nums_length,List.length_set,HL.out];omega) (.int .i64 ((y:Nat):Int));rw[nums_set,List.set_set]at h2;rw[hy2];exact h2
    clear hx hD c1 c2 cd cx R n1 n2 hDx hy hy2 T;go_wp2_with fail;refine wp_region_kept (by kernel_rfl) (by kernel_rfl) ?_;repeat (first|go_big_quiet_step (fail)|quiet_step (fail))
    refine wpQuiet_nil ?_;intro _ hw';obtain⟨kw,hw''⟩:=hw';subst hw'';obtain⟨wk,tk⟩:=kw;have tk:=Lib.hid tk;dsimp only;obtain⟨wa,hwa⟩:∃wa,wa=wk:=⟨_,rfl⟩;subst hwa;have ta:=tk;have s1:=KW.cell (q1 ⟨wa,ta.out⟩);have s2:=KW.cell (q2 ⟨wa,ta.out⟩);have s3:=KW.cell (q3 ⟨wa,ta.out⟩);have s4:=KW.cell (q4 ⟨wa,ta.out⟩);have s5:=KW.cell (q5 ⟨wa,ta.out⟩);dsimp only at s1 s2 s3 s4 s5;clear q1 q2 q3 q4 q5 q6 tk;go_wp2_with fail;refine wp_region_kept_tail 13 (by kernel_rfl) (by kernel_rfl) ?_;simp only[List.take_succ_cons,List.take_zero,List.drop_succ_cons,List.drop_zero];repeat (first|go_big_quiet_step (fail)|quiet_step (fail))
    refine wpQuiet_nil ?_;intro _ hw';obtain⟨kw,hw''⟩:=hw';subst hw'';obtain⟨wk,tk⟩:=kw;have tk:=Lib.hid tk;dsimp only;have HN2:=Lib.hid (HN.out wk (ta.out.trans tk.out));have cz:=HN2.out.1;have cg:=s5 ⟨wk,tk.out⟩;dsimp only at cg;clear s1 s2 s3 s4 s5;go_wp2
    go_roundg g'
    case measure=>omega
    case rel=>exact⟨j+1,by omega,by go_num,HN2.out.2.1,HN2.out.2.2⟩
end
section
open Go Go.RowKit
namespace Me
def sh (Ss:List (List Nat))(j:Nat):List Nat:=Ss.getD j []
def dimsS (Ss:List (List Nat))(al:Nat):List Nat:=Ss.map fun s=>s.getD al 0
def joinT (Ss:List (List Nat))(al:Nat):List Nat:=(sh Ss 0).set al (dimsS Ss al).sum
def likeJ (Ss:List (List Nat))(al j:Nat):Prop:=(sh Ss j).length=(sh Ss 0).length∧∀i,i<(sh Ss 0).length→i≠al→(sh Ss j).getD i 0=(sh Ss 0).getD i 0
def JoinOk (Ss:List (List Nat))(al:Nat):Prop:=al<(sh Ss 0).length∧(∀j,j<Ss.length→likeJ Ss al j)∧Ok (joinT Ss al)
open Classical in
noncomputable def joinS (Ss:List (List Nat)) (al:Nat):Option (List Nat):=if JoinOk Ss al then some (joinT Ss al) else none
theorem joinS_some {Ss:List (List Nat)}{al:Nat}(h:JoinOk Ss al):joinS Ss al=some (joinT Ss al):=if_pos h
theorem joinS_none {Ss:List (List Nat)}{al:Nat}(h:¬JoinOk Ss al):joinS Ss al=none:=if_neg h
theorem ok_iff {S:List Nat}:Ok S↔Ar.shape (zs S)=true:=⟨fun h=>h.shape,fun h=>by
 obtain⟨T,e,ok⟩:=ok_of h;rw[zs_inj e];exact ok⟩
theorem dimsS_length (Ss:List (List Nat))(al:Nat):(dimsS Ss al).length=Ss.length:=by simp[dimsS]
theorem dimsS_get {Ss:List (List Nat)}{al n:Nat}(h:n<Ss.length):(dimsS Ss al).getD n 0=(sh Ss n).getD al 0:=by
 simp[dimsS,sh,Lgd,h]
end Me
def SsIn (w:World)(a:Option Addr)(Ss:List (List Nat)):Prop :=
 ∀j,j<Ss.length→∃b o sa n c,a=some ⟨b,o,none⟩∧w.cell? ⟨b,o+j,none⟩=some (.slice sa n c)∧(Me.sh Ss j).length=n∧n≤c∧Rd w sa (nums .i64 (Me.sh Ss j))
theorem SsIn.no {w w':World}{a:Option Addr}{Ss:List (List Nat)}(h:SsIn w a Ss)(t:Touch No w w'):SsIn w' a Ss:=fun j hj=>by
 obtain⟨b,o,sa,n,c,e,h1,h2,h3,h4⟩:=h j hj;exact⟨b,o,sa,n,c,e,t.cell id h1,h2,h3,h4.no t⟩
theorem refJoined_in (w:World)(a:Option Addr)(k kc al:Nat)(Ss:List (List Nat))(hS:SsIn w a Ss)(hk:Ss.length=k)(hk1:1≤k)(hk4:k≤4)(hok:∀j,j<k→Me.Ok (Me.sh Ss j))(hal6:al≤1000000) :
  Calls Tryz.prog 116 #[.slice a k kc,.int .i64 ((al:Nat):Int)] w (ShOut w (Me.joinS Ss al)):=by
 obtain⟨I,hi0,hi1,hi2,hi3⟩:=info_I;have HI:=Lib.hid (aI hi0 (aI hi1 (aI hi2 hi3)));obtain⟨n,hn⟩:∃n,(Me.sh Ss 0).length=n:=⟨_,rfl⟩;have hn4:n≤4:=by rw[← hn];exact(hok 0 (by omega)).four
 have hn0:0<n:=by rw[← hn];exact(hok 0 (by omega)).one
 have g3:decide ((k:Int)<1)=false:=by simp;omega
 have g4:decide ((4:Int)<(k:Nat))=false:=by simp;omega
 have g6:decide ((al:Int)<0)=false:=by simp
 have g8:decide (4<k)=false:=by simp;omega
 have hk0':(0:Int)<(k:Nat):=by omega
 have hend:Hid ((Me.sh Ss 0).set al (((Me.dimsS Ss al).take k).sum)=Me.joinT Ss al):=by
  show _=_
  rw[List.take_of_length_le (by rw[Me.dimsS_length,hk];exact Nat.le_refl _)];rfl
 have hsucc:Hid (∀j,j<k→((Me.dimsS Ss al).take (j+1)).sum=((Me.dimsS Ss al).take j).sum+(Me.sh Ss j).getD al 0):=fun j hj=>by
  rw[Me.take_sum_succ _ _ (by rw[Me.dimsS_length,hk];exact hj),Me.dimsS_get (by rw[hk];exact hj)]
 have h64:Hid (∀j i,j<k→(Me.sh Ss j).getD i 0≤64):=fun j i hj=>by
  by_cases hi:i<(Me.sh Ss j).length
  ·exact((hok j hj).get hi).2
  ·rw[Lgd,Lgn (by omega)];simp
 have hsum:Hid (∀j,j≤k→((Me.dimsS Ss al).take j).sum≤64*j):=fun j=>by
  induction j with
  | zero=>intro _;simp
  | succ j ih =>
    intro hj;have h1:=ih (by omega);have h2:=h64.out j al (by omega);rw[hsucc.out j (by omega)];omega
 obtain⟨b,o,sa0,n0,c0,rfl,c1,hn00,hc0,hr0⟩:=hS 0 (by omega);obtain rfl:n0=n:=by rw[← hn00,hn]
 rw[Nat.add_zero]at c1;have HC:=Lib.hid c1;have HR0:=Lib.hid hr0;have HS:=Lib.hid hS;have HK:=Lib.hid (aI hk hn);have HOK:=Lib.hid hok;clear hS hk hn hok c1 hr0 hn00 hi0 hi1 hi2 hi3;go_enter Tryz.func116,Tryz.ntmps116;go_wp2_with fail
 go_loopg [6] k (fun gh s6 wr=>∃j:Nat,j+gh=k∧s6 = .int .i64 ((j:Nat):Int)∧Hid (wr=w))
 case atStart=>exact⟨0,by omega,rfl,rfl⟩
 case round =>
  obtain⟨j,hjg,rfl,hwr⟩:=hrel;have hww:w=wr:=hwr.out.symm;clear hwr;subst hww;cases gk with
  | succ g' =>
    have hjk:(j:Int)<(k:Nat):=by omega
    obtain⟨b',o',sa,nj,c,hbo,c1,hnj,hcj,hrj⟩:=HS.out j (by rw[HK.out.1];omega);obtain⟨rfl,rfl⟩:b=b'∧o=o':=by simpa using hbo
    have C:=Lib.hid (refShape_ok (c:=c) hrj hnj (HOK.out j (by omega)));clear hrj hnj hbo;go_wp2_with fail;refine C.out.mono ?_;rintro e w' ⟨rfl,rfl⟩;go_wp2
    go_roundg g'
    case measure=>omega
    case rel=>exact⟨j+1,by omega,by go_num,rfl⟩
  | zero =>
    obtain rfl:k=j:=by omega
    have k0:=HC.out
    by_cases hal:al<n0
    ·have f2:decide ((n0:Int)≤(al:Nat))=false:=by simp;omega
     have f3:decide (n0≤al)=false:=by simp;omega
     have f4:¬n0≤al:=by omega
     have Hnl:=Lib.hid (show(nums .i64 (Me.sh Ss 0)).length=n0 by rw[nums_length];exact HK.out.2);go_wp2_with (at_builtin;refine wpList_append_rd rfl _ _ _ rfl w.heap.size 3 I (.int .i64 0) 8 Tryz.underlying48 HI.out.1 HI.out.2.1 HI.out.2.2.1 HI.out.2.2.2 rfl _ _ (Own.nil w w.heap.size _) rfl sa0 n0 c0 (nums .i64 (Me.sh Ss 0)) rfl Hnl.out HR0.out (nums_one _ _) (by unfold maxLen;simp only[List.length_nil];omega) (by simp only[List.length_nil];omega) (Nat.le_refl _) ?_;intro v w2 ho t2);obtain⟨a2,c2,rfl,_,_⟩:=ho.form' (n:=n0) (by rw[List.nil_append,Hnl.out]);obtain⟨g,rfl,hg,hc2,hR⟩:=own_rowP ho (by rw[List.nil_append,Hnl.out]) hn0;rw[List.nil_append]at hR;have H2:Hid (Touch No w w2∧RowP w2 g 3 (nums .i64 (Me.sh Ss 0))):=⟨t2.mono (fun k _ e=>by cases e),hR⟩;clear ho t2 hR;go_wp2_with fail
     go_loopg [8] (k-1) (fun gh s8 wr=>∃j:Nat,j+gh=k∧1≤j∧s8 = .int .i64 ((j:Nat):Int)∧Hid (Touch (One g) w2 wr)∧Hid (RowP wr g 3 (nums .i64 ((Me.sh Ss 0).set al (((Me.dimsS Ss al).take j).sum))))∧Hid (∀i,i<j→Me.likeJ Ss al i))
     case atStart=>exact⟨1,by omega,Nat.le_refl _,rfl,Touch.refl _ _,(by
      show RowP _ _ _ _
      rw[hsucc.out 0 (by omega),List.take_zero,List.sum_nil,Nat.zero_add,Me.set_getD];exact H2.out.2),(fun i hi=>by
      obtain rfl:i=0:=by omega
      exact⟨rfl,fun _ _ _=>rfl⟩)⟩
     case round =>
      obtain⟨j,hjg,hj1,rfl,T,R,LK⟩:=hrel;have hwr:Hid (Touch No w wr):=H2.out.1.oneNo T.out hg;cases gk with
      | zero =>
        obtain rfl:k=j:=by omega
        have RT:Hid (RowP wr g 3 (nums .i64 (Me.joinT Ss al))):=by have:=R.out;rw[hend.out]at this;exact this
        have hTl:(Me.joinT Ss al).length=n0:=by rw[Me.joinT,List.length_set,HK.out.2]
        have HTl:=Lib.hid hTl;have C:=Lib.hid (refShape_any wr (some ⟨g,0,none⟩) n0 c2 (Me.zs (Me.joinT Ss al)) (by rw[Me.zs_length,hTl]) (by omega) (by rw[Me.ints_zs];exact RT.out.rd));clear R hTl;go_wp2_with fail;refine C.out.mono ?_;rintro e w' ⟨rfl,rfl⟩
        by_cases hsh:Ar.shape (Me.zs (Me.joinT Ss al))=true
        ·have HN:Hid (Me.joinS Ss al=some (Me.joinT Ss al)):=Me.joinS_some ⟨by rw[HK.out.2];exact hal,fun j hj=>LK.out j (by rw[HK.out.1]at hj;exact hj),Me.ok_iff.2 hsh⟩
         rw[hsh];clear hsh;go_wp2
         go_ret2
         rw[HN.out];refine⟨some ⟨g,0,none⟩,c2,by rw[HTl.out];rfl,by rw[HTl.out];exact hc2,RT.out.rd,hwr.out,fun ad e=>by cases e;exact hg⟩
        ·have HN:Hid (Me.joinS Ss al=none):=Me.joinS_none fun h=>hsh (Me.ok_iff.1 h.2.2)
         have hsf:Ar.shape (Me.zs (Me.joinT Ss al))=false:=by simpa using hsh
         rw[hsf];clear hsh hsf;go_wp2
         go_ret2
         rw[HN.out];exact⟨10,by omega,rfl,hwr.out⟩
      | succ g' =>
        have hjk:(j:Int)<(k:Nat):=by omega
        obtain⟨b',o',sa,nj,c,hbo,c1,hnj,hcj,hrj⟩:=(HS.out.no hwr.out) j (by rw[HK.out.1];omega);obtain⟨rfl,rfl⟩:b=b'∧o=o':=by simpa using hbo
        have HRJ:=Lib.hid (aI hrj hnj);have HC1:=Lib.hid c1;clear hrj hnj hbo
        by_cases hlen:nj=n0
        ·obtain rfl:n0=nj:=hlen.symm
         have hb0:((n0:Int) != (n0:Int))=false:=by simp
         obtain⟨wo,hwo⟩:∃wo:World,wo=wr:=⟨_,rfl⟩;subst hwo;obtain⟨x,hx⟩:∃x,((Me.dimsS Ss al).take j).sum=x:=⟨_,rfl⟩;have hxb:x≤256:=by have:=hsum.out j (by omega);omega
         obtain⟨D,hD⟩:∃D,(Me.sh Ss j).getD al 0=D:=⟨_,rfl⟩;have hDb:D≤64:=by rw[← hD];exact h64.out j al (by omega)
         have hsj:=hsucc.out j (by omega);rw[hx,hD]at hsj;rw[hx]at R;have HSJ:=Lib.hid hsj;have HD:=Lib.hid hD;clear hx hD hsj;go_wp2_with fail
         go_loopg [9] n0 (fun gh s9 wr=>∃i:Nat,i+gh=n0∧s9 = .int .i64 ((i:Nat):Int)∧Hid (Touch No wo wr)∧Hid (∀i',i'<i→i'≠al→(Me.sh Ss j).getD i' 0=(Me.sh Ss 0).getD i' 0))
         case atStart=>exact⟨0,by omega,rfl,Touch.refl _ _,fun i' h=>absurd h (Nat.not_lt_zero _)⟩
         case round =>
          obtain⟨i,hig,rfl,Ti,LI⟩:=hrel;have kc1:=Ti.out.cell id HC1.out;cases gk with
          | zero =>
            obtain rfl:n0=i:=by omega
            have LK2:Hid (∀i,i<j+1→Me.likeJ Ss al i):=fun i hi=>by
             rcases Nat.lt_or_ge i j with h1|h1
             ·exact LK.out i h1
             ·obtain rfl:j=i:=by omega
              exact⟨by rw[HRJ.out.2,HK.out.2],fun i' h2 h3=>LI.out i' (by rw[HK.out.2]at h2;exact h2) h3⟩
            have Ri:=Lib.hid (R.out.touch Ti.out id);obtain⟨bj,oj,rfl,cd⟩:=(HRJ.out.1.no Ti.out).num (i:=al) (by rw[HRJ.out.2];exact hal);rw[HD.out]at cd
            have cx:wr.cell? ⟨g,al,none⟩=some (.int .i64 ((x:Nat):Int)):=Ri.out.cell (by
             have:=nums_get (k:=.i64) (xs:=(Me.sh Ss 0).set al x) (i:=al) (by rw[List.length_set,HK.out.2];exact hal);rw[Me.getD_set_self (by rw[HK.out.2];exact hal)]at this;exact this)
            have hali:(al:Int)<(n0:Nat):=by omega
            obtain⟨y,hy⟩:∃y,x+D=y:=⟨_,rfl⟩;have e1:IntKind.i64.wrap ((x:Int)+(D:Int))=((y:Nat):Int):=by rw[← hy,← Int.natCast_add];exact IntWalk.i64_in _ (by omega)
            have q1:=KW.cell kc1;have q2:=KW.cell cd;have q3:=KW.cell cx
            have HN:Hid (∀W:World,Touch No wr W→W.frozen? ⟨g,al,none⟩=false∧Touch (One g) w2 (W.setCell ⟨g,al,none⟩ (.int .i64 ((y:Nat):Int)))∧RowP (W.setCell ⟨g,al,none⟩ (.int .i64 ((y:Nat):Int))) g 3 (nums .i64 ((Me.sh Ss 0).set al (((Me.dimsS Ss al).take (j+1)).sum)))):=fun W t=>by
             have RW:=Ri.out.touch t id;refine⟨RW.soft al,(T.out.trans (Ti.out.trans t).no).setCell (p:=⟨g,al,none⟩) (fun _=>rfl) _,?_⟩;have h2:=RW.set (k:=al) (by rw[nums_length,List.length_set,HK.out.2];exact hal) (.int .i64 ((y:Nat):Int));rw[nums_set,List.set_set]at h2;rw[HSJ.out,hy];exact h2
            clear hy cd cx kc1 Ri R T LK LI;go_wp2_with fail;refine wp_region_kept_tail 14 (by kernel_rfl) (by kernel_rfl) ?_;simp only[List.take_succ_cons,List.take_zero,List.drop_succ_cons,List.drop_zero];repeat (first|go_big_quiet_step (fail)|quiet_step (fail))
            refine wpQuiet_nil ?_;intro _ hw';obtain⟨kw,hw''⟩:=hw';subst hw'';obtain⟨wk,tk⟩:=kw;have tk:=Lib.hid tk;dsimp only;have HN2:=Lib.hid (HN.out wk tk.out);have cz:=HN2.out.1;have cg:=q3 ⟨wk,tk.out⟩;dsimp only at cg;clear q1 q2 q3;go_wp2
            go_roundg g'
            case measure=>omega
            case rel=>exact⟨j+1,by omega,by omega,by go_num,HN2.out.2.1,HN2.out.2.2,LK2⟩
          | succ g2 =>
            have hin:(i:Int)<(n0:Nat):=by omega
            by_cases hia:i=al
            ·have hb1:((i:Int) != (al:Int))=false:=by simp;omega
             have LI2:Hid (∀i',i'<i+1→i'≠al→(Me.sh Ss j).getD i' 0=(Me.sh Ss 0).getD i' 0):=fun i' h h'=>LI.out i' (by omega) h'
             have hi6:i≤10:=by omega
             clear hia LI;go_wp2_with fail;refine wp_region_kept (by kernel_rfl) (by kernel_rfl) ?_;repeat (first|go_big_quiet_step (fail)|quiet_step (fail))
             refine wpQuiet_nil ?_;intro _ hw';obtain⟨kw,hw''⟩:=hw';subst hw'';obtain⟨wk,tk⟩:=kw;have tk:=Lib.hid tk;dsimp only;have Ti2:Hid (Touch No wo wk):=Ti.out.trans tk.out;go_wp2
             go_roundg g2
             case measure=>omega
             case rel=>exact⟨i+1,by omega,by go_num,Ti2,LI2⟩
            ·have hb1:((i:Int) != (al:Int))=true:=by simp;omega
             obtain⟨bj,oj,rfl,cd⟩:=(HRJ.out.1.no Ti.out).num (i:=i) (by rw[HRJ.out.2];omega);obtain⟨u,hu⟩:∃u,(Me.sh Ss j).getD i 0=u:=⟨_,rfl⟩;obtain⟨v,hv⟩:∃v,(Me.sh Ss 0).getD i 0=v:=⟨_,rfl⟩;rw[hu]at cd
             have cx:wr.cell? ⟨g,i,none⟩=some (.int .i64 ((v:Nat):Int)):=(R.out.touch Ti.out id).cell (by
              have:=nums_get (k:=.i64) (xs:=(Me.sh Ss 0).set al x) (i:=i) (by rw[List.length_set,HK.out.2];omega);rw[Me.getD_set_ne (fun e=>hia e.symm),hv]at this;exact this)
             have q1:=KW.cell kc1;have q2:=KW.cell cd;have q3:=KW.cell cx;have hi6:i≤10:=by omega
             by_cases huv:u=v
             ·have LI2:Hid (∀i',i'<i+1→i'≠al→(Me.sh Ss j).getD i' 0=(Me.sh Ss 0).getD i' 0):=fun i' h h'=>by
               rcases Nat.lt_or_ge i' i with h1|h1
               ·exact LI.out i' h1 h'
               ·obtain rfl:i=i':=by omega
                rw[hu,hv,huv]
              have hb2:((u:Int) != (v:Int))=false:=by simp;omega
              clear hia LI cd cx kc1 hu hv huv;go_wp2_with fail;refine wp_region_kept (by kernel_rfl) (by kernel_rfl) ?_;repeat (first|go_big_quiet_step (fail)|quiet_step (fail))
              refine wpQuiet_nil ?_;intro _ hw';obtain⟨kw,hw''⟩:=hw';subst hw'';obtain⟨wk,tk⟩:=kw;have tk:=Lib.hid tk;dsimp only;have Ti2:Hid (Touch No wo wk):=Ti.out.trans tk.out;clear q1 q2 q3;go_wp2
              go_roundg g2
              case measure=>omega
              case rel=>exact⟨i+1,by omega,by go_num,Ti2,LI2⟩
             ·have HN:Hid (Me.joinS Ss al=none):=Me.joinS_none fun h=>huv (by
               have:=(h.2.1 j (by rw[HK.out.1];omega)).2 i (by rw[HK.out.2];omega) hia;rw[hu,hv]at this;exact this)
              have hb2:((u:Int) != (v:Int))=true:=by simp;omega
              clear hia LI cd cx kc1 hu hv huv;go_wp2_with fail;refine wp_region_kept (by kernel_rfl) (by kernel_rfl) ?_;repeat (first|go_big_quiet_step (fail)|quiet_step (fail))
              refine wpQuiet_nil ?_;intro _ hw';obtain⟨kw,hw''⟩:=hw';subst hw'';obtain⟨wk,tk⟩:=kw;have tk:=Lib.hid tk;dsimp only;have Ti2:Hid (Touch No w wk):=hwr.out.trans (Ti.out.trans tk.out);clear q1 q2 q3;go_wp2
              go_ret2
              rw[HN.out];exact⟨10,by omega,rfl,Ti2.out⟩
        ·have HN:Hid (Me.joinS Ss al=none):=Me.joinS_none fun h=>hlen (by
          have:=(h.2.1 j (by rw[HK.out.1];omega)).1;rw[HRJ.out.2,HK.out.2]at this;exact this)
         have hb0:((nj:Int) != (n0:Int))=true:=by simp;omega
         clear hlen;go_wp2
         go_ret2
         rw[HN.out];exact⟨10,by omega,rfl,hwr.out⟩
    ·have HN:Hid (Me.joinS Ss al=none):=Me.joinS_none fun h=>hal (by have:=h.1;rw[HK.out.2]at this;exact this)
     have f2:decide ((n0:Int)≤(al:Nat))=true:=by simp;omega
     have f3:decide (n0≤al)=true:=by simp;omega
     clear hal;go_wp2
     go_ret2
     rw[HN.out];exact⟨1,by omega,rfl,Touch.refl _ _⟩
end
end Go.Proofs.YtjlphmmalebgpaaGreat
