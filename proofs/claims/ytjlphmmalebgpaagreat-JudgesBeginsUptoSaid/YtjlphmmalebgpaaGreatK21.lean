/-
  A part of the proof.
-/
import Derived.Test.YtjlphmmalebgpaaGreatK16
set_option linter.unusedSimpArgs false
set_option linter.unusedVariables false
set_option maxHeartbeats 4000000
set_option maxRecDepth 100000
namespace Go.Proofs.YtjlphmmalebgpaaGreat
section
open Go Go.RowKit
def GrowIPost (w:World)(e:Ending)(w':World):Prop :=
 ∃a c,e = .returned (.slice a 0 c)∧Own w' w.heap.size 3 (.slice a 0 c) []∧Touch No w w'
theorem growI_any (w:World)(n:Nat)(hn:(n:Int)≤1000000000000) :
  Calls Tryz.prog 230 #[.slice none 0 0,.int .i64 (n:Nat)] w (GrowIPost w):=by
 obtain⟨I,hi0,hi1,hi2,hi3⟩:=info_I;have hh0:∀wx:World,(Instr.slice 48 (.slice none 0 0) none (some (.int .i64 0)) none).run Tryz.prog wx = .ok (.slice none 0 0) wx:=fun wx=>run_head Tryz.underlying48 hi0 hi2 none 0 0 0 .i64 (Nat.le_refl _) wx
 have hh:∀(wx:World) (a:Option Addr) (n c:Nat),(Instr.slice 48 (.slice a n c) none (some (.int .i64 0)) none).run Tryz.prog wx = .ok (.slice a 0 c) wx:=fun wx a n c=>run_head Tryz.underlying48 hi0 hi2 a n c 0 .i64 (Nat.zero_le _) wx
 have Hi:=Lib.hid (aI hi0 (aI hi1 (aI hi2 hi3)));clear hi0 hi1 hi2 hi3
 by_cases h0:n=0
 ·subst h0
  go_enter Tryz.func230,Tryz.ntmps230;go_wp2;go_ret;exact⟨_,_,rfl,Own.nil _ _ _,Touch.refl _ _⟩
 ·have hpos:0<n:=by omega
  have hp:(0:Int)<(n:Nat):=by omega
  have H0:=Lib.hid h0;clear h0;go_enter Tryz.func230,Tryz.ntmps230;go_wp2_with (refine wpList_append_zeros rfl _ _ _ _ rfl w.heap.size 3 I (.int .i64 0) (.int .i64 0) 8 Tryz.underlying48 Tryz.underlying3 Hi.out.1 Hi.out.2.1 Hi.out.2.2.1 Hi.out.2.2.2 rfl rfl (.slice none 0 0) [] (Own.nil _ _ _) rfl n rfl (by simp;unfold maxLen;omega) (by simp;omega) (Nat.le_refl _) ?_);intro v' w3 own3 t3;obtain⟨a,c,rfl,_⟩:=own3.form' (n:=n) (by simp);have O3:=Lib.hid own3;have T3:=Lib.hid (t3.mono (G:=No) (fun k _ h=>by cases h));clear own3 t3;go_wp2;go_ret;exact⟨_,_,rfl,O3.out.head (Nat.zero_le _),T3.out⟩
def ConcatIPost (w:World)(xs:List Value)(N:Nat)(e:Ending)(w':World):Prop :=
 ∃a c,e = .returned (.slice a N c)∧Own w' w.heap.size 3 (.slice a N c) xs∧Touch No w w'
theorem concatI_any (w:World)(g o c:Nat)(a1:Option Addr)(n1 c1:Nat)(us1:List Value)(a2:Option Addr)(n2 c2:Nat)(us2:List Value)(hc1:w.cell? ⟨g,o,none⟩=some (.slice a1 n1 c1))(hc2:w.cell? ⟨g,o+1,none⟩=some (.slice a2 n2 c2))
  (hl1:us1.length=n1) (hl2:us2.length=n2) (hr1:Rd w a1 us1) (hr2:Rd w a2 us2) (ho1:∀u∈us1,u.oneCell'=true) (ho2:∀u∈us2,u.oneCell'=true) (N:Nat) (hN:n1+n2=N) (hmax:(N:Int)≤1000000000000) :
  Calls Tryz.prog 207 #[.slice (some ⟨g,o,none⟩) 2 c] w (ConcatIPost w (us1++us2) N):=by
 obtain⟨I,hi0,hi1,hi2,hi3⟩:=info_I;have Hi:=Lib.hid (aI hi0 (aI hi1 (aI hi2 hi3)));have HC:=Lib.hid (aI hc1 hc2);have HL:=Lib.hid (aI hl1 hl2);have HR:=Lib.hid (aI hr1 hr2);have HO:=Lib.hid (aI ho1 ho2);have HN:=Lib.hid hN;have hb1:(n1:Int)≤1000000000000:=by omega
 have hb2:(n2:Int)≤1000000000000:=by omega
 have hsum:(n1:Int)+(n2:Int)=(N:Nat):=by omega
 clear hi0 hi1 hi2 hi3 hl1 hl2 hr1 hr2 ho1 ho2 hN;go_enter Tryz.func207,Tryz.ntmps207;go_wp2
 go_loopg [3,11] 2 (fun g s3 s11 wr=>((g=2∧s11 = .int .i64 0∧s3 = .int .i64 0)∨(g=1∧s11 = .int .i64 1∧s3 = .int .i64 (n1:Nat))∨(g=0∧s11 = .int .i64 2∧s3 = .int .i64 (N:Nat)))∧Hid (w=wr))
 case atStart=>exact⟨.inl ⟨rfl,rfl,rfl⟩,rfl⟩
 case round =>
  obtain⟨hrel,hw⟩:=hrel;have hww:=hw.out;clear hw;subst hww;rcases hrel with⟨rfl,rfl,rfl⟩|⟨rfl,rfl,rfl⟩|⟨rfl,rfl,rfl⟩
  ·go_wp2
   go_roundg 1
   case measure=>omega
   case rel=>exact⟨.inr (.inl ⟨rfl,rfl,rfl⟩),rfl⟩
  ·go_wp2
   go_roundg 0
   case measure=>omega
   case rel=>exact⟨.inr (.inr ⟨rfl,rfl,by first|rfl|(rw[hsum])⟩),rfl⟩
  ·clear hc1 hc2 hsum
   go_wp2_with fail;refine(growI_any w N hmax).mono ?_;rintro e w1 ⟨a',c',rfl,O1,T1⟩;have HO1:=Lib.hid O1;have HT1:=Lib.hid T1;clear O1 T1;go_wp2
   go_loopg [6,27] 2 (fun g s6 s27 wr=>∃v:Value,s6=v∧((g=2∧s27 = .int .i64 0∧Hid (Own wr w.heap.size 3 v []))∨(g=1∧s27 = .int .i64 1∧Hid (Own wr w.heap.size 3 v us1))∨(g=0∧s27 = .int .i64 2∧Hid (Own wr w.heap.size 3 v (us1++us2))))∧Hid (Touch No w wr))
   case atStart=>exact⟨_,rfl,.inl ⟨rfl,rfl,HO1.out⟩,HT1.out⟩
   case round =>
    obtain⟨v,rfl,hrel,T⟩:=hrel;clear HO1 HT1;have hsz:=T.out.size;rcases hrel with⟨rfl,rfl,O⟩|⟨rfl,rfl,O⟩|⟨rfl,rfl,O⟩
    ·have k1:=T.out.cell id HC.out.1
     go_wp2_with (refine wpList_append_rd rfl _ _ _ rfl w.heap.size 3 I (.int .i64 0) 8 Tryz.underlying48 Hi.out.1 Hi.out.2.1 Hi.out.2.2.1 Hi.out.2.2.2 rfl _ [] O.out rfl a1 n1 c1 us1 rfl HL.out.1 (HR.out.1.no T.out) HO.out.1 (by simp;unfold maxLen;omega) (by simp;omega) hsz ?_);intro v' w3 own3 t3;have O3:=Lib.hid own3;have T3:=Lib.hid (T.out.then t3 (fun k hk e=>absurd (O.out.block e).1 (Nat.not_le.2 hk)));clear own3 t3;go_wp2
     go_roundg 1
     case measure=>omega
     case rel=>exact⟨_,rfl,.inr (.inl ⟨rfl,rfl,O3.out⟩),T3.out⟩
    ·have k2:=T.out.cell id HC.out.2
     go_wp2_with (refine wpList_append_rd rfl _ _ _ rfl w.heap.size 3 I (.int .i64 0) 8 Tryz.underlying48 Hi.out.1 Hi.out.2.1 Hi.out.2.2.1 Hi.out.2.2.2 rfl _ us1 O.out rfl a2 n2 c2 us2 rfl HL.out.2 (HR.out.2.no T.out) HO.out.2 (by rw[HL.out.1];unfold maxLen;omega) (by rw[HL.out.1];omega) hsz ?_);intro v' w3 own3 t3;have O3:=Lib.hid own3;have T3:=Lib.hid (T.out.then t3 (fun k hk e=>absurd (O.out.block e).1 (Nat.not_le.2 hk)));clear own3 t3;go_wp2
     go_roundg 0
     case measure=>omega
     case rel=>exact⟨_,rfl,.inr (.inr ⟨rfl,rfl,O3.out⟩),T3.out⟩
    ·go_wp2
     go_ret;obtain⟨a',c',rfl,_⟩:=O.out.form' (n:=N) (by rw[List.length_append,HL.out.1,HL.out.2,HN.out]);exact⟨a',c',rfl,O.out,T.out⟩
end
section
open Go Go.RowKit
namespace Me
theorem sum_src {S:List Nat}(ok:Ok S){al:Nat}(h:al<S.length){k j:Nat}(hk:k<pr (without S al))(hj:j<S.getD al 0) :
  k / behind S al*behind S al*S.getD al 0+k%behind S al+j*behind S al<pr S:=by
 have hap:1≤behind S al:=pr_pos fun x hx=>ok.each x (List.mem_of_mem_drop hx)
 rw[pr_without h]at hk;have hA:k / behind S al<pr (S.take al):=by rw[Nat.div_lt_iff_lt_mul hap];exact hk
 have h1:=cut_lt hA hj (Nat.mod_lt k hap);rw[show pr (S.take al)*(S.getD al 0*behind S al)=pr S from(pr_split h).symm]at h1
 have h2:k / behind S al*behind S al*S.getD al 0+k%behind S al+j*behind S al=(k / behind S al*S.getD al 0+j)*behind S al+k%behind S al:=by
  rw[Nat.add_mul,Nat.mul_assoc,Nat.mul_assoc,Nat.mul_comm (behind S al) (S.getD al 0)];omega
 rw[h2];exact h1
end Me
theorem apart_in (w:World)(a:Option Addr)(n c k:Nat)(S:List Nat)(ok:Me.Ok S)(hn:S.length=n)(hc:n≤c)(hr:Rd w a (nums .i64 S))(hk:k<n) :
  Calls Tryz.prog 208 #[.agg #[.slice a n c,.int .i64 ((k:Nat):Int)]] w fun e w'=>e = .returned (.int .i64 ((Me.behind S k:Nat):Int))∧Touch No w w':=by
 have C:Hid (∀wx:World,Touch No w wx→Calls Tryz.prog 206 #[.slice a n c,.int .i64 ((k:Nat):Int)] wx fun e w'=>e = .returned (.int .i64 ((Me.behind S k:Nat):Int))∧wx=w'):=fun wx t=>behind_in wx a n c k S ok hn hc (hr.no t) hk
 clear ok hn hr;go_enter Tryz.func208,Tryz.ntmps208;go_wp2_with fail;refine(C.out _ ((Touch.refl No w).alloc _)).mono ?_;rintro e w' ⟨rfl,rfl⟩;go_wp2;go_ret;exact⟨rfl,(Touch.refl No w).alloc _⟩
theorem of_in (w:World)(b o n c k x:Nat)(hk:k<n)(hx:w.cell? ⟨b,o+k,none⟩=some (.int .i64 ((x:Nat):Int))) :
  Calls Tryz.prog 209 #[.agg #[.slice (some ⟨b,o,none⟩) n c,.int .i64 ((k:Nat):Int)]] w fun e w'=>e = .returned (.int .i64 ((x:Nat):Int))∧Touch No w w':=by
 have hki:(k:Int)<(n:Nat):=by omega
 have hx':∀ob:Obj,(w.alloc ob).cell? ⟨b,o+k,none⟩=some (.int .i64 ((x:Nat):Int)):=fun ob=>((Touch.refl No w).alloc ob).cell id hx
 clear hx;go_enter Tryz.func209,Tryz.ntmps209;go_wp2;go_ret;exact⟨rfl,(Touch.refl No w).alloc _⟩
theorem movesSum_in (w:World)(sa la:Option Addr)(n c m d al:Nat)(S:List Nat)(A:List Int)(hA:TIn w sa n c la m d S A)(hal:al<n) :
  Calls Tryz.prog 154 #[.agg #[.slice sa n c,.slice la m d],.int .i64 ((al:Nat):Int)] w (TOut w (Me.without S al) (Me.sumL S al A)):=by
 obtain⟨I,hi0,hi1,hi2,hi3⟩:=info_I;have hn4:=hA.n4;have hm4:=hA.m4;have hsc:=hA.sc;have halS:al<S.length:=by rw[hA.sn];exact hal
 have hT:=Me.ok_without hA.ok halS
 have hhead:Hid (∀wx:World,(Instr.slice 48 (.slice sa n c) none (some (.int .i64 ((al:Nat):Int))) none).run Tryz.prog wx = .ok (.slice sa al c) wx):=fun wx =>
  run_head (P:=Tryz.prog) Tryz.underlying48 hi0 hi2 sa n c al .i64 (by omega) wx
 have htail:Hid (∀wx:World,(Instr.slice 48 (.slice sa n c) (some (.int .i64 ((al:Int)+1))) none none).run Tryz.prog wx = .ok (.slice (cutAddr sa c (al+1)) (n-(al+1)) (c-(al+1))) wx):=fun wx =>
  run_cut (P:=Tryz.prog) Tryz.underlying48 hi0 hi2 sa n c (al+1) .i64 (by omega) wx
 obtain⟨n2,hn2⟩:∃n2,(Me.without S al).length=n2:=⟨_,rfl⟩;obtain⟨m2,hm2⟩:∃m2,Me.pr (Me.without S al)=m2:=⟨_,rfl⟩;have hm24:m2≤4096:=by rw[← hm2];exact hT.most
 have HTl:Hid ((Me.sumL S al A).length=m2):=by show _=_;rw[Me.sumL,List.length_map,List.length_range,hm2]
 have hap:1≤Me.behind S al:=Me.pr_pos fun x hx=>hA.ok.each x (List.mem_of_mem_drop hx)
 obtain⟨ap,hapd⟩:∃ap,Me.behind S al=ap:=⟨_,rfl⟩;obtain⟨o,hod⟩:∃o,S.getD al 0=o:=⟨_,rfl⟩
 have hSRC:Hid (∀k j,k<m2→j<o→k / ap*ap*o+k%ap+j*ap<m):=fun k j hk hj=>by
  have:=Me.sum_src hA.ok halS (k:=k) (j:=j) (by rw[hm2];exact hk) (by rw[hod];exact hj);rw[hapd,hod,hA.len]at this;exact this
 have hVAL:Hid (∀k,k<m2→Me.at_ (Me.sumL S al A) k=Me.go (fun s j=>wrap32 (s+Me.at_ A (k / ap*ap*o+k%ap+j*ap))) 0 o):=fun k hk=>by
  rw[Me.sumL,hm2,hapd,hod,Me.at_map _ hk]
 have hap4:ap≤4096:=by
  have h1:=Me.pr_split halS;have h2:=Me.pr_pos (S:=S.take al) fun x hx=>hA.ok.each x (List.mem_of_mem_take hx)
  have h3:=(hA.ok.get halS).1;rw[show Me.pr (S.drop (al+1))=Me.behind S al from rfl,hapd,hod]at h1;rw[hod]at h3;have h4:1*(1*ap)≤Me.pr (S.take al)*(o*ap):=Nat.mul_le_mul h2 (Nat.mul_le_mul_right _ h3);have:=hA.len;omega
 have ho4:o≤4096:=by
  have h1:=Me.pr_split halS;have h2:=Me.pr_pos (S:=S.take al) fun x hx=>hA.ok.each x (List.mem_of_mem_take hx)
  rw[show Me.pr (S.drop (al+1))=Me.behind S al from rfl,hapd,hod]at h1;rw[hapd]at hap;have h4:1*(o*1)≤Me.pr (S.take al)*(o*ap):=Nat.mul_le_mul h2 (Nat.mul_le_mul_left _ hap);have:=hA.len;omega
 rw[hapd]at hap;obtain⟨bs,os,rfl,cs⟩:=hA.dir (k:=al) hal;rw[hod]at cs;have HCS:=Lib.hid cs
 have CA:Hid (∀wx:World,Touch No w wx→Calls Tryz.prog 208 #[.agg #[.slice (some ⟨bs,os,none⟩) n c,.int .i64 ((al:Nat):Int)]] wx fun e w'=>e = .returned (.int .i64 ((ap:Nat):Int))∧Touch No wx w'):=fun wx t=>by
  rw[← hapd];exact apart_in wx _ n c al S hA.ok hA.sn hA.sc (hA.sr.no t) hal
 have CO:Hid (∀wx:World,Touch No w wx→Calls Tryz.prog 209 #[.agg #[.slice (some ⟨bs,os,none⟩) n c,.int .i64 ((al:Nat):Int)]] wx fun e w'=>e = .returned (.int .i64 ((o:Nat):Int))∧Touch No wx w'):=fun wx t =>
  of_in wx bs os n c al o hal (t.cell id HCS.out)
 have HA:=Lib.hid hA;have HT:=Lib.hid (aI hT (aI hn2 hm2));have HAL:=Lib.hid halS;have HO1:=Lib.hid hod;have hN:∃N,al+(n-(al+1))=N:=⟨_,rfl⟩;obtain⟨N,hN⟩:=hN;have f1:decide (((al:Nat):Int)<0)=false:=by simp
 have f2:decide (((n:Nat):Int)≤((al:Nat):Int))=false:=by simpa using hal
 clear hA hT hn2 hm2 halS cs hapd hod hi0 hi1 hi2 hi3;go_enter Tryz.func154,Tryz.ntmps154;go_wp2_with fail;obtain⟨w1,hw1,t1,b2,b3,hsz⟩:=two_rows w 51 #[.slice (some ⟨bs,os,none⟩) n c,.slice la m d] #[.slice none 0 0,.slice none 0 0];rw[← hw1];have H1:=Lib.hid (aI t1 (aI b2 b3));clear hw1 t1 b2 b3;refine(tenCheck_ok (HA.out.no H1.out.1)).mono ?_;rintro e w2 ⟨rfl,t2⟩;have H2:=Lib.hid (aI (H1.out.1.trans t2) (aI (H1.out.2.1.touch t2 id) (H1.out.2.2.touch t2 id)));clear t2 H1 hsz;have k0:=H2.out.2.1.c0;go_wp2_with fail;have hs:=hhead.out;have ht:=htail.out;have kk0:=KW.cell k0;refine wp_region_kept_tail 9 (by kernel_rfl) (by kernel_rfl) ?_;simp only[List.take_succ_cons,List.take_zero,List.drop_succ_cons,List.drop_zero];repeat (first|go_big_quiet_step (fail)|quiet_step (fail))
 refine wpQuiet_nil ?_;intro _ hw';obtain⟨kw,hw''⟩:=hw';subst hw'';obtain⟨wk,tk⟩:=kw;have tk:=Lib.hid tk;dsimp only;clear kk0 k0;go_wp2_with fail;obtain⟨w3,hw3⟩:∃w3,w3=wk.alloc (.cells #[.slice (some ⟨bs,os,none⟩) al c,.slice (cutAddr (some ⟨bs,os,none⟩) c (al+1)) (n-(al+1)) (c-(al+1))] 48):=⟨_,rfl⟩
 have H3:Hid (Touch No w w3∧Row w3 w.heap.size 51 [.slice (some ⟨bs,os,none⟩) n c,.slice la m d]∧Row w3 (w.heap.size+1) 51 [.slice none 0 0,.slice none 0 0]∧Row w3 wk.heap.size 48 [.slice (some ⟨bs,os,none⟩) al c,.slice (cutAddr (some ⟨bs,os,none⟩) c (al+1)) (n-(al+1)) (c-(al+1))]):=by
  have t:Touch No w2 w3:=by rw[hw3];exact tk.out.alloc _
  exact⟨H2.out.1.trans t,H2.out.2.1.touch t id,H2.out.2.2.touch t id,by rw[hw3];exact Row.new _ _ _⟩
 rw[← hw3];clear hw3 H2
 refine(concatI_any w3 wk.heap.size 0 2 (some ⟨bs,os,none⟩) al c (nums .i64 (S.take al)) (cutAddr (some ⟨bs,os,none⟩) c (al+1)) (n-(al+1)) (c-(al+1)) (nums .i64 (S.drop (al+1))) H3.out.2.2.2.c0 H3.out.2.2.2.c1 (by rw[nums_length,List.length_take,HA.out.sn];omega) (by rw[nums_length,List.length_drop,HA.out.sn]) (by
  have:=(HA.out.no H3.out.1).sr.take al
  simpa[nums,List.map_take]using this) (by
  have:=(HA.out.no H3.out.1).sr.cut (cap:=c) (l:=al+1) (by rw[nums_length,HA.out.sn];omega)
  simpa[nums,List.map_drop]using this) (nums_one _ _) (nums_one _ _) N hN (by omega)).mono ?_
 rintro e w4 ⟨a4,c4,rfl,own,t4⟩;have H4:=Lib.hid (aI (H3.out.1.trans t4) (aI (H3.out.2.1.touch t4 id) (H3.out.2.2.1.touch t4 id)));have OW:=Lib.hid own;clear own t4 H3 tk;rw[← nums_append]at OW
 go_upto_if 41 with fail
 go_cut [6] (fun s6 wx=>∃a' c',s6 = .slice a' n2 c'∧Hid (Rd wx a' (nums .i64 (Me.without S al))∧Touch No w4 wx))
 case first =>
  by_cases h1:N=0
  ·have hb:((N:Int)==0)=true:=by simp;omega
   have e2:Me.without S al=[1]:=by rw[Me.without,if_pos (by rw[HA.out.sn];omega)]
   have e3:n2=1:=by rw[← HT.out.2.1,e2];rfl
   have HE:=Lib.hid e2;have HE3:=Lib.hid e3;clear h1 e2 e3;rw[hb];go_wp2_with fail;go_meet;refine⟨some ⟨w4.heap.size,0,none⟩,1,by rw[HE3.out];try rfl,?_,(Touch.refl No w4).alloc _⟩;rw[HE.out];exact rd_row (Row.new _ _ _)
  ·have hb:((N:Int)==0)=false:=by simp;omega
   have e2:Me.without S al=S.take al++S.drop (al+1):=by rw[Me.without,if_neg (by rw[HA.out.sn];omega)]
   have e3:n2=N:=by rw[← HT.out.2.1,e2,List.length_append,List.length_take,List.length_drop,HA.out.sn];omega
   have HE:=Lib.hid e2;have HE3:=Lib.hid e3;clear h1 e2 e3;rw[hb];go_wp2_with fail;go_meet;refine⟨a4,c4,by rw[HE3.out];try rfl,?_,Touch.refl No w4⟩;rw[HE.out];exact OW.out.rd
 case rest =>
 obtain⟨a5,c5,rfl,hcut⟩:=hcut;have H5:=Lib.hid (aI (H4.out.1.trans hcut.out.2) (aI (H4.out.2.1.touch hcut.out.2 id) (aI (H4.out.2.2.touch hcut.out.2 id) hcut.out.1)));clear H4 OW hcut;have k0:=H5.out.2.1.c0;go_wp2_with fail;clear k0;obtain⟨F,hF⟩:∃F,F=wc.heap.size:=⟨_,rfl⟩;obtain⟨w6,hw6⟩:∃w6,w6=wc.alloc (.cells #[.slice (some ⟨bs,os,none⟩) n c,.int .i64 ((al:Nat):Int)] 262):=⟨_,rfl⟩;have hF1:w.heap.size+1<F:=by rw[hF];exact H5.out.2.2.1.lt
 have hF6:F<w6.heap.size:=by rw[hw6,hF];exact(Row.new wc 262 #[.slice (some ⟨bs,os,none⟩) n c,.int .i64 ((al:Nat):Int)]).lt
 have H6:Hid (Touch No w w6∧Row w6 w.heap.size 51 [.slice (some ⟨bs,os,none⟩) n c,.slice la m d]∧Row w6 (w.heap.size+1) 51 [.slice none 0 0,.slice none 0 0]∧Row w6 F 262 [.slice (some ⟨bs,os,none⟩) n c,.int .i64 ((al:Nat):Int)]∧Rd w6 a5 (nums .i64 (Me.without S al))):=by
  have t:Touch No wc w6:=by rw[hw6];exact(Touch.refl No wc).alloc _
  exact⟨H5.out.1.trans t,H5.out.2.1.touch t id,H5.out.2.2.1.touch t id,by rw[hw6,hF];exact Row.new _ _ _,H5.out.2.2.2.no t⟩
 rw[← hw6,← hF];clear hw6 H5 hF;refine(tenNew_in w6 a5 n2 c5 (Me.without S al) H6.out.2.2.2.2 HT.out.2.1 HT.out.1).mono ?_;rintro e w7 ⟨sc,n3,d3,g,m3,rfl,hn3,hm3,hd3,hsr,hsc',hg,hrow,t3⟩;obtain rfl:n3=n2:=by rw[← hn3,HT.out.2.1]
 obtain rfl:m3=m2:=by rw[← hm3,HT.out.2.2]
 obtain⟨Y,hY⟩:∃Y,Y=w7.heap.size:=⟨_,rfl⟩;obtain⟨w8,hw8⟩:∃w8,w8=w7.alloc (.cells #[.slice sc n3 d3,.slice (some ⟨g,0,none⟩) m3 m3] 51):=⟨_,rfl⟩;have FH:Hid (Fld w w8 (w.heap.size+1) g Y sc n3 d3 m3 (Me.without S al)):=by rw[hw8,hY];exact Fld.make H6.out.1 H6.out.2.2.1.lt (by omega) HT.out.1 HT.out.2.1 HT.out.2.2 hd3 hsr hsc' hg hrow t3
 have HB8:Hid (Row w8 w.heap.size 51 [.slice (some ⟨bs,os,none⟩) n c,.slice la m d]∧Row w8 (w.heap.size+1) 51 [.slice none 0 0,.slice none 0 0]∧Row w8 F 262 [.slice (some ⟨bs,os,none⟩) n c,.int .i64 ((al:Nat):Int)]):=by
  have t3:Touch No w6 w8:=by rw[hw8];exact t3.alloc _
  exact⟨H6.out.2.1.touch t3 id,H6.out.2.2.1.touch t3 id,H6.out.2.2.2.1.touch t3 id⟩
 have hFg:F<g:=by omega
 clear hn3 hm3 hd3 hsr hsc' hg hrow t3 H6 hF6;have hXg:w.heap.size+1<g:=FH.out.Xg;have hgY:g<Y:=FH.out.gY;have Hl':=Lib.hid (show(ints .i32 (Me.sumL S al A)).length=m3 by rw[ints_length];exact HTl.out);go_wp2_with fail;rw[← hw8,← hY];clear hw8 hY;have ky0:=FH.out.rowY.c1;go_wp2_with fail;clear ky0
 go_loopg [55] m3 (fun gh s55 wr=>∃k:Nat,k+gh=m3∧s55 = .int .i64 ((k:Nat):Int)∧Hid (Touch (One g) w8 wr)∧Hid (Row wr g 21 (fill (ints .i32 (Me.sumL S al A)) (.int .i32 0) k)))
 case atStart=>exact⟨0,by omega,rfl,Touch.refl _ _,FH.out.start Hl'.out⟩
 case round =>
  obtain⟨k,hkg,rfl,T',R⟩:=hrel;cases gk with
  | zero =>
    obtain rfl:k=m3:=by omega
    have ky:=FH.out.cell T'.out;have kx:=HB8.out.2.1.keep T'.out (by omega);have ky0:=FH.out.cell0 T'.out;have R:=Lib.hid (show Row wr g 21 (ints .i32 (Me.sumL S al A)) by have:=R.out;rw[fill_all _ _ Hl'.out]at this;exact this);go_wp2_with (refine wpList_store_mid rfl 51 _ _ rfl (w.heap.size+1) 0 51 [.slice none 0 0,.slice none 0 0] kx rfl [.slice sc n3 d3,.slice (some ⟨g,0,none⟩) k k] rfl (by kernel_rfl) (by simp) (by intro v hv;simp at hv;rcases hv with rfl|rfl <;> rfl) ?_);obtain⟨w9,hw9⟩:∃w9,w9=wr.setRow (w.heap.size+1) (splice [.slice none 0 0,.slice none 0 0] 0 [.slice sc n3 d3,.slice (some ⟨g,0,none⟩) k k]).toArray:=⟨_,rfl⟩;have R9:Row w9 (w.heap.size+1) 51 [.slice sc n3 d3,.slice (some ⟨g,0,none⟩) k k]:=by rw[hw9];exact kx.setRow _
    have HN:=Lib.hid (FH.out.done T'.out R.out HTl.out (Me.sumL_in S al A) (show Touch (One (w.heap.size+1)) wr w9 by rw[hw9];exact Touch.setOne _ _ _));have y0:=R9.c0;have y1:=R9.c1;rw[← hw9];clear hw9 kx R9;go_wp2;refine bodyPost_ret (v:=.tuple #[.agg #[.slice sc n3 d3,.slice (some ⟨g,0,none⟩) k k],.int .i64 0]) (by simp[results,Tryz.results154,go_sem,y0,y1]) rfl ?_;exact⟨sc,n3,d3,_,k,k,rfl,HN.out.1,HN.out.2⟩
  | succ g' =>
    have hki:(k:Int)<(m3:Nat):=by omega
    have hc0:¬(ap:Int)=0:=by omega
    have hc0':¬ap=0:=by omega
    have hV:=hVAL.out k (by omega);have hS0:Hid (∀j,j<o→k / ap*ap*o+k%ap+j*ap<m):=fun j hj=>hSRC.out k j (by omega) hj
    obtain⟨q,hq⟩:∃q,k / ap=q:=⟨_,rfl⟩;obtain⟨r,hr⟩:∃r,k%ap=r:=⟨_,rfl⟩;have hq1:(k:Int).tdiv (ap:Int)=((q:Nat):Int):=by rw[Int.tdiv_eq_ediv_of_nonneg (by omega),← hq];omega
    have hq2:(k:Int).tmod (ap:Int)=((r:Nat):Int):=by rw[Int.tmod_eq_emod_of_nonneg (by omega),← hr];omega
    have hq1':(k:Int) / (ap:Int)=((q:Nat):Int):=by rw[← hq];omega
    have hq2':(k:Int)%(ap:Int)=((r:Nat):Int):=by rw[← hr];omega
    have hqk:q≤k:=by rw[← hq];exact Nat.div_le_self _ _
    have hrk:r≤k:=by rw[← hr];exact Nat.mod_le _ _
    rw[hq,hr]at hV hS0;obtain⟨qa,hqa⟩:∃qa,q*ap=qa:=⟨_,rfl⟩;obtain⟨qo,hqo⟩:∃qo,qa*o=qo:=⟨_,rfl⟩;obtain⟨st,hst⟩:∃st,qo+r=st:=⟨_,rfl⟩;rw[hqa,hqo,hst]at hV hS0;have hqak:qa≤k:=by rw[← hqa,← hq];exact Nat.div_mul_le_self _ _
    have ho1:1≤o:=by have:=(HA.out.ok.get HAL.out).1;have h2:=HO1.out;omega
    have hstm:st<m:=by have:=hS0.out 0 (by omega);omega
    have e0:IntKind.i64.wrap ((q:Nat):Int)=((q:Nat):Int):=IntWalk.i64_in _ (by omega);have e1:IntKind.i64.wrap ((q:Int)*(ap:Int))=((qa:Nat):Int):=by rw[← Int.natCast_mul,hqa];exact IntWalk.i64_in _ (by omega)
    have e2:IntKind.i64.wrap ((qa:Int)*(o:Int))=((qo:Nat):Int):=by rw[← Int.natCast_mul,hqo];exact IntWalk.i64_in _ (by omega)
    have e3:IntKind.i64.wrap ((qo:Int)+(r:Int))=((st:Nat):Int):=by rw[← hst,← Int.natCast_add];exact IntWalk.i64_in _ (by omega)
    have HV:=Lib.hid hV;have hwr:Hid (Touch No w wr):=FH.out.t.oneNo T'.out (by omega);have kF0:=KW.cell (HB8.out.2.2.keep T'.out (by omega)).c0;have kF1:=KW.cell (HB8.out.2.2.keep T'.out (by omega)).c1;have CA1:Hid (∀p:KW wr,Calls Tryz.prog 208 #[.agg #[.slice (some ⟨bs,os,none⟩) n c,.int .i64 ((al:Nat):Int)]] p.wd fun e w'=>e = .returned (.int .i64 ((ap:Nat):Int))∧Touch No p.wd w'):=fun p=>CA.out _ (hwr.out.trans p.no)
    have CO1:Hid (∀p:KW wr,Calls Tryz.prog 209 #[.agg #[.slice (some ⟨bs,os,none⟩) n c,.int .i64 ((al:Nat):Int)]] p.wd fun e w'=>e = .returned (.int .i64 ((o:Nat):Int))∧Touch No p.wd w'):=fun p=>CO.out _ (hwr.out.trans p.no)
    clear hV hqa hqo hst hq hr;go_upto_region 11 with fail;refine wp_region_kept (by kernel_rfl) (by kernel_rfl) ?_;repeat (first|go_big_quiet_step (first|exact Calls.kept_of (CA1.out _)|exact Calls.kept_of (CO1.out _))|quiet_step (first|exact Calls.kept_of (CA1.out _)|exact Calls.kept_of (CO1.out _)))
    refine wpQuiet_nil ?_;intro _ hw';obtain⟨kw,hw''⟩:=hw';subst hw'';obtain⟨wk,tk⟩:=kw;have tk:=Lib.hid tk;dsimp only;have T2:Hid (Touch (One g) w8 wk):=T'.out.trans tk.out.no;have R2:=Lib.hid (R.out.touch tk.out id);have hwk:Hid (Touch No w wk):=hwr.out.trans tk.out;have kF0':=(HB8.out.2.2.keep T2.out (by omega)).c0;have kF1':=(HB8.out.2.2.keep T2.out (by omega)).c1;have CO2:=CO.out wk hwk.out;clear e0 e1 e2 e3 kF0 kF1 CA1 CO1 hwr T' R hq1 hq2 hq1' hq2' hc0 hc0' tk;go_wp2_with fail;refine CO2.mono ?_;clear CO2 kF0' kF1';rintro e w9 ⟨rfl,t9⟩;have T3:Hid (Touch (One g) w8 w9):=T2.out.trans t9.no;have R3:=Lib.hid (R2.out.touch t9 id);have hw9:Hid (Touch No w w9):=hwk.out.trans t9;clear t9 T2 R2 hwk;go_wp2_with fail;obtain⟨wo,rfl⟩:∃wo:World,wo=wr:=⟨_,rfl⟩
    go_loopg [75] o (fun gh s75 wr=>∃p:Nat,p+gh=o∧s75 = .int .i64 ((p:Nat):Int)∧Hid (Touch (One g) w8 wr)∧Hid (Row wr g 21 ((fill (ints .i32 (Me.sumL S al A)) (.int .i32 0) k).set k (.int .i32 (Me.go (fun s j=>wrap32 (s+Me.at_ A (st+j*ap))) 0 p)))))
    case atStart=>exact⟨0,by omega,rfl,T3,by show Row _ _ _ _;rw[show Me.go (fun s j=>wrap32 (s+Me.at_ A (st+j*ap))) 0 0=0 from rfl,fill_zero_set (by rw[HTl.out];omega)];exact R3.out⟩
    case round =>
     obtain⟨p,hpg,rfl,Ti,Ri⟩:=hrel;cases gk with
     | zero =>
       obtain rfl:p=o:=by omega
       have HN:Hid (Row wr g 21 (fill (ints .i32 (Me.sumL S al A)) (.int .i32 0) (k+1))):=by
        have:=Ri.out;rw[← HV.out,fill_ints_next (by rw[HTl.out];omega)]at this;exact this
       go_wp2
       go_roundg g'
       case measure=>omega
       case rel=>exact⟨k+1,by omega,by go_num,Ti.out,HN.out⟩
     | succ g2 =>
       have hpi:(p:Int)<(o:Nat):=by omega
       obtain⟨s,hs⟩:∃s,Me.go (fun s j=>wrap32 (s+Me.at_ A (st+j*ap))) 0 p=s:=⟨_,rfl⟩;have hi0:=hS0.out p (by omega);obtain⟨pa,hpa⟩:∃pa,p*ap=pa:=⟨_,rfl⟩
       have HS:Hid (Me.go (fun s j=>wrap32 (s+Me.at_ A (st+j*ap))) 0 (p+1)=wrap32 (s+Me.at_ A (st+pa))):=by
        show _=_
        rw[Me.go_succ,hs,hpa]
       rw[hpa]at hi0;obtain⟨i,hi⟩:∃i,st+pa=i:=⟨_,rfl⟩;rw[hi]at HS hi0;have e1:IntKind.i64.wrap ((p:Int)*(ap:Int))=((pa:Nat):Int):=by rw[← Int.natCast_mul,hpa];exact IntWalk.i64_in _ (by omega)
       have e2:IntKind.i64.wrap ((st:Int)+(pa:Int))=((i:Nat):Int):=by rw[← hi,← Int.natCast_add];exact IntWalk.i64_in _ (by omega)
       obtain⟨ga,oa,rfl,ca⟩:=(HA.out.keep FH.out.t Ti.out (by omega)).num (k:=i) (by omega);obtain⟨x,hx⟩:∃x,Me.at_ A i=x:=⟨_,rfl⟩;rw[hx]at ca HS;rw[hs]at Ri;obtain⟨v,hv⟩:∃v,wrap32 (s+x)=v:=⟨_,rfl⟩;rw[hv]at HS
       have hfl:k<(fill (ints .i32 (Me.sumL S al A)) (.int .i32 0) k).length:=by
        have:=fill_get (vs:=ints .i32 (Me.sumL S al A)) (z:=.int .i32 0) (k:=k) (by rw[Hl'.out];omega);rcases Nat.lt_or_ge k (fill (ints .i32 (Me.sumL S al A)) (.int .i32 0) k).length with h|h
        ·exact h
        ·rw[Lgn h]at this;cases this
       have cg:wr.cell? ⟨g,k,none⟩=some (.int .i32 s):=by rw[Ri.out.cell,List.getElem?_set_self hfl]
       have ky:=KW.cell (FH.out.cell Ti.out);have k2:=KW.cell (HB8.out.1.keep Ti.out (by omega)).c1;have kF0:=KW.cell (HB8.out.2.2.keep Ti.out (by omega)).c0;have kF1:=KW.cell (HB8.out.2.2.keep Ti.out (by omega)).c1;have ca':=KW.cell ca;have cg':=KW.cell cg;have hwr:Hid (Touch No w wr):=FH.out.t.oneNo Ti.out (by omega);have CA1:Hid (∀p:KW wr,Calls Tryz.prog 208 #[.agg #[.slice (some ⟨bs,os,none⟩) n c,.int .i64 ((al:Nat):Int)]] p.wd fun e w'=>e = .returned (.int .i64 ((ap:Nat):Int))∧Touch No p.wd w'):=fun p=>CA.out _ (hwr.out.trans p.no)
       have hii:(i:Int)<(m:Nat):=by omega
       have HN:Hid (∀W:World,Touch No wr W→W.frozen? ⟨g,k,none⟩=false∧Touch (One g) w8 (W.setCell ⟨g,k,none⟩ (.int .i32 v))∧Row (W.setCell ⟨g,k,none⟩ (.int .i32 v)) g 21 ((fill (ints .i32 (Me.sumL S al A)) (.int .i32 0) k).set k (.int .i32 (Me.go (fun s j=>wrap32 (s+Me.at_ A (st+j*ap))) 0 (p+1))))):=fun W t=>by
        have RW:=Ri.out.touch t id;rw[HS.out];refine⟨RW.soft k,(Ti.out.trans t.no).setCell (p:=⟨g,k,none⟩) (fun _=>rfl) _,?_⟩;have h2:=RW.setCell k (.int .i32 v);rw[List.set_set]at h2;exact h2
       clear hs hx hi hfl hpa ca cg hwr hi0;go_wp2_with fail;refine wp_region_kept_tail 16 (by kernel_rfl) (by kernel_rfl) ?_;simp only[List.take_succ_cons,List.take_zero,List.drop_succ_cons,List.drop_zero];repeat (first|go_big_quiet_step (exact Calls.kept_of (CA1.out _))|quiet_step (exact Calls.kept_of (CA1.out _)))
       refine wpQuiet_nil ?_;intro _ hw';obtain⟨kw,hw''⟩:=hw';subst hw'';obtain⟨wk,tk⟩:=kw;have tk:=Lib.hid tk;dsimp only;have cz:=(HN.out wk tk.out).1;have cg2:wk.cell? ⟨g,k,none⟩=some (.int .i32 s):=cg' ⟨wk,tk.out⟩;go_wp2
       go_roundg g2
       case measure=>omega
       case rel=>exact⟨p+1,by omega,by go_num,(HN.out wk tk.out).2.1,(HN.out wk tk.out).2.2⟩
end
section
open Go Go.RowKit
theorem Me.look_in {A:List Int}{rows wide c:Nat}{y x:Int}(hA:∀v∈A,-2147483648≤v∧v≤2147483647):-2147483648≤Me.look A rows wide c y x∧Me.look A rows wide c y x≤2147483647:=by
 unfold Me.look;split
 ·omega
 ·generalize (c*rows+y.toNat)*wide+x.toNat=i
  by_cases hi:i<A.length
  ·rw[Me.at_lt hi];exact hA _ (List.getElem_mem hi)
  ·rw[Me.at_,Lgd,Lgn (by omega)];simp
theorem rows_TT (w:World)(A B:Array Value)(T1 T2:TypeId):∃w1,w1=(w.alloc (.cells A T1)).alloc (.cells B T2)∧Touch No w w1∧Row w1 w.heap.size T1 A.toList∧Row w1 (w.heap.size+1) T2 B.toList∧w1.heap.size=w.heap.size+2:=by
 refine⟨_,rfl,((Touch.refl No w).alloc _).alloc _,(Row.new w _ _).touch ((Touch.refl No _).alloc _) id,?_,by simp⟩;have:=Row.new (w.alloc (.cells A T1)) T2 B;rw[size_alloc]at this;exact this
theorem refLook_in (w:World)(sa la:Option Addr)(n c m d:Nat)(S:List Nat)(A:List Int)(hA:TIn w sa n c la m d S A)(hn3:n=3)(ch:Nat)(y x:Int)(hch:ch<S.getD 0 0)(hy:-10000≤y∧y≤10000)(hx:-10000≤x∧x≤10000) :
  Calls Tryz.prog 165 #[.agg #[.slice sa n c,.slice la m d],.int .i64 ((ch:Nat):Int),.int .i64 y,.int .i64 x] w fun e w'=>e = .returned (.int .i32 (Me.look A (S.getD 1 0) (S.getD 2 0) ch y x))∧Touch No w w':=by
 subst hn3;have hS:=hA.sn;obtain⟨ba,oa,rfl,x1⟩:=hA.dir (k:=1) (by omega);obtain⟨_,_,he,x2⟩:=hA.dir (k:=2) (by omega);injection he with he;injection he with e1 e2;subst e1 e2
 have b0:=hA.ok.get (k:=0) (by omega);have b1:=hA.ok.get (k:=1) (by omega);have b2:=hA.ok.get (k:=2) (by omega);have hlen:=hA.len;have hm4:=hA.m4;obtain⟨v0,hv0⟩:∃v,S.getD 0 0=v:=⟨_,rfl⟩;obtain⟨v1,hv1⟩:∃v,S.getD 1 0=v:=⟨_,rfl⟩;obtain⟨v2,hv2⟩:∃v,S.getD 2 0=v:=⟨_,rfl⟩
 have hpr:v0*(v1*v2)=m:=by
  rw[← hlen]
  match S,hS with
  | [a,b,c],_=>simp at hv0 hv1 hv2;subst hv0 hv1 hv2;simp[Me.pr]
 rw[hv0]at hch b0;rw[hv1]at x1 b1;rw[hv2]at x2 b2;rw[hv1,hv2];obtain⟨w1,hw1⟩:∃w1,w1=w.alloc (.cells #[.slice (some ⟨ba,oa,none⟩) 3 c,.slice la m d] 51):=⟨_,rfl⟩;have H1:Hid (Touch No w w1):=by rw[hw1];exact(Touch.refl No w).alloc _
 have u1:∀ob:Obj,(w.alloc ob).cell? ⟨ba,oa+1,none⟩=some (.int .i64 ((v1:Nat):Int)):=fun ob=>((Touch.refl No w).alloc ob).cell id x1
 have u2:∀ob:Obj,(w.alloc ob).cell? ⟨ba,oa+2,none⟩=some (.int .i64 ((v2:Nat):Int)):=fun ob=>((Touch.refl No w).alloc ob).cell id x2
 by_cases hg:0≤y∧y<v1∧0≤x∧x<v2
 ·obtain⟨yn,rfl⟩:∃t:Nat,y=t:=⟨y.toNat,by omega⟩
  obtain⟨xn,rfl⟩:∃t:Nat,x=t:=⟨x.toNat,by omega⟩;have g1:decide ((yn:Int)<0)=false:=by simp
  have g2:decide ((v1:Int)≤(yn:Nat))=false:=by simp;omega
  have g2':decide (v1≤yn)=false:=by simp;omega
  have g3:decide ((xn:Int)<0)=false:=by simp
  have g4:decide ((v2:Int)≤(xn:Nat))=false:=by simp;omega
  have g4':decide (v2≤xn)=false:=by simp;omega
  obtain⟨i,hi⟩:∃i,(ch*v1+yn)*v2+xn=i:=⟨_,rfl⟩
  have him:i<m:=by
   have h1:=Me.lex_lt hch (show yn<v1 by omega);have h2:=Me.lex_lt h1 (show xn<v2 by omega);rw[Nat.mul_assoc,hpr,hi]at h2;exact h2
  have HV:Hid (Me.look A v1 v2 ch yn xn=Me.at_ A i):=by
   show _=_
   rw[Me.look,if_neg (by omega),Int.toNat_natCast,Int.toNat_natCast,hi]
  obtain⟨p1,hp1⟩:∃p,ch*v1=p:=⟨_,rfl⟩;obtain⟨p2,hp2⟩:∃p,p1+yn=p:=⟨_,rfl⟩;obtain⟨p3,hp3⟩:∃p,p2*v2=p:=⟨_,rfl⟩;rw[hp1,hp2,hp3]at hi;have hp2b:p2≤p3:=by rw[← hp3];exact Nat.le_mul_of_pos_right _ (by omega)
  have i1:IntKind.i64.wrap ((ch:Int)*(v1:Int))=((p1:Nat):Int):=by rw[← Int.natCast_mul,hp1];exact IntWalk.i64_in _ (by omega)
  have i2:IntKind.i64.wrap ((p1:Int)+(yn:Int))=((p2:Nat):Int):=by rw[← Int.natCast_add,hp2];exact IntWalk.i64_in _ (by omega)
  have i3:IntKind.i64.wrap ((p2:Int)*(v2:Int))=((p3:Nat):Int):=by rw[← Int.natCast_mul,hp3];exact IntWalk.i64_in _ (by omega)
  have i4:IntKind.i64.wrap ((p3:Int)+(xn:Int))=((i:Nat):Int):=by rw[← Int.natCast_add,hi];exact IntWalk.i64_in _ (by omega)
  obtain⟨bl,ol,rfl,cx⟩:=hA.num (k:=i) him;obtain⟨z,hz⟩:∃z,Me.at_ A i=z:=⟨_,rfl⟩;rw[hz]at cx;have u3:∀ob:Obj,(w.alloc ob).cell? ⟨bl,ol+i,none⟩=some (.int .i32 z):=fun ob=>((Touch.refl No w).alloc ob).cell id cx
  have HZ:Hid (Me.look A v1 v2 ch yn xn=z):=by show _=_;rw[HV.out,hz]
  have hii:(i:Int)<(m:Nat):=by omega
  clear hz hv0 hv1 hv2 hpr hS hlen hA hg hp1 hp2 hp3 hi hch cx x1 x2;go_enter Tryz.func165,Tryz.ntmps165;go_wp2_with fail;rw[← hw1];have z1:=KW.cell (show w1.cell? ⟨ba,oa+1,none⟩=some (.int .i64 ((v1:Nat):Int)) by rw[hw1];exact u1 _);have z2:=KW.cell (show w1.cell? ⟨ba,oa+2,none⟩=some (.int .i64 ((v2:Nat):Int)) by rw[hw1];exact u2 _);have z3:=KW.cell (show w1.cell? ⟨bl,ol+i,none⟩=some (.int .i32 z) by rw[hw1];exact u3 _);have RB:=Row.new w 51 #[.slice (some ⟨ba,oa,none⟩) 3 c,.slice (some ⟨bl,ol,none⟩) m d];rw[← hw1]at RB;have z4:=KW.cell RB.c0;have z5:=KW.cell RB.c1;clear RB hw1 u1 u2 u3;refine wp_region_kept (by kernel_rfl) (by kernel_rfl) ?_;repeat (first|go_big_quiet_step (fail)|quiet_step (fail))
  refine wpQuiet_nil ?_;intro _ hw';obtain⟨kw,hw''⟩:=hw';subst hw'';obtain⟨wk,tk⟩:=kw;have tk:=Lib.hid tk;dsimp only;go_wp2;go_ret;exact⟨by rw[HZ.out];rfl,H1.out.trans tk.out⟩
 ·have HZ:Hid (Me.look A v1 v2 ch y x=0):=by
   show _=_
   rw[Me.look,if_pos (by omega)]
  have hcase:(decide (y<0)=true)∨(decide (y<0)=false∧decide ((v1:Int)≤y)=true)∨(decide (y<0)=false∧decide ((v1:Int)≤y)=false∧decide (x<0)=true)∨(decide (y<0)=false∧decide ((v1:Int)≤y)=false∧decide (x<0)=false∧decide ((v2:Int)≤x)=true):=by
   simp only[decide_eq_true_eq,decide_eq_false_iff_not];omega
  clear hv0 hv1 hv2 hpr hS hlen hA hg hch x1 x2;rcases hcase with g1|⟨g1,g2⟩|⟨g1,g2,g3⟩|⟨g1,g2,g3,g4⟩
  all_goals
   go_enter Tryz.func165,Tryz.ntmps165;go_wp2;go_ret;refine⟨by rw[HZ.out];rfl,?_⟩;rw[hw1]at H1;exact H1.out
theorem picLook_in (w:World)(sa la:Option Addr)(n c m d:Nat)(S:List Nat)(A:List Int)(hA:TIn w sa n c la m d S A)(hn3:n=3)(ch:Nat)(y x:Int)(hch:ch<S.getD 0 0)(hy:-10000≤y∧y≤10000)(hx:-10000≤x∧x≤10000) :
  Calls Tryz.prog 201 #[.agg #[.slice la m d,.int .i64 ((S.getD 1 0:Nat):Int),.int .i64 ((S.getD 2 0:Nat):Int)],.int .i64 ((ch:Nat):Int),.int .i64 y,.int .i64 x] w fun e w'=>e = .returned (.int .i32 (Me.look A (S.getD 1 0) (S.getD 2 0) ch y x))∧Touch No w w':=by
 subst hn3;have hS:=hA.sn;obtain⟨ba,oa,rfl,x1⟩:=hA.dir (k:=1) (by omega);obtain⟨_,_,he,x2⟩:=hA.dir (k:=2) (by omega);injection he with he;injection he with e1 e2;subst e1 e2
 have b0:=hA.ok.get (k:=0) (by omega);have b1:=hA.ok.get (k:=1) (by omega);have b2:=hA.ok.get (k:=2) (by omega);have hlen:=hA.len;have hm4:=hA.m4;obtain⟨v0,hv0⟩:∃v,S.getD 0 0=v:=⟨_,rfl⟩;obtain⟨v1,hv1⟩:∃v,S.getD 1 0=v:=⟨_,rfl⟩;obtain⟨v2,hv2⟩:∃v,S.getD 2 0=v:=⟨_,rfl⟩
 have hpr:v0*(v1*v2)=m:=by
  rw[← hlen]
  match S,hS with
  | [a,b,c],_=>simp at hv0 hv1 hv2;subst hv0 hv1 hv2;simp[Me.pr]
 rw[hv0]at hch b0;rw[hv1]at x1 b1;rw[hv2]at x2 b2;rw[hv1,hv2];obtain⟨w1,hw1⟩:∃w1,w1=w.alloc (.cells #[.slice la m d,.int .i64 ((v1:Nat):Int),.int .i64 ((v2:Nat):Int)] 251):=⟨_,rfl⟩;have H1:Hid (Touch No w w1):=by rw[hw1];exact(Touch.refl No w).alloc _
 have u1:∀ob:Obj,(w.alloc ob).cell? ⟨ba,oa+1,none⟩=some (.int .i64 ((v1:Nat):Int)):=fun ob=>((Touch.refl No w).alloc ob).cell id x1
 have u2:∀ob:Obj,(w.alloc ob).cell? ⟨ba,oa+2,none⟩=some (.int .i64 ((v2:Nat):Int)):=fun ob=>((Touch.refl No w).alloc ob).cell id x2
 by_cases hg:0≤y∧y<v1∧0≤x∧x<v2
 ·obtain⟨yn,rfl⟩:∃t:Nat,y=t:=⟨y.toNat,by omega⟩
  obtain⟨xn,rfl⟩:∃t:Nat,x=t:=⟨x.toNat,by omega⟩;have g1:decide ((yn:Int)<0)=false:=by simp
  have g2:decide ((v1:Int)≤(yn:Nat))=false:=by simp;omega
  have g2':decide (v1≤yn)=false:=by simp;omega
  have g3:decide ((xn:Int)<0)=false:=by simp
  have g4:decide ((v2:Int)≤(xn:Nat))=false:=by simp;omega
  have g4':decide (v2≤xn)=false:=by simp;omega
  obtain⟨i,hi⟩:∃i,(ch*v1+yn)*v2+xn=i:=⟨_,rfl⟩
  have him:i<m:=by
   have h1:=Me.lex_lt hch (show yn<v1 by omega);have h2:=Me.lex_lt h1 (show xn<v2 by omega);rw[Nat.mul_assoc,hpr,hi]at h2;exact h2
  have HV:Hid (Me.look A v1 v2 ch yn xn=Me.at_ A i):=by
   show _=_
   rw[Me.look,if_neg (by omega),Int.toNat_natCast,Int.toNat_natCast,hi]
  obtain⟨p1,hp1⟩:∃p,ch*v1=p:=⟨_,rfl⟩;obtain⟨p2,hp2⟩:∃p,p1+yn=p:=⟨_,rfl⟩;obtain⟨p3,hp3⟩:∃p,p2*v2=p:=⟨_,rfl⟩;rw[hp1,hp2,hp3]at hi;have hp2b:p2≤p3:=by rw[← hp3];exact Nat.le_mul_of_pos_right _ (by omega)
  have i1:IntKind.i64.wrap ((ch:Int)*(v1:Int))=((p1:Nat):Int):=by rw[← Int.natCast_mul,hp1];exact IntWalk.i64_in _ (by omega)
  have i2:IntKind.i64.wrap ((p1:Int)+(yn:Int))=((p2:Nat):Int):=by rw[← Int.natCast_add,hp2];exact IntWalk.i64_in _ (by omega)
  have i3:IntKind.i64.wrap ((p2:Int)*(v2:Int))=((p3:Nat):Int):=by rw[← Int.natCast_mul,hp3];exact IntWalk.i64_in _ (by omega)
  have i4:IntKind.i64.wrap ((p3:Int)+(xn:Int))=((i:Nat):Int):=by rw[← Int.natCast_add,hi];exact IntWalk.i64_in _ (by omega)
  obtain⟨bl,ol,rfl,cx⟩:=hA.num (k:=i) him;obtain⟨z,hz⟩:∃z,Me.at_ A i=z:=⟨_,rfl⟩;rw[hz]at cx;have u3:∀ob:Obj,(w.alloc ob).cell? ⟨bl,ol+i,none⟩=some (.int .i32 z):=fun ob=>((Touch.refl No w).alloc ob).cell id cx
  have HZ:Hid (Me.look A v1 v2 ch yn xn=z):=by show _=_;rw[HV.out,hz]
  have hii:(i:Int)<(m:Nat):=by omega
  clear hz hv0 hv1 hv2 hpr hS hlen hA hg hp1 hp2 hp3 hi hch cx x1 x2;go_enter Tryz.func201,Tryz.ntmps201;go_wp2;go_ret;refine⟨by rw[HZ.out];rfl,?_⟩;rw[hw1]at H1;exact H1.out
 ·have HZ:Hid (Me.look A v1 v2 ch y x=0):=by
   show _=_
   rw[Me.look,if_pos (by omega)]
  have hcase:(decide (y<0)=true)∨(decide (y<0)=false∧decide ((v1:Int)≤y)=true)∨(decide (y<0)=false∧decide ((v1:Int)≤y)=false∧decide (x<0)=true)∨(decide (y<0)=false∧decide ((v1:Int)≤y)=false∧decide (x<0)=false∧decide ((v2:Int)≤x)=true):=by
   simp only[decide_eq_true_eq,decide_eq_false_iff_not];omega
  clear hv0 hv1 hv2 hpr hS hlen hA hg hch x1 x2;rcases hcase with g1|⟨g1,g2⟩|⟨g1,g2,g3⟩|⟨g1,g2,g3,g4⟩
  all_goals
   go_enter Tryz.func201,Tryz.ntmps201;go_wp2;go_ret;refine⟨by rw[HZ.out];rfl,?_⟩;rw[hw1]at H1;exact H1.out
theorem picOf_in (w:World)(sa la:Option Addr)(n c m d:Nat)(S:List Nat)(A:List Int)(hA:TIn w sa n c la m d S A)(hn3:n=3) :
  Calls Tryz.prog 200 #[.agg #[.slice sa n c,.slice la m d]] w fun e w'=>e = .returned (.agg #[.slice la m d,.int .i64 ((S.getD 1 0:Nat):Int),.int .i64 ((S.getD 2 0:Nat):Int)])∧Touch No w w':=by
 subst hn3;obtain⟨ba,oa,rfl,x1⟩:=hA.dir (k:=1) (by omega);obtain⟨_,_,he,x2⟩:=hA.dir (k:=2) (by omega);injection he with he;injection he with e1 e2;subst e1 e2
 obtain⟨v1,hv1⟩:∃v,S.getD 1 0=v:=⟨_,rfl⟩;obtain⟨v2,hv2⟩:∃v,S.getD 2 0=v:=⟨_,rfl⟩;rw[hv1]at x1;rw[hv2]at x2;rw[hv1,hv2];have X:=Lib.hid (aI x1 x2);clear hA hv1 hv2 x1 x2;go_enter Tryz.func200,Tryz.ntmps200;go_wp2_with fail;obtain⟨w1,hw1,t1,b2,b3,hsz⟩:=rows_TT w #[.slice (some ⟨ba,oa,none⟩) 3 c,.slice la m d] #[.slice none 0 0,.int .i64 0,.int .i64 0] 51 251;rw[← hw1];have H1:=Lib.hid (aI t1 b3);have z1:=KW.cell (t1.cell id X.out.1);have z2:=KW.cell (t1.cell id X.out.2);have z3:=KW.cell b2.c0;have z4:=KW.cell b2.c1;clear hw1 t1 b2 b3 hsz;refine wp_region_kept_tail 11 (by kernel_rfl) (by kernel_rfl) ?_;simp only[List.take_succ_cons,List.take_zero,List.drop_succ_cons,List.drop_zero];repeat (first|go_big_quiet_step (fail)|quiet_step (fail))
 refine wpQuiet_nil ?_;intro _ hw';obtain⟨kw,hw''⟩:=hw';subst hw'';obtain⟨wk,tk⟩:=kw;have tk:=Lib.hid tk;dsimp only;clear z1 z2 z3 z4;have kx:=H1.out.2.touch tk.out id;have hT:=Lib.hid (H1.out.1.trans tk.out);go_wp2_with (refine wpList_store_mid rfl 251 _ _ rfl (w.heap.size+1) 0 251 [.slice none 0 0,.int .i64 0,.int .i64 0] kx rfl [.slice la m d,.int .i64 ((v1:Nat):Int),.int .i64 ((v2:Nat):Int)] rfl (by kernel_rfl) (by simp) (by intro v hv;simp at hv;rcases hv with rfl|rfl|rfl <;> rfl) ?_);obtain⟨w9,hw9⟩:∃w9,w9=wk.setRow (w.heap.size+1) (splice [.slice none 0 0,.int .i64 0,.int .i64 0] 0 [.slice la m d,.int .i64 ((v1:Nat):Int),.int .i64 ((v2:Nat):Int)]).toArray:=⟨_,rfl⟩;have R9:Row w9 (w.heap.size+1) 251 [.slice la m d,.int .i64 ((v1:Nat):Int),.int .i64 ((v2:Nat):Int)]:=by rw[hw9];exact kx.setRow _
 have T9:Hid (Touch No w w9):=hT.out.oneNo (show Touch (One (w.heap.size+1)) wk w9 by rw[hw9];exact Touch.setOne _ _ _) (by omega);have y0:w9.cell? ⟨w.heap.size+1,0,none⟩=some (.slice la m d):=R9.cell 0;have y1:w9.cell? ⟨w.heap.size+1,1,none⟩=some (.int .i64 ((v1:Nat):Int)):=R9.cell 1;have y2:w9.cell? ⟨w.heap.size+1,2,none⟩=some (.int .i64 ((v2:Nat):Int)):=R9.cell 2;rw[← hw9];clear hw9 kx R9;go_wp2;refine bodyPost_ret (v:=.agg #[.slice la m d,.int .i64 ((v1:Nat):Int),.int .i64 ((v2:Nat):Int)]) (by simp[results,Tryz.results200,go_sem,y0,y1,y2]) rfl ?_;exact⟨rfl,T9.out⟩
end
end Go.Proofs.YtjlphmmalebgpaaGreat
