/-
  A part of the proof.
-/
import Derived.Test.YtjlphmmalebgpaaGreatK10
set_option linter.unusedSimpArgs false
set_option linter.unusedVariables false
set_option maxHeartbeats 2000000
set_option maxRecDepth 100000
namespace Go.Proofs.YtjlphmmalebgpaaGreat
section
open Go Go.RowKit
def Me.Order (xs:List Int):Prop:=(∀i:Nat,i<xs.length→((i:Nat):Int)∈xs)∧xs.length≤4
open Classical in
theorem order_in (w:World)(a:Option Addr)(n c:Nat)(xs:List Int)(hl:xs.length=n)(hn:(n:Int)≤1000000000)(hr:Rd w a (ints .i64 xs)) :
  Calls Tryz.prog 182 #[.slice a n c] w fun e w'=>e = .returned (.bool (decide (Me.Order xs)))∧w=w':=by
 have Hr:=Lib.hid hr;have Hl:=Lib.hid hl;clear hr hl;go_enter Tryz.func182,Tryz.ntmps182;go_wp2
 go_loopg [6] n (fun gh s6 wr=>∃k:Nat,k+gh=n∧s6 = .int .i64 ((k:Nat):Int)∧Hid (∀i:Nat,i<k→((i:Nat):Int)∈xs)∧Hid (wr=w))
 case atStart=>exact⟨0,by omega,rfl,(fun i hi=>absurd hi (Nat.not_lt_zero _)),rfl⟩
 case round =>
  obtain⟨k,hkg,rfl,HA,hwr⟩:=hrel;have hww:w=wr:=hwr.out.symm;clear hwr;subst hww;cases gk with
  | zero =>
    obtain rfl:n=k:=by omega
    have HR:Hid (decide (Me.Order xs)=decide (n≤4)):=by
     show _=_
     by_cases h4:n≤4
     ·have hO:Me.Order xs:=⟨fun i hi=>HA.out i (by rw[Hl.out]at hi;exact hi),by rw[Hl.out];exact h4⟩
      rw[decide_eq_true h4,decide_eq_true hO]
     ·rw[decide_eq_false h4,decide_eq_false (fun h:Me.Order xs=>h4 (by have:=h.2;rw[Hl.out]at this;exact this))]
    go_wp2;go_ret;refine⟨?_,rfl⟩;rw[HR.out];first|rfl|(simp;omega)
  | succ g' =>
    have hki:(k:Int)<(n:Nat):=by omega
    have C:=Lib.hid (containsI_any w a n c xs ((k:Nat):Int) Hl.out (by omega) Hr.out);go_wp2_with fail;refine C.out.mono ?_;rintro e w' ⟨rfl,rfl⟩
    by_cases hm:((k:Nat):Int)∈xs
    ·rw[decide_eq_true hm]
     have HA2:Hid (∀i:Nat,i<k+1→((i:Nat):Int)∈xs):=fun i hi=>by
      rcases Nat.lt_or_ge i k with h|h
      ·exact HA.out i h
      ·obtain rfl:k=i:=by omega
       exact hm
     clear hm HA C;go_wp2
     go_roundg g'
     case measure=>omega
     case rel=>exact⟨k+1,by omega,by go_num,HA2,rfl⟩
    ·rw[decide_eq_false hm]
     have HR:Hid (decide (Me.Order xs)=false):=decide_eq_false (fun h:Me.Order xs=>hm (h.1 k (by rw[Hl.out];omega)));clear hm HA C;go_wp2;go_ret;exact⟨by rw[HR.out];rfl,rfl⟩
end
section
open Go Go.RowKit
theorem fill_n_next {l:List Nat}{k:Nat}(hk:k<l.length):(fill (nums .i64 l) (.int .i64 0) k).set k (.int .i64 ((l.getD k 0:Nat):Int))=fill (nums .i64 l) (.int .i64 0) (k+1):=fill_next (nums_get hk)
theorem nodup_not_take {O:List Nat}(nd:O.Nodup){k:Nat}(hk:k<O.length):((O.getD k 0:Nat):Int)∉Me.zs (O.take k):=by
 intro h;obtain⟨x,hx,e⟩:=List.mem_map.1 h;obtain⟨j,hj,ej⟩:=List.mem_iff_getElem.1 hx;have hj':j<k∧j<O.length:=by rw[List.length_take]at hj;omega
 rw[List.getElem_take]at ej
 have e2:O[j]=O[k]:=by
  rw[ej];have:x=O.getD k 0:=by exact_mod_cast e
  rw[this,Lgd,Lge hk];rfl
 have:=(List.nodup_iff_pairwise_ne.1 nd);rw[List.pairwise_iff_getElem]at this;exact this j k hj'.2 hk hj'.1 e2
theorem rows_TIT (w:World)(A B C:Array Value)(T1 T2 T3:TypeId):∃w1,w1=((w.alloc (.cells A T1)).alloc (.cells B T2)).alloc (.cells C T3)∧Touch No w w1∧Row w1 w.heap.size T1 A.toList∧Row w1 (w.heap.size+1) T2 B.toList∧Row w1 (w.heap.size+1+1) T3 C.toList∧w1.heap.size=w.heap.size+3:=by
 refine⟨_,rfl,(((Touch.refl No w).alloc _).alloc _).alloc _,((Row.new w _ _).touch ((Touch.refl No _).alloc _) id).touch ((Touch.refl No _).alloc _) id,?_,?_,by simp⟩
 ·have:=Row.new (w.alloc (.cells A T1)) T2 B
  rw[size_alloc]at this;exact this.touch ((Touch.refl No _).alloc _) id
 ·have:=Row.new ((w.alloc (.cells A T1)).alloc (.cells B T2)) T3 C
  rw[size_alloc,size_alloc]at this;exact this
theorem movesTurn_in (w:World)(sa la oa:Option Addr)(n c m d oc:Nat)(S O:List Nat)(A:List Int)(hA:TIn w sa n c la m d S A)(hO:Me.Ord O n)(hoc:n≤oc)(hor:Rd w oa (nums .i64 O)) :
  Calls Tryz.prog 152 #[.agg #[.slice sa n c,.slice la m d],.slice oa n oc] w (TOut w (Me.turnS S O) (Me.turnL S O A)):=by
 obtain⟨I,hi0,hi1,hi2,hi3⟩:=info_I
 have hhead:∀(k:Nat),k≤n→∀wx:World,(Instr.slice 48 (.slice oa n oc) none (some (.int .i64 ((k:Nat):Int))) none).run Tryz.prog wx = .ok (.slice oa k oc) wx:=fun k hk wx =>
  run_head (P:=Tryz.prog) Tryz.underlying48 hi0 hi2 oa n oc k .i64 (by omega) wx
 have hn4:=hA.n4;have hm4:=hA.m4;have hOS:Me.Ord O S.length:=by rw[hA.sn];exact hO
 have hT:=Me.ok_turnS hA.ok hOS;have hTl:(Me.turnS S O).length=n:=by rw[Me.turnS_length,hO.len]
 have hTp:Me.pr (Me.turnS S O)=m:=by rw[Me.pr_turnS hA.ok.four hOS,hA.len]
 have hmk:=hmkI n (by omega);have hf:∀(args:Array Value) (wx:World),(callFunc 205 args).run Tryz.prog wx = .ok (.enter 205 args) wx:=fun args wx=>by simp[callFunc,Tryz.func205,Tryz.f205]
 have Hf:=Lib.hid hf;have hmf:∀(fn:Fn) (first cap:Array Value) (w:World),(Instr.makeFunc fn first cap).run Tryz.prog w = .ok (.func fn first cap) w:=fun _ _ _ _=>rfl
 have HA:=Lib.hid hA;have HO:=Lib.hid hO;have HOS:=Lib.hid hOS;have HOr:=Lib.hid hor;have HH:=Lib.hid hhead;have HT:=Lib.hid (aI hT (aI hTl hTp));have hnn:((n:Int) != (n:Int))=false:=by simp
 have hOUT:Hid ((List.range m).map (fun i=>Me.at_ A (Me.turnI S O (Me.unrank (Me.turnS S O) i) n))=Me.turnL S O A):=by
  show _=_
  rw[Me.turnL,hTp,hO.len]
 clear hA hO hor hhead hi0 hi1 hi2 hi3 hOS hT hTl hTp hf;go_enter Tryz.func152,Tryz.ntmps152;go_wp2_with fail;obtain⟨w1,hw1,t1,b2,b3,b4,hsz⟩:=rows_TIT w #[.slice sa n c,.slice la m d] #[.slice oa n oc] #[.slice none 0 0,.slice none 0 0] 51 48 51;rw[← hw1];have H1:=Lib.hid (aI t1 (aI b2 (aI b3 b4)));clear hw1 t1 b2 b3 b4;refine(tenCheck_ok (HA.out.no H1.out.1)).mono ?_;rintro e w2 ⟨rfl,t2⟩;have H2:=Lib.hid (aI (H1.out.1.trans t2) (aI (H1.out.2.1.touch t2 id) (aI (H1.out.2.2.1.touch t2 id) (H1.out.2.2.2.touch t2 id))));have hsz2:w.heap.size+3≤w2.heap.size:=by have:=t2.size;omega
 clear t2 H1 hsz;have k3:=H2.out.2.2.1.cell 0;have k0:=H2.out.2.1.c0;have k3':∀ob:Obj,(w2.alloc ob).cell? ⟨w.heap.size+1,0,none⟩=some (.slice oa n oc):=fun ob=>(H2.out.2.2.1.touch ((Touch.refl No w2).alloc ob) id).cell 0
 go_wp2_with fail;clear k3 k0 k3';obtain⟨h,hh⟩:∃h,h=w2.heap.size:=⟨_,rfl⟩;obtain⟨w5,hw5⟩:∃w5,w5=w2.alloc (.cells (Array.replicate n (Value.int .i64 0)) 3):=⟨_,rfl⟩;have hhX:w.heap.size+3≤h:=by rw[hh];exact hsz2
 have H5:Hid (Touch No w w5∧Row w5 w.heap.size 51 [.slice sa n c,.slice la m d]∧Row w5 (w.heap.size+1) 48 [.slice oa n oc]∧Row w5 (w.heap.size+1+1) 51 [.slice none 0 0,.slice none 0 0]∧Row w5 h 3 (fill (nums .i64 (Me.turnS S O)) (.int .i64 0) 0)):=by
  have t:Touch No w2 w5:=by rw[hw5];exact(Touch.refl No w2).alloc _
  refine⟨H2.out.1.trans t,H2.out.2.1.touch t id,H2.out.2.2.1.touch t id,H2.out.2.2.2.touch t id,?_⟩;have:=Row.new w2 3 (Array.replicate n (Value.int .i64 0));rw[fill_zero,nums_length,HT.out.2.1,hw5,hh]
  simpa using this
 rw[← hw5,← hh];clear hw5 hh H2 hsz2
 go_loopg [26] n (fun gh s26 wr=>∃k:Nat,k+gh=n∧s26 = .int .i64 ((k:Nat):Int)∧Hid (Touch (One h) w5 wr)∧Hid (Row wr h 3 (fill (nums .i64 (Me.turnS S O)) (.int .i64 0) k)))
 case atStart=>exact⟨0,by omega,rfl,Touch.refl _ _,H5.out.2.2.2.2⟩
 case round =>
  obtain⟨k,hkg,rfl,T,R⟩:=hrel;cases gk with
  | succ g' =>
    have hki:(k:Int)<(n:Nat):=by omega
    have hwr:Touch No w wr:=H5.out.1.oneNo T.out (by omega);obtain⟨b,o,rfl,cx⟩:=(HOr.out.no hwr).num (i:=k) (by rw[HO.out.len];omega);obtain⟨x,hx⟩:∃x,O.getD k 0=x:=⟨_,rfl⟩;have hxn:=HO.out.lt k (by omega);rw[hx]at cx hxn;have k3:=(H5.out.2.2.1.keep T.out (by omega)).cell 0;have k0:=(H5.out.2.1.keep T.out (by omega)).c0;have hs:=HH.out k (by omega);obtain⟨b2,o2,rfl,cs⟩:=(HA.out.no hwr).dir (k:=x) hxn;obtain⟨y,hy⟩:∃y,S.getD x 0=y:=⟨_,rfl⟩;rw[hy]at cs
    have C:Hid (Calls Tryz.prog 203 #[.slice (some ⟨b,o,none⟩) k oc,.int .i64 ((x:Nat):Int)] wr fun e w'=>e = .returned (.bool false)∧wr=w'):=by
     have:=containsI_any wr (some ⟨b,o,none⟩) k oc (Me.zs (O.take k)) ((x:Nat):Int) (by rw[Me.zs_length,List.length_take,HO.out.len];omega) (by omega) (by
      rw[Me.ints_zs];have:=(HOr.out.no hwr).take k
      simpa[nums,List.map_take]using this)
     rw[decide_eq_false (by rw[← hx];exact nodup_not_take HO.out.nd (by rw[HO.out.len];omega))]at this;exact this
    have f1:decide (((x:Nat):Int)<0)=false:=by simp
    have f2:decide (((n:Nat):Int)≤((x:Nat):Int))=false:=by simpa using hxn
    have cg:wr.cell? ⟨h,k,none⟩=some (.int .i64 0):=by rw[R.out.cell];exact fill_get (by rw[nums_length,HT.out.2.1];omega)
    have cz:=R.out.soft k;have hty:(Me.turnS S O).getD k 0=y:=by rw[Me.turnS_get S O (by rw[HO.out.len];omega),hx,hy]
    have HN:Hid (Touch (One h) w5 (wr.setCell ⟨h,k,none⟩ (.int .i64 ((y:Nat):Int)))∧Row (wr.setCell ⟨h,k,none⟩ (.int .i64 ((y:Nat):Int))) h 3 (fill (nums .i64 (Me.turnS S O)) (.int .i64 0) (k+1))):=by
     refine⟨T.out.setCell (p:=⟨h,k,none⟩) (fun _=>rfl) _,?_⟩;have:=R.out.setCell k (.int .i64 ((y:Nat):Int));rw[← hty,fill_n_next (by rw[HT.out.2.1];omega),hty]at this;exact this
    have hxi:(x:Int)<(n:Nat):=by omega
    clear hx hy hty hwr T R;go_wp2_with fail;refine C.out.mono ?_;rintro e w' ⟨rfl,rfl⟩;clear hs C;go_wp2
    go_roundg g'
    case measure=>omega
    case rel=>exact⟨k+1,by omega,by go_num,HN.out.1,HN.out.2⟩
  | zero =>
    obtain rfl:k=n:=by omega
    have hwr:Touch No w wr:=H5.out.1.oneNo T.out (by omega)
    have RT:Row wr h 3 (nums .i64 (Me.turnS S O)):=by
     have:=R.out;rw[fill_all _ _ (by rw[nums_length];exact HT.out.2.1)]at this;exact this
    have H7:=Lib.hid (aI hwr (aI (H5.out.2.1.keep T.out (by omega)) (aI (H5.out.2.2.1.keep T.out (by omega)) (aI (H5.out.2.2.2.1.keep T.out (by omega)) RT))));have hszr:w.heap.size+3≤wr.heap.size:=by have:=RT.lt;omega
    clear hwr RT T R H5;go_wp2_with fail
    have C:=filled_in wr 205 Hf.out (.pointer (some ⟨w.heap.size+1,0,none⟩)) (.pointer (some ⟨w.heap.size,0,none⟩)) (some ⟨h,0,none⟩) k k m (Me.turnS S O) (fun i=>Me.at_ A (Me.turnI S O (Me.unrank (Me.turnS S O) i) k)) HT.out.1 HT.out.2.1 HT.out.2.2 (rd_row H7.out.2.2.2.2)
     (fun i W g hi t hR=>by
      have tw:=H7.out.1.trans t;exact turn1_in W g (w.heap.size+1) w.heap.size oa sa la k oc c m d S O (Me.unrank (Me.turnS S O) i) A (HA.out.no tw) HO.out (HOr.out.no tw) (Me.unrank_box HT.out.1.each i) ((H7.out.2.2.1.touch t id).cell 0) (H7.out.2.1.touch t id).c0 (H7.out.2.1.touch t id).c1 hR)
     (fun i hi=>by
      refine HA.out.rng _ ?_;have:=Me.turnI_lt HA.out.ok.four HOS.out (Me.unrank_box HT.out.1.each i);rw[HA.out.sn,HA.out.len]at this;rw[Me.at_lt (by rw[HA.out.lm];exact this)];exact List.getElem_mem _)
    rw[hOUT.out]at C;refine C.mono ?_;clear C;rintro e w8 ⟨sc,n3,d3,lc,m3,e3,rfl,hin,t2,hs,hl⟩;have H8:=Lib.hid (aI hin (aI t2 (aI hs hl)));have kx:=H7.out.2.2.2.1.touch t2 id;clear hin t2 hs hl;go_wp2_with (refine wpList_store_mid rfl 51 _ _ rfl (w.heap.size+1+1) 0 51 [.slice none 0 0,.slice none 0 0] kx rfl [.slice sc n3 d3,.slice lc m3 e3] rfl (by kernel_rfl) (by simp) (by intro v hv;simp at hv;rcases hv with rfl|rfl <;> rfl) ?_);obtain⟨w9,hw9⟩:∃w9,w9=w8.setRow (w.heap.size+1+1) (splice [.slice none 0 0,.slice none 0 0] 0 [.slice sc n3 d3,.slice lc m3 e3]).toArray:=⟨_,rfl⟩;have R9:Row w9 (w.heap.size+1+1) 51 [.slice sc n3 d3,.slice lc m3 e3]:=by rw[hw9];exact kx.setRow _
    have HN:=Lib.hid (H8.out.1.boxed H7.out.1 H8.out.2.1 (X:=w.heap.size+1+1) (by omega) (by omega) (show Touch (One (w.heap.size+1+1)) w8 w9 by rw[hw9];exact Touch.setOne _ _ _) H8.out.2.2.1 H8.out.2.2.2);have y0:=R9.c0;have y1:=R9.c1;rw[← hw9];clear hw9 kx R9;go_wp2;refine bodyPost_ret (v:=.tuple #[.agg #[.slice sc n3 d3,.slice lc m3 e3],.int .i64 0]) (by simp[results,Tryz.results152,go_sem,y0,y1]) rfl ?_;exact⟨sc,n3,d3,lc,m3,e3,rfl,HN.out.1,HN.out.2⟩
end
section
open Go Go.RowKit
namespace Me
theorem pr_without {S:List Nat}{al:Nat}(h:al<S.length):pr (without S al)=pr (S.take al)*pr (S.drop (al+1)):=by
 unfold without
 by_cases h1:S.length≤1
 ·rw[if_pos h1]
  have:al=0:=by omega
  subst this;rw[List.take_zero,List.drop_eq_nil_of_le (by omega)];rfl
 ·rw[if_neg h1,pr_append]
theorem pr_split {S:List Nat}{al:Nat}(h:al<S.length):pr S=pr (S.take al)*(S.getD al 0*pr (S.drop (al+1))):=by
 conv=>lhs;rw[← List.take_append_drop al S]
 rw[pr_append,List.drop_eq_getElem_cons h,pr,Lgd,Lge h];rfl
theorem ok_without {S:List Nat}(ok:Ok S){al:Nat}(h:al<S.length):Ok (without S al):=by
 have hp:=pr_without h;have hs:=pr_split h;have h1:=(ok.get h).1
 have hle:pr (without S al)≤4096:=by
  rw[hp];have:pr (S.take al)*pr (S.drop (al+1))≤pr (S.take al)*(S.getD al 0*pr (S.drop (al+1))):=Nat.mul_le_mul_left _ (Nat.le_mul_of_pos_left _ h1);have:=ok.most;omega
 unfold without at hle ⊢
 by_cases h2:S.length≤1
 ·rw[if_pos h2]
  exact {one:=by simp,four:=by simp,each:=fun x hx=>by simp at hx;omega,most:=by simp[pr]}
 ·rw[if_neg h2]at hle ⊢
  have:=ok.four
  exact {one:=by simp;omega,four:=by simp;omega,each:=fun x hx=>by
          rcases List.mem_append.1 hx with h|h
          ·exact ok.each x (List.mem_of_mem_take h)
          ·exact ok.each x (List.mem_of_mem_drop h),most:=hle}
theorem rank_append:∀(P R a b:List Nat),a.length=P.length→rank (P++R) (a++b)=rank P a*pr R+rank R b
 | [],R,[],b,_=>by simp[rank]
 | x::P,R,y::a,b,h=>by
   rw[List.cons_append,List.cons_append,rank,rank,rank_append P R a b (by simpa using h),pr_append,Nat.add_mul,Nat.mul_assoc,Nat.add_assoc]
structure Cut (ap o i A j b:Nat):Prop where
 eq:i=(A*o+j)*ap+b
 j:j<o
 b:b<ap
theorem cut_of {ap o:Nat}(hap:1≤ap)(ho:1≤o)(i:Nat):Cut ap o i (i / ap / o) (i / ap%o) (i%ap) :=
 ⟨by
  have h1:=Nat.div_add_mod i ap;have h2:=Nat.div_add_mod (i / ap) o;have h3:i / ap / o*o+i / ap%o=i / ap:=by rw[Nat.mul_comm];exact h2
  rw[h3,Nat.mul_comm];exact h1.symm,Nat.mod_lt _ ho,Nat.mod_lt _ hap⟩
theorem Cut.divs {ap o i A j b:Nat}(h:Cut ap o i A j b):i / ap=A*o+j∧i%ap=b∧i / ap / o=A∧i / ap%o=j:=by
 have h1:i / ap=A*o+j:=by
  rw[h.eq,Nat.mul_comm,Nat.mul_add_div (by have:=h.b;omega),Nat.div_eq_of_lt h.b,Nat.add_zero]
 have h2:i%ap=b:=by rw[h.eq,Nat.mul_comm,Nat.mul_add_mod,Nat.mod_eq_of_lt h.b]
 refine⟨h1,h2,?_,?_⟩
 ·rw[h1,Nat.mul_comm,Nat.mul_add_div (by have:=h.j;omega),Nat.div_eq_of_lt h.j,Nat.add_zero]
 ·rw[h1,Nat.mul_comm,Nat.mul_add_mod,Nat.mod_eq_of_lt h.j]
theorem two_inj {ap A A' b b':Nat}(hb:b<ap)(hb':b'<ap)(h:A*ap+b=A'*ap+b'):A=A'∧b=b':=by
 have h1:(A*ap+b) / ap=A:=by rw[Nat.mul_comm,Nat.mul_add_div (by omega),Nat.div_eq_of_lt hb,Nat.add_zero]
 have h2:(A'*ap+b') / ap=A':=by rw[Nat.mul_comm,Nat.mul_add_div (by omega),Nat.div_eq_of_lt hb',Nat.add_zero]
 have h3:(A*ap+b)%ap=b:=by rw[Nat.mul_comm,Nat.mul_add_mod,Nat.mod_eq_of_lt hb]
 have h4:(A'*ap+b')%ap=b':=by rw[Nat.mul_comm,Nat.mul_add_mod,Nat.mod_eq_of_lt hb']
 exact⟨by rw[← h1,h,h2],by rw[← h3,h,h4]⟩
theorem lex_lt {a b c d:Nat}(h:a<b)(k:c<d):a*d+c<b*d:=by
 have:(a+1)*d≤b*d:=Nat.mul_le_mul_right _ h;rw[Nat.add_mul,Nat.one_mul]at this;omega
theorem cut_lt {pa ap o A j b:Nat}(hA:A<pa)(hj:j<o)(hb:b<ap):(A*o+j)*ap+b<pa*(o*ap):=by
 have h1:=lex_lt hA hj;have h2:=lex_lt h1 hb;rw[← Nat.mul_assoc];exact h2
theorem cut_A_lt {pa ap o i A j b:Nat}(h:Cut ap o i A j b)(hi:i<pa*(o*ap)):A<pa:=by
 rcases Nat.lt_or_ge A pa with h1|h1
 ·exact h1
 ·have h2:pa*(o*ap)≤A*(o*ap):=Nat.mul_le_mul_right _ h1
  have h3:=h.eq;rw[Nat.add_mul,Nat.mul_assoc]at h3;omega
theorem sum_adds {pa o ap:Nat}(hap:1≤ap)(ho:1≤o)(L:List Int)(k:Nat)(hk:k<pa*ap) :
  at_ (adds (fun i=>i / ap / o*ap+i%ap) (fun i=>at_ L i) (List.replicate (pa*ap) 0) (pa*(o*ap))) k=go (fun s j=>w32 (s+at_ L (k / ap*ap*o+k%ap+j*ap))) 0 o:=by
 have hc:=fun i=>cut_of hap ho i
 have src:∀k j,k / ap*ap*o+k%ap+j*ap=(k / ap*o+j)*ap+k%ap:=fun k j=>by
  rw[Nat.add_mul,Nat.mul_assoc,Nat.mul_assoc,Nat.mul_comm ap o];omega
 have cs:∀k j,j<o→Cut ap o (k / ap*ap*o+k%ap+j*ap) (k / ap) j (k%ap):=fun k j hj=>⟨src k j,hj,Nat.mod_lt _ hap⟩
 have hd1:∀A b,b<ap→(A*ap+b) / ap=A∧(A*ap+b)%ap=b:=fun A b hb=>⟨by rw[Nat.mul_comm,Nat.mul_add_div (by omega),Nat.div_eq_of_lt hb,Nat.add_zero],by rw[Nat.mul_comm,Nat.mul_add_mod,Nat.mod_eq_of_lt hb]⟩
 refine adds_get (fun i=>i / ap / o*ap+i%ap) (fun i=>at_ L i) (pa*ap) (pa*(o*ap)) (fun k j=>k / ap*ap*o+k%ap+j*ap) (fun i=>i / ap%o) (fun i hi=>?_) (fun i hi=>?_) (fun i j hi hj he=>?_) (fun i j hi hj=>?_) (pa*(o*ap)) (Nat.le_refl _) k hk o (fun i hi he=>(hc i).j) (fun j hj=>?_)
 ·exact lex_lt (cut_A_lt (hc i) hi) (hc i).b
 ·have h1:=hd1 (i / ap / o) (i%ap) (hc i).b
  show(i / ap / o*ap+i%ap) / ap*ap*o+(i / ap / o*ap+i%ap)%ap+i / ap%o*ap=i
  rw[h1.1,h1.2,Nat.mul_assoc,Nat.mul_comm ap o,← Nat.mul_assoc];have h2:=(hc i).eq;rw[Nat.add_mul]at h2;omega
 ·have h1:=two_inj (hc i).b (hc j).b he
  have h2:=(hc i).eq;have h3:=(hc j).eq;rw[← h1.1,← h1.2]at h3;constructor
  ·intro h
   have h4:(i / ap / o*o+i / ap%o)*ap<(i / ap / o*o+j / ap%o)*ap:=Nat.mul_lt_mul_of_pos_right (by omega) hap;omega
  ·intro h
   rcases Nat.lt_or_ge (i / ap%o) (j / ap%o) with h5|h5
   ·exact h5
   ·have h4:(i / ap / o*o+j / ap%o)*ap≤(i / ap / o*o+i / ap%o)*ap:=Nat.mul_le_mul_right _ (by omega)
    omega
 ·have hjo:j<o:=by have:=(hc i).j;show j<o;have h:j<i / ap%o:=hj;omega
  have h1:=hd1 (i / ap / o) (i%ap) (hc i).b
  have c2:Cut ap o ((i / ap / o*ap+i%ap) / ap*ap*o+(i / ap / o*ap+i%ap)%ap+j*ap) (i / ap / o) j (i%ap):=by
   rw[h1.1,h1.2];exact⟨by have:=src (i / ap / o*ap+i%ap) j;rw[h1.1,h1.2]at this;exact this,hjo,(hc i).b⟩
  refine⟨?_,?_,?_⟩
  ·show(i / ap / o*ap+i%ap) / ap*ap*o+(i / ap / o*ap+i%ap)%ap+j*ap<_
   rw[c2.eq];exact cut_lt (cut_A_lt (hc i) hi) hjo (hc i).b
  ·have hv:=c2.divs
   show((i / ap / o*ap+i%ap) / ap*ap*o+(i / ap / o*ap+i%ap)%ap+j*ap) / ap / o*ap+((i / ap / o*ap+i%ap) / ap*ap*o+(i / ap / o*ap+i%ap)%ap+j*ap)%ap=_
   rw[hv.2.2.1,hv.2.1]
  ·exact c2.divs.2.2.2
 ·have c2:=cs k j hj
  have hkA:k / ap<pa:=by rw[Nat.div_lt_iff_lt_mul hap];exact hk
  refine⟨k / ap*ap*o+k%ap+j*ap,?_,?_,c2.divs.2.2.2⟩
  ·rw[c2.eq];exact cut_lt hkA hj (Nat.mod_lt _ hap)
  ·show _ / ap / o*ap+_%ap=k
   rw[c2.divs.2.2.1,c2.divs.2.1,Nat.mul_comm];exact Nat.div_add_mod k ap
theorem sum_is {S:List Nat}(ok:Ok S){al:Nat}(h:al<S.length)(L:List Int) :
  adds (fun i=>i / behind S al / S.getD al 0*behind S al+i%behind S al) (fun i=>at_ L i) (List.replicate (pr (without S al)) 0) (pr S)=sumL S al L:=by
 have hap:1≤behind S al:=pr_pos fun x hx=>ok.each x (List.mem_of_mem_drop hx)
 have ho:=(ok.get h).1;refine List.ext_getElem? fun k=>?_
 have hl:(adds (fun i=>i / behind S al / S.getD al 0*behind S al+i%behind S al) (fun i=>at_ L i) (List.replicate (pr (without S al)) 0) (pr S)).length=pr (without S al):=by rw[adds_length,List.length_replicate]
 by_cases hk:k<pr (without S al)
 ·have e:=sum_adds (pa:=pr (S.take al)) hap ho L k (by rw[pr_without h]at hk;exact hk)
  rw[show pr (S.take al)*behind S al=pr (without S al) from(pr_without h).symm]at e;rw[show pr (S.take al)*(S.getD al 0*behind S al)=pr S from(pr_split h).symm]at e;rw[at_lt (by rw[hl];exact hk)]at e;rw[Lge (by rw[hl];exact hk),e];simp[sumL,hk]
 ·rw[Lgn (by rw[hl];omega),Lgn (by simp[sumL];omega)]
theorem rank_without {S A:List Nat}{al:Nat}(h:al<S.length)(hb:Box S A):rank (S.take al++S.drop (al+1)) (A.take al++A.drop (al+1))=rank S A / behind S al / S.getD al 0*behind S al+rank S A%behind S al:=by
 have hA:A.length=S.length:=hb.1
 have e1:S=S.take al++(S.getD al 0::S.drop (al+1)):=by
  conv=>lhs;rw[← List.take_append_drop al S]
  rw[List.drop_eq_getElem_cons h,Lgd,Lge h];rfl
 have e2:A=A.take al++(A.getD al 0::A.drop (al+1)):=by
  conv=>lhs;rw[← List.take_append_drop al A]
  rw[List.drop_eq_getElem_cons (by omega),Lgd,Lge (by omega)];rfl
 have hr:rank S A=(rank (S.take al) (A.take al)*S.getD al 0+A.getD al 0)*behind S al+rank (S.drop (al+1)) (A.drop (al+1)):=by
  conv=>lhs;rw[e1,e2]
  rw[rank_append _ _ _ _ (by simp;omega),rank,pr,behind,Nat.add_mul,Nat.mul_assoc,Nat.add_assoc]
 have hb2:Box (S.drop (al+1)) (A.drop (al+1)):=by
  refine⟨by simp;omega,fun j hj=>?_⟩;rw[List.length_drop]at hj;have:=hb.2 (al+1+j) (by omega)
  simpa[Lgd,List.getElem?_drop]using this
 have c:Cut (behind S al) (S.getD al 0) (rank S A) (rank (S.take al) (A.take al)) (A.getD al 0) (rank (S.drop (al+1)) (A.drop (al+1))):=⟨hr,hb.2 al h,rank_lt hb2⟩;rw[rank_append _ _ _ _ (by simp;omega),c.divs.2.2.1,c.divs.2.1];rfl
theorem sumL_in (S:List Nat)(al:Nat)(L:List Int):∀y∈sumL S al L,-2147483648≤y∧y≤2147483647:=map_in fun i _=>by
 have h:∀n,-2147483648≤go (fun s k=>w32 (s+at_ L (i / behind S al*behind S al*S.getD al 0+i%behind S al+k*behind S al))) 0 n∧go (fun s k=>w32 (s+at_ L (i / behind S al*behind S al*S.getD al 0+i%behind S al+k*behind S al))) 0 n≤2147483647:=fun n=>by
  cases n with
  | zero=>exact⟨by show(-2147483648:Int)≤0;decide,by show(0:Int)≤2147483647;decide⟩
  | succ n=>exact w32_in _
 exact h _
end Me
end
section
open Go Go.RowKit
namespace Me
def ordB (l:List Int)(n:Nat):Bool:=(List.range n).all fun i=>decide (l.count ((i:Nat):Int)=1)
theorem ordB_false {l:List Int}{n i:Nat}(hi:i<n)(h:l.count ((i:Nat):Int)≠1):ordB l n=false:=by
 cases e:ordB l n with
 | false=>rfl
 | true =>
   rw[ordB,List.all_eq_true]at e;have:=e i (List.mem_range.2 hi);simp[h]at this
theorem ordB_zs {O:List Nat}{n:Nat}(h4:n≤4)(h:Ord O n):ordB (zs O) n=true:=by
 rw[ordB,List.all_eq_true];intro i hi;have hi:=List.mem_range.1 hi;have hp:=perm4 n h4 O h
 have h1:(zs O).count ((i:Nat):Int)=O.count i:=by
  rw[zs,List.count,List.countP_map,List.count];refine List.countP_congr fun x _=>?_
  simp[Function.comp];omega
 rw[h1,hp.count_eq,decide_eq_true_eq];exact List.nodup_range.count.trans (by simp[hi])
end Me
theorem refOrder_any (w:World)(a:Option Addr)(n c:Nat)(l:List Int)(hl:l.length=n)(hn:n≤1000000)(hr:Rd w a (ints .i64 l)) :
  Calls Tryz.prog 111 #[.slice a n c,.int .i64 ((n:Nat):Int)] w fun e w'=>e = .returned (.bool (Me.ordB l n))∧w=w':=by
 have Hr:=Lib.hid hr;have Hl:=Lib.hid hl;have hnn:((n:Int) != (n:Int))=false:=by simp
 clear hr hl;go_enter Tryz.func111,Tryz.ntmps111;go_wp2
 go_loopg [5] n (fun gh s5 wr=>∃i:Nat,i+gh=n∧s5 = .int .i64 ((i:Nat):Int)∧Hid (∀j,j<i→l.count ((j:Nat):Int)=1)∧Hid (wr=w))
 case atStart=>exact⟨0,by omega,rfl,(fun j h=>absurd h (Nat.not_lt_zero j)),rfl⟩
 case round =>
  obtain⟨i,hig,rfl,HI,hwr⟩:=hrel;have hww:w=wr:=hwr.out.symm;clear hwr;subst hww;cases gk with
  | zero =>
    obtain rfl:i=n:=by omega
    have HR:Hid (Me.ordB l i=true):=by
     show _=_
     rw[Me.ordB,List.all_eq_true];intro j hj;exact decide_eq_true (HI.out j (List.mem_range.1 hj))
    go_wp2;go_ret;exact⟨by rw[HR.out];rfl,rfl⟩
  | succ g' =>
    have hii:(i:Int)<(n:Nat):=by omega
    go_wp2_with fail;obtain⟨wo,hwo⟩:∃wo:World,wo=w:=⟨_,rfl⟩
    go_loopg [6,7] n (fun gh s6 s7 wr=>∃k q:Nat,k+gh=n∧s7 = .int .i64 ((k:Nat):Int)∧s6 = .int .i64 ((q:Nat):Int)∧Hid (q=(l.take k).count ((i:Nat):Int))∧Hid (wr=w))
    case atStart=>exact⟨0,0,by omega,rfl,rfl,rfl,rfl⟩
    case round =>
     obtain⟨k,q,hkg,rfl,rfl,HQ,hwr⟩:=hrel;have hww:w=wr:=hwr.out.symm;clear hwr;subst hww;have hqk:q≤k:=by rw[HQ.out];exact Nat.le_trans List.count_le_length (by rw[List.length_take];omega)
     cases gk with
     | zero =>
       obtain rfl:k=n:=by omega
       have HC:Hid (q=l.count ((i:Nat):Int)):=by
        show _=_
        rw[HQ.out,List.take_of_length_le (by rw[Hl.out];exact Nat.le_refl _)]
       by_cases h1:q=1
       ·have hb:((q:Int) != 1)=false:=by simp;omega
        have HN:Hid (∀j,j<i+1→l.count ((j:Nat):Int)=1):=fun j hj=>by
         rcases Nat.lt_or_ge j i with h|h
         ·exact HI.out j h
         ·have:j=i:=by omega
          subst this;rw[← HC.out,h1]
        clear HQ h1 HI;go_wp2
        go_roundg g'
        case measure=>omega
        case rel=>exact⟨i+1,by omega,by go_num,HN,rfl⟩
       ·have hb:((q:Int) != 1)=true:=by simp;omega
        have HR:Hid (Me.ordB l k=false):=Me.ordB_false (i:=i) (by omega) (by rw[← HC.out];exact h1);clear HQ h1 HI;go_wp2;go_ret;exact⟨by rw[HR.out];rfl,rfl⟩
     | succ g2 =>
       have hki:(k:Int)<(n:Nat):=by omega
       obtain⟨b,o,rfl,cx⟩:=Hr.out.int (i:=k) (by rw[Hl.out];omega);obtain⟨x,hx⟩:∃x,l.getD k 0=x:=⟨_,rfl⟩;rw[hx]at cx
       have ht:l.take (k+1)=l.take k ++ [x]:=by
        rw[List.take_add_one,Lge (by rw[Hl.out];omega)];rw[Lgd,Lge (by rw[Hl.out];omega)]at hx;simp only[Option.getD_some]at hx;rw[hx];rfl
       by_cases h1:x=(i:Int)
       ·have hb:(x==(i:Int))=true:=by simpa using h1
        have HN:Hid (q+1=(l.take (k+1)).count ((i:Nat):Int)):=by
         show _=_
         rw[ht,List.count_append,← HQ.out,h1];simp
        clear hx ht HQ h1;go_wp2
        go_roundg g2
        case measure=>omega
        case rel=>exact⟨k+1,q+1,by omega,by go_num,by go_num,HN,rfl⟩
       ·have hb:(x==(i:Int))=false:=by simpa using h1
        have HN:Hid (q=(l.take (k+1)).count ((i:Nat):Int)):=by
         show _=_
         rw[ht,List.count_append,← HQ.out];simp[List.count_cons,h1]
        clear hx ht HQ h1;go_wp2
        go_roundg g2
        case measure=>omega
        case rel=>exact⟨k+1,q,by omega,by go_num,rfl,HN,rfl⟩
theorem refTurned_in (w:World)(a oa:Option Addr)(n c oc:Nat)(S O:List Nat)(hn:S.length=n)(hn4:n≤1000000)(hO:O.length=n)(hlt:∀k,k<n→O.getD k 0<n)(hr:Rd w a (nums .i64 S))(hor:Rd w oa (nums .i64 O)) :
  Calls Tryz.prog 115 #[.slice a n c,.slice oa n oc] w fun e w'=>∃a' c',e = .returned (.slice a' n c')∧Own w' w.heap.size 3 (.slice a' n c') (nums .i64 (Me.turnS S O))∧n≤c'∧Touch No w w':=by
 obtain⟨I,hi0,hi1,hi2,hi3⟩:=info_I;have HI:=Lib.hid (aI hi0 (aI hi1 (aI hi2 hi3)));have Hr:=Lib.hid hr;have HOr:=Lib.hid hor;have Hn:=Lib.hid hn;have HO:=Lib.hid hO;have Hlt:=Lib.hid hlt;clear hr hor hn hO hlt hi0 hi1 hi2 hi3;go_enter Tryz.func115,Tryz.ntmps115;go_wp2
 go_loopg [5,6] n (fun gh s5 s6 wr=>∃(k:Nat) (v:Value),k+gh=n∧s6 = .int .i64 ((k:Nat):Int)∧s5=v∧Hid (Own wr w.heap.size 3 v (nums .i64 ((Me.turnS S O).take k)))∧Hid (Touch No w wr))
 case atStart=>exact⟨0,_,by omega,rfl,rfl,Own.nil w w.heap.size _,Touch.refl _ _⟩
 case round =>
  obtain⟨k,v,hkg,rfl,rfl,OW,T⟩:=hrel;have hlT:(Me.turnS S O).length=n:=by rw[Me.turnS_length,HO.out]
  cases gk with
  | zero =>
    obtain rfl:k=n:=by omega
    have hO:=OW.out;rw[List.take_of_length_le (by rw[hlT];exact Nat.le_refl _)]at hO;obtain⟨a',c',rfl,hc,_⟩:=hO.form' (n:=k) (by rw[nums_length,hlT]);have HN:=Lib.hid (aI hO hc);clear hO hc OW hlT;go_wp2;go_ret;exact⟨a',c',rfl,HN.out.1,HN.out.2,T.out⟩
  | succ g' =>
    have hki:(k:Int)<(n:Nat):=by omega
    obtain⟨b,o,rfl,cx⟩:=(HOr.out.no T.out).num (i:=k) (by rw[HO.out];omega);obtain⟨x,hx⟩:∃x,O.getD k 0=x:=⟨_,rfl⟩;have hxn:=Hlt.out k (by omega);rw[hx]at cx hxn;obtain⟨b2,o2,rfl,cs⟩:=(Hr.out.no T.out).num (i:=x) (by rw[Hn.out];exact hxn);obtain⟨y,hy⟩:∃y,S.getD x 0=y:=⟨_,rfl⟩;rw[hy]at cs;have hty:(Me.turnS S O).getD k 0=y:=by rw[Me.turnS_get S O (by rw[HO.out];omega),hx,hy]
    have HT:Hid (nums .i64 ((Me.turnS S O).take (k+1))=nums .i64 ((Me.turnS S O).take k) ++ [.int .i64 ((y:Nat):Int)]):=by
     show _=_
     rw[List.take_add_one,Lge (by rw[hlT];omega),nums_append];rw[Lgd,Lge (by rw[hlT];omega)]at hty;simp only[Option.getD_some]at hty;rw[hty];rfl
    have hll:(nums .i64 ((Me.turnS S O).take k)).length=k:=by rw[nums_length,List.length_take,hlT];omega
    have Hll:=Lib.hid hll;have hxi:(x:Int)<(n:Nat):=by omega
    clear hx hy hty hll hlT;go_wp2_with (at_builtin;refine wpList_append1 rfl _ _ _ rfl w.heap.size _ I _ 8 Tryz.underlying48 HI.out.1 HI.out.2.1 HI.out.2.2.1 HI.out.2.2.2 rfl _ _ _ OW.out rfl rfl rfl (by rw[Hll.out];unfold maxLen;omega) (by rw[Hll.out];omega) T.out.size ?_;intro v' w3 hown3 ht3)
    go_roundg g'
    case measure=>omega
    case rel=>exact⟨k+1,v',by omega,by go_num,rfl,by rw[HT.out];exact hown3,T.out.then ht3 (fun i hi e=>absurd ((OW.out.block e).1) (by omega))⟩
end
section
open Go Go.RowKit
theorem ints_set {L:List Int}{k:Nat}{v:Int}:(ints .i32 L).set k (.int .i32 v)=ints .i32 (L.set k v):=by simp[ints,List.map_set]
theorem ints_zero (m:Nat):List.replicate m (Value.int .i32 0)=ints .i32 (List.replicate m 0):=by simp[ints]
theorem refTurn_in (w:World)(sa la oa:Option Addr)(n c m d oc:Nat)(S O:List Nat)(A:List Int)(hA:TIn w sa n c la m d S A)(hO:Me.Ord O n)(hoc:n≤oc)(hor:Rd w oa (nums .i64 O)) :
  Calls Tryz.prog 106 #[.agg #[.slice sa n c,.slice la m d],.slice oa n oc] w (TOut w (Me.turnS S O) (Me.turnL S O A)):=by
 have hn4:=hA.n4;have hm4:=hA.m4;have hOS:Me.Ord O S.length:=by rw[hA.sn];exact hO
 have hT:=Me.ok_turnS hA.ok hOS;have hTl:(Me.turnS S O).length=n:=by rw[Me.turnS_length,hO.len]
 have hTp:Me.pr (Me.turnS S O)=m:=by rw[Me.pr_turnS hA.ok.four hOS,hA.len]
 have HSET:Hid (Me.sets (fun i=>Me.rank (Me.turnS S O) (Me.turnS (Me.unrank S i) O)) (fun i=>Me.at_ A i) (List.replicate m 0) m=Me.turnL S O A):=by
  have:=Me.turn_sets hA.ok hOS A;rw[hA.len]at this;exact this
 have HTin:=Lib.hid (Me.turnL_in hA.ok hOS (by rw[hA.lm,hA.len]) hA.rng);have HTl:Hid ((Me.turnL S O A).length=m):=by show _=_;rw[Me.turnL,List.length_map,List.length_range,hTp]
 have HA:=Lib.hid hA;have HO:=Lib.hid hO;have HOS:=Lib.hid hOS;have HOr:=Lib.hid hor;have HT:=Lib.hid (aI hT (aI hTl hTp))
 have CO:=Lib.hid (fun(W:World) (t:Touch No w W)=>by
  have:=refOrder_any W oa n oc (Me.zs O) (by rw[Me.zs_length,hO.len]) (by omega) (by rw[Me.ints_zs];exact hor.no t);rw[Me.ordB_zs hn4 hO]at this;exact this)
 clear hA hO hor hOS hT hTl hTp;go_enter Tryz.func106,Tryz.ntmps106;go_wp2_with fail;obtain⟨w1,hw1,t1,b2,b3,hsz⟩:=two_rows w 51 #[.slice sa n c,.slice la m d] #[.slice none 0 0,.slice none 0 0];rw[← hw1];have H1:=Lib.hid (aI t1 (aI b2 b3));clear hw1 t1 b2 b3;refine(refCheck_ok (HA.out.no H1.out.1)).mono ?_;rintro e w2 ⟨rfl,t2⟩;have H2:=Lib.hid (aI (H1.out.1.trans t2) (aI (H1.out.2.1.touch t2 id) (H1.out.2.2.touch t2 id)));clear t2 H1 hsz;have k0:=H2.out.2.1.c0;go_wp2_with fail;refine(CO.out w2 H2.out.1).mono ?_;rintro e w' ⟨rfl,rfl⟩;go_wp2_with fail;refine(refTurned_in w2 sa oa n c oc S O HA.out.sn (by omega) HO.out.len HO.out.lt (HA.out.no H2.out.1).sr (HOr.out.no H2.out.1)).mono ?_;rintro e w3 ⟨ta,tc,rfl,town,htc,t3⟩;have H3:=Lib.hid (aI (H2.out.1.trans t3) (aI (H2.out.2.1.touch t3 id) (aI (H2.out.2.2.touch t3 id) town.rd)));clear t3 town htc H2 k0;go_wp2_with fail;refine(refNew_in w3 ta n tc (Me.turnS S O) H3.out.2.2.2 HT.out.2.1 HT.out.1).mono ?_;rintro e w4 ⟨sc,n3,d3,g,m3,rfl,hn3,hm3,hd3,hsr,hsc,hg,hrow,t3⟩;obtain rfl:n3=n:=by rw[← hn3,HT.out.2.1]
 obtain rfl:m3=m:=by rw[← hm3,HT.out.2.2]
 obtain⟨Y,hY⟩:∃Y,Y=w4.heap.size:=⟨_,rfl⟩;obtain⟨w5,hw5⟩:∃w5,w5=w4.alloc (.cells #[.slice sc n3 d3,.slice (some ⟨g,0,none⟩) m3 m3] 51):=⟨_,rfl⟩;have FH:Hid (Fld w w5 (w.heap.size+1) g Y sc n3 d3 m3 (Me.turnS S O)):=by rw[hw5,hY];exact Fld.make H3.out.1 H3.out.2.2.1.lt (by omega) HT.out.1 HT.out.2.1 HT.out.2.2 hd3 hsr hsc hg hrow t3
 have HB5:Hid (Row w5 w.heap.size 51 [.slice sa n3 c,.slice la m3 d]∧Row w5 (w.heap.size+1) 51 [.slice none 0 0,.slice none 0 0]):=by
  have t3:Touch No w3 w5:=by rw[hw5];exact t3.alloc _
  exact⟨H3.out.2.1.touch t3 id,H3.out.2.2.1.touch t3 id⟩
 have hscb:Hid (∀ad,sc=some ad→w.heap.size+1<ad.block∧ad.block<g):=fun ad e=>FH.out.blk ad e
 clear hn3 hm3 hd3 hsr hsc hg hrow t3 H3;go_wp2_with fail;rw[← hw5,← hY];clear hw5 hY;have hXg:w.heap.size+1<g:=FH.out.Xg;have hgY:g<Y:=FH.out.gY
 go_loopg [8] m3 (fun gh s8 wr=>∃k:Nat,k+gh=m3∧s8 = .int .i64 ((k:Nat):Int)∧Hid (Touch (One g) w5 wr)∧Hid (Row wr g 21 (ints .i32 (Me.sets (fun i=>Me.rank (Me.turnS S O) (Me.turnS (Me.unrank S i) O)) (fun i=>Me.at_ A i) (List.replicate m3 0) k))))
 case atStart=>exact⟨0,by omega,rfl,Touch.refl _ _,by show Row _ _ _ _;rw[Me.sets,← ints_zero];exact FH.out.rowG⟩
 case round =>
  obtain⟨k,hkg,rfl,T,R⟩:=hrel;have k2:=(HB5.out.1.keep T.out (by omega)).c1;cases gk with
  | zero =>
    obtain rfl:k=m3:=by omega
    have ky:=FH.out.cell T.out;have kx:=HB5.out.2.keep T.out (by omega);have ky0:=FH.out.cell0 T.out;have R:=Lib.hid (show Row wr g 21 (ints .i32 (Me.turnL S O A)) by have:=R.out;rw[HSET.out]at this;exact this);go_wp2_with (refine wpList_store_mid rfl 51 _ _ rfl (w.heap.size+1) 0 51 [.slice none 0 0,.slice none 0 0] kx rfl [.slice sc n3 d3,.slice (some ⟨g,0,none⟩) k k] rfl (by kernel_rfl) (by simp) (by intro v hv;simp at hv;rcases hv with rfl|rfl <;> rfl) ?_);obtain⟨w9,hw9⟩:∃w9,w9=wr.setRow (w.heap.size+1) (splice [.slice none 0 0,.slice none 0 0] 0 [.slice sc n3 d3,.slice (some ⟨g,0,none⟩) k k]).toArray:=⟨_,rfl⟩;have R9:Row w9 (w.heap.size+1) 51 [.slice sc n3 d3,.slice (some ⟨g,0,none⟩) k k]:=by rw[hw9];exact kx.setRow _
    have HN:=Lib.hid (FH.out.done T.out R.out HTl.out HTin.out (show Touch (One (w.heap.size+1)) wr w9 by rw[hw9];exact Touch.setOne _ _ _));have y0:=R9.c0;have y1:=R9.c1;rw[← hw9];clear hw9 kx R9;go_wp2;refine bodyPost_ret (v:=.tuple #[.agg #[.slice sc n3 d3,.slice (some ⟨g,0,none⟩) k k],.int .i64 0]) (by simp[results,Tryz.results106,go_sem,y0,y1]) rfl ?_;exact⟨sc,n3,d3,_,k,k,rfl,HN.out.1,HN.out.2⟩
  | succ g' =>
    have hki:(k:Int)<(m3:Nat):=by omega
    have k20:=(HB5.out.1.keep T.out (by omega)).c0;have hwr:Touch No w wr:=FH.out.t.oneNo T.out (by omega);go_wp2_with fail;refine(refAt_in wr sa n3 c k S HA.out.ok HA.out.sn (HA.out.no hwr).sr (by rw[HA.out.len];omega)).mono ?_;rintro e w6 ⟨h,rfl,hrow,hhg,t6⟩;obtain⟨D,hD⟩:∃D,Me.rank (Me.turnS S O) (Me.turnS (Me.unrank S k) O)=D:=⟨_,rfl⟩;have hbx:=Me.unrank_box HA.out.ok.each k;have htb:=Me.turn_box HOS.out hbx;have hDm:D<m3:=by rw[← hD,← HT.out.2.2];exact Me.rank_lt htb
    have T6:Hid (Touch (One g) w5 w6):=T.out.trans t6.no;have R6:=Lib.hid (R.out.touch t6 id);have hw6:=Lib.hid (hwr.trans t6)
    have CT:Hid (∀j,Calls Tryz.prog 115 #[.slice (some ⟨h,0,none⟩) n3 n3,.slice oa n3 oc] (w6.drewN j) fun e w'=>∃a' c',e = .returned (.slice a' n3 c')∧Rd w' a' (nums .i64 (Me.turnS (Me.unrank S k) O))∧Touch No (w6.drewN j) w'):=fun j =>
     (refTurned_in (w6.drewN j) (some ⟨h,0,none⟩) oa n3 n3 oc (Me.unrank S k) O (by rw[Me.unrank_length,HA.out.sn]) (by omega) HO.out.len HO.out.lt (rd_row (hrow.touch ((Touch.refl No w6).drewN j) id)) (HOr.out.no (hw6.out.drewN j))).mono fun _ _ ⟨a',c',h1,h2,_,h4⟩=>⟨a',c',h1,h2.rd,h4⟩
    have HTB:=Lib.hid htb;have HD:=Lib.hid hD;clear k2 k20 hwr hrow hhg t6 hbx htb hD R T;have ky0:=FH.out.cell0 T6.out;have Q:Hid (∀W:World,Touch No w6 W→W.cell? ⟨Y,0,none⟩=some (.slice sc n3 d3)):=fun W t=>FH.out.cell0 (T6.out.trans t.no)
    have CI:Hid (∀(W:World) (a':Option Addr) (c':Nat),Touch No w6 W→Rd W a' (nums .i64 (Me.turnS (Me.unrank S k) O))→Calls Tryz.prog 167 #[.slice sc n3 d3,.slice a' n3 c'] W fun e w'=>e = .returned (.tuple #[.int .i64 ((D:Nat):Int),.int .i64 0])∧Touch No W w'):=fun W a' c' t hr'=>by
     have:=refIndex_in W sc a' n3 d3 c' (Me.turnS S O) (Me.turnS (Me.unrank S k) O) HT.out.1 HT.out.2.1 HTB.out ((FH.out.rd.keepR T6.out (fun ad e=>by have:=FH.out.blk ad e;omega)).no t) hr';rw[HD.out]at this;exact this
    go_upto_region 8 with fail
    go_cut [11] (fun s11 wx=>s11 = .int .i64 ((D:Nat):Int)∧Hid (Touch No w6 wx))
    case first =>
     go_wp2_with fail
     go_region_held3 (fun w'=>w'.cell? ⟨Y,0,none⟩=some (.slice sc n3 d3)) (first|exact ky0|exact Q.out _ tq.out|exact Q.out _ tr.out) (first
      | (go_at_call 115;refine(CT.out 1).mono ?_;rintro e wq ⟨a',c',rfl,hra,tq0⟩;have tq:=Lib.hid ((Touch.refl No w6).drew.trans tq0);have Hra:=Lib.hid hra;clear tq0 hra)
      | (go_at_call 167;refine(CI.out _ _ _ tq.out Hra.out).mono ?_;rintro e wr2 ⟨rfl,tr0⟩;have tr:=Lib.hid (tq.out.trans tr0);clear tr0))
     all_goals
      go_wp2_with fail;go_meet;exact⟨rfl,tr.out⟩
    case rest =>
    obtain⟨rfl,hwc⟩:=hcut;have T8:Hid (Touch (One g) w5 wc):=T6.out.trans hwc.out.no;have R8:=Lib.hid (R6.out.touch hwc.out id);have k2:=(HB5.out.1.keep T8.out (by omega)).c1;have ky:=FH.out.cell T8.out;obtain⟨ga,oa',rfl,ca⟩:=(HA.out.keep FH.out.t T8.out (by omega)).num (k:=k) (by omega);obtain⟨x,hx⟩:∃x,Me.at_ A k=x:=⟨_,rfl⟩;rw[hx]at ca;have hsl:=Me.sets_length (fun i=>Me.rank (Me.turnS S O) (Me.turnS (Me.unrank S i) O)) (fun i=>Me.at_ A i) (List.replicate m3 0) k;rw[List.length_replicate]at hsl
    have cg:wc.cell? ⟨g,D,none⟩=some (.int .i32 ((Me.sets (fun i=>Me.rank (Me.turnS S O) (Me.turnS (Me.unrank S i) O)) (fun i=>Me.at_ A i) (List.replicate m3 0) k).getD D 0)):=by
     rw[R8.out.cell];exact ints_get (by omega)
    have cz:wc.frozen? ⟨g,D,none⟩=false:=R8.out.soft D
    have HN:Hid (Touch (One g) w5 (wc.setCell ⟨g,D,none⟩ (.int .i32 x)).drew∧Row (wc.setCell ⟨g,D,none⟩ (.int .i32 x)).drew g 21 (ints .i32 (Me.sets (fun i=>Me.rank (Me.turnS S O) (Me.turnS (Me.unrank S i) O)) (fun i=>Me.at_ A i) (List.replicate m3 0) (k+1)))):=by
     refine⟨(T8.out.setCell (p:=⟨g,D,none⟩) (fun _=>rfl) _).drew,?_⟩;have:=(R8.out.setCell D (.int .i32 x)).touch (F:=No) (Touch.refl No _).drew id;rw[ints_set]at this;rw[Me.sets,HD.out,hx];exact this
    have hDi:(D:Int)<(m3:Nat):=by omega
    clear hx hsl ky0 Q CI CT R6 T6 hw6 HD HTB hwc R8 T8;go_wp2
    go_still_tail 9,(by kernel_rfl)
    go_wp2
    go_roundg g'
    case measure=>omega
    case rel=>exact⟨k+1,by omega,by go_num,HN.out.1,HN.out.2⟩
end
end Go.Proofs.YtjlphmmalebgpaaGreat
