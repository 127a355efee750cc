/-
  A part of the proof.
-/
import Derived.Test.YtjlphmmalebgpaaGreatK06
set_option linter.unusedSimpArgs false
set_option linter.unusedVariables false
set_option maxHeartbeats 2000000
set_option maxRecDepth 100000
namespace Go.Proofs.YtjlphmmalebgpaaGreat
section
open Go Go.RowKit
theorem mathsAdd1 (w:World)(h:Nat)(x y:Int)(hr:Rd w (some ⟨h,0,none⟩) (ints .i32 [x,y])) :
  Calls Tryz.prog 191 #[.slice (some ⟨h,0,none⟩) 2 2] w fun e w'=>e = .returned (.int .i32 (wrap32 (x+y)))∧∃m,w'=w.drewN m:=by
 obtain⟨b,o,e,c0⟩:=hr 0 (.int .i32 x) rfl;cases e
 obtain⟨b,o,e,c1⟩:=hr 1 (.int .i32 y) rfl;cases e
 clear hr;go_enter Tryz.func191,Tryz.ntmps191;go_wp2
 go_quiet (fail)
 go_wp2;go_ret;exact⟨rfl,_,rfl⟩
theorem mathsMul1 (w:World)(h:Nat)(x y:Int)(hr:Rd w (some ⟨h,0,none⟩) (ints .i32 [x,y])) :
  Calls Tryz.prog 193 #[.slice (some ⟨h,0,none⟩) 2 2] w fun e w'=>e = .returned (.int .i32 (wrap32 (x*y)))∧∃m,w'=w.drewN m:=by
 obtain⟨b,o,e,c0⟩:=hr 0 (.int .i32 x) rfl;cases e
 obtain⟨b,o,e,c1⟩:=hr 1 (.int .i32 y) rfl;cases e
 clear hr;go_enter Tryz.func193,Tryz.ntmps193;go_wp2
 go_quiet (fail)
 go_wp2;go_ret;exact⟨rfl,_,rfl⟩
theorem mathsRelu1 (w:World)(h:Nat)(x:Int)(hr:Rd w (some ⟨h,0,none⟩) (ints .i32 [x])) :
  Calls Tryz.prog 196 #[.slice (some ⟨h,0,none⟩) 1 1] w fun e w'=>e = .returned (.int .i32 (max 0 x))∧∃m,w'=w.drewN m:=by
 obtain⟨b,o,e,c0⟩:=hr 0 (.int .i32 x) rfl;cases e
 clear hr;rcases(by omega:x<0∨x=0∨0<x) with h0|rfl|h0
 ·rw[Int.max_eq_left (by omega)]
  go_enter Tryz.func196,Tryz.ntmps196;go_wp2;go_ret;exact⟨rfl,0,rfl⟩
 ·rw[Int.max_eq_left (by omega)]
  go_enter Tryz.func196,Tryz.ntmps196;go_wp2;go_ret;exact⟨rfl,0,rfl⟩
 ·rw[Int.max_eq_right (by omega)]
  go_enter Tryz.func196,Tryz.ntmps196;go_wp2;go_ret;exact⟨rfl,0,rfl⟩
theorem mathsWithin (w:World)(z:Int) :
  Calls Tryz.prog 198 #[.int .i64 z,.int .i64 (-128),.int .i64 127] w fun e w'=>e = .returned (.int .i64 (min 127 (max (-128) z)))∧w=w':=by
 rcases(by omega:z≤ -128∧min 127 (max (-128) z) = -128∨(-128<z∧z<127)∧min 127 (max (-128) z)=z∨127≤z∧min 127 (max (-128) z)=127) with⟨h1,h2⟩|⟨⟨h1,h1'⟩,h2⟩|⟨h1,h2⟩
 ·rw[h2]
  have h3:¬(-128<z):=by omega
  clear h2;rcases(by omega:z = -128∨z < -128) with rfl|h4
  ·go_enter Tryz.func198,Tryz.ntmps198
   go_wp2;go_ret;exact⟨rfl,rfl⟩
  ·go_enter Tryz.func198,Tryz.ntmps198
   go_wp2;go_ret;exact⟨rfl,rfl⟩
 ·rw[h2]
  have h3:-128≤z:=by omega
  clear h2;go_enter Tryz.func198,Tryz.ntmps198;go_wp2;go_ret;exact⟨rfl,rfl⟩
 ·rw[h2]
  have h3:-128≤z:=by omega
  have h5:¬z < -128:=by omega
  clear h2;rcases(by omega:z=127∨127<z) with rfl|h4
  ·go_enter Tryz.func198,Tryz.ntmps198
   go_wp2;go_ret;exact⟨rfl,rfl⟩
  ·go_enter Tryz.func198,Tryz.ntmps198
   go_wp2;go_ret;exact⟨rfl,rfl⟩
theorem mathsShift1 (w:World)(h p1 p2 q:Nat)(x:Int)(hq:q≤31)(hx:-2147483648≤x∧x≤2147483647)(hr:Rd w (some ⟨h,0,none⟩) (ints .i64 [x]))
  (k1:w.cell? ⟨p1,0,none⟩=some (.int .i64 (2 ^ q / 2:Nat))) (k2:w.cell? ⟨p2,0,none⟩=some (.int .i64 (q:Nat))) :
  Calls Tryz.prog 197 #[.slice (some ⟨h,0,none⟩) 1 1,.pointer (some ⟨p1,0,none⟩),.pointer (some ⟨p2,0,none⟩)] w fun e w'=>e = .returned (.int .i64 (Me.shift1 q x))∧∃m,w'=w.drewN m:=by
 obtain⟨b,o,e,c0⟩:=hr 0 (.int .i64 x) rfl;cases e
 clear hr;go_enter Tryz.func197,Tryz.ntmps197
 have hw:wrap64 (x+2 ^ q / 2)=x+2 ^ q / 2:=by
  have h1:(2:Nat) ^ q≤2 ^ 31:=Nat.pow_le_pow_right (by decide) hq;have h2:(2:Nat) ^ 31=2147483648:=by decide
  have h3:((2 ^ q:Nat):Int)=(2:Int) ^ q:=by push_cast;rfl
  have h4:(0:Int)≤(2:Int) ^ q:=Int.pow_nonneg (by decide);unfold wrap64;omega
 have Hw:=Lib.hid hw;clear hw;go_wp2
 go_quiet ((go_at_call 198;exact Calls.quiet_of_same ((mathsWithin _ _).mono (fun _ _ h=>⟨h.1,h.2.symm⟩))))
 go_wp2;go_ret;exact⟨by show Ending.returned (.int .i64 (min 127 (max (-128) (wrap64 (x+2 ^ q / 2) / 2 ^ q))))=_;rw[Hw.out,Me.shift1],_,rfl⟩
def Tens (w:World)(b K n m:Nat)(S:List Nat)(As:List (List Int)):Prop :=
 ∀q,q<K→∃sa c la d,w.cell? ⟨b,q*2,none⟩=some (.slice sa n c)∧w.cell? ⟨b,q*2+1,none⟩=some (.slice la m d)∧TIn w sa n c la m d S (As.getD q [])
def TwoB (g h k:Nat):Prop:=k=g∨k=h
theorem Fld.no {w w5 w6:World}{X g Y:Nat}{sc:Option Addr}{n d m:Nat}{S:List Nat}(H:Fld w w5 X g Y sc n d m S)(t:Touch No w5 w6):Fld w w6 X g Y sc n d m S :=
 {H with rowY:=H.rowY.touch t id,rowG:=H.rowG.touch t id,t:=H.t.trans t,rd:=H.rd.no t}
theorem Fld.done2 {w w5 wr W:World}{X g Y hh:Nat}{sc:Option Addr}{n d m:Nat}{S:List Nat}{L:List Int}(h:Fld w w5 X g Y sc n d m S)(t:Touch (TwoB g hh) w5 wr)(hY:Y<hh)(R:Row wr g 21 (ints .i32 L))(hl:L.length=m)(hL:∀y∈L,-2147483648≤y∧y≤2147483647)(tW:Touch (One X) wr W) :
  TIn W sc n d (some ⟨g,0,none⟩) m m S L∧Touch No w W∧NewA w sc∧NewA w (some ⟨g,0,none⟩):=by
 have hXg:=h.Xg;have hgY:=h.gY;have hwX:=h.wX;refine⟨TIn.of_row (T:=21) h.ok h.sn h.hd h.pm ((h.rd.touch t (fun b o e _ f=>?_)).keepR tW (fun ad e=>by have:=h.blk ad e;omega)) (R.keep tW (by omega)) hl hL,(h.t.then t (fun i hi e=>by rcases e with rfl|rfl <;> omega)).oneNo tW h.wX,fun ad e=>by have:=h.blk ad e;omega,fun ad e=>by cases e;show _≤g;omega⟩;have:=h.blk _ e;simp only at this;rcases f with f|f <;> omega
theorem hmk64 (m:Nat)(hm:m≤4096):∀wx:World,(Instr.makeSlice 244 (.int .i64 (m:Int)) (.int .i64 (m:Int))).run Tryz.prog wx = .ok (.slice (some ⟨wx.heap.size,0,none⟩) m m) (wx.alloc (.cells (List.replicate m (Value.int .i64 0)).toArray 2)):=fun wx=>by
 obtain⟨I,hi0,hi1,hi2,hi3⟩:∃i,Tryz.prog.info? 2=some i∧i.zero=some (.int .i64 0)∧i.size=1∧i.bytes=8:=one_info (by kernel_rfl);have:=run_make (P:=Tryz.prog) wx 244 2 I (.int .i64 0) Tryz.underlying244 hi0 hi1 .i64 .i64 (m:Int) (m:Int) (by omega) (by omega) (by rw[hi3];omega) (by omega);rw[this,hi2,Int.toNat_natCast,Nat.mul_one]
 show Result.ok _ (wx.alloc (.cells (madeCells #[Value.int .i64 0] _) _))=_
 rw[made_fill]
theorem mathsOf32_in (w:World)(f:FuncId)(hf:∀(args:Array Value) (wx:World),(callFunc f args).run Tryz.prog wx = .ok (.enter f args) wx)(b K n m:Nat)(S:List Nat)(As:List (List Int))(F:List Int→Int)(hK:1≤K∧K≤2)(hn:S.length=n)(hm:Me.pr S=m)(ok:Me.Ok S)(hA:Tens w b K n m S As)
  (hF:∀(wx:World) (h:Nat) (vals:List Int),Touch No w wx→vals.length=K→(∀v∈vals,-2147483648≤v∧v≤2147483647)→Rd wx (some ⟨h,0,none⟩) (ints .i32 vals)→
   Calls Tryz.prog f #[.slice (some ⟨h,0,none⟩) K K] wx fun e w'=>e = .returned (.int .i32 (F vals))∧∃m,w'=wx.drewN m)
  (hFr:∀vals,-2147483648≤F vals∧F vals≤2147483647) :
  Calls Tryz.prog 192 #[.agg #[.func (.func f) #[] #[]],.slice (some ⟨b,0,none⟩) K K] w (TOut w S ((List.range m).map fun i=>F ((List.range K).map fun q=>Me.at_ (As.getD q []) i))):=by
 have HA:=Lib.hid hA;have HF:=Lib.hid hF;have HFr:=Lib.hid hFr;have Hn:=Lib.hid hn;have Hm:=Lib.hid hm;have Hok:=Lib.hid ok;obtain⟨hK1,hK2⟩:=hK;obtain⟨OUT,hOUT⟩:∃OUT,OUT=(List.range m).map (fun i=>F ((List.range K).map fun q=>Me.at_ (As.getD q []) i)):=⟨_,rfl⟩;rw[← hOUT];have HOUT:=Lib.hid hOUT;clear hA hF hFr hn hm ok hOUT;go_enter Tryz.func192,Tryz.ntmps192;go_wp2_with fail;obtain⟨w1,hw1⟩:∃w1,w1=(w.alloc (.cells #[.func (.func f) #[] #[]] 239)).alloc (.cells #[.slice none 0 0,.slice none 0 0] 51):=⟨_,rfl⟩
 have H1:Hid (Touch No w w1∧Row w1 w.heap.size 239 [.func (.func f) #[] #[]]∧Row w1 (w.heap.size+1) 51 [.slice none 0 0,.slice none 0 0]):=by
  refine⟨by rw[hw1];exact((Touch.refl No w).alloc _).alloc _,by rw[hw1];exact(Row.new w _ _).touch ((Touch.refl No _).alloc _) id,?_⟩;have:=Row.new (w.alloc (.cells #[.func (.func f) #[] #[]] 239)) 51 #[.slice none 0 0,.slice none 0 0];rw[size_alloc]at this;rw[hw1];exact this
 rw[← hw1];clear hw1
 go_loopg [18] K (fun gh s18 wr=>∃k:Nat,k+gh=K∧s18 = .int .i64 ((k:Nat):Int)∧Hid (Touch No w1 wr))
 case atStart=>exact⟨0,by omega,rfl,Touch.refl _ _⟩
 case round =>
  obtain⟨k,hkg,rfl,T⟩:=hrel;cases gk with
  | succ g' =>
    have hki:(k:Int)<(K:Nat):=by omega
    obtain⟨sa,c,la,d,c0,c1,hin⟩:=HA.out k (by omega);have c0:=(H1.out.1.trans T.out).cell id c0;have c1:=(H1.out.1.trans T.out).cell id c1;have Hin:=Lib.hid (hin.no ((H1.out.1.trans T.out).alloc (.cells #[.slice sa n c,.slice la m d] 51)));have TT:=Lib.hid (T.out.alloc (.cells #[.slice sa n c,.slice la m d] 51));clear hin;go_wp2_with fail;refine(tenCheck_ok Hin.out).mono ?_;rintro e w' ⟨rfl,t⟩;have TN:=Lib.hid (TT.out.trans t);clear c0 c1 t;go_wp2
    go_roundg g'
    case measure=>omega
    case rel=>exact⟨k+1,by omega,by go_num,TN.out⟩
  | zero =>
    obtain rfl:K=k:=by omega
    obtain⟨sa,c,la,d,c0,c1,hin⟩:=HA.out 0 (by omega);have t1:=H1.out.1.trans T.out;have c0:=t1.cell id c0;have Hin:=Lib.hid (hin.no t1);have hK0:(0:Int)<(K:Nat):=by omega
    have H2:Hid (Touch No w wr∧Row wr w.heap.size 239 [.func (.func f) #[] #[]]∧Row wr (w.heap.size+1) 51 [.slice none 0 0,.slice none 0 0]):=⟨t1,H1.out.2.1.touch T.out id,H1.out.2.2.touch T.out id⟩;clear c1 hin t1 T H1;go_wp2_with fail;refine(tenNew_in wr sa n c S Hin.out.sr Hn.out Hok.out).mono ?_;rintro e w3 ⟨sc,n3,d3,g,m3,rfl,hn3,hm3,hd3,hsr,hsc,hg,hrow,t3⟩;obtain rfl:n3=n:=by rw[← hn3,Hn.out]
    obtain rfl:m3=m:=by rw[← hm3,Hm.out]
    obtain⟨Y,hY⟩:∃Y,Y=w3.heap.size:=⟨_,rfl⟩;obtain⟨w5,hw5⟩:∃w5,w5=w3.alloc (.cells #[.slice sc n3 d3,.slice (some ⟨g,0,none⟩) m3 m3] 51):=⟨_,rfl⟩;have FH0:Hid (Fld w w5 (w.heap.size+1) g Y sc n3 d3 m3 S):=by rw[hw5,hY];exact Fld.make H2.out.1 H2.out.2.2.lt (by omega) Hok.out Hn.out Hm.out hd3 hsr hsc hg hrow t3
    have H5:Hid (Row w5 w.heap.size 239 [.func (.func f) #[] #[]]∧Row w5 (w.heap.size+1) 51 [.slice none 0 0,.slice none 0 0]):=by
     have t3:Touch No wr w5:=by rw[hw5];exact t3.alloc _
     exact⟨H2.out.2.1.touch t3 id,H2.out.2.2.touch t3 id⟩
    clear hn3 hm3 hd3 hsr hsc hg hrow t3 c0 H2 Hin hK0;go_wp2_with fail;rw[← hw5,← hY];clear hw5 hY
    go_loopg [37] K (fun gh s37 wr=>∃k:Nat,k+gh=K∧s37 = .int .i64 ((k:Nat):Int)∧Hid (Touch No w5 wr))
    case atStart=>exact⟨0,by omega,rfl,Touch.refl _ _⟩
    case round =>
     obtain⟨k,hkg,rfl,T⟩:=hrel;cases gk with
     | succ g' =>
       have hki:(k:Int)<(K:Nat):=by omega
       obtain⟨sa,c,la,d,c0,c1,hin⟩:=HA.out k (by omega);have c0:=(FH0.out.t.trans T.out).cell id c0;have c1:=(FH0.out.t.trans T.out).cell id c1;have hYq:Y<wr.heap.size:=(FH0.out.rowY.touch T.out id).lt;have ky:∀ob:Obj,(wr.alloc ob).cell? ⟨Y,0,none⟩=some (.slice sc n3 d3):=fun ob=>by rw[cell_old _ _ hYq];exact(FH0.out.rowY.touch T.out id).c0
       have Hin:=Lib.hid (hin.no ((FH0.out.t.trans T.out).alloc (.cells #[.slice sa n3 c,.slice la m3 d] 51)));have TT:=Lib.hid (T.out.alloc (.cells #[.slice sa n3 c,.slice la m3 d] 51));clear hin hYq;go_wp2_with fail;have C:=equalI_any (wr.alloc (.cells #[.slice sa n3 c,.slice la m3 d] 51)) sa sc n3 c n3 d3 (Me.zs S) (Me.zs S) Hin.out.srz Hin.out.zn (by rw[Me.ints_zs];exact FH0.out.rd.no TT.out) (by rw[Me.zs_length,Hn.out]) (by have:=Hin.out.n4;omega);rw[decide_eq_true rfl]at C;refine C.mono ?_;rintro e w' ⟨rfl,t⟩;have TN:=Lib.hid (TT.out.trans t);clear c0 c1 t C ky;go_wp2
       go_roundg g'
       case measure=>omega
       case rel=>exact⟨k+1,by omega,by go_num,TN.out⟩
     | zero =>
       obtain rfl:K=k:=by omega
       have hmk:=hmk32 K (by omega);have FH:Hid (Fld w wr (w.heap.size+1) g Y sc n3 d3 m3 S):=FH0.out.no T.out;have H6:Hid (Row wr w.heap.size 239 [.func (.func f) #[] #[]]∧Row wr (w.heap.size+1) 51 [.slice none 0 0,.slice none 0 0]):=⟨H5.out.1.touch T.out id,H5.out.2.touch T.out id⟩;clear FH0 H5 T;obtain⟨h,hh⟩:∃h,h=wr.heap.size:=⟨_,rfl⟩;have hYh:Y<h:=by rw[hh];exact FH.out.rowY.lt
       have ky:∀ob:Obj,(wr.alloc ob).cell? ⟨Y,1,none⟩=some (.slice (some ⟨g,0,none⟩) m3 m3):=fun ob=>by rw[cell_old _ _ (by rw[← hh];exact hYh)];exact FH.out.rowY.c1
       go_wp2_with fail;clear ky;obtain⟨w6,hw6⟩:∃w6,w6=wr.alloc (.cells (Array.replicate K (Value.int .i32 0)) 21):=⟨_,rfl⟩
       have R6:Hid (Row w6 h 21 (ints .i32 (List.replicate K 0))):=by
        have:=Row.new wr 21 (Array.replicate K (Value.int .i32 0));rw[← hw6,← hh]at this
        show Row _ _ _ _
        simpa[ints]using this
       have t6:Touch No wr w6:=by rw[hw6];exact(Touch.refl No wr).alloc _
       have F6:=Lib.hid (FH.out.no t6);have H7:=Lib.hid (aI (H6.out.1.touch t6 id) (H6.out.2.touch t6 id));rw[← hw6,← hh];clear hw6 hh t6 FH H6;have Hl:=Lib.hid (show OUT.length=m3 by rw[HOUT.out,List.length_map,List.length_range]);have Hl':=Lib.hid (show(ints .i32 OUT).length=m3 by rw[ints_length];exact Hl.out);have Hin':Hid (∀y∈OUT,-2147483648≤y∧y≤2147483647):=by rw[HOUT.out];exact Me.map_in fun i _=>HFr.out _
       have hm4:m3≤4096:=by rw[← Hm.out];exact Hok.out.most
       have hXg:w.heap.size+1<g:=F6.out.Xg;have hgY:g<Y:=F6.out.gY
       go_loopg [55] m3 (fun gh s55 wr=>∃k:Nat,k+gh=m3∧s55 = .int .i64 ((k:Nat):Int)∧Hid (Touch (TwoB g h) w6 wr)∧Hid (Row wr g 21 (fill (ints .i32 OUT) (.int .i32 0) k))∧Hid (∃vals,vals.length=K∧Row wr h 21 (ints .i32 vals)))
       case atStart=>exact⟨0,by omega,rfl,Touch.refl _ _,F6.out.start Hl'.out,_,by simp,R6.out⟩
       case round =>
        obtain⟨k,hkg,rfl,T,R,RV⟩:=hrel;cases gk with
        | zero =>
          obtain rfl:k=m3:=by omega
          have kx:=H7.out.2.touch T.out (fun e=>by rcases e with e|e <;> omega);have hYx:=F6.out.rowY.touch T.out (fun e=>by rcases e with e|e <;> omega);have ky0:=hYx.c0;have ky1:=hYx.c1;have R:=Lib.hid (show Row wr g 21 (ints .i32 OUT) by have:=R.out;rw[fill_all _ _ Hl'.out]at this;exact this);go_wp2_with (refine wpList_store_mid rfl 51 _ _ rfl (w.heap.size+1) 0 51 [.slice none 0 0,.slice none 0 0] kx rfl [.slice sc n3 d3,.slice (some ⟨g,0,none⟩) k k] rfl (by kernel_rfl) (by simp) (by intro v hv;simp at hv;rcases hv with rfl|rfl <;> rfl) ?_);obtain⟨w9,hw9⟩:∃w9,w9=wr.setRow (w.heap.size+1) (splice [.slice none 0 0,.slice none 0 0] 0 [.slice sc n3 d3,.slice (some ⟨g,0,none⟩) k k]).toArray:=⟨_,rfl⟩;have R9:Row w9 (w.heap.size+1) 51 [.slice sc n3 d3,.slice (some ⟨g,0,none⟩) k k]:=by rw[hw9];exact kx.setRow _
          have HN:=Lib.hid (F6.out.done2 T.out hYh R.out Hl.out Hin'.out (show Touch (One (w.heap.size+1)) wr w9 by rw[hw9];exact Touch.setOne _ _ _));have y0:=R9.c0;have y1:=R9.c1;rw[← hw9];clear hw9 kx R9;go_wp2;refine bodyPost_ret (v:=.tuple #[.agg #[.slice sc n3 d3,.slice (some ⟨g,0,none⟩) k k],.int .i64 0]) (by simp[results,Tryz.results192,go_sem,y0,y1]) rfl ?_;exact⟨sc,n3,d3,_,k,k,rfl,HN.out.1,HN.out.2⟩
        | succ g' =>
          have hki:(k:Int)<(m3:Nat):=by omega
          go_wp2_with fail;obtain⟨wo,rfl⟩:∃wo:World,wo=wr:=⟨_,rfl⟩
          go_loopg [60] K (fun gh s60 wr=>∃q:Nat,q+gh=K∧s60 = .int .i64 ((q:Nat):Int)∧Hid (Touch (TwoB g h) w6 wr)∧Hid (Row wr g 21 (fill (ints .i32 OUT) (.int .i32 0) k))∧Hid (∃vals,vals.length=K∧Row wr h 21 (ints .i32 vals)∧∀j,j<q→vals.getD j 0=Me.at_ (As.getD j []) k))
          case atStart=>exact⟨0,by omega,rfl,T.out,R.out,by obtain⟨vals,h1,h2⟩:=RV.out;exact⟨vals,h1,h2,fun j hj=>absurd hj (Nat.not_lt_zero j)⟩⟩
          case round =>
           obtain⟨q,hqg,rfl,Ti,Ri,RVi⟩:=hrel;cases gk with
           | succ g2 =>
             have hqi:(q:Int)<(K:Nat):=by omega
             obtain⟨vals,hvl,hvr,hvd⟩:=RVi.out;obtain⟨sa,c,la,d,c0,c1,hin⟩:=HA.out q (by omega);have hwX:=F6.out.wX;have hwr:Touch No w wr:=F6.out.t.then Ti.out (fun i hi e=>by rcases e with rfl|rfl <;> omega);have c0:=hwr.cell id c0;have c1:=hwr.cell id c1;obtain⟨ga,oa,rfl,ca⟩:=(hin.no hwr).num (k:=k) (by omega);obtain⟨v,hv⟩:∃v,Me.at_ (As.getD q []) k=v:=⟨_,rfl⟩;rw[hv]at ca;have ca':∀ob:Obj,(wr.alloc ob).cell? ⟨ga,oa+k,none⟩=some (.int .i32 v):=fun ob=>by rw[cell_old _ _ (lt_of_cell ca)];exact ca
             have ch':∀ob:Obj,(wr.alloc ob).cell? ⟨h,q,none⟩=some (.int .i32 (vals.getD q 0)):=fun ob=>by rw[cell_old _ _ hvr.lt,hvr.cell];exact ints_get (by omega)
             have cz':∀ob:Obj,(wr.alloc ob).frozen? ⟨h,q,none⟩=false:=fun ob=>by rw[frozen_old _ _ hvr.lt];exact hvr.soft q
             have hlen:=hvr.lt;have HT:∀ob:Obj,Touch (TwoB g h) w6 ((wr.setCell ⟨h,q,none⟩ (.int .i32 v)).alloc ob):=fun ob=>(Ti.out.setCell (p:=⟨h,q,none⟩) (fun _=>Or.inr rfl) _).alloc ob
             have HR:∀ob:Obj,Row ((wr.setCell ⟨h,q,none⟩ (.int .i32 v)).alloc ob) g 21 (fill (ints .i32 OUT) (.int .i32 0) k):=fun ob =>
              (Ri.out.touch (F:=One h) ((Touch.refl (One h) _).setCell (p:=⟨h,q,none⟩) (fun _=>(rfl:h=h)) _) (fun e=>by unfold One at e;omega)).touch ((Touch.refl No _).alloc ob) id
             have HV:∀ob:Obj,∃vals,vals.length=K∧Row ((wr.setCell ⟨h,q,none⟩ (.int .i32 v)).alloc ob) h 21 (ints .i32 vals)∧∀j,j<q+1→vals.getD j 0=Me.at_ (As.getD j []) k:=fun ob=>by
              refine⟨vals.set q v,by simpa using hvl,?_,fun j hj=>?_⟩
              ·have:=(hvr.setCell q (.int .i32 v)).touch ((Touch.refl No _).alloc ob) id
               simpa[ints,List.map_set]using this
              ·by_cases hjq:j=q
               ·subst hjq
                rw[Lgd,List.getElem?_set_self (by omega),hv];rfl
               ·rw[Lgd,List.getElem?_set_ne (by omega),← Lgd]
                exact hvd j (by omega)
             have hvin:-2147483648≤v∧v≤2147483647:=by rw[← hv];refine hin.rng _ ?_;rw[Me.at_lt (by rw[hin.lm];omega)];exact List.getElem_mem _
             have hw64:IntKind.i64.wrap v=v:=IntWalk.i64_in _ (by omega);have HN:=Lib.hid (aI HT (aI HR HV));clear HT HR HV hvr hvd hin hv ca hwr;go_wp2
             go_roundg g2
             case measure=>omega
             case rel=>exact⟨q+1,by omega,by go_num,HN.out.1 _,HN.out.2.1 _,HN.out.2.2 _⟩
           | zero =>
             obtain rfl:K=q:=by omega
             obtain⟨vals,hvl,hvr,hvd⟩:=RVi.out;have hwX:=F6.out.wX;have hwr:Touch No w wr:=F6.out.t.then Ti.out (fun i hi e=>by rcases e with rfl|rfl <;> omega)
             have hvals:vals=(List.range K).map fun q=>Me.at_ (As.getD q []) k:=by
              refine List.ext_getElem? fun j=>?_
              by_cases hj:j<K
              ·have:=hvd j hj
               rw[Lgd,Lge (by omega)]at this;rw[Lge (by omega)];simp[hj]at this ⊢;exact this
              ·rw[Lgn (by omega),Lgn (by simpa using hj)]
             have hvrng:∀v∈vals,-2147483648≤v∧v≤2147483647:=fun v hv=>by
              rw[hvals]at hv;obtain⟨j,hj,rfl⟩:=List.mem_map.1 hv;obtain⟨sa,c,la,d,_,_,hin⟩:=HA.out j (List.mem_range.1 hj);refine hin.rng _ ?_;rw[Me.at_lt (by rw[hin.lm];omega)];exact List.getElem_mem _
             obtain⟨z,hz⟩:∃z,F vals=z:=⟨_,rfl⟩;have hzin:-2147483648≤z∧z≤2147483647:=by rw[← hz];exact HFr.out _
             have C:Hid (∀j,Calls Tryz.prog f #[.slice (some ⟨h,0,none⟩) K K] (wr.drewN j) fun e w'=>e = .returned (.int .i32 z)∧∃m,w'=(wr.drewN j).drewN m):=fun j=>by
              rw[← hz];exact HF.out (wr.drewN j) h vals (hwr.drewN j) hvl hvrng (fun i v hi=>⟨h,0,rfl,by rw[Nat.zero_add];exact((hvr.touch ((Touch.refl No wr).drewN j) id).cell i).trans hi⟩)
             have k2:=(H7.out.1.touch Ti.out (fun e=>by rcases e with e|e <;> omega)).cell 0;have ky:=(F6.out.rowY.touch Ti.out (fun e=>by rcases e with e|e <;> omega)).c1;have cg:=Fld.slot Ri.out (by rw[Hl'.out];omega);have cz:wr.frozen? ⟨g,k,none⟩=false:=Ri.out.soft k
             have hv:(ints .i32 OUT)[k]? = some (.int .i32 z):=by
              rw[ints_at (by rw[Hl.out];omega),HOUT.out,Me.at_map _ (by omega),← hvals,hz]
             have HN:Hid (∀j,Touch (TwoB g h) w6 ((wr.drewN j).setCell ⟨g,k,none⟩ (.int .i32 z))∧Row ((wr.drewN j).setCell ⟨g,k,none⟩ (.int .i32 z)) g 21 (fill (ints .i32 OUT) (.int .i32 0) (k+1))∧∃vals,vals.length=K∧Row ((wr.drewN j).setCell ⟨g,k,none⟩ (.int .i32 z)) h 21 (ints .i32 vals)):=fun j=>by
              refine⟨(Ti.out.drewN j).setCell (p:=⟨g,k,none⟩) (fun _=>Or.inl rfl) _,?_,vals,hvl,?_⟩
              ·have:=(Ri.out.touch ((Touch.refl No wr).drewN j) id).setCell k (.int .i32 z)
               rw[fill_next hv]at this;exact this
              ·exact(hvr.touch ((Touch.refl No wr).drewN j) id).touch (F:=One g) ((Touch.refl (One g) _).setCell (p:=⟨g,k,none⟩) (fun _=>(rfl:g=g)) _) (fun e=>by unfold One at e;omega)
             clear hvr hvd hvals hvrng hz hv hwr;go_wp2_with fail;have hz32:wrap32 z=z:=by unfold wrap32;omega
             have hz32':IntKind.i32.wrap z=z:=IntWalk.i32_in _ (by omega);refine wp_region_quiet_tail 7 (by kernel_rfl) (by kernel_rfl) ?_;simp only[List.take_succ_cons,List.take_zero,List.drop_succ_cons,List.drop_zero];repeat (first|go_big_quiet_step (exact Calls.quiet_of (C.out _))|quiet_step (exact Calls.quiet_of (C.out _)))
             refine wpQuiet_nil ?_;intro _ hw';obtain⟨nq,hw''⟩:=hw';subst hw'';go_wp2
             go_roundg g'
             case measure=>omega
             case rel=>exact⟨k+1,by omega,by go_num,(HN.out _).1,(HN.out _).2.1,(HN.out _).2.2⟩
theorem mathsOf64_in (w:World)(f:FuncId)(hf:∀(args:Array Value) (wx:World),(callFunc f args).run Tryz.prog wx = .ok (.enter f args) wx)(b K n m:Nat)(S:List Nat)(As:List (List Int))(F:List Int→Int)(p1 p2:Nat)(hK:1≤K∧K≤2)(hn:S.length=n)(hm:Me.pr S=m)(ok:Me.Ok S)(hA:Tens w b K n m S As)
  (hF:∀(wx:World) (h:Nat) (vals:List Int),Touch No w wx→vals.length=K→(∀v∈vals,-2147483648≤v∧v≤2147483647)→Rd wx (some ⟨h,0,none⟩) (ints .i64 vals)→
   Calls Tryz.prog f #[.slice (some ⟨h,0,none⟩) K K,.pointer (some ⟨p1,0,none⟩),.pointer (some ⟨p2,0,none⟩)] wx fun e w'=>e = .returned (.int .i64 (F vals))∧∃m,w'=wx.drewN m)
  (hFr:∀vals,-2147483648≤F vals∧F vals≤2147483647) :
  Calls Tryz.prog 199 #[.agg #[.func (.func f) #[] #[.pointer (some ⟨p1,0,none⟩),.pointer (some ⟨p2,0,none⟩)]],.slice (some ⟨b,0,none⟩) K K] w (TOut w S ((List.range m).map fun i=>F ((List.range K).map fun q=>Me.at_ (As.getD q []) i))):=by
 have HA:=Lib.hid hA;have HF:=Lib.hid hF;have HFr:=Lib.hid hFr;have Hn:=Lib.hid hn;have Hm:=Lib.hid hm;have Hok:=Lib.hid ok;obtain⟨hK1,hK2⟩:=hK;obtain⟨OUT,hOUT⟩:∃OUT,OUT=(List.range m).map (fun i=>F ((List.range K).map fun q=>Me.at_ (As.getD q []) i)):=⟨_,rfl⟩;rw[← hOUT];have HOUT:=Lib.hid hOUT;clear hA hF hFr hn hm ok hOUT;go_enter Tryz.func199,Tryz.ntmps199;go_wp2_with fail;obtain⟨w1,hw1⟩:∃w1,w1=(w.alloc (.cells #[.func (.func f) #[] #[.pointer (some ⟨p1,0,none⟩),.pointer (some ⟨p2,0,none⟩)]] 248)).alloc (.cells #[.slice none 0 0,.slice none 0 0] 51):=⟨_,rfl⟩
 have H1:Hid (Touch No w w1∧Row w1 w.heap.size 248 [.func (.func f) #[] #[.pointer (some ⟨p1,0,none⟩),.pointer (some ⟨p2,0,none⟩)]]∧Row w1 (w.heap.size+1) 51 [.slice none 0 0,.slice none 0 0]):=by
  refine⟨by rw[hw1];exact((Touch.refl No w).alloc _).alloc _,by rw[hw1];exact(Row.new w _ _).touch ((Touch.refl No _).alloc _) id,?_⟩;have:=Row.new (w.alloc (.cells #[.func (.func f) #[] #[.pointer (some ⟨p1,0,none⟩),.pointer (some ⟨p2,0,none⟩)]] 248)) 51 #[.slice none 0 0,.slice none 0 0];rw[size_alloc]at this;rw[hw1];exact this
 rw[← hw1];clear hw1
 go_loopg [18] K (fun gh s18 wr=>∃k:Nat,k+gh=K∧s18 = .int .i64 ((k:Nat):Int)∧Hid (Touch No w1 wr))
 case atStart=>exact⟨0,by omega,rfl,Touch.refl _ _⟩
 case round =>
  obtain⟨k,hkg,rfl,T⟩:=hrel;cases gk with
  | succ g' =>
    have hki:(k:Int)<(K:Nat):=by omega
    obtain⟨sa,c,la,d,c0,c1,hin⟩:=HA.out k (by omega);have c0:=(H1.out.1.trans T.out).cell id c0;have c1:=(H1.out.1.trans T.out).cell id c1;have Hin:=Lib.hid (hin.no ((H1.out.1.trans T.out).alloc (.cells #[.slice sa n c,.slice la m d] 51)));have TT:=Lib.hid (T.out.alloc (.cells #[.slice sa n c,.slice la m d] 51));clear hin;go_wp2_with fail;refine(tenCheck_ok Hin.out).mono ?_;rintro e w' ⟨rfl,t⟩;have TN:=Lib.hid (TT.out.trans t);clear c0 c1 t;go_wp2
    go_roundg g'
    case measure=>omega
    case rel=>exact⟨k+1,by omega,by go_num,TN.out⟩
  | zero =>
    obtain rfl:K=k:=by omega
    obtain⟨sa,c,la,d,c0,c1,hin⟩:=HA.out 0 (by omega);have t1:=H1.out.1.trans T.out;have c0:=t1.cell id c0;have Hin:=Lib.hid (hin.no t1);have hK0:(0:Int)<(K:Nat):=by omega
    have H2:Hid (Touch No w wr∧Row wr w.heap.size 248 [.func (.func f) #[] #[.pointer (some ⟨p1,0,none⟩),.pointer (some ⟨p2,0,none⟩)]]∧Row wr (w.heap.size+1) 51 [.slice none 0 0,.slice none 0 0]):=⟨t1,H1.out.2.1.touch T.out id,H1.out.2.2.touch T.out id⟩;clear c1 hin t1 T H1;go_wp2_with fail;refine(tenNew_in wr sa n c S Hin.out.sr Hn.out Hok.out).mono ?_;rintro e w3 ⟨sc,n3,d3,g,m3,rfl,hn3,hm3,hd3,hsr,hsc,hg,hrow,t3⟩;obtain rfl:n3=n:=by rw[← hn3,Hn.out]
    obtain rfl:m3=m:=by rw[← hm3,Hm.out]
    obtain⟨Y,hY⟩:∃Y,Y=w3.heap.size:=⟨_,rfl⟩;obtain⟨w5,hw5⟩:∃w5,w5=w3.alloc (.cells #[.slice sc n3 d3,.slice (some ⟨g,0,none⟩) m3 m3] 51):=⟨_,rfl⟩;have FH0:Hid (Fld w w5 (w.heap.size+1) g Y sc n3 d3 m3 S):=by rw[hw5,hY];exact Fld.make H2.out.1 H2.out.2.2.lt (by omega) Hok.out Hn.out Hm.out hd3 hsr hsc hg hrow t3
    have H5:Hid (Row w5 w.heap.size 248 [.func (.func f) #[] #[.pointer (some ⟨p1,0,none⟩),.pointer (some ⟨p2,0,none⟩)]]∧Row w5 (w.heap.size+1) 51 [.slice none 0 0,.slice none 0 0]):=by
     have t3:Touch No wr w5:=by rw[hw5];exact t3.alloc _
     exact⟨H2.out.2.1.touch t3 id,H2.out.2.2.touch t3 id⟩
    clear hn3 hm3 hd3 hsr hsc hg hrow t3 c0 H2 Hin hK0;go_wp2_with fail;rw[← hw5,← hY];clear hw5 hY
    go_loopg [37] K (fun gh s37 wr=>∃k:Nat,k+gh=K∧s37 = .int .i64 ((k:Nat):Int)∧Hid (Touch No w5 wr))
    case atStart=>exact⟨0,by omega,rfl,Touch.refl _ _⟩
    case round =>
     obtain⟨k,hkg,rfl,T⟩:=hrel;cases gk with
     | succ g' =>
       have hki:(k:Int)<(K:Nat):=by omega
       obtain⟨sa,c,la,d,c0,c1,hin⟩:=HA.out k (by omega);have c0:=(FH0.out.t.trans T.out).cell id c0;have c1:=(FH0.out.t.trans T.out).cell id c1;have hYq:Y<wr.heap.size:=(FH0.out.rowY.touch T.out id).lt;have ky:∀ob:Obj,(wr.alloc ob).cell? ⟨Y,0,none⟩=some (.slice sc n3 d3):=fun ob=>by rw[cell_old _ _ hYq];exact(FH0.out.rowY.touch T.out id).c0
       have Hin:=Lib.hid (hin.no ((FH0.out.t.trans T.out).alloc (.cells #[.slice sa n3 c,.slice la m3 d] 51)));have TT:=Lib.hid (T.out.alloc (.cells #[.slice sa n3 c,.slice la m3 d] 51));clear hin hYq;go_wp2_with fail;have C:=equalI_any (wr.alloc (.cells #[.slice sa n3 c,.slice la m3 d] 51)) sa sc n3 c n3 d3 (Me.zs S) (Me.zs S) Hin.out.srz Hin.out.zn (by rw[Me.ints_zs];exact FH0.out.rd.no TT.out) (by rw[Me.zs_length,Hn.out]) (by have:=Hin.out.n4;omega);rw[decide_eq_true rfl]at C;refine C.mono ?_;rintro e w' ⟨rfl,t⟩;have TN:=Lib.hid (TT.out.trans t);clear c0 c1 t C ky;go_wp2
       go_roundg g'
       case measure=>omega
       case rel=>exact⟨k+1,by omega,by go_num,TN.out⟩
     | zero =>
       obtain rfl:K=k:=by omega
       have hmk:=hmk64 K (by omega);have FH:Hid (Fld w wr (w.heap.size+1) g Y sc n3 d3 m3 S):=FH0.out.no T.out;have H6:Hid (Row wr w.heap.size 248 [.func (.func f) #[] #[.pointer (some ⟨p1,0,none⟩),.pointer (some ⟨p2,0,none⟩)]]∧Row wr (w.heap.size+1) 51 [.slice none 0 0,.slice none 0 0]):=⟨H5.out.1.touch T.out id,H5.out.2.touch T.out id⟩;clear FH0 H5 T;obtain⟨h,hh⟩:∃h,h=wr.heap.size:=⟨_,rfl⟩;have hYh:Y<h:=by rw[hh];exact FH.out.rowY.lt
       have ky:∀ob:Obj,(wr.alloc ob).cell? ⟨Y,1,none⟩=some (.slice (some ⟨g,0,none⟩) m3 m3):=fun ob=>by rw[cell_old _ _ (by rw[← hh];exact hYh)];exact FH.out.rowY.c1
       go_wp2_with fail;clear ky;obtain⟨w6,hw6⟩:∃w6,w6=wr.alloc (.cells (Array.replicate K (Value.int .i64 0)) 2):=⟨_,rfl⟩
       have R6:Hid (Row w6 h 2 (ints .i64 (List.replicate K 0))):=by
        have:=Row.new wr 2 (Array.replicate K (Value.int .i64 0));rw[← hw6,← hh]at this
        show Row _ _ _ _
        simpa[ints]using this
       have t6:Touch No wr w6:=by rw[hw6];exact(Touch.refl No wr).alloc _
       have F6:=Lib.hid (FH.out.no t6);have H7:=Lib.hid (aI (H6.out.1.touch t6 id) (H6.out.2.touch t6 id));rw[← hw6,← hh];clear hw6 hh t6 FH H6;have Hl:=Lib.hid (show OUT.length=m3 by rw[HOUT.out,List.length_map,List.length_range]);have Hl':=Lib.hid (show(ints .i32 OUT).length=m3 by rw[ints_length];exact Hl.out);have Hin':Hid (∀y∈OUT,-2147483648≤y∧y≤2147483647):=by rw[HOUT.out];exact Me.map_in fun i _=>HFr.out _
       have hm4:m3≤4096:=by rw[← Hm.out];exact Hok.out.most
       have hXg:w.heap.size+1<g:=F6.out.Xg;have hgY:g<Y:=F6.out.gY
       go_loopg [55] m3 (fun gh s55 wr=>∃k:Nat,k+gh=m3∧s55 = .int .i64 ((k:Nat):Int)∧Hid (Touch (TwoB g h) w6 wr)∧Hid (Row wr g 21 (fill (ints .i32 OUT) (.int .i32 0) k))∧Hid (∃vals,vals.length=K∧Row wr h 2 (ints .i64 vals)))
       case atStart=>exact⟨0,by omega,rfl,Touch.refl _ _,F6.out.start Hl'.out,_,by simp,R6.out⟩
       case round =>
        obtain⟨k,hkg,rfl,T,R,RV⟩:=hrel;cases gk with
        | zero =>
          obtain rfl:k=m3:=by omega
          have kx:=H7.out.2.touch T.out (fun e=>by rcases e with e|e <;> omega);have hYx:=F6.out.rowY.touch T.out (fun e=>by rcases e with e|e <;> omega);have ky0:=hYx.c0;have ky1:=hYx.c1;have R:=Lib.hid (show Row wr g 21 (ints .i32 OUT) by have:=R.out;rw[fill_all _ _ Hl'.out]at this;exact this);go_wp2_with (refine wpList_store_mid rfl 51 _ _ rfl (w.heap.size+1) 0 51 [.slice none 0 0,.slice none 0 0] kx rfl [.slice sc n3 d3,.slice (some ⟨g,0,none⟩) k k] rfl (by kernel_rfl) (by simp) (by intro v hv;simp at hv;rcases hv with rfl|rfl <;> rfl) ?_);obtain⟨w9,hw9⟩:∃w9,w9=wr.setRow (w.heap.size+1) (splice [.slice none 0 0,.slice none 0 0] 0 [.slice sc n3 d3,.slice (some ⟨g,0,none⟩) k k]).toArray:=⟨_,rfl⟩;have R9:Row w9 (w.heap.size+1) 51 [.slice sc n3 d3,.slice (some ⟨g,0,none⟩) k k]:=by rw[hw9];exact kx.setRow _
          have HN:=Lib.hid (F6.out.done2 T.out hYh R.out Hl.out Hin'.out (show Touch (One (w.heap.size+1)) wr w9 by rw[hw9];exact Touch.setOne _ _ _));have y0:=R9.c0;have y1:=R9.c1;rw[← hw9];clear hw9 kx R9;go_wp2;refine bodyPost_ret (v:=.tuple #[.agg #[.slice sc n3 d3,.slice (some ⟨g,0,none⟩) k k],.int .i64 0]) (by simp[results,Tryz.results199,go_sem,y0,y1]) rfl ?_;exact⟨sc,n3,d3,_,k,k,rfl,HN.out.1,HN.out.2⟩
        | succ g' =>
          have hki:(k:Int)<(m3:Nat):=by omega
          go_wp2_with fail;obtain⟨wo,rfl⟩:∃wo:World,wo=wr:=⟨_,rfl⟩
          go_loopg [60] K (fun gh s60 wr=>∃q:Nat,q+gh=K∧s60 = .int .i64 ((q:Nat):Int)∧Hid (Touch (TwoB g h) w6 wr)∧Hid (Row wr g 21 (fill (ints .i32 OUT) (.int .i32 0) k))∧Hid (∃vals,vals.length=K∧Row wr h 2 (ints .i64 vals)∧∀j,j<q→vals.getD j 0=Me.at_ (As.getD j []) k))
          case atStart=>exact⟨0,by omega,rfl,T.out,R.out,by obtain⟨vals,h1,h2⟩:=RV.out;exact⟨vals,h1,h2,fun j hj=>absurd hj (Nat.not_lt_zero j)⟩⟩
          case round =>
           obtain⟨q,hqg,rfl,Ti,Ri,RVi⟩:=hrel;cases gk with
           | succ g2 =>
             have hqi:(q:Int)<(K:Nat):=by omega
             obtain⟨vals,hvl,hvr,hvd⟩:=RVi.out;obtain⟨sa,c,la,d,c0,c1,hin⟩:=HA.out q (by omega);have hwX:=F6.out.wX;have hwr:Touch No w wr:=F6.out.t.then Ti.out (fun i hi e=>by rcases e with rfl|rfl <;> omega);have c0:=hwr.cell id c0;have c1:=hwr.cell id c1;obtain⟨ga,oa,rfl,ca⟩:=(hin.no hwr).num (k:=k) (by omega);obtain⟨v,hv⟩:∃v,Me.at_ (As.getD q []) k=v:=⟨_,rfl⟩;rw[hv]at ca;have ca':∀ob:Obj,(wr.alloc ob).cell? ⟨ga,oa+k,none⟩=some (.int .i32 v):=fun ob=>by rw[cell_old _ _ (lt_of_cell ca)];exact ca
             have ch':∀ob:Obj,(wr.alloc ob).cell? ⟨h,q,none⟩=some (.int .i64 (vals.getD q 0)):=fun ob=>by rw[cell_old _ _ hvr.lt,hvr.cell];exact ints_get (by omega)
             have cz':∀ob:Obj,(wr.alloc ob).frozen? ⟨h,q,none⟩=false:=fun ob=>by rw[frozen_old _ _ hvr.lt];exact hvr.soft q
             have hlen:=hvr.lt;have HT:∀ob:Obj,Touch (TwoB g h) w6 ((wr.setCell ⟨h,q,none⟩ (.int .i64 v)).alloc ob):=fun ob=>(Ti.out.setCell (p:=⟨h,q,none⟩) (fun _=>Or.inr rfl) _).alloc ob
             have HR:∀ob:Obj,Row ((wr.setCell ⟨h,q,none⟩ (.int .i64 v)).alloc ob) g 21 (fill (ints .i32 OUT) (.int .i32 0) k):=fun ob =>
              (Ri.out.touch (F:=One h) ((Touch.refl (One h) _).setCell (p:=⟨h,q,none⟩) (fun _=>(rfl:h=h)) _) (fun e=>by unfold One at e;omega)).touch ((Touch.refl No _).alloc ob) id
             have HV:∀ob:Obj,∃vals,vals.length=K∧Row ((wr.setCell ⟨h,q,none⟩ (.int .i64 v)).alloc ob) h 2 (ints .i64 vals)∧∀j,j<q+1→vals.getD j 0=Me.at_ (As.getD j []) k:=fun ob=>by
              refine⟨vals.set q v,by simpa using hvl,?_,fun j hj=>?_⟩
              ·have:=(hvr.setCell q (.int .i64 v)).touch ((Touch.refl No _).alloc ob) id
               simpa[ints,List.map_set]using this
              ·by_cases hjq:j=q
               ·subst hjq
                rw[Lgd,List.getElem?_set_self (by omega),hv];rfl
               ·rw[Lgd,List.getElem?_set_ne (by omega),← Lgd]
                exact hvd j (by omega)
             have hvin:-2147483648≤v∧v≤2147483647:=by rw[← hv];refine hin.rng _ ?_;rw[Me.at_lt (by rw[hin.lm];omega)];exact List.getElem_mem _
             have hw64:IntKind.i64.wrap v=v:=IntWalk.i64_in _ (by omega);have HN:=Lib.hid (aI HT (aI HR HV));clear HT HR HV hvr hvd hin hv ca hwr;go_wp2
             go_roundg g2
             case measure=>omega
             case rel=>exact⟨q+1,by omega,by go_num,HN.out.1 _,HN.out.2.1 _,HN.out.2.2 _⟩
           | zero =>
             obtain rfl:K=q:=by omega
             obtain⟨vals,hvl,hvr,hvd⟩:=RVi.out;have hwX:=F6.out.wX;have hwr:Touch No w wr:=F6.out.t.then Ti.out (fun i hi e=>by rcases e with rfl|rfl <;> omega)
             have hvals:vals=(List.range K).map fun q=>Me.at_ (As.getD q []) k:=by
              refine List.ext_getElem? fun j=>?_
              by_cases hj:j<K
              ·have:=hvd j hj
               rw[Lgd,Lge (by omega)]at this;rw[Lge (by omega)];simp[hj]at this ⊢;exact this
              ·rw[Lgn (by omega),Lgn (by simpa using hj)]
             have hvrng:∀v∈vals,-2147483648≤v∧v≤2147483647:=fun v hv=>by
              rw[hvals]at hv;obtain⟨j,hj,rfl⟩:=List.mem_map.1 hv;obtain⟨sa,c,la,d,_,_,hin⟩:=HA.out j (List.mem_range.1 hj);refine hin.rng _ ?_;rw[Me.at_lt (by rw[hin.lm];omega)];exact List.getElem_mem _
             obtain⟨z,hz⟩:∃z,F vals=z:=⟨_,rfl⟩;have hzin:-2147483648≤z∧z≤2147483647:=by rw[← hz];exact HFr.out _
             have C:Hid (∀j,Calls Tryz.prog f #[.slice (some ⟨h,0,none⟩) K K,.pointer (some ⟨p1,0,none⟩),.pointer (some ⟨p2,0,none⟩)] (wr.drewN j) fun e w'=>e = .returned (.int .i64 z)∧∃m,w'=(wr.drewN j).drewN m):=fun j=>by
              rw[← hz];exact HF.out (wr.drewN j) h vals (hwr.drewN j) hvl hvrng (fun i v hi=>⟨h,0,rfl,by rw[Nat.zero_add];exact((hvr.touch ((Touch.refl No wr).drewN j) id).cell i).trans hi⟩)
             have k2:=(H7.out.1.touch Ti.out (fun e=>by rcases e with e|e <;> omega)).cell 0;have ky:=(F6.out.rowY.touch Ti.out (fun e=>by rcases e with e|e <;> omega)).c1;have cg:=Fld.slot Ri.out (by rw[Hl'.out];omega);have cz:wr.frozen? ⟨g,k,none⟩=false:=Ri.out.soft k
             have hv:(ints .i32 OUT)[k]? = some (.int .i32 z):=by
              rw[ints_at (by rw[Hl.out];omega),HOUT.out,Me.at_map _ (by omega),← hvals,hz]
             have HN:Hid (∀j,Touch (TwoB g h) w6 ((wr.drewN j).setCell ⟨g,k,none⟩ (.int .i32 z))∧Row ((wr.drewN j).setCell ⟨g,k,none⟩ (.int .i32 z)) g 21 (fill (ints .i32 OUT) (.int .i32 0) (k+1))∧∃vals,vals.length=K∧Row ((wr.drewN j).setCell ⟨g,k,none⟩ (.int .i32 z)) h 2 (ints .i64 vals)):=fun j=>by
              refine⟨(Ti.out.drewN j).setCell (p:=⟨g,k,none⟩) (fun _=>Or.inl rfl) _,?_,vals,hvl,?_⟩
              ·have:=(Ri.out.touch ((Touch.refl No wr).drewN j) id).setCell k (.int .i32 z)
               rw[fill_next hv]at this;exact this
              ·exact(hvr.touch ((Touch.refl No wr).drewN j) id).touch (F:=One g) ((Touch.refl (One g) _).setCell (p:=⟨g,k,none⟩) (fun _=>(rfl:g=g)) _) (fun e=>by unfold One at e;omega)
             clear hvr hvd hvals hvrng hz hv hwr;go_wp2_with fail;have hz32:wrap32 z=z:=by unfold wrap32;omega
             have hz32':IntKind.i32.wrap z=z:=IntWalk.i32_in _ (by omega);refine wp_region_quiet_tail 8 (by kernel_rfl) (by kernel_rfl) ?_;simp only[List.take_succ_cons,List.take_zero,List.drop_succ_cons,List.drop_zero];repeat (first|go_big_quiet_step (exact Calls.quiet_of (C.out _))|quiet_step (exact Calls.quiet_of (C.out _)))
             refine wpQuiet_nil ?_;intro _ hw';obtain⟨nq,hw''⟩:=hw';subst hw'';go_wp2
             go_roundg g'
             case measure=>omega
             case rel=>exact⟨k+1,by omega,by go_num,(HN.out _).1,(HN.out _).2.1,(HN.out _).2.2⟩
end
end Go.Proofs.YtjlphmmalebgpaaGreat
