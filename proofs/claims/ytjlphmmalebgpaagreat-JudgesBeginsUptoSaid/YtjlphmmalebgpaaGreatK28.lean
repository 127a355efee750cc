/-
  A part of the proof.
-/
import Derived.Test.YtjlphmmalebgpaaGreatK27
set_option linter.unusedSimpArgs false
set_option linter.unusedVariables false
set_option maxHeartbeats 2000000
set_option maxRecDepth 100000
namespace Go.Proofs.YtjlphmmalebgpaaGreat
section
open Go Go.RowKit
def kindC (A:Me.Asks):List Value:=[.int .i64 ((A.least:Nat):Int),.int .i64 ((A.most:Nat):Int),.int .i64 ((A.low:Nat):Int),.int .i64 ((A.high:Nat):Int),.int .i64 ((A.around:Nat):Int),.int .i64 ((A.shaped:Nat):Int)]
def noKindC:List Value:=[.int .i64 0,.int .i64 0,.int .i64 0,.int .i64 0,.int .i64 0,.int .i64 0]
theorem kindWith_in (w:World)(a b:Nat)(lo hi:Nat) :
  Calls Tryz.prog 181 #[.agg #[.int .i64 ((a:Nat):Int),.int .i64 ((b:Nat):Int),.int .i64 0,.int .i64 0,.int .i64 0,.int .i64 0],.int .i64 ((lo:Nat):Int),.int .i64 ((hi:Nat):Int)] w fun e w'=>e = .returned (.agg #[.int .i64 ((a:Nat):Int),.int .i64 ((b:Nat):Int),.int .i64 ((lo:Nat):Int),.int .i64 ((hi:Nat):Int),.int .i64 0,.int .i64 0])∧Touch No w w':=by
 go_enter Tryz.func181,Tryz.ntmps181;go_wp2;refine bodyPost_ret (v:=.agg #[.int .i64 ((a:Nat):Int),.int .i64 ((b:Nat):Int),.int .i64 ((lo:Nat):Int),.int .i64 ((hi:Nat):Int),.int .i64 0,.int .i64 0]) (by simp[results,Tryz.results181,go_sem]) rfl ?_;exact⟨rfl,((Touch.refl No w).alloc _).alloc _⟩
def asK (v:Value):Option (DataW Value × List MemPlace):=some (.held v,[])
def noKind:Value:=.agg noKindC.toArray
theorem keyU8:Maps.Keyed Tryz.prog 53:=Maps.int_keyed Tryz.underlying53
theorem keyOf_u8 {k:Nat}(h:k<256):keyOf Tryz.prog 53 (.int .u8 (k:Nat))=some (.int .u8 (k:Nat)):=Maps.keyOf_int_mk Tryz.underlying53 (by
 simp[Lit.wf,IntKind.min,IntKind.max,IntKind.signed,IntKind.bits];omega)
theorem zeroKind (w:World):(zeroValue 191).run Tryz.prog w = .ok noKind w:=by kernel_rfl
theorem u8_ne {k j:Nat}(h:k≠j):(Lit.int .u8 (k:Nat))≠.int .u8 (j:Nat):=fun e=>h (by injection e with _ e;omega)
def opOf (k:Nat):Nat:=([99,2,4,6,8,12,16,10,18,22,24,26,28,32]:List Nat).getD k 99
theorem opOf_ne {i:Nat}(h:(List.range 14).all (fun k=>opOf k != i)=true)(h9:i≠99)(k:Nat):opOf k≠i:=by
 by_cases hk:k<14
 ·rw[List.all_eq_true]at h
  have:=h k (List.mem_range.2 hk)
  simpa using this
 ·have:opOf k=99:=by
   unfold opOf;rw[Lgd,Lgn (by simp;omega)];rfl
  rw[this];exact fun e=>h9 e.symm
theorem opOf_ne2 {i κ:Nat}(h:(List.range 14).all (fun k=>k==κ||opOf k != i)=true)(h9:i≠99)(k:Nat)(hne:k≠κ):opOf k≠i:=by
 by_cases hk:k<14
 ·rw[List.all_eq_true]at h
  have:=h k (List.mem_range.2 hk)
  simpa[hne]using this
 ·have:opOf k=99:=by
   unfold opOf;rw[Lgd,Lgn (by simp;omega)];rfl
  rw[this];exact fun e=>h9 e.symm
theorem upd_ne {f:Nat→Bool}{i j:Nat}(h:j≠i):upd f i j=f j:=by unfold upd;rw[decide_eq_false h,Bool.or_false]
theorem upd_self {f:Nat→Bool}{i:Nat}:upd f i i=true:=by unfold upd;simp
def kCnt (f:Nat→Bool):Nat:=(f 2).toNat+(f 4).toNat+(f 6).toNat+(f 8).toNat+(f 10).toNat+(f 12).toNat+(f 16).toNat+(f 18).toNat+(f 22).toNat+(f 24).toNat+(f 26).toNat+(f 28).toNat+(f 32).toNat
def KD (f:Nat→Bool)(D:DataW Value):Prop:=Maps.IsMap D∧∀k,k<256→match (if f (opOf k)=true then Me.asks k else none) with
 | some A=>Maps.has D (.int .u8 (k:Nat))=true∧D.atKey (.int .u8 (k:Nat)) (.held noKind) = .held (.agg (kindC A).toArray)
 | none=>Maps.has D (.int .u8 (k:Nat))=false∧D.atKey (.int .u8 (k:Nat)) (.held noKind) = .held noKind
theorem KD.other {f:Nat→Bool}{D:DataW Value}(h:KD f D){i:Nat}(hi:∀k,opOf k≠i):KD (upd f i) D:=⟨h.1,fun k hk=>by
 have:=h.2 k hk;have e:upd f i (opOf k)=f (opOf k):=upd_ne (hi k);rw[e];exact this⟩
theorem KD.put {f:Nat→Bool}{D:DataW Value}(h:KD f D){i κ:Nat}{A:Me.Asks}(hκ:κ<256)(ho:opOf κ=i)(hA:Me.asks κ=some A)(hu:∀k,k≠κ→opOf k≠i):KD (upd f i) (D.put (.int .u8 (κ:Nat)) (.held (.agg (kindC A).toArray))):=by
 have hkey:WideAt.IsKeyLit (.int .u8 (κ:Nat)):=keyU8.key (keyOf_u8 hκ);refine⟨h.1.put _ _,fun k hk=>?_⟩
 by_cases e:k=κ
 ·subst e
  have e1:upd f i (opOf k)=true:=by rw[ho];exact upd_self
  rw[if_pos e1,hA];exact⟨Maps.has_put_same h.1 hkey _,Maps.atKey_put_same h.1 hkey _ _⟩
 ·have:=h.2 k hk
  have e1:upd f i (opOf k)=f (opOf k):=upd_ne (hu k e);rw[e1,Maps.has_put_other (u8_ne e),Maps.atKey_put_other (u8_ne e)];exact this
theorem KD.nil {f:Nat→Bool}(hf:∀k,f (opOf k)=true→Me.asks k=none):KD f (.map []):=⟨⟨[],rfl⟩,fun k hk=>by
 have:(if f (opOf k)=true then Me.asks k else none)=none:=by split
                                                             ·next h=>exact hf k h
                                                             ·rfl
 rw[this];exact⟨rfl,rfl⟩⟩
theorem wp_insert_own {w:World}{o:Oper}{a:Act}{K':Act→World→Prop}{Q:Exit→Act→World→Prop}(m x v:Operand)(hop:o.op=Op.insert 186 m x v)
  (b n:Nat) (D:DataW Value) (hm:a.eval m = .map (some b)) (hown:w.ownsMap Tryz.prog 53 asK b n D) (hn:n<maxLen) (k:Nat) (hk:k<256) (u:Value) (hx:a.eval x = .int .u8 (k:Nat)) (hv:a.eval v=u)
  (hK:∀w',w'.ownsMap Tryz.prog 53 asK b (n+1) (D.put (.int .u8 (k:Nat)) (.held u))→w.grownBy w' (some b)→K' (a.put o.dst undef) w'):Oper.wp Tryz.prog o a w K' Q:=by
 obtain⟨w',hrun,r1,r2⟩:=hown.update keyU8 Tryz.underlying186 hn (keyOf_u8 hk) (show asK u=some (.held u,[]) from rfl);unfold Oper.wp;simp[execOp,hop,hm,hx,hv,hrun,Result.andThen];exact hK _ r1 r2
theorem wpOp_of {P:Program}{ops:Array Oper}{Q:Exit→Act→World→Prop}{i:Nat}{o:Oper}{K:Act→World→Prop}{a:Act}{w:World}(ho:ops[i]? = some o)(hg:o.guard=none)(h:∀K':Act→World→Prop,(∀a w,K a w→K' a w)→Oper.wp P o a w K' Q):wpOp P ops Q i K a w:=by
 unfold wpOp;rw[ho];simp only[Region.wanted,hg];exact Or.inl (h K fun _ _ h=>h)
def kAct (f:Nat→Bool)(B1 B2 B4 B5 g:Nat)(x6 x7 x8 x9 x10 x11 x12 x13 x14 x15:Value):Act :=
 {tmps:=#[cond (f 34) (.map (some g)) (.map none),.pointer (some ⟨B1,0,none⟩),.pointer (some ⟨B2,0,none⟩),.func (.func 181) #[] #[],.pointer (some ⟨B4,0,none⟩),.pointer (some ⟨B5,0,none⟩),x6,x7,x8,x9,x10,x11,x12,x13,x14,x15,cond (f 0) (.map (some g)) (undef),cond (f 1) (.agg #[.int .i64 0,.int .i64 0,.int .i64 0,.int .i64 0,.int .i64 0,.int .i64 1]) (undef),cond (f 3) (.agg #[.int .i64 0,.int .i64 0,.int .i64 0,.int .i64 0,.int .i64 0,.int .i64 1]) (undef),cond (f 5) (.agg #[.int .i64 2,.int .i64 2,.int .i64 0,.int .i64 0,.int .i64 0,.int .i64 0]) (undef),cond (f 7) (.agg #[.int .i64 2,.int .i64 2,.int .i64 0,.int .i64 0,.int .i64 0,.int .i64 0]) (undef),cond (f 9) (.agg #[.int .i64 2,.int .i64 2,.int .i64 0,.int .i64 0,.int .i64 0,.int .i64 0]) (undef),cond (f 11) (.agg #[.int .i64 1,.int .i64 1,.int .i64 0,.int .i64 0,.int .i64 0,.int .i64 0]) (undef),cond (f 13) (.func (.func 181) #[] #[]) (undef),cond (f 14) (.agg #[.int .i64 1,.int .i64 1,.int .i64 0,.int .i64 0,.int .i64 0,.int .i64 0]) (undef),cond (f 15) (.agg #[.int .i64 1,.int .i64 1,.int .i64 0,.int .i64 31,.int .i64 0,.int .i64 0]) (undef),cond (f 17) (.agg #[.int .i64 2,.int .i64 2,.int .i64 1,.int .i64 8,.int .i64 8,.int .i64 0]) (undef),cond (f 19) (.func (.func 181) #[] #[]) (undef),cond (f 20) (.agg #[.int .i64 1,.int .i64 1,.int .i64 0,.int .i64 0,.int .i64 0,.int .i64 0]) (undef),cond (f 21) (.agg #[.int .i64 1,.int .i64 1,.int .i64 1,.int .i64 64,.int .i64 0,.int .i64 0]) (undef),cond (f 23) (.agg #[.int .i64 1,.int .i64 1,.int .i64 0,.int .i64 0,.int .i64 0,.int .i64 1]) (undef),cond (f 25) (.agg #[.int .i64 1,.int .i64 1,.int .i64 0,.int .i64 0,.int .i64 0,.int .i64 2]) (undef),cond (f 27) (.agg #[.int .i64 1,.int .i64 4,.int .i64 0,.int .i64 3,.int .i64 0,.int .i64 0]) (undef),cond (f 29) (.func (.func 181) #[] #[]) (undef),cond (f 30) (.agg #[.int .i64 1,.int .i64 1,.int .i64 0,.int .i64 0,.int .i64 0,.int .i64 0]) (undef),cond (f 31) (.agg #[.int .i64 1,.int .i64 1,.int .i64 0,.int .i64 3,.int .i64 0,.int .i64 0]) (undef),cond (f 33) (.map (some g)) (undef)],defers:=[]}
structure KBox (w:World) (B1 B2 B4 B5:Nat):Prop where
 b1:Row w B1 191 [.int .i64 1,.int .i64 1,.int .i64 0,.int .i64 0,.int .i64 0,.int .i64 0]
 b2:Row w B2 191 [.int .i64 2,.int .i64 2,.int .i64 0,.int .i64 0,.int .i64 0,.int .i64 0]
 b4:Row w B4 191 [.int .i64 2,.int .i64 2,.int .i64 1,.int .i64 8,.int .i64 8,.int .i64 0]
 b5:Row w B5 191 [.int .i64 1,.int .i64 4,.int .i64 0,.int .i64 3,.int .i64 0,.int .i64 0]
theorem KBox.no {w w':World}{B1 B2 B4 B5:Nat}(h:KBox w B1 B2 B4 B5)(t:Touch No w w'):KBox w' B1 B2 B4 B5:=⟨h.b1.touch t id,h.b2.touch t id,h.b4.touch t id,h.b5.touch t id⟩
structure KWI (w5:World) (f:Nat→Bool) (g:Nat) (W:World):Prop where
 no:Touch No w5 W
 map:f 0=true→w5.heap.size≤g∧∃D n,n≤kCnt f∧W.ownsMap Tryz.prog 53 asK g n D∧KD f D
 low:f 0=false→∀k,f (opOf k)=true→Me.asks k=none
 hi:(f 33=true→f 0=true)∧(f 34=true→f 0=true)
theorem kCnt_upd (f:Nat→Bool)(i:Nat):kCnt f≤kCnt (upd f i):=by
 have h:∀j,(f j).toNat≤(upd f i j).toNat:=fun j=>by unfold upd;cases f j <;> simp
 unfold kCnt;have h2:=h 2;have h4:=h 4;have h6:=h 6;have h8:=h 8;have h10:=h 10;have h12:=h 12;have h16:=h 16;have h18:=h 18;have h22:=h 22;have h24:=h 24;have h26:=h 26;have h28:=h 28;have h32:=h 32;omega
theorem kCnt_le (f:Nat→Bool):kCnt f≤13:=by
 have h:∀j,(f j).toNat≤1:=fun j=>by cases f j <;> simp
 unfold kCnt;have h2:=h 2;have h4:=h 4;have h6:=h 6;have h8:=h 8;have h10:=h 10;have h12:=h 12;have h16:=h 16;have h18:=h 18;have h22:=h 22;have h24:=h 24;have h26:=h 26;have h28:=h 28;have h32:=h 32;omega
theorem ownsMap_no {w w':World}{b n:Nat}{D:DataW Value}(h:w.ownsMap Tryz.prog 53 asK b n D)(t:Touch No w w'):w'.ownsMap Tryz.prog 53 asK b n D:=by
 have hlt:=h.lt;obtain⟨es,clock,hb,r⟩:=h;exact⟨es,clock,by rw[t.block b hlt id];exact hb,r⟩
theorem upd_hi {f:Nat→Bool}{i:Nat}(h:(f 33=true→f 0=true)∧(f 34=true→f 0=true))(h33:i=33∨i=34→f 0=true):(upd f i 33=true→f 0=true)∧(upd f i 34=true→f 0=true):=by
 refine⟨fun k=>?_,fun k=>?_⟩
 ·by_cases e:i=33
  ·exact h33 (Or.inl e)
  ·rw[upd_ne fun e2=>e e2.symm]at k;exact h.1 k
 ·by_cases e:i=34
  ·exact h33 (Or.inr e)
  ·rw[upd_ne fun e2=>e e2.symm]at k;exact h.2 k
theorem KWI.other {w5 W W':World}{f:Nat→Bool}{g i:Nat}(h:KWI w5 f g W)(t:Touch No W W')(hi:∀k,opOf k≠i)(h0:i≠0)(h33:i=33∨i=34→f 0=true):KWI w5 (upd f i) g W':=by
 have e0:upd f i 0=f 0:=upd_ne fun e=>h0 e.symm
 refine⟨h.no.trans t,fun hf=>?_,fun hf k hk=>?_,by rw[e0];exact upd_hi h.hi h33⟩
 ·rw[e0]at hf
  obtain⟨h1,D,n,h2,h3,h4⟩:=h.map hf;exact⟨h1,D,n,Nat.le_trans h2 (kCnt_upd f i),ownsMap_no h3 t,h4.other hi⟩
 ·rw[e0]at hf
  have e:upd f i (opOf k)=f (opOf k):=upd_ne (hi k);rw[e]at hk;exact h.low hf k hk
theorem KWI.made {w5 W:World}{f:Nat→Bool}{g:Nat}(h:KWI w5 f g W)(hf:f 0=false):KWI w5 (upd f 0) W.heap.size (W.alloc (.map #[] 0)):=by
 refine⟨h.no.alloc _,fun _=>⟨h.no.size,.map [],0,Nat.zero_le _,World.ownsMap_made W _ _ _,KD.nil fun k hk=>?_⟩,fun hf2=>?_,⟨fun _=>upd_self,fun _=>upd_self⟩⟩
 ·have e:upd f 0 (opOf k)=f (opOf k):=upd_ne (opOf_ne (by decide) (by decide) k)
  rw[e]at hk;exact h.low hf k hk
 ·have:upd f 0 0=true:=upd_self
  rw[this]at hf2;cases hf2
theorem KWI.put {w5 W W':World}{f:Nat→Bool}{g n i κ:Nat}{D:DataW Value}{A:Me.Asks}(h:KWI w5 f g W)(hf:f 0=true)(hgd:w5.heap.size≤g)(hKD:KD f D)(hn:n≤kCnt f)(hm:W'.ownsMap Tryz.prog 53 asK g (n+1) (D.put (.int .u8 (κ:Nat)) (.held (.agg (kindC A).toArray))))(hg:W.grownBy W' (some g))(hi0:i≠0)(hκ:κ<256)(ho:opOf κ=i)(hA:Me.asks κ=some A)(hu:∀k,k≠κ→opOf k≠i)(hc:kCnt (upd f i)=kCnt f+1):KWI w5 (upd f i) g W':=by
 have e0:upd f i 0=f 0:=upd_ne fun e=>hi0 e.symm
 refine⟨h.no.grown hg (fun k e hk=>by cases e;omega),fun _=>⟨hgd,_,n+1,by omega,hm,hKD.put hκ ho hA hu⟩,fun hf2=>?_,by rw[e0];exact⟨fun _=>hf,fun _=>hf⟩⟩;rw[e0,hf]at hf2;cases hf2
def KindsAt (w:World)(b:Nat):Prop:=∃D n,w.ownsMap Tryz.prog 53 asK b n D∧∀k,k<256→match Me.asks k with
 | some A=>Maps.has D (.int .u8 (k:Nat))=true∧D.atKey (.int .u8 (k:Nat)) (.held noKind) = .held (.agg (kindC A).toArray)
 | none=>Maps.has D (.int .u8 (k:Nat))=false∧D.atKey (.int .u8 (k:Nat)) (.held noKind) = .held noKind
theorem KindsAt.no {w w':World}{b:Nat}(h:KindsAt w b)(t:Touch No w w'):KindsAt w' b:=by
 obtain⟨D,n,h1,h2⟩:=h;exact⟨D,n,ownsMap_no h1 t,h2⟩
theorem opOf_lt {k:Nat}(h:Me.asks k≠none):opOf k<35:=by
 by_cases hk:1≤k∧k≤13
 ·have hc:k=1∨k=2∨k=3∨k=4∨k=5∨k=6∨k=7∨k=8∨k=9∨k=10∨k=11∨k=12∨k=13:=by omega
  rcases hc with rfl|rfl|rfl|rfl|rfl|rfl|rfl|rfl|rfl|rfl|rfl|rfl|rfl <;> decide
 ·exact absurd (Me.asks_none hk) h
theorem kinds_in (w:World):Calls Tryz.prog 130 #[] w fun e w'=>(∃b,e = .returned (.map (some b))∧KindsAt w' b)∧Touch No w w':=by
 go_enter Tryz.func130,Tryz.ntmps130;have hC:∀(wx:World) (a b lo hi:Nat),Calls Tryz.prog 181 #[.agg #[.int .i64 ((a:Nat):Int),.int .i64 ((b:Nat):Int),.int .i64 0,.int .i64 0,.int .i64 0,.int .i64 0],.int .i64 ((lo:Nat):Int),.int .i64 ((hi:Nat):Int)] wx fun e w'=>e = .returned (.agg #[.int .i64 ((a:Nat):Int),.int .i64 ((b:Nat):Int),.int .i64 ((lo:Nat):Int),.int .i64 ((hi:Nat):Int),.int .i64 0,.int .i64 0])∧Touch No wx w':=kindWith_in
 have HC:=Lib.hid hC;clear hC;obtain⟨w0,hw0,t0,b1,b2,hsz⟩:=two_rows w 191 #[.int .i64 1,.int .i64 1,.int .i64 0,.int .i64 0,.int .i64 0,.int .i64 0] #[.int .i64 2,.int .i64 2,.int .i64 0,.int .i64 0,.int .i64 0,.int .i64 0];have H0:=Lib.hid (aI t0 (aI b1 b2));go_upto_region 2 with fail;rw[← hw0];have q0:=b2.cell 0;have q1:=b2.cell 1;have q2:=b2.cell 2;have q3:=b2.cell 3;have q4:=b2.cell 4;have q5:=b2.cell 5;simp only[Lz0,Ls0]at q0 q1 q2 q3 q4 q5;clear hw0 t0 b1 b2;go_wp2_with fail;refine(HC.out _ 2 2 1 8).mono ?_;rintro e w2 ⟨rfl,t2⟩;clear q0 q1 q2 q3 q4 q5;go_upto_region 5 with fail;obtain⟨w3,hw3,t3,b4⟩:=box_row w2 [.int .i64 2,.int .i64 2,.int .i64 1,.int .i64 8,.int .i64 8,.int .i64 0] 191;rw[← hw3];have T3:Touch No w0 w3:=t2.trans t3;have H3:=Lib.hid (aI (H0.out.1.trans T3) (aI (H0.out.2.1.touch T3 id) (aI (H0.out.2.2.touch T3 id) b4)));have q0:=H3.out.2.1.cell 0;have q1:=H3.out.2.1.cell 1;have q2:=H3.out.2.1.cell 2;have q3:=H3.out.2.1.cell 3;have q4:=H3.out.2.1.cell 4;have q5:=H3.out.2.1.cell 5;simp only[Lz0,Ls0]at q0 q1 q2 q3 q4 q5;obtain⟨B1,hB1⟩:∃B1,B1=w.heap.size:=⟨_,rfl⟩;obtain⟨B2,hB2⟩:∃B2,B2=w.heap.size+1:=⟨_,rfl⟩;obtain⟨B4,hB4⟩:∃B4,B4=w2.heap.size:=⟨_,rfl⟩;rw[← hB2]at H3 ⊢;rw[← hB1]at H3 q0 q1 q2 q3 q4 q5 ⊢;rw[← hB4]at H3 ⊢;clear hw3 t3 b4 T3 t2 H0 hB1 hB2 hB4 hsz;go_wp2_with fail;refine(HC.out _ 1 1 0 3).mono ?_;rintro e w4 ⟨rfl,t4⟩;clear q0 q1 q2 q3 q4 q5;go_upto_region 7 with fail;obtain⟨w5,hw5,t5,b5⟩:=box_row w4 [.int .i64 1,.int .i64 4,.int .i64 0,.int .i64 3,.int .i64 0,.int .i64 0] 191;rw[← hw5];have T5:Touch No w3 w5:=t4.trans t5;have HT:Hid (Touch No w w5):=H3.out.1.trans T5;obtain⟨B5,hB5⟩:∃B5,B5=w4.heap.size:=⟨_,rfl⟩;rw[← hB5]at b5 ⊢;have hBX:Hid (KBox w5 B1 B2 B4 B5):=⟨H3.out.2.1.touch T5 id,H3.out.2.2.1.touch T5 id,H3.out.2.2.2.touch T5 id,b5⟩;clear hw5 t5 b5 T5 t4 H3 hB5;refine wp_region_inv (by kernel_rfl) (fun f a W=>∃g,a=kAct f B1 B2 B4 B5 g _ _ _ _ _ _ _ _ _ _∧KWI w5 f g W) (acyclic_of (by kernel_rfl)) ⟨0,rfl,(Touch.refl No w5).drew,fun h=>(by cases h),fun _ k h=>(by cases h),⟨fun h=>(by cases h),fun h=>(by cases h)⟩⟩ ?hstep ?hend
 case hend =>
  rintro f a W hall ⟨g,rfl,hW⟩;obtain⟨hg0,D,n,hn,hown,hKD⟩:=hW.map (hall 0 (by decide))
  have HE:Hid (KindsAt W g∧Touch No w W):=⟨⟨D,n,hown,fun k hk=>by
   have h1:=hKD.2 k hk
   by_cases ha:Me.asks k=none
   ·rw[ha]at h1 ⊢
    simp only[ite_self]at h1;exact h1
   ·rw[if_pos (hall _ (opOf_lt ha))]at h1
    exact h1⟩,HT.out.trans hW.no⟩
  have h34:=hall 34 (by decide);clear hown hKD hW hall;simp only[kAct,h34];go_wp2;go_ret;exact⟨⟨g,rfl,HE.out.1⟩,HE.out.2⟩
 case hstep =>
  rintro f a W i o ho hf hall ⟨g,rfl,hW⟩;have hi:i<35:=(Array.getElem?_eq_some_iff.1 ho).1
  match i,hi with
  | 0,_ =>
    obtain rfl:=Option.some.inj (show some _=some o from ho);refine wpOp_of (i:=0) rfl rfl fun K' hK=>?_
    unfold kAct;go_simp
    have e33:f 33=false:=by cases h:f 33 with
     | false=>rfl
     | true=>exact absurd (hW.hi.1 h) (by rw[hf];decide)
    have e34:f 34=false:=by cases h:f 34 with
     | false=>rfl
     | true=>exact absurd (hW.hi.2 h) (by rw[hf];decide)
    refine hK _ _ ⟨W.heap.size,?_,hW.made hf⟩;simp[kAct,upd,Act.put,e33,e34]
  | 1,_ =>
    obtain rfl:=Option.some.inj (show some _=some o from ho);refine wpOp_of (i:=1) rfl rfl fun K' hK=>?_
    unfold kAct;go_simp;refine hK _ _ ⟨g,?_,hW.other (Touch.refl No W) (by exact opOf_ne (by decide) (by decide)) (by decide) (fun h=>by omega)⟩;simp[kAct,upd,Act.put]
  | 2,_ =>
    obtain rfl:=Option.some.inj (show some _=some o from ho);have d0:f 0=true:=hall ⟨0,.data⟩ (by simp) rfl;have d1:f 1=true:=hall ⟨1,.data⟩ (by simp) rfl;obtain⟨hg0,D,n,hn,hown,hKD⟩:=hW.map d0;refine wpOp_of (i:=2) rfl rfl fun K' hK=>?_
    refine wp_insert_own (.tmp 16) (.const (.int .u8 1)) (.tmp 17) rfl g n D (by simp[Act.eval,kAct,d0]) hown (by have:=kCnt_le f;unfold maxLen;omega) 1 (by decide) (.agg (kindC ⟨0,0,0,0,0,1⟩).toArray) rfl (by simp[Act.eval,kAct,d1,kindC]) fun w' h1 h2=>?_
    refine hK _ _ ⟨g,?_,hW.put d0 hg0 hKD hn h1 h2 (by decide) (by decide) rfl rfl (opOf_ne2 (by decide) (by decide)) (by simp[kCnt,upd,hf] <;> omega)⟩;simp[kAct,upd,Act.put]
  | 3,_ =>
    obtain rfl:=Option.some.inj (show some _=some o from ho);refine wpOp_of (i:=3) rfl rfl fun K' hK=>?_
    unfold kAct;go_simp;refine hK _ _ ⟨g,?_,hW.other (Touch.refl No W) (by exact opOf_ne (by decide) (by decide)) (by decide) (fun h=>by omega)⟩;simp[kAct,upd,Act.put]
  | 4,_ =>
    obtain rfl:=Option.some.inj (show some _=some o from ho);have d0:f 0=true:=hall ⟨0,.data⟩ (by simp) rfl;have d3:f 3=true:=hall ⟨3,.data⟩ (by simp) rfl;obtain⟨hg0,D,n,hn,hown,hKD⟩:=hW.map d0;refine wpOp_of (i:=4) rfl rfl fun K' hK=>?_
    refine wp_insert_own (.tmp 16) (.const (.int .u8 2)) (.tmp 18) rfl g n D (by simp[Act.eval,kAct,d0]) hown (by have:=kCnt_le f;unfold maxLen;omega) 2 (by decide) (.agg (kindC ⟨0,0,0,0,0,1⟩).toArray) rfl (by simp[Act.eval,kAct,d3,kindC]) fun w' h1 h2=>?_
    refine hK _ _ ⟨g,?_,hW.put d0 hg0 hKD hn h1 h2 (by decide) (by decide) rfl rfl (opOf_ne2 (by decide) (by decide)) (by simp[kCnt,upd,hf] <;> omega)⟩;simp[kAct,upd,Act.put]
  | 5,_ =>
    obtain rfl:=Option.some.inj (show some _=some o from ho);have hb:=hBX.out.no hW.no;have c0:=hb.b2.cell 0;have c1:=hb.b2.cell 1;have c2:=hb.b2.cell 2;have c3:=hb.b2.cell 3;have c4:=hb.b2.cell 4;have c5:=hb.b2.cell 5;simp only[Lz0,Ls0]at c0 c1 c2 c3 c4 c5;clear hb;refine wpOp_of (i:=5) rfl rfl fun K' hK=>?_
    unfold kAct;go_simp;refine hK _ _ ⟨g,?_,hW.other (Touch.refl No W) (by exact opOf_ne (by decide) (by decide)) (by decide) (fun h=>by omega)⟩;simp[kAct,upd,Act.put]
  | 6,_ =>
    obtain rfl:=Option.some.inj (show some _=some o from ho);have d0:f 0=true:=hall ⟨0,.data⟩ (by simp) rfl;have d5:f 5=true:=hall ⟨5,.data⟩ (by simp) rfl;obtain⟨hg0,D,n,hn,hown,hKD⟩:=hW.map d0;refine wpOp_of (i:=6) rfl rfl fun K' hK=>?_
    refine wp_insert_own (.tmp 16) (.const (.int .u8 3)) (.tmp 19) rfl g n D (by simp[Act.eval,kAct,d0]) hown (by have:=kCnt_le f;unfold maxLen;omega) 3 (by decide) (.agg (kindC ⟨2,2,0,0,0,0⟩).toArray) rfl (by simp[Act.eval,kAct,d5,kindC]) fun w' h1 h2=>?_
    refine hK _ _ ⟨g,?_,hW.put d0 hg0 hKD hn h1 h2 (by decide) (by decide) rfl rfl (opOf_ne2 (by decide) (by decide)) (by simp[kCnt,upd,hf] <;> omega)⟩;simp[kAct,upd,Act.put]
  | 7,_ =>
    obtain rfl:=Option.some.inj (show some _=some o from ho);have hb:=hBX.out.no hW.no;have c0:=hb.b2.cell 0;have c1:=hb.b2.cell 1;have c2:=hb.b2.cell 2;have c3:=hb.b2.cell 3;have c4:=hb.b2.cell 4;have c5:=hb.b2.cell 5;simp only[Lz0,Ls0]at c0 c1 c2 c3 c4 c5;clear hb;refine wpOp_of (i:=7) rfl rfl fun K' hK=>?_
    unfold kAct;go_simp;refine hK _ _ ⟨g,?_,hW.other (Touch.refl No W) (by exact opOf_ne (by decide) (by decide)) (by decide) (fun h=>by omega)⟩;simp[kAct,upd,Act.put]
  | 8,_ =>
    obtain rfl:=Option.some.inj (show some _=some o from ho);have d0:f 0=true:=hall ⟨0,.data⟩ (by simp) rfl;have d7:f 7=true:=hall ⟨7,.data⟩ (by simp) rfl;obtain⟨hg0,D,n,hn,hown,hKD⟩:=hW.map d0;refine wpOp_of (i:=8) rfl rfl fun K' hK=>?_
    refine wp_insert_own (.tmp 16) (.const (.int .u8 4)) (.tmp 20) rfl g n D (by simp[Act.eval,kAct,d0]) hown (by have:=kCnt_le f;unfold maxLen;omega) 4 (by decide) (.agg (kindC ⟨2,2,0,0,0,0⟩).toArray) rfl (by simp[Act.eval,kAct,d7,kindC]) fun w' h1 h2=>?_
    refine hK _ _ ⟨g,?_,hW.put d0 hg0 hKD hn h1 h2 (by decide) (by decide) rfl rfl (opOf_ne2 (by decide) (by decide)) (by simp[kCnt,upd,hf] <;> omega)⟩;simp[kAct,upd,Act.put]
  | 9,_ =>
    obtain rfl:=Option.some.inj (show some _=some o from ho);have hb:=hBX.out.no hW.no;have c0:=hb.b2.cell 0;have c1:=hb.b2.cell 1;have c2:=hb.b2.cell 2;have c3:=hb.b2.cell 3;have c4:=hb.b2.cell 4;have c5:=hb.b2.cell 5;simp only[Lz0,Ls0]at c0 c1 c2 c3 c4 c5;clear hb;refine wpOp_of (i:=9) rfl rfl fun K' hK=>?_
    unfold kAct;go_simp;refine hK _ _ ⟨g,?_,hW.other (Touch.refl No W) (by exact opOf_ne (by decide) (by decide)) (by decide) (fun h=>by omega)⟩;simp[kAct,upd,Act.put]
  | 10,_ =>
    obtain rfl:=Option.some.inj (show some _=some o from ho);have d0:f 0=true:=hall ⟨0,.data⟩ (by simp) rfl;have d9:f 9=true:=hall ⟨9,.data⟩ (by simp) rfl;obtain⟨hg0,D,n,hn,hown,hKD⟩:=hW.map d0;refine wpOp_of (i:=10) rfl rfl fun K' hK=>?_
    refine wp_insert_own (.tmp 16) (.const (.int .u8 7)) (.tmp 21) rfl g n D (by simp[Act.eval,kAct,d0]) hown (by have:=kCnt_le f;unfold maxLen;omega) 7 (by decide) (.agg (kindC ⟨2,2,0,0,0,0⟩).toArray) rfl (by simp[Act.eval,kAct,d9,kindC]) fun w' h1 h2=>?_
    refine hK _ _ ⟨g,?_,hW.put d0 hg0 hKD hn h1 h2 (by decide) (by decide) rfl rfl (opOf_ne2 (by decide) (by decide)) (by simp[kCnt,upd,hf] <;> omega)⟩;simp[kAct,upd,Act.put]
  | 11,_ =>
    obtain rfl:=Option.some.inj (show some _=some o from ho);have hb:=hBX.out.no hW.no;have c0:=hb.b1.cell 0;have c1:=hb.b1.cell 1;have c2:=hb.b1.cell 2;have c3:=hb.b1.cell 3;have c4:=hb.b1.cell 4;have c5:=hb.b1.cell 5;simp only[Lz0,Ls0]at c0 c1 c2 c3 c4 c5;clear hb;refine wpOp_of (i:=11) rfl rfl fun K' hK=>?_
    unfold kAct;go_simp;refine hK _ _ ⟨g,?_,hW.other (Touch.refl No W) (by exact opOf_ne (by decide) (by decide)) (by decide) (fun h=>by omega)⟩;simp[kAct,upd,Act.put]
  | 12,_ =>
    obtain rfl:=Option.some.inj (show some _=some o from ho);have d0:f 0=true:=hall ⟨0,.data⟩ (by simp) rfl;have d11:f 11=true:=hall ⟨11,.data⟩ (by simp) rfl;obtain⟨hg0,D,n,hn,hown,hKD⟩:=hW.map d0;refine wpOp_of (i:=12) rfl rfl fun K' hK=>?_
    refine wp_insert_own (.tmp 16) (.const (.int .u8 5)) (.tmp 22) rfl g n D (by simp[Act.eval,kAct,d0]) hown (by have:=kCnt_le f;unfold maxLen;omega) 5 (by decide) (.agg (kindC ⟨1,1,0,0,0,0⟩).toArray) rfl (by simp[Act.eval,kAct,d11,kindC]) fun w' h1 h2=>?_
    refine hK _ _ ⟨g,?_,hW.put d0 hg0 hKD hn h1 h2 (by decide) (by decide) rfl rfl (opOf_ne2 (by decide) (by decide)) (by simp[kCnt,upd,hf] <;> omega)⟩;simp[kAct,upd,Act.put]
  | 13,_ =>
    obtain rfl:=Option.some.inj (show some _=some o from ho);refine wpOp_of (i:=13) rfl rfl fun K' hK=>?_
    unfold kAct;go_simp;refine hK _ _ ⟨g,?_,hW.other (Touch.refl No W) (by exact opOf_ne (by decide) (by decide)) (by decide) (fun h=>by omega)⟩;simp[kAct,upd,Act.put]
  | 14,_ =>
    obtain rfl:=Option.some.inj (show some _=some o from ho);have hb:=hBX.out.no hW.no;have c0:=hb.b1.cell 0;have c1:=hb.b1.cell 1;have c2:=hb.b1.cell 2;have c3:=hb.b1.cell 3;have c4:=hb.b1.cell 4;have c5:=hb.b1.cell 5;simp only[Lz0,Ls0]at c0 c1 c2 c3 c4 c5;clear hb;refine wpOp_of (i:=14) rfl rfl fun K' hK=>?_
    unfold kAct;go_simp;refine hK _ _ ⟨g,?_,hW.other (Touch.refl No W) (by exact opOf_ne (by decide) (by decide)) (by decide) (fun h=>by omega)⟩;simp[kAct,upd,Act.put]
  | 15,_ =>
    obtain rfl:=Option.some.inj (show some _=some o from ho);have d13:f 13=true:=hall ⟨13,.data⟩ (by simp) rfl;have d14:f 14=true:=hall ⟨14,.data⟩ (by simp) rfl;have C:=HC.out W 1 1 0 31;refine wpOp_of (i:=15) rfl rfl fun K' hK=>?_
    unfold kAct;go_simp;refine C.mono ?_;rintro e w' ⟨rfl,t⟩;refine hK _ _ ⟨g,?_,hW.other t (by exact opOf_ne (by decide) (by decide)) (by decide) (fun h=>by omega)⟩;simp[kAct,upd,Act.put,d13,d14]
  | 16,_ =>
    obtain rfl:=Option.some.inj (show some _=some o from ho);have d0:f 0=true:=hall ⟨0,.data⟩ (by simp) rfl;have d15:f 15=true:=hall ⟨15,.data⟩ (by simp) rfl;obtain⟨hg0,D,n,hn,hown,hKD⟩:=hW.map d0;refine wpOp_of (i:=16) rfl rfl fun K' hK=>?_
    refine wp_insert_own (.tmp 16) (.const (.int .u8 6)) (.tmp 25) rfl g n D (by simp[Act.eval,kAct,d0]) hown (by have:=kCnt_le f;unfold maxLen;omega) 6 (by decide) (.agg (kindC ⟨1,1,0,31,0,0⟩).toArray) rfl (by simp[Act.eval,kAct,d15,kindC]) fun w' h1 h2=>?_
    refine hK _ _ ⟨g,?_,hW.put d0 hg0 hKD hn h1 h2 (by decide) (by decide) rfl rfl (opOf_ne2 (by decide) (by decide)) (by simp[kCnt,upd,hf] <;> omega)⟩;simp[kAct,upd,Act.put]
  | 17,_ =>
    obtain rfl:=Option.some.inj (show some _=some o from ho);have hb:=hBX.out.no hW.no;have c0:=hb.b4.cell 0;have c1:=hb.b4.cell 1;have c2:=hb.b4.cell 2;have c3:=hb.b4.cell 3;have c4:=hb.b4.cell 4;have c5:=hb.b4.cell 5;simp only[Lz0,Ls0]at c0 c1 c2 c3 c4 c5;clear hb;refine wpOp_of (i:=17) rfl rfl fun K' hK=>?_
    unfold kAct;go_simp;refine hK _ _ ⟨g,?_,hW.other (Touch.refl No W) (by exact opOf_ne (by decide) (by decide)) (by decide) (fun h=>by omega)⟩;simp[kAct,upd,Act.put]
  | 18,_ =>
    obtain rfl:=Option.some.inj (show some _=some o from ho);have d0:f 0=true:=hall ⟨0,.data⟩ (by simp) rfl;have d17:f 17=true:=hall ⟨17,.data⟩ (by simp) rfl;obtain⟨hg0,D,n,hn,hown,hKD⟩:=hW.map d0;refine wpOp_of (i:=18) rfl rfl fun K' hK=>?_
    refine wp_insert_own (.tmp 16) (.const (.int .u8 8)) (.tmp 26) rfl g n D (by simp[Act.eval,kAct,d0]) hown (by have:=kCnt_le f;unfold maxLen;omega) 8 (by decide) (.agg (kindC ⟨2,2,1,8,8,0⟩).toArray) rfl (by simp[Act.eval,kAct,d17,kindC]) fun w' h1 h2=>?_
    refine hK _ _ ⟨g,?_,hW.put d0 hg0 hKD hn h1 h2 (by decide) (by decide) rfl rfl (opOf_ne2 (by decide) (by decide)) (by simp[kCnt,upd,hf] <;> omega)⟩;simp[kAct,upd,Act.put]
  | 19,_ =>
    obtain rfl:=Option.some.inj (show some _=some o from ho);refine wpOp_of (i:=19) rfl rfl fun K' hK=>?_
    unfold kAct;go_simp;refine hK _ _ ⟨g,?_,hW.other (Touch.refl No W) (by exact opOf_ne (by decide) (by decide)) (by decide) (fun h=>by omega)⟩;simp[kAct,upd,Act.put]
  | 20,_ =>
    obtain rfl:=Option.some.inj (show some _=some o from ho);have hb:=hBX.out.no hW.no;have c0:=hb.b1.cell 0;have c1:=hb.b1.cell 1;have c2:=hb.b1.cell 2;have c3:=hb.b1.cell 3;have c4:=hb.b1.cell 4;have c5:=hb.b1.cell 5;simp only[Lz0,Ls0]at c0 c1 c2 c3 c4 c5;clear hb;refine wpOp_of (i:=20) rfl rfl fun K' hK=>?_
    unfold kAct;go_simp;refine hK _ _ ⟨g,?_,hW.other (Touch.refl No W) (by exact opOf_ne (by decide) (by decide)) (by decide) (fun h=>by omega)⟩;simp[kAct,upd,Act.put]
  | 21,_ =>
    obtain rfl:=Option.some.inj (show some _=some o from ho);have d19:f 19=true:=hall ⟨19,.data⟩ (by simp) rfl;have d20:f 20=true:=hall ⟨20,.data⟩ (by simp) rfl;have C:=HC.out W 1 1 1 64;refine wpOp_of (i:=21) rfl rfl fun K' hK=>?_
    unfold kAct;go_simp;refine C.mono ?_;rintro e w' ⟨rfl,t⟩;refine hK _ _ ⟨g,?_,hW.other t (by exact opOf_ne (by decide) (by decide)) (by decide) (fun h=>by omega)⟩;simp[kAct,upd,Act.put,d19,d20]
  | 22,_ =>
    obtain rfl:=Option.some.inj (show some _=some o from ho);have d0:f 0=true:=hall ⟨0,.data⟩ (by simp) rfl;have d21:f 21=true:=hall ⟨21,.data⟩ (by simp) rfl;obtain⟨hg0,D,n,hn,hown,hKD⟩:=hW.map d0;refine wpOp_of (i:=22) rfl rfl fun K' hK=>?_
    refine wp_insert_own (.tmp 16) (.const (.int .u8 9)) (.tmp 29) rfl g n D (by simp[Act.eval,kAct,d0]) hown (by have:=kCnt_le f;unfold maxLen;omega) 9 (by decide) (.agg (kindC ⟨1,1,1,64,0,0⟩).toArray) rfl (by simp[Act.eval,kAct,d21,kindC]) fun w' h1 h2=>?_
    refine hK _ _ ⟨g,?_,hW.put d0 hg0 hKD hn h1 h2 (by decide) (by decide) rfl rfl (opOf_ne2 (by decide) (by decide)) (by simp[kCnt,upd,hf] <;> omega)⟩;simp[kAct,upd,Act.put]
  | 23,_ =>
    obtain rfl:=Option.some.inj (show some _=some o from ho);refine wpOp_of (i:=23) rfl rfl fun K' hK=>?_
    unfold kAct;go_simp;refine hK _ _ ⟨g,?_,hW.other (Touch.refl No W) (by exact opOf_ne (by decide) (by decide)) (by decide) (fun h=>by omega)⟩;simp[kAct,upd,Act.put]
  | 24,_ =>
    obtain rfl:=Option.some.inj (show some _=some o from ho);have d0:f 0=true:=hall ⟨0,.data⟩ (by simp) rfl;have d23:f 23=true:=hall ⟨23,.data⟩ (by simp) rfl;obtain⟨hg0,D,n,hn,hown,hKD⟩:=hW.map d0;refine wpOp_of (i:=24) rfl rfl fun K' hK=>?_
    refine wp_insert_own (.tmp 16) (.const (.int .u8 10)) (.tmp 30) rfl g n D (by simp[Act.eval,kAct,d0]) hown (by have:=kCnt_le f;unfold maxLen;omega) 10 (by decide) (.agg (kindC ⟨1,1,0,0,0,1⟩).toArray) rfl (by simp[Act.eval,kAct,d23,kindC]) fun w' h1 h2=>?_
    refine hK _ _ ⟨g,?_,hW.put d0 hg0 hKD hn h1 h2 (by decide) (by decide) rfl rfl (opOf_ne2 (by decide) (by decide)) (by simp[kCnt,upd,hf] <;> omega)⟩;simp[kAct,upd,Act.put]
  | 25,_ =>
    obtain rfl:=Option.some.inj (show some _=some o from ho);refine wpOp_of (i:=25) rfl rfl fun K' hK=>?_
    unfold kAct;go_simp;refine hK _ _ ⟨g,?_,hW.other (Touch.refl No W) (by exact opOf_ne (by decide) (by decide)) (by decide) (fun h=>by omega)⟩;simp[kAct,upd,Act.put]
  | 26,_ =>
    obtain rfl:=Option.some.inj (show some _=some o from ho);have d0:f 0=true:=hall ⟨0,.data⟩ (by simp) rfl;have d25:f 25=true:=hall ⟨25,.data⟩ (by simp) rfl;obtain⟨hg0,D,n,hn,hown,hKD⟩:=hW.map d0;refine wpOp_of (i:=26) rfl rfl fun K' hK=>?_
    refine wp_insert_own (.tmp 16) (.const (.int .u8 11)) (.tmp 31) rfl g n D (by simp[Act.eval,kAct,d0]) hown (by have:=kCnt_le f;unfold maxLen;omega) 11 (by decide) (.agg (kindC ⟨1,1,0,0,0,2⟩).toArray) rfl (by simp[Act.eval,kAct,d25,kindC]) fun w' h1 h2=>?_
    refine hK _ _ ⟨g,?_,hW.put d0 hg0 hKD hn h1 h2 (by decide) (by decide) rfl rfl (opOf_ne2 (by decide) (by decide)) (by simp[kCnt,upd,hf] <;> omega)⟩;simp[kAct,upd,Act.put]
  | 27,_ =>
    obtain rfl:=Option.some.inj (show some _=some o from ho);have hb:=hBX.out.no hW.no;have c0:=hb.b5.cell 0;have c1:=hb.b5.cell 1;have c2:=hb.b5.cell 2;have c3:=hb.b5.cell 3;have c4:=hb.b5.cell 4;have c5:=hb.b5.cell 5;simp only[Lz0,Ls0]at c0 c1 c2 c3 c4 c5;clear hb;refine wpOp_of (i:=27) rfl rfl fun K' hK=>?_
    unfold kAct;go_simp;refine hK _ _ ⟨g,?_,hW.other (Touch.refl No W) (by exact opOf_ne (by decide) (by decide)) (by decide) (fun h=>by omega)⟩;simp[kAct,upd,Act.put]
  | 28,_ =>
    obtain rfl:=Option.some.inj (show some _=some o from ho);have d0:f 0=true:=hall ⟨0,.data⟩ (by simp) rfl;have d27:f 27=true:=hall ⟨27,.data⟩ (by simp) rfl;obtain⟨hg0,D,n,hn,hown,hKD⟩:=hW.map d0;refine wpOp_of (i:=28) rfl rfl fun K' hK=>?_
    refine wp_insert_own (.tmp 16) (.const (.int .u8 12)) (.tmp 32) rfl g n D (by simp[Act.eval,kAct,d0]) hown (by have:=kCnt_le f;unfold maxLen;omega) 12 (by decide) (.agg (kindC ⟨1,4,0,3,0,0⟩).toArray) rfl (by simp[Act.eval,kAct,d27,kindC]) fun w' h1 h2=>?_
    refine hK _ _ ⟨g,?_,hW.put d0 hg0 hKD hn h1 h2 (by decide) (by decide) rfl rfl (opOf_ne2 (by decide) (by decide)) (by simp[kCnt,upd,hf] <;> omega)⟩;simp[kAct,upd,Act.put]
  | 29,_ =>
    obtain rfl:=Option.some.inj (show some _=some o from ho);refine wpOp_of (i:=29) rfl rfl fun K' hK=>?_
    unfold kAct;go_simp;refine hK _ _ ⟨g,?_,hW.other (Touch.refl No W) (by exact opOf_ne (by decide) (by decide)) (by decide) (fun h=>by omega)⟩;simp[kAct,upd,Act.put]
  | 30,_ =>
    obtain rfl:=Option.some.inj (show some _=some o from ho);have hb:=hBX.out.no hW.no;have c0:=hb.b1.cell 0;have c1:=hb.b1.cell 1;have c2:=hb.b1.cell 2;have c3:=hb.b1.cell 3;have c4:=hb.b1.cell 4;have c5:=hb.b1.cell 5;simp only[Lz0,Ls0]at c0 c1 c2 c3 c4 c5;clear hb;refine wpOp_of (i:=30) rfl rfl fun K' hK=>?_
    unfold kAct;go_simp;refine hK _ _ ⟨g,?_,hW.other (Touch.refl No W) (by exact opOf_ne (by decide) (by decide)) (by decide) (fun h=>by omega)⟩;simp[kAct,upd,Act.put]
  | 31,_ =>
    obtain rfl:=Option.some.inj (show some _=some o from ho);have d29:f 29=true:=hall ⟨29,.data⟩ (by simp) rfl;have d30:f 30=true:=hall ⟨30,.data⟩ (by simp) rfl;have C:=HC.out W 1 1 0 3;refine wpOp_of (i:=31) rfl rfl fun K' hK=>?_
    unfold kAct;go_simp;refine C.mono ?_;rintro e w' ⟨rfl,t⟩;refine hK _ _ ⟨g,?_,hW.other t (by exact opOf_ne (by decide) (by decide)) (by decide) (fun h=>by omega)⟩;simp[kAct,upd,Act.put,d29,d30]
  | 32,_ =>
    obtain rfl:=Option.some.inj (show some _=some o from ho);have d0:f 0=true:=hall ⟨0,.data⟩ (by simp) rfl;have d31:f 31=true:=hall ⟨31,.data⟩ (by simp) rfl;obtain⟨hg0,D,n,hn,hown,hKD⟩:=hW.map d0;refine wpOp_of (i:=32) rfl rfl fun K' hK=>?_
    refine wp_insert_own (.tmp 16) (.const (.int .u8 13)) (.tmp 35) rfl g n D (by simp[Act.eval,kAct,d0]) hown (by have:=kCnt_le f;unfold maxLen;omega) 13 (by decide) (.agg (kindC ⟨1,1,0,3,0,0⟩).toArray) rfl (by simp[Act.eval,kAct,d31,kindC]) fun w' h1 h2=>?_
    refine hK _ _ ⟨g,?_,hW.put d0 hg0 hKD hn h1 h2 (by decide) (by decide) rfl rfl (opOf_ne2 (by decide) (by decide)) (by simp[kCnt,upd,hf] <;> omega)⟩;simp[kAct,upd,Act.put]
  | 33,_ =>
    obtain rfl:=Option.some.inj (show some _=some o from ho);have d0:f 0=true:=hall ⟨0,.data⟩ (by simp) rfl;refine wpOp_of (i:=33) rfl rfl fun K' hK=>?_
    unfold kAct;go_simp;refine hK _ _ ⟨g,?_,hW.other (Touch.refl No W) (by exact opOf_ne (by decide) (by decide)) (by decide) (fun _=>d0)⟩;simp[kAct,upd,Act.put,d0]
  | 34,_ =>
    obtain rfl:=Option.some.inj (show some _=some o from ho);have d33:f 33=true:=hall ⟨33,.data⟩ (by simp) rfl;refine wpOp_of (i:=34) rfl rfl fun K' hK=>?_
    unfold kAct;go_simp;refine hK _ _ ⟨g,?_,hW.other (Touch.refl No W) (by exact opOf_ne (by decide) (by decide)) (by decide) (fun _=>hW.hi.1 d33)⟩;simp[kAct,upd,Act.put,d33]
end
end Go.Proofs.YtjlphmmalebgpaaGreat
