/-
  A part of the proof.
-/
import Derived.Test.YtjlphmmalebgpaaGreatK07
set_option linter.unusedSimpArgs false
set_option linter.unusedVariables false
set_option maxHeartbeats 2000000
set_option maxRecDepth 100000
namespace Go.Proofs.YtjlphmmalebgpaaGreat
section
open Go Go.RowKit
theorem list_two {l:List Int}(h:l.length=2):∃x y,l=[x,y]:=by
 match l,h with
 | [x,y],_=>exact⟨x,y,rfl⟩
theorem list_one {l:List Int}(h:l.length=1):∃x,l=[x]:=by
 match l,h with
 | [x],_=>exact⟨x,rfl⟩
theorem TIn.boxed {w w1 w2 w9:World}{sc:Option Addr}{n d:Nat}{lc:Option Addr}{m e X:Nat}{S:List Nat}{L:List Int}(h:TIn w2 sc n d lc m e S L)(t0:Touch No w w1)(t:Touch No w1 w2)(hX:w.heap.size≤X)(hX1:X<w1.heap.size)(t9:Touch (One X) w2 w9)(hs:NewA w1 sc)(hl:NewA w1 lc) :
  TIn w9 sc n d lc m e S L∧Touch No w w9∧NewA w sc∧NewA w lc :=
 ⟨{h with sr:=h.sr.keepR t9 (fun ad e=>by have:=hs ad e;omega),lr:=h.lr.keepR t9 (fun ad e=>by have:=hl ad e;omega)},(t0.trans t).oneNo t9 hX,fun ad e=>by have:=hs ad e;omega,fun ad e=>by have:=hl ad e;omega⟩
theorem four_rows (w:World)(T:TypeId)(A B C D:Array Value):∃w1,w1=(((w.alloc (.cells A T)).alloc (.cells B T)).alloc (.cells C T)).alloc (.cells D T)∧Touch No w w1∧Row w1 (w.heap.size+1+1) T C.toList∧Row w1 (w.heap.size+1+1+1) T D.toList∧w1.heap.size=w.heap.size+4:=by
 obtain⟨w0,h0,t0,_,_,r2,hs⟩:=three_rows w T A B C;refine⟨_,rfl,by rw[← h0];exact t0.alloc _,by rw[← h0];exact r2.touch ((Touch.refl No _).alloc _) id,?_,by rw[← h0];simp[hs]⟩;rw[← h0];have:=Row.new w0 T D
 rwa [show w0.heap.size=w.heap.size+1+1+1 by omega]at this
theorem mathsAdd_in (w:World)(sa la sb lb:Option Addr)(n c m d n' c' m' d':Nat)(S:List Nat)(A B:List Int)(hA:TIn w sa n c la m d S A)(hB:TIn w sb n' c' lb m' d' S B) :
  Calls Tryz.prog 139 #[.agg #[.slice sa n c,.slice la m d],.agg #[.slice sb n' c',.slice lb m' d']] w (TOut w S (Me.addL A B)):=by
 obtain rfl:n'=n:=by rw[← hA.sn,← hB.sn]
 obtain rfl:m'=m:=by rw[← hA.len,← hB.len]
 have HA:=Lib.hid hA;have HB:=Lib.hid hB;clear hA hB;have hf:∀(args:Array Value) (wx:World),(callFunc 191 args).run Tryz.prog wx = .ok (.enter 191 args) wx:=fun args wx=>by simp[callFunc,Tryz.func191,Tryz.f191]
 go_enter Tryz.func139,Tryz.ntmps139;go_wp2_with fail;obtain⟨w1,hw1,t1,b4,b5,hsz⟩:=four_rows w 51 #[.slice sa n' c,.slice la m' d] #[.slice sb n' c',.slice lb m' d'] #[.slice none 0 0,.slice none 0 0] #[.slice sa n' c,.slice la m' d,.slice sb n' c',.slice lb m' d'];rw[← hw1];have H1:=Lib.hid (aI t1 (aI b4 hsz))
 have TT:Tens w1 (w.heap.size+1+1+1) 2 n' m' S [A,B]:=by
  intro q hq
  match q,hq with
  | 0,_=>exact⟨_,_,_,_,b5.cell 0,b5.cell 1,HA.out.no t1⟩
  | 1,_=>exact⟨_,_,_,_,b5.cell 2,b5.cell 3,HB.out.no t1⟩
 have C:=mathsOf32_in w1 191 hf (w.heap.size+1+1+1) 2 n' m' S [A,B] (fun v=>wrap32 (v.getD 0 0+v.getD 1 0)) (by omega) HA.out.sn HA.out.len HA.out.ok TT (fun wx h vals _ hl _ hr=>by
  obtain⟨x,y,rfl⟩:=list_two hl;exact mathsAdd1 wx h x y hr) (fun vals=>Me.w32_in _)
 have hL:((List.range m').map fun i=>wrap32 (((List.range 2).map fun q=>Me.at_ (([A,B]:List (List Int)).getD q []) i).getD 0 0+((List.range 2).map fun q=>Me.at_ (([A,B]:List (List Int)).getD q []) i).getD 1 0))=Me.addL A B:=by
  rw[Me.addL,HA.out.lm];rfl
 rw[hL]at C;clear hw1 t1 b4 b5 hL TT hf hsz;refine C.mono ?_;clear C;rintro e w2 ⟨sc,n3,d3,lc,m3,e3,rfl,hin,t2,hs,hl⟩;have H2:=Lib.hid (aI hin (aI t2 (aI hs hl)));have kx:=H1.out.2.1.touch t2 id;clear hin t2 hs hl;go_wp2_with (refine wpList_store_mid rfl 51 _ _ rfl (w.heap.size+1+1) 0 51 [.slice none 0 0,.slice none 0 0] kx rfl [.slice sc n3 d3,.slice lc m3 e3] rfl (by kernel_rfl) (by simp) (by intro v hv;simp at hv;rcases hv with rfl|rfl <;> rfl) ?_);obtain⟨w9,hw9⟩:∃w9,w9=w2.setRow (w.heap.size+1+1) (splice [.slice none 0 0,.slice none 0 0] 0 [.slice sc n3 d3,.slice lc m3 e3]).toArray:=⟨_,rfl⟩;have R9:Row w9 (w.heap.size+1+1) 51 [.slice sc n3 d3,.slice lc m3 e3]:=by rw[hw9];exact kx.setRow _
 have HN:=Lib.hid (H2.out.1.boxed H1.out.1 H2.out.2.1 (X:=w.heap.size+1+1) (by omega) (by rw[H1.out.2.2];omega) (show Touch (One (w.heap.size+1+1)) w2 w9 by rw[hw9];exact Touch.setOne _ _ _) H2.out.2.2.1 H2.out.2.2.2);have y0:=R9.c0;have y1:=R9.c1;rw[← hw9];clear hw9 kx R9;go_wp2;refine bodyPost_ret (v:=.tuple #[.agg #[.slice sc n3 d3,.slice lc m3 e3],.int .i64 0]) (by simp[results,Tryz.results139,go_sem,y0,y1]) rfl ?_;exact⟨sc,n3,d3,lc,m3,e3,rfl,HN.out.1,HN.out.2⟩
theorem mathsMul_in (w:World)(sa la sb lb:Option Addr)(n c m d n' c' m' d':Nat)(S:List Nat)(A B:List Int)(hA:TIn w sa n c la m d S A)(hB:TIn w sb n' c' lb m' d' S B) :
  Calls Tryz.prog 140 #[.agg #[.slice sa n c,.slice la m d],.agg #[.slice sb n' c',.slice lb m' d']] w (TOut w S (Me.mulL A B)):=by
 obtain rfl:n'=n:=by rw[← hA.sn,← hB.sn]
 obtain rfl:m'=m:=by rw[← hA.len,← hB.len]
 have HA:=Lib.hid hA;have HB:=Lib.hid hB;clear hA hB;have hf:∀(args:Array Value) (wx:World),(callFunc 193 args).run Tryz.prog wx = .ok (.enter 193 args) wx:=fun args wx=>by simp[callFunc,Tryz.func193,Tryz.f193]
 go_enter Tryz.func140,Tryz.ntmps140;go_wp2_with fail;obtain⟨w1,hw1,t1,b4,b5,hsz⟩:=four_rows w 51 #[.slice sa n' c,.slice la m' d] #[.slice sb n' c',.slice lb m' d'] #[.slice none 0 0,.slice none 0 0] #[.slice sa n' c,.slice la m' d,.slice sb n' c',.slice lb m' d'];rw[← hw1];have H1:=Lib.hid (aI t1 (aI b4 hsz))
 have TT:Tens w1 (w.heap.size+1+1+1) 2 n' m' S [A,B]:=by
  intro q hq
  match q,hq with
  | 0,_=>exact⟨_,_,_,_,b5.cell 0,b5.cell 1,HA.out.no t1⟩
  | 1,_=>exact⟨_,_,_,_,b5.cell 2,b5.cell 3,HB.out.no t1⟩
 have C:=mathsOf32_in w1 193 hf (w.heap.size+1+1+1) 2 n' m' S [A,B] (fun v=>wrap32 (v.getD 0 0*v.getD 1 0)) (by omega) HA.out.sn HA.out.len HA.out.ok TT (fun wx h vals _ hl _ hr=>by
  obtain⟨x,y,rfl⟩:=list_two hl;exact mathsMul1 wx h x y hr) (fun vals=>Me.w32_in _)
 have hL:((List.range m').map fun i=>wrap32 (((List.range 2).map fun q=>Me.at_ (([A,B]:List (List Int)).getD q []) i).getD 0 0*((List.range 2).map fun q=>Me.at_ (([A,B]:List (List Int)).getD q []) i).getD 1 0))=Me.mulL A B:=by
  rw[Me.mulL,HA.out.lm];rfl
 rw[hL]at C;clear hw1 t1 b4 b5 hL TT hf hsz;refine C.mono ?_;clear C;rintro e w2 ⟨sc,n3,d3,lc,m3,e3,rfl,hin,t2,hs,hl⟩;have H2:=Lib.hid (aI hin (aI t2 (aI hs hl)));have kx:=H1.out.2.1.touch t2 id;clear hin t2 hs hl;go_wp2_with (refine wpList_store_mid rfl 51 _ _ rfl (w.heap.size+1+1) 0 51 [.slice none 0 0,.slice none 0 0] kx rfl [.slice sc n3 d3,.slice lc m3 e3] rfl (by kernel_rfl) (by simp) (by intro v hv;simp at hv;rcases hv with rfl|rfl <;> rfl) ?_);obtain⟨w9,hw9⟩:∃w9,w9=w2.setRow (w.heap.size+1+1) (splice [.slice none 0 0,.slice none 0 0] 0 [.slice sc n3 d3,.slice lc m3 e3]).toArray:=⟨_,rfl⟩;have R9:Row w9 (w.heap.size+1+1) 51 [.slice sc n3 d3,.slice lc m3 e3]:=by rw[hw9];exact kx.setRow _
 have HN:=Lib.hid (H2.out.1.boxed H1.out.1 H2.out.2.1 (X:=w.heap.size+1+1) (by omega) (by rw[H1.out.2.2];omega) (show Touch (One (w.heap.size+1+1)) w2 w9 by rw[hw9];exact Touch.setOne _ _ _) H2.out.2.2.1 H2.out.2.2.2);have y0:=R9.c0;have y1:=R9.c1;rw[← hw9];clear hw9 kx R9;go_wp2;refine bodyPost_ret (v:=.tuple #[.agg #[.slice sc n3 d3,.slice lc m3 e3],.int .i64 0]) (by simp[results,Tryz.results140,go_sem,y0,y1]) rfl ?_;exact⟨sc,n3,d3,lc,m3,e3,rfl,HN.out.1,HN.out.2⟩
theorem mathsRelu_in (w:World)(sa la:Option Addr)(n c m d:Nat)(S:List Nat)(A:List Int)(hA:TIn w sa n c la m d S A) :
  Calls Tryz.prog 144 #[.agg #[.slice sa n c,.slice la m d]] w (TOut w S (Me.reluL A)):=by
 have HA:=Lib.hid hA;clear hA;have hf:∀(args:Array Value) (wx:World),(callFunc 196 args).run Tryz.prog wx = .ok (.enter 196 args) wx:=fun args wx=>by simp[callFunc,Tryz.func196,Tryz.f196]
 go_enter Tryz.func144,Tryz.ntmps144;go_wp2_with fail;obtain⟨w1,hw1,t1,b2,b4,b5,hsz⟩:=three_rows w 51 #[.slice sa n c,.slice la m d] #[.slice none 0 0,.slice none 0 0] #[.slice sa n c,.slice la m d];rw[← hw1];have H1:=Lib.hid (aI t1 (aI b4 hsz))
 have TT:Tens w1 (w.heap.size+1+1) 1 n m S [A]:=by
  intro q hq
  match q,hq with
  | 0,_=>exact⟨_,_,_,_,b5.cell 0,b5.cell 1,HA.out.no t1⟩
 have hcl:∀x:Int,-2147483648≤max 0 (min x 2147483647)∧max 0 (min x 2147483647)≤2147483647:=fun x=>by omega
 have C:=mathsOf32_in w1 196 hf (w.heap.size+1+1) 1 n m S [A] (fun v=>max 0 (min (v.getD 0 0) 2147483647)) (by omega) HA.out.sn HA.out.len HA.out.ok TT (fun wx h vals _ hl hv hr=>by
  obtain⟨x,rfl⟩:=list_one hl;have hx:=hv x (by simp);have:=mathsRelu1 wx h x hr;rw[show max 0 x=max 0 (min (([x]:List Int).getD 0 0) 2147483647) by show _=max 0 (min x _);omega]at this;exact this) (fun vals=>hcl _)
 have hL:((List.range m).map fun i=>max 0 (min (((List.range 1).map fun q=>Me.at_ (([A]:List (List Int)).getD q []) i).getD 0 0) 2147483647))=Me.reluL A:=by
  rw[Me.reluL,HA.out.lm];refine List.map_congr_left fun i hi=>?_
  have:=HA.out.rng (Me.at_ A i) (by rw[Me.at_lt (by rw[HA.out.lm];exact List.mem_range.1 hi)];exact List.getElem_mem _)
  show max 0 (min (Me.at_ A i) 2147483647)=_
  omega
 rw[hL]at C;clear hw1 t1 b2 b4 b5 hL TT hf hcl hsz;refine C.mono ?_;clear C;rintro e w2 ⟨sc,n3,d3,lc,m3,e3,rfl,hin,t2,hs,hl⟩;have H2:=Lib.hid (aI hin (aI t2 (aI hs hl)));have kx:=H1.out.2.1.touch t2 id;clear hin t2 hs hl;go_wp2_with (refine wpList_store_mid rfl 51 _ _ rfl (w.heap.size+1) 0 51 [.slice none 0 0,.slice none 0 0] kx rfl [.slice sc n3 d3,.slice lc m3 e3] rfl (by kernel_rfl) (by simp) (by intro v hv;simp at hv;rcases hv with rfl|rfl <;> rfl) ?_);obtain⟨w9,hw9⟩:∃w9,w9=w2.setRow (w.heap.size+1) (splice [.slice none 0 0,.slice none 0 0] 0 [.slice sc n3 d3,.slice lc m3 e3]).toArray:=⟨_,rfl⟩;have R9:Row w9 (w.heap.size+1) 51 [.slice sc n3 d3,.slice lc m3 e3]:=by rw[hw9];exact kx.setRow _
 have HN:=Lib.hid (H2.out.1.boxed H1.out.1 H2.out.2.1 (X:=w.heap.size+1) (by omega) (by rw[H1.out.2.2];omega) (show Touch (One (w.heap.size+1)) w2 w9 by rw[hw9];exact Touch.setOne _ _ _) H2.out.2.2.1 H2.out.2.2.2);have y0:=R9.c0;have y1:=R9.c1;rw[← hw9];clear hw9 kx R9;go_wp2;refine bodyPost_ret (v:=.tuple #[.agg #[.slice sc n3 d3,.slice lc m3 e3],.int .i64 0]) (by simp[results,Tryz.results144,go_sem,y0,y1]) rfl ?_;exact⟨sc,n3,d3,lc,m3,e3,rfl,HN.out.1,HN.out.2⟩
theorem mathsShift_in (w:World)(sa la:Option Addr)(n c m d:Nat)(S:List Nat)(A:List Int)(q:Nat)(hq:q≤31)(hA:TIn w sa n c la m d S A) :
  Calls Tryz.prog 146 #[.agg #[.slice sa n c,.slice la m d],.int .i64 (q:Nat)] w (TOut w S (Me.shiftL q A)):=by
 have HA:=Lib.hid hA;clear hA;have hf:∀(args:Array Value) (wx:World),(callFunc 197 args).run Tryz.prog wx = .ok (.enter 197 args) wx:=fun args wx=>by simp[callFunc,Tryz.func197,Tryz.f197]
 have hq0:¬(q:Int)<0:=by omega
 have hq1:¬(31:Int)<(q:Nat):=by omega
 have hb:(2:Nat) ^ q≤2147483648:=by
  have:(2:Nat) ^ q≤2 ^ 31:=Nat.pow_le_pow_right (by decide) hq;have e:(2:Nat) ^ 31=2147483648:=by decide
  omega
 have hval:wrap64 ((2:Int) ^ q) / 2=((2 ^ q / 2:Nat):Int):=by
  have h3:((2 ^ q:Nat):Int)=(2:Int) ^ q:=by push_cast;rfl
  rw[← h3];obtain⟨p,hp⟩:∃p:Nat,2 ^ q=p:=⟨_,rfl⟩;rw[hp]at hb ⊢;unfold wrap64;omega
 have HV:=Lib.hid hval;clear hval hb;go_enter Tryz.func146,Tryz.ntmps146;go_wp2_with fail;obtain⟨w0,h0,t0⟩:∃w0,w0=(w.alloc (.cells #[.slice sa n c,.slice la m d] 51))∧Touch No w w0:=⟨_,rfl,(Touch.refl No w).alloc _⟩;have hw0:w0.heap.size=w.heap.size+1:=by rw[h0];simp
 obtain⟨w01,h01,t01⟩:∃w1,w1=(w0.alloc (.cells #[.int .i64 ((q:Nat):Int)] 3))∧Touch No w0 w1:=⟨_,rfl,(Touch.refl No w0).alloc _⟩;have hw01:w01.heap.size=w.heap.size+1+1:=by rw[h01];simp[hw0]
 have r1:Row w01 (w.heap.size+1) 3 [.int .i64 ((q:Nat):Int)]:=by rw[h01,← hw0];exact Row.new _ _ _
 obtain⟨w02,h02,t02⟩:∃w1,w1=(w01.alloc (.cells #[.slice none 0 0,.slice none 0 0] 51))∧Touch No w01 w1:=⟨_,rfl,(Touch.refl No w01).alloc _⟩;have hw02:w02.heap.size=w.heap.size+1+1+1:=by rw[h02];simp[hw01]
 have r2:Row w02 (w.heap.size+1+1) 51 [.slice none 0 0,.slice none 0 0]:=by rw[h02,← hw01];exact Row.new _ _ _
 obtain⟨w03,h03,t03⟩:∃w1,w1=(w02.alloc (.cells #[.int .i64 (wrap64 (2 ^ q) / 2)] 2))∧Touch No w02 w1:=⟨_,rfl,(Touch.refl No w02).alloc _⟩;have hw03:w03.heap.size=w.heap.size+1+1+1+1:=by rw[h03];simp[hw02]
 have r3:Row w03 (w.heap.size+1+1+1) 2 [.int .i64 (wrap64 (2 ^ q) / 2)]:=by rw[h03,← hw02];exact Row.new _ _ _
 obtain⟨w1,h1,t1⟩:∃w1,w1=(w03.alloc (.cells #[.slice sa n c,.slice la m d] 51))∧Touch No w03 w1:=⟨_,rfl,(Touch.refl No w03).alloc _⟩;have hw1:w1.heap.size=w.heap.size+1+1+1+1+1:=by rw[h1];simp[hw03]
 have b5:Row w1 (w.heap.size+1+1+1+1) 51 [.slice sa n c,.slice la m d]:=by rw[h1,← hw03];exact Row.new _ _ _
 rw[← h0,← h01,← h02,← h03,← h1];have tt:Touch No w w1:=(((t0.trans t01).trans t02).trans t03).trans t1;have H1:=Lib.hid (aI tt (aI ((r2.touch t03 id).touch t1 id) hw1));have p1:=((r3.touch t1 id).cell 0);have p2:=((((r1.touch t02 id).touch t03 id).touch t1 id).cell 0);rw[HV.out]at p1
 have TT:Tens w1 (w.heap.size+1+1+1+1) 1 n m S [A]:=by
  intro q hq
  match q,hq with
  | 0,_=>exact⟨_,_,_,_,b5.cell 0,b5.cell 1,HA.out.no tt⟩
 have hcl:∀x:Int,Me.shift1 q x≤127∧ -128≤Me.shift1 q x:=fun x=>by unfold Me.shift1;omega
 have C:=mathsOf64_in w1 197 hf (w.heap.size+1+1+1+1) 1 n m S [A] (fun v=>Me.shift1 q (v.getD 0 0)) (w.heap.size+1+1+1) (w.heap.size+1) (by omega) HA.out.sn HA.out.len HA.out.ok TT (fun wx h vals t hl hv hr=>by
  obtain⟨x,rfl⟩:=list_one hl;exact mathsShift1 wx h _ _ q x hq (hv x (by simp)) hr (t.cell id p1) (t.cell id p2)) (fun vals=>by have:=hcl (vals.getD 0 0);omega)
 have hL:((List.range m).map fun i=>Me.shift1 q (((List.range 1).map fun q=>Me.at_ (([A]:List (List Int)).getD q []) i).getD 0 0))=Me.shiftL q A:=by
  rw[Me.shiftL,HA.out.lm];rfl
 rw[hL]at C;clear h0 t0 hw0 h01 t01 hw01 r1 h02 t02 hw02 r2 h03 t03 hw03 r3 h1 t1 hw1 b5 tt p1 p2 hL TT hf hcl;refine C.mono ?_;clear C;rintro e w2 ⟨sc,n3,d3,lc,m3,e3,rfl,hin,t2,hs,hl⟩;have H2:=Lib.hid (aI hin (aI t2 (aI hs hl)));have kx:=H1.out.2.1.touch t2 id;clear hin t2 hs hl;go_wp2_with (refine wpList_store_mid rfl 51 _ _ rfl (w.heap.size+1+1) 0 51 [.slice none 0 0,.slice none 0 0] kx rfl [.slice sc n3 d3,.slice lc m3 e3] rfl (by kernel_rfl) (by simp) (by intro v hv;simp at hv;rcases hv with rfl|rfl <;> rfl) ?_);obtain⟨w9,hw9⟩:∃w9,w9=w2.setRow (w.heap.size+1+1) (splice [.slice none 0 0,.slice none 0 0] 0 [.slice sc n3 d3,.slice lc m3 e3]).toArray:=⟨_,rfl⟩;have R9:Row w9 (w.heap.size+1+1) 51 [.slice sc n3 d3,.slice lc m3 e3]:=by rw[hw9];exact kx.setRow _
 have HN:=Lib.hid (H2.out.1.boxed H1.out.1 H2.out.2.1 (X:=w.heap.size+1+1) (by omega) (by rw[H1.out.2.2];omega) (show Touch (One (w.heap.size+1+1)) w2 w9 by rw[hw9];exact Touch.setOne _ _ _) H2.out.2.2.1 H2.out.2.2.2);have y0:=R9.c0;have y1:=R9.c1;rw[← hw9];clear hw9 kx R9;go_wp2;refine bodyPost_ret (v:=.tuple #[.agg #[.slice sc n3 d3,.slice lc m3 e3],.int .i64 0]) (by simp[results,Tryz.results146,go_sem,y0,y1]) rfl ?_;exact⟨sc,n3,d3,lc,m3,e3,rfl,HN.out.1,HN.out.2⟩
end
section
open Go Go.RowKit
namespace Me
def prodS (a b:List Nat):Option (List Nat):=if a.length=2∧b.length=2∧a.getD 1 0=b.getD 0 0 then some [a.getD 0 0,b.getD 1 0] else none
end Me
def ShOut (w:World)(o:Option (List Nat))(e:Ending)(w':World):Prop :=
 match o with
 | some S=>∃a c,e = .returned (.tuple #[.slice a S.length c,.int .i64 0])∧S.length≤c∧Rd w' a (nums .i64 S)∧Touch No w w'∧NewA w a
 | none=>∃x:Int,x≠0∧e = .returned (.tuple #[.slice none 0 0,.int .i64 x])∧Touch No w w'
theorem rd_row {w:World}{g:Nat}{T:TypeId}{l:List Value}(h:Row w g T l):Rd w (some ⟨g,0,none⟩) l:=fun i v hi=>⟨g,0,rfl,by rw[Nat.zero_add,h.cell];exact hi⟩
theorem prodShape_in (w:World)(a b:Option Addr)(n c n' c':Nat)(S T:List Nat)(hS:Me.Ok S)(hT:Me.Ok T)(ha:Rd w a (nums .i64 S))(hn:S.length=n)(hb:Rd w b (nums .i64 T))(hn':T.length=n') :
  Calls Tryz.prog 184 #[.slice a n c,.slice b n' c'] w (ShOut w (Me.prodS S T)):=by
 have C1:=Lib.hid (shapeCheck_ok (c:=c) ha hn hS);have C2:=Lib.hid (shapeCheck_ok (c:=c') hb hn' hT);have hn4:n≤4:=by rw[← hn];exact hS.four
 by_cases h1:n=2
 ·by_cases h2:n'=2
  ·have q1:((n:Int) != 2)=false:=by simp;omega
   have q2:((n':Int) != 2)=false:=by simp;omega
   have q3:(0:Int)<(n:Nat):=by omega
   have q4:(1:Int)<(n:Nat):=by omega
   have q5:(0:Int)<(n':Nat):=by omega
   have q6:(1:Int)<(n':Nat):=by omega
   obtain⟨b1,o1,rfl,k0⟩:=ha.num (i:=0) (by omega);obtain⟨_,_,e1,k1⟩:=ha.num (i:=1) (by omega);cases e1
   obtain⟨b2,o2,rfl,k2⟩:=hb.num (i:=0) (by omega);obtain⟨_,_,e1,k3⟩:=hb.num (i:=1) (by omega);cases e1
   rw[Nat.add_zero]at k0 k2
   by_cases h3:S.getD 1 0=T.getD 0 0
   ·have hv:Me.prodS S T=some [S.getD 0 0,T.getD 1 0]:=by rw[Me.prodS,if_pos ⟨by omega,by omega,h3⟩]
    rw[hv];obtain⟨x,hx⟩:∃x,S.getD 0 0=x:=⟨_,rfl⟩;obtain⟨y,hy⟩:∃y,T.getD 1 0=y:=⟨_,rfl⟩;obtain⟨z,hz⟩:∃z,T.getD 0 0=z:=⟨_,rfl⟩;rw[h3,hz]at k1;rw[hz]at k2;rw[hx]at k0;rw[hy]at k3;rw[hx,hy];have hzz:((z:Int) != (z:Int))=false:=by simp
    clear hv h3 hx hy hz ha hb hn hn' hS hT h1 h2;go_enter Tryz.func184,Tryz.ntmps184;go_wp2_with fail;refine C1.out.mono ?_;rintro e w' ⟨rfl,rfl⟩;go_wp2_with fail;refine C2.out.mono ?_;rintro e w' ⟨rfl,rfl⟩;go_wp2;refine wp_region_quiet_lit (by kernel_rfl) (by kernel_rfl) ?_;repeat (first|go_big_quiet_step (fail)|quiet_step (fail))
    refine wpQuiet_nil ?_;intro _ hw';obtain⟨nq,hw''⟩:=hw';subst hw'';go_wp2;refine wp_region_quiet_tail 6 (by kernel_rfl) (by kernel_rfl) ?_;simp only[List.take_succ_cons,List.take_zero,List.drop_succ_cons,List.drop_zero];repeat (first|go_big_quiet_step (fail)|quiet_step (fail))
    refine wpQuiet_nil ?_;intro _ hw';obtain⟨nq,hw''⟩:=hw';subst hw'';go_wp2
    go_ret2
    exact⟨_,_,rfl,Nat.le_refl _,rd_row (Row.new _ _ _),((Touch.refl No _).drewN _).alloc _,fun ad e=>by cases e;exact Nat.le_refl _⟩
   ·have hv:Me.prodS S T=none:=by rw[Me.prodS,if_neg (fun h=>h3 h.2.2)]
    rw[hv];obtain⟨y,hy⟩:∃y,S.getD 1 0=y:=⟨_,rfl⟩;obtain⟨z,hz⟩:∃z,T.getD 0 0=z:=⟨_,rfl⟩;rw[hy]at k1 h3;rw[hz]at k2 h3;have hzz:((y:Int) != (z:Int))=true:=by simp;omega
    clear hv h3 hy hz ha hb hn hn' hS hT h1 h2;go_enter Tryz.func184,Tryz.ntmps184;go_wp2_with fail;refine C1.out.mono ?_;rintro e w' ⟨rfl,rfl⟩;go_wp2_with fail;refine C2.out.mono ?_;rintro e w' ⟨rfl,rfl⟩;go_wp2;refine wp_region_quiet_lit (by kernel_rfl) (by kernel_rfl) ?_;repeat (first|go_big_quiet_step (fail)|quiet_step (fail))
    refine wpQuiet_nil ?_;intro _ hw';obtain⟨nq,hw''⟩:=hw';subst hw'';go_wp2
    go_ret2
    exact⟨10,by decide,rfl,(Touch.refl No _).drewN _⟩
  ·have hv:Me.prodS S T=none:=by rw[Me.prodS,if_neg (fun h=>h2 (by omega))]
   rw[hv];have h2':((n':Int) != 2)=true:=by simp;omega
   have h1':((n:Int) != 2)=false:=by simp;omega
   clear hv ha hb hn hn' hS hT h1 h2;go_enter Tryz.func184,Tryz.ntmps184;go_wp2_with fail;refine C1.out.mono ?_;rintro e w' ⟨rfl,rfl⟩;go_wp2_with fail;refine C2.out.mono ?_;rintro e w' ⟨rfl,rfl⟩;go_wp2;refine wp_region_quiet_lit (by kernel_rfl) (by kernel_rfl) ?_;repeat (first|go_big_quiet_step (fail)|quiet_step (fail))
   refine wpQuiet_nil ?_;intro _ hw';obtain⟨nq,hw''⟩:=hw';subst hw'';go_wp2
   go_ret2
   exact⟨10,by decide,rfl,(Touch.refl No _).drewN _⟩
 ·have hv:Me.prodS S T=none:=by rw[Me.prodS,if_neg (fun h=>h1 (by omega))]
  rw[hv];have h1':((n:Int) != 2)=true:=by simp;omega
  clear hv ha hb hn hn' hS hT h1;go_enter Tryz.func184,Tryz.ntmps184;go_wp2_with fail;refine C1.out.mono ?_;rintro e w' ⟨rfl,rfl⟩;go_wp2_with fail;refine C2.out.mono ?_;rintro e w' ⟨rfl,rfl⟩;go_wp2;refine wp_region_quiet_lit (by kernel_rfl) (by kernel_rfl) ?_;repeat (first|go_big_quiet_step (fail)|quiet_step (fail))
  refine wpQuiet_nil ?_;intro _ hw';obtain⟨nq,hw''⟩:=hw';subst hw'';go_wp2
  go_ret2
  exact⟨10,by decide,rfl,(Touch.refl No _).drewN _⟩
theorem refProdShape_in (w:World)(a b:Option Addr)(n c n' c':Nat)(S T:List Nat)(hS:Me.Ok S)(hT:Me.Ok T)(ha:Rd w a (nums .i64 S))(hn:S.length=n)(hb:Rd w b (nums .i64 T))(hn':T.length=n') :
  Calls Tryz.prog 112 #[.slice a n c,.slice b n' c'] w (ShOut w (Me.prodS S T)):=by
 have C1:=Lib.hid (refShape_ok (c:=c) ha hn hS);have C2:=Lib.hid (refShape_ok (c:=c') hb hn' hT);have hn4:n≤4:=by rw[← hn];exact hS.four
 by_cases h1:n=2
 ·by_cases h2:n'=2
  ·have q1:((n:Int) != 2)=false:=by simp;omega
   have q2:((n':Int) != 2)=false:=by simp;omega
   have q3:(0:Int)<(n:Nat):=by omega
   have q4:(1:Int)<(n:Nat):=by omega
   have q5:(0:Int)<(n':Nat):=by omega
   have q6:(1:Int)<(n':Nat):=by omega
   obtain⟨b1,o1,rfl,k0⟩:=ha.num (i:=0) (by omega);obtain⟨_,_,e1,k1⟩:=ha.num (i:=1) (by omega);cases e1
   obtain⟨b2,o2,rfl,k2⟩:=hb.num (i:=0) (by omega);obtain⟨_,_,e1,k3⟩:=hb.num (i:=1) (by omega);cases e1
   rw[Nat.add_zero]at k0 k2
   by_cases h3:S.getD 1 0=T.getD 0 0
   ·have hv:Me.prodS S T=some [S.getD 0 0,T.getD 1 0]:=by rw[Me.prodS,if_pos ⟨by omega,by omega,h3⟩]
    rw[hv];obtain⟨x,hx⟩:∃x,S.getD 0 0=x:=⟨_,rfl⟩;obtain⟨y,hy⟩:∃y,T.getD 1 0=y:=⟨_,rfl⟩;obtain⟨z,hz⟩:∃z,T.getD 0 0=z:=⟨_,rfl⟩;rw[h3,hz]at k1;rw[hz]at k2;rw[hx]at k0;rw[hy]at k3;rw[hx,hy];have hzz:((z:Int) != (z:Int))=false:=by simp
    clear hv h3 hx hy hz ha hb hn hn' hS hT h1 h2;go_enter Tryz.func112,Tryz.ntmps112;go_wp2_with fail;refine C1.out.mono ?_;rintro e w' ⟨rfl,rfl⟩;go_wp2_with fail;refine C2.out.mono ?_;rintro e w' ⟨rfl,rfl⟩;go_wp2;refine wp_region_quiet_lit (by kernel_rfl) (by kernel_rfl) ?_;repeat (first|go_big_quiet_step (fail)|quiet_step (fail))
    refine wpQuiet_nil ?_;intro _ hw';obtain⟨nq,hw''⟩:=hw';subst hw'';go_wp2;refine wp_region_quiet_tail 6 (by kernel_rfl) (by kernel_rfl) ?_;simp only[List.take_succ_cons,List.take_zero,List.drop_succ_cons,List.drop_zero];repeat (first|go_big_quiet_step (fail)|quiet_step (fail))
    refine wpQuiet_nil ?_;intro _ hw';obtain⟨nq,hw''⟩:=hw';subst hw'';go_wp2
    go_ret2
    exact⟨_,_,rfl,Nat.le_refl _,rd_row (Row.new _ _ _),((Touch.refl No _).drewN _).alloc _,fun ad e=>by cases e;exact Nat.le_refl _⟩
   ·have hv:Me.prodS S T=none:=by rw[Me.prodS,if_neg (fun h=>h3 h.2.2)]
    rw[hv];obtain⟨y,hy⟩:∃y,S.getD 1 0=y:=⟨_,rfl⟩;obtain⟨z,hz⟩:∃z,T.getD 0 0=z:=⟨_,rfl⟩;rw[hy]at k1 h3;rw[hz]at k2 h3;have hzz:((y:Int) != (z:Int))=true:=by simp;omega
    clear hv h3 hy hz ha hb hn hn' hS hT h1 h2;go_enter Tryz.func112,Tryz.ntmps112;go_wp2_with fail;refine C1.out.mono ?_;rintro e w' ⟨rfl,rfl⟩;go_wp2_with fail;refine C2.out.mono ?_;rintro e w' ⟨rfl,rfl⟩;go_wp2;refine wp_region_quiet_lit (by kernel_rfl) (by kernel_rfl) ?_;repeat (first|go_big_quiet_step (fail)|quiet_step (fail))
    refine wpQuiet_nil ?_;intro _ hw';obtain⟨nq,hw''⟩:=hw';subst hw'';go_wp2
    go_ret2
    exact⟨10,by decide,rfl,(Touch.refl No _).drewN _⟩
  ·have hv:Me.prodS S T=none:=by rw[Me.prodS,if_neg (fun h=>h2 (by omega))]
   rw[hv];have h2':((n':Int) != 2)=true:=by simp;omega
   have h1':((n:Int) != 2)=false:=by simp;omega
   clear hv ha hb hn hn' hS hT h1 h2;go_enter Tryz.func112,Tryz.ntmps112;go_wp2_with fail;refine C1.out.mono ?_;rintro e w' ⟨rfl,rfl⟩;go_wp2_with fail;refine C2.out.mono ?_;rintro e w' ⟨rfl,rfl⟩;go_wp2;refine wp_region_quiet_lit (by kernel_rfl) (by kernel_rfl) ?_;repeat (first|go_big_quiet_step (fail)|quiet_step (fail))
   refine wpQuiet_nil ?_;intro _ hw';obtain⟨nq,hw''⟩:=hw';subst hw'';go_wp2
   go_ret2
   exact⟨10,by decide,rfl,(Touch.refl No _).drewN _⟩
 ·have hv:Me.prodS S T=none:=by rw[Me.prodS,if_neg (fun h=>h1 (by omega))]
  rw[hv];have h1':((n:Int) != 2)=true:=by simp;omega
  clear hv ha hb hn hn' hS hT h1;go_enter Tryz.func112,Tryz.ntmps112;go_wp2_with fail;refine C1.out.mono ?_;rintro e w' ⟨rfl,rfl⟩;go_wp2_with fail;refine C2.out.mono ?_;rintro e w' ⟨rfl,rfl⟩;go_wp2;refine wp_region_quiet_lit (by kernel_rfl) (by kernel_rfl) ?_;repeat (first|go_big_quiet_step (fail)|quiet_step (fail))
  refine wpQuiet_nil ?_;intro _ hw';obtain⟨nq,hw''⟩:=hw';subst hw'';go_wp2
  go_ret2
  exact⟨10,by decide,rfl,(Touch.refl No _).drewN _⟩
end
end Go.Proofs.YtjlphmmalebgpaaGreat
