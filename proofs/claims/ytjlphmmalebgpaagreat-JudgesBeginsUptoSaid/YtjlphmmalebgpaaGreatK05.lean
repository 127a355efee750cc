/-
  A part of the proof.
-/
import Derived.Test.YtjlphmmalebgpaaGreatK04
set_option linter.unusedSimpArgs false
set_option linter.unusedVariables false
set_option maxHeartbeats 2000000
set_option maxRecDepth 100000
namespace Go.Proofs.YtjlphmmalebgpaaGreat
section
open Go Go.RowKit
namespace Me
def zs (S:List Nat):List Int:=S.map fun(n:Nat)=>(n:Int)
theorem zs_length (S:List Nat):(zs S).length=S.length:=by simp[zs]
theorem ints_zs (k:IntKind)(S:List Nat):ints k (zs S)=nums k S:=by simp[ints,nums,zs,List.map_map,Function.comp]
theorem prod_zs (S:List Nat):Ar.prod (zs S)=pr S:=by
 induction S with
 | nil=>rfl
 | cons x r ih =>
   show Int.toNat (x:Int)*Ar.prod (zs r)=x*pr r
   rw[ih];rfl
theorem all_zs {S:List Nat}(h:∀x∈S,1≤x∧x≤64):(zs S).all Ar.inR=true:=by
 rw[List.all_eq_true];intro x hx;obtain⟨y,hy,rfl⟩:=List.mem_map.1 hx;have:=h y hy;rw[Ar.inR_iff];omega
theorem Ok.shape {S:List Nat}(h:Ok S):Ar.shape (zs S)=true:=by
 rw[Ar.shape_iff,zs_length,prod_zs];exact⟨h.one,h.four,all_zs h.each,h.most⟩
theorem Ok.size {S:List Nat}(h:Ok S):Ar.size (zs S)=pr S:=by rw[Ar.size_is,if_pos h.shape,prod_zs]
theorem Ok.pos {S:List Nat}(h:Ok S):1≤pr S:=pr_pos h.each
theorem Ok.check {S:List Nat}(h:Ok S){L:List Int}(hl:L.length=pr S):Ar.check (zs S) L=true:=by
 rw[Ar.check_is,h.shape,h.size,hl];simp
theorem Ok.get {S:List Nat}(h:Ok S){k:Nat}(hk:k<S.length):1≤S.getD k 0∧S.getD k 0≤64:=by
 refine h.each _ ?_;rw[Lgd,Lge hk];exact List.getElem_mem hk
theorem ok_of {s:List Int}(h:Ar.shape s=true):∃S,s=zs S∧Ok S:=by
 obtain⟨h1,h4,ha,hp⟩:=Ar.shape_iff.1 h;rw[List.all_eq_true]at ha
 have e:zs (s.map Int.toNat)=s:=by
  rw[zs,List.map_map]
  conv=>rhs;rw[← List.map_id s]
  refine List.map_congr_left fun x hx=>?_
  have:=Ar.inR_iff.1 (ha x hx);simp only[Function.comp,id];omega
 refine⟨s.map Int.toNat,e.symm,by simpa using h1,by simpa using h4,fun x hx=>?_,?_⟩
 ·obtain⟨y,hy,rfl⟩:=List.mem_map.1 hx
  have:=Ar.inR_iff.1 (ha y hy);omega
 ·rw[← prod_zs,e];exact hp
theorem zs_inj {S T:List Nat}(h:zs S=zs T):S=T:=by
 have:=congrArg (List.map Int.toNat) h
 have e:∀S:List Nat,(zs S).map Int.toNat=S:=fun S=>by
  rw[zs,List.map_map]
  conv=>rhs;rw[← List.map_id S]
  exact List.map_congr_left fun x _=>by simp
 rw[e,e]at this;exact this
end Me
structure TIn (w:World) (sa:Option Addr) (n c:Nat) (la:Option Addr) (m d:Nat) (S:List Nat) (L:List Int):Prop where
 sr:Rd w sa (nums .i64 S)
 sn:S.length=n
 sc:n≤c
 lr:Rd w la (ints .i32 L)
 lm:L.length=m
 lc:m≤d
 ok:Me.Ok S
 len:Me.pr S=m
 rng:∀y∈L,-2147483648≤y∧y≤2147483647
section
variable {w w':World} {sa la:Option Addr} {n c m d:Nat} {S:List Nat} {L:List Int}
theorem TIn.no (h:TIn w sa n c la m d S L)(t:Touch No w w'):TIn w' sa n c la m d S L :=
 {h with sr:=h.sr.no t,lr:=h.lr.no t}
theorem TIn.srz (h:TIn w sa n c la m d S L):Rd w sa (ints .i64 (Me.zs S)):=by rw[Me.ints_zs];exact h.sr
theorem TIn.zn (h:TIn w sa n c la m d S L):(Me.zs S).length=n:=by rw[Me.zs_length];exact h.sn
theorem TIn.n4 (h:TIn w sa n c la m d S L):n≤4:=by rw[← h.sn];exact h.ok.four
theorem TIn.n1 (h:TIn w sa n c la m d S L):1≤n:=by rw[← h.sn];exact h.ok.one
theorem TIn.m4 (h:TIn w sa n c la m d S L):m≤4096:=by rw[← h.len];exact h.ok.most
theorem TIn.m1 (h:TIn w sa n c la m d S L):1≤m:=by rw[← h.len];exact h.ok.pos
theorem TIn.check (h:TIn w sa n c la m d S L):Ar.check (Me.zs S) L=true:=h.ok.check (by rw[h.lm,h.len])
theorem TIn.dir (h:TIn w sa n c la m d S L){k:Nat}(hk:k<n):∃b o,sa=some ⟨b,o,none⟩∧w.cell? ⟨b,o+k,none⟩=some (.int .i64 ((S.getD k 0:Nat):Int)):=h.sr.num (by rw[h.sn];exact hk)
theorem TIn.num (h:TIn w sa n c la m d S L){k:Nat}(hk:k<m):∃b o,la=some ⟨b,o,none⟩∧w.cell? ⟨b,o+k,none⟩=some (.int .i32 (Me.at_ L k)):=h.lr.int (by rw[h.lm];exact hk)
end
def NewA (w:World)(a:Option Addr):Prop:=∀ad,a=some ad→w.heap.size≤ad.block
def TOut (w:World)(S:List Nat)(L:List Int)(e:Ending)(w':World):Prop :=
 ∃sa n c la m d,e = .returned (.tuple #[.agg #[.slice sa n c,.slice la m d],.int .i64 0])∧TIn w' sa n c la m d S L∧Touch No w w'∧NewA w sa∧NewA w la
def NewOut (w:World)(S:List Nat)(e:Ending)(w':World):Prop :=
 ∃sb n d g m,e = .returned (.tuple #[.agg #[.slice sb n d,.slice (some ⟨g,0,none⟩) m m],.int .i64 0])∧S.length=n∧Me.pr S=m∧n≤d∧Rd w' sb (nums .i64 S)∧(∀ad,sb=some ad→w.heap.size≤ad.block∧ad.block<g)∧w.heap.size≤g∧
  Row w' g 21 (List.replicate m (.int .i32 0))∧Touch No w w'
theorem Touch.setOne (w:World)(g:Nat)(c:Array Value):Touch (One g) w (w.setRow g c):=(Touch.refl (One g) w).setRow (fun _=>rfl) c
theorem Touch.oneNo {g:Nat}{a w w':World}(h:Touch No a w)(t:Touch (One g) w w')(hg:a.heap.size≤g):Touch No a w':=h.then t (fun i hi e=>by have:i=g:=e;omega)
theorem hmk32 (m:Nat)(hm:m≤4096):∀wx:World,(Instr.makeSlice 49 (.int .i64 (m:Int)) (.int .i64 (m:Int))).run Tryz.prog wx = .ok (.slice (some ⟨wx.heap.size,0,none⟩) m m) (wx.alloc (.cells (List.replicate m (Value.int .i32 0)).toArray 21)):=fun wx=>by
 obtain⟨I,hi0,hi1,hi2,hi3⟩:=i32_info;have:=run_make (P:=Tryz.prog) wx 49 21 I (.int .i32 0) Tryz.underlying49 hi0 hi1 .i64 .i64 (m:Int) (m:Int) (by omega) (by omega) (by rw[hi3];omega) (by omega);rw[this,hi2,Int.toNat_natCast,Nat.mul_one]
 show Result.ok _ (wx.alloc (.cells (madeCells #[Value.int .i32 0] _) _))=_
 rw[made_fill]
section
variable {w:World} {sa la:Option Addr} {n c m d:Nat} {S:List Nat} {L:List Int}
theorem tenCheck_ok (h:TIn w sa n c la m d S L):Calls Tryz.prog 90 #[.agg #[.slice sa n c,.slice la m d]] w fun e w'=>e = .returned (.bool true)∧Touch No w w':=by
 have:=tenCheck_any w sa la n c m d (Me.zs S) L h.zn (by have:=h.n4;omega) h.srz h.lm (by have:=h.m4;omega);rw[h.check]at this;exact this
theorem refCheck_ok (h:TIn w sa n c la m d S L):Calls Tryz.prog 161 #[.agg #[.slice sa n c,.slice la m d]] w fun e w'=>e = .returned (.bool true)∧Touch No w w':=by
 have:=refCheck_any w sa la n c m d (Me.zs S) L h.zn (by have:=h.n4;omega) h.srz h.lm;rw[h.check]at this;exact this
theorem shapeCheck_ok (hr:Rd w sa (nums .i64 S))(hn:S.length=n)(ok:Me.Ok S):Calls Tryz.prog 136 #[.slice sa n c] w fun e w'=>e = .returned (.bool true)∧w=w':=by
 have:=shapeCheck_any w sa n c (Me.zs S) (by rw[Me.zs_length,hn]) (by have:=ok.four;omega) (by rw[Me.ints_zs];exact hr);rw[Ar.size_pos,ok.shape]at this;exact this
theorem size_ok (hr:Rd w sa (nums .i64 S))(hn:S.length=n)(ok:Me.Ok S)(hm:Me.pr S=m):Calls Tryz.prog 160 #[.slice sa n c] w fun e w'=>e = .returned (.int .i64 (m:Nat))∧w=w':=by
 have:=size_any w sa n c (Me.zs S) (by rw[Me.zs_length,hn]) (by have:=ok.four;omega) (by rw[Me.ints_zs];exact hr);rw[ok.size,hm]at this;exact this
theorem refShape_ok (hr:Rd w sa (nums .i64 S))(hn:S.length=n)(ok:Me.Ok S):Calls Tryz.prog 55 #[.slice sa n c] w fun e w'=>e = .returned (.bool true)∧w=w':=by
 have:=refShape_any w sa n c (Me.zs S) (by rw[Me.zs_length,hn]) (by have:=ok.four;omega) (by rw[Me.ints_zs];exact hr);rw[ok.shape]at this;exact this
theorem refSize_ok (hr:Rd w sa (nums .i64 S))(hn:S.length=n)(ok:Me.Ok S)(hm:Me.pr S=m):Calls Tryz.prog 35 #[.slice sa n c] w fun e w'=>e = .returned (.int .i64 (m:Nat))∧w=w':=by
 have:=refSize_any w sa n c (Me.zs S) (by rw[Me.zs_length,hn]) (by have:=ok.four;omega) (by rw[Me.ints_zs];exact hr);rw[ok.size,hm]at this;exact this
end
theorem tenNew_in (w:World)(sa:Option Addr)(n c:Nat)(S:List Nat)(hr:Rd w sa (nums .i64 S))(hn:S.length=n)(ok:Me.Ok S) :
  Calls Tryz.prog 173 #[.slice sa n c] w (NewOut w S):=by
 obtain⟨m,hm⟩:∃m,Me.pr S=m:=⟨_,rfl⟩;have hm4:m≤4096:=by rw[← hm];exact ok.most
 have hn4:n≤4:=by rw[← hn];exact ok.four
 have hne:sa≠none:=by
  obtain⟨b,o,e,_⟩:=hr.num (i:=0) (by have:=ok.one;omega);rw[e];simp
 have hmk:=hmk32 m hm4;have Hr:=Lib.hid hr;have Hne:=Lib.hid hne;have Hn:=Lib.hid hn;have Ok:=Lib.hid ok;have Hm:=Lib.hid hm;clear hr hn ok hm hne;go_enter Tryz.func173,Tryz.ntmps173;go_wp2_with fail;obtain⟨w1,hw1⟩:∃w1,w1=w.alloc (.cells #[.slice none 0 0,.slice none 0 0] 51):=⟨_,rfl⟩;have T1:Hid (Touch No w w1):=by rw[hw1];exact(Touch.refl No w).alloc _
 have B1:Hid (Row w1 w.heap.size 51 [.slice none 0 0,.slice none 0 0]):=by rw[hw1];exact Row.new w _ _
 rw[← hw1];clear hw1;refine(shapeCheck_ok (Hr.out.no T1.out) Hn.out Ok.out).mono ?_;rintro e w' ⟨rfl,rfl⟩;go_wp2_with fail;have hz:(Me.zs S).length=n:=by rw[Me.zs_length,Hn.out]
 refine(cloneI_own w1 sa n c (Me.zs S) Hne.out (by rw[Me.ints_zs];exact Hr.out.no T1.out) hz (by omega)).mono ?_;rintro e w2 ⟨sb,d,rfl,ho,hd,t2⟩;have T2:Hid (Touch No w w2):=T1.out.trans t2;have B2:Hid (Row w2 w.heap.size 51 [.slice none 0 0,.slice none 0 0]):=B1.out.touch t2 id
 have R2:Hid (Rd w2 sb (nums .i64 S)):=by
  have:=ho.rd;rw[Me.ints_zs]at this;exact this
 have F2:Hid (∀ad,sb=some ad→w1.heap.size≤ad.block∧ad.block<w2.heap.size):=fun ad e=>by
  obtain⟨_,_,e1,_,_,hb,_⟩:=ho.form;cases e1
  exact⟨(hb ad e).1,(hb ad e).2.2.2⟩
 have hdd:=Lib.hid hd;clear ho t2 hd hz;go_wp2_with fail;refine(clipI_any w2 sb n d hdd.out).mono ?_;rintro e w' ⟨rfl,rfl⟩;go_wp2_with fail;refine(size_ok (Hr.out.no T2.out) Hn.out Ok.out Hm.out).mono ?_;rintro e w' ⟨rfl,rfl⟩;go_wp2_with (refine wpList_store_mid rfl 51 _ _ rfl w.heap.size 0 51 [.slice none 0 0,.slice none 0 0] (B2.out.touch ((Touch.refl No _).alloc _) id) rfl [.slice sb n n,.slice (some ⟨w2.heap.size,0,none⟩) m m] rfl (by kernel_rfl) (by simp) (by intro v hv;simp at hv;rcases hv with rfl|rfl <;> rfl) ?_);obtain⟨w4,hw4⟩:∃w4,w4=(w2.alloc (.cells (Array.replicate m (Value.int .i32 0)) 21)).setRow w.heap.size (splice [.slice none 0 0,.slice none 0 0] 0 [.slice sb n n,.slice (some ⟨w2.heap.size,0,none⟩) m m]).toArray:=⟨_,rfl⟩;have hX:w.heap.size<w1.heap.size:=B1.out.lt;have hX2:w.heap.size<w2.heap.size:=B2.out.lt;have t4:Touch (One w.heap.size) w2 w4:=by rw[hw4];exact(((Touch.refl No w2).alloc _).no:Touch (One w.heap.size) w2 _).trans (Touch.setOne _ _ _)
 have R4:Row w4 w.heap.size 51 [.slice sb n n,.slice (some ⟨w2.heap.size,0,none⟩) m m]:=by rw[hw4];exact(B2.out.touch ((Touch.refl No _).alloc _) id).setRow _
 have y0:=R4.cell 0;have y1:=R4.cell 1
 have HN:Hid (Rd w4 sb (nums .i64 S)∧(∀ad,sb=some ad→w.heap.size≤ad.block∧ad.block<w2.heap.size)∧w.heap.size≤w2.heap.size∧Row w4 w2.heap.size 21 (List.replicate m (.int .i32 0))∧Touch No w w4):=by
  refine⟨R2.out.touch t4 (fun b o e _ h=>?_),fun ad e=>?_,by omega,?_,T2.out.oneNo t4 (Nat.le_refl _)⟩
  ·have:=(F2.out _ e).1
   unfold One at h;simp only at this;omega
  ·have:=F2.out ad e
   omega
  ·rw[hw4]
   have h0:Row (w2.alloc (.cells (Array.replicate m (Value.int .i32 0)) 21)) w2.heap.size 21 (List.replicate m (.int .i32 0)):=by
    have:=Row.new w2 21 (Array.replicate m (Value.int .i32 0))
    simpa using this
   exact h0.touch (F:=One w.heap.size) (Touch.setOne _ _ _) (fun e=>by unfold One at e;omega)
 rw[← hw4];clear hw4 t4 R4 hX hX2;go_wp2;refine bodyPost_ret (v:=.tuple #[.agg #[.slice sb n n,.slice (some ⟨w2.heap.size,0,none⟩) m m],.int .i64 0]) (by simp[results,Tryz.results173,go_sem,y0,y1]) rfl ?_;exact⟨sb,n,n,w2.heap.size,m,rfl,Hn.out,Hm.out,Nat.le_refl _,HN.out.1,HN.out.2.1,HN.out.2.2.1,HN.out.2.2.2.1,HN.out.2.2.2.2⟩
theorem refNew_in (w:World)(sa:Option Addr)(n c:Nat)(S:List Nat)(hr:Rd w sa (nums .i64 S))(hn:S.length=n)(ok:Me.Ok S) :
  Calls Tryz.prog 163 #[.slice sa n c] w (NewOut w S):=by
 obtain⟨m,hm⟩:∃m,Me.pr S=m:=⟨_,rfl⟩;have hm4:m≤4096:=by rw[← hm];exact ok.most
 have hn4:n≤4:=by rw[← hn];exact ok.four
 have hmk:=hmk32 m hm4;obtain⟨I,hi0,hi1,hi2,hi3⟩:=info_I;have HI:=Lib.hid (aI hi0 (aI hi1 (aI hi2 hi3)));have Hr:=Lib.hid hr;have Hn:=Lib.hid hn;have Ok:=Lib.hid ok;have Hm:=Lib.hid hm;clear hr hn ok hm hi0 hi1 hi2 hi3;go_enter Tryz.func163,Tryz.ntmps163;go_wp2_with fail;obtain⟨w1,hw1⟩:∃w1,w1=w.alloc (.cells #[.slice none 0 0,.slice none 0 0] 51):=⟨_,rfl⟩;have T1:Hid (Touch No w w1):=by rw[hw1];exact(Touch.refl No w).alloc _
 have B1:Hid (Row w1 w.heap.size 51 [.slice none 0 0,.slice none 0 0]):=by rw[hw1];exact Row.new w _ _
 rw[← hw1];clear hw1;refine(refShape_ok (Hr.out.no T1.out) Hn.out Ok.out).mono ?_;rintro e w' ⟨rfl,rfl⟩;go_wp2_with (at_builtin;refine wpList_append_rd rfl _ _ _ rfl w1.heap.size 3 I (.int .i64 0) 8 Tryz.underlying48 HI.out.1 HI.out.2.1 HI.out.2.2.1 HI.out.2.2.2 rfl _ _ (Own.nil w1 w1.heap.size _) rfl sa n c (nums .i64 S) rfl (by rw[nums_length];exact Hn.out) (Hr.out.no T1.out) (nums_one _ _) (by unfold maxLen;simp only[List.length_nil];omega) (by simp only[List.length_nil];omega) (Nat.le_refl _) ?_;intro v w2 ho t2);rw[List.nil_append]at ho;obtain⟨sb,d,rfl,hd,_⟩:=ho.form' (n:=n) (by rw[nums_length];exact Hn.out);have t2:Touch No w1 w2:=t2.mono fun k _ e=>(by cases e)
 have T2:Hid (Touch No w w2):=T1.out.trans t2;have B2:Hid (Row w2 w.heap.size 51 [.slice none 0 0,.slice none 0 0]):=B1.out.touch t2 id;have R2:Hid (Rd w2 sb (nums .i64 S)):=ho.rd
 have F2:Hid (∀ad,sb=some ad→w1.heap.size≤ad.block∧ad.block<w2.heap.size):=fun ad e=>by
  obtain⟨_,_,e1,_,_,hb,_⟩:=ho.form;cases e1
  exact⟨(hb ad e).1,(hb ad e).2.2.2⟩
 have hdd:=Lib.hid hd;clear ho t2 hd;go_wp2_with fail;refine(refSize_ok (Hr.out.no T2.out) Hn.out Ok.out Hm.out).mono ?_;rintro e w' ⟨rfl,rfl⟩;go_wp2_with (refine wpList_store_mid rfl 51 _ _ rfl w.heap.size 0 51 [.slice none 0 0,.slice none 0 0] (B2.out.touch ((Touch.refl No _).alloc _) id) rfl [.slice sb n d,.slice (some ⟨w2.heap.size,0,none⟩) m m] rfl (by kernel_rfl) (by simp) (by intro v hv;simp at hv;rcases hv with rfl|rfl <;> rfl) ?_);obtain⟨w4,hw4⟩:∃w4,w4=(w2.alloc (.cells (Array.replicate m (Value.int .i32 0)) 21)).setRow w.heap.size (splice [.slice none 0 0,.slice none 0 0] 0 [.slice sb n d,.slice (some ⟨w2.heap.size,0,none⟩) m m]).toArray:=⟨_,rfl⟩;have hX:w.heap.size<w1.heap.size:=B1.out.lt;have hX2:w.heap.size<w2.heap.size:=B2.out.lt;have t4:Touch (One w.heap.size) w2 w4:=by rw[hw4];exact(((Touch.refl No w2).alloc _).no:Touch (One w.heap.size) w2 _).trans (Touch.setOne _ _ _)
 have R4:Row w4 w.heap.size 51 [.slice sb n d,.slice (some ⟨w2.heap.size,0,none⟩) m m]:=by rw[hw4];exact(B2.out.touch ((Touch.refl No _).alloc _) id).setRow _
 have y0:=R4.cell 0;have y1:=R4.cell 1
 have HN:Hid (Rd w4 sb (nums .i64 S)∧(∀ad,sb=some ad→w.heap.size≤ad.block∧ad.block<w2.heap.size)∧w.heap.size≤w2.heap.size∧Row w4 w2.heap.size 21 (List.replicate m (.int .i32 0))∧Touch No w w4):=by
  refine⟨R2.out.touch t4 (fun b o e _ h=>?_),fun ad e=>?_,by omega,?_,T2.out.oneNo t4 (Nat.le_refl _)⟩
  ·have:=(F2.out _ e).1
   unfold One at h;simp only at this;omega
  ·have:=F2.out ad e
   omega
  ·rw[hw4]
   have h0:Row (w2.alloc (.cells (Array.replicate m (Value.int .i32 0)) 21)) w2.heap.size 21 (List.replicate m (.int .i32 0)):=by
    have:=Row.new w2 21 (Array.replicate m (Value.int .i32 0))
    simpa using this
   exact h0.touch (F:=One w.heap.size) (Touch.setOne _ _ _) (fun e=>by unfold One at e;omega)
 rw[← hw4];clear hw4 t4 R4 hX hX2;go_wp2;refine bodyPost_ret (v:=.tuple #[.agg #[.slice sb n d,.slice (some ⟨w2.heap.size,0,none⟩) m m],.int .i64 0]) (by simp[results,Tryz.results163,go_sem,y0,y1]) rfl ?_;exact⟨sb,n,d,w2.heap.size,m,rfl,Hn.out,Hm.out,hdd.out,HN.out.1,HN.out.2.1,HN.out.2.2.1,HN.out.2.2.2.1,HN.out.2.2.2.2⟩
end
section
open Go Go.RowKit
theorem res3 {P:Program}{fn:Func}{t u v:Tmp}(h:fn.results=#[.tmp t,.tmp u,.tmp v])(tmps:Array Value)(w:World):(results fn tmps).run P w = .ok (.tuple #[tmps.getD t undef,tmps.getD u undef,tmps.getD v undef]) w:=by
 simp[results,h,go_sem]
namespace Me
def takes (k:Nat):Nat × Nat × Bool :=
 if k=1∨k=2 then(0,0,true) else if k=3∨k=4∨k=7∨k=8 then(2,2,true) else if k=5∨k=6∨k=9∨k=10∨k=11∨k=13 then(1,1,true) else if k=12 then(1,4,true) else (0,0,false)
end Me
theorem within_in (w:World)(x a b:Int) :
  Calls Tryz.prog 110 #[.int .i64 x,.int .i64 a,.int .i64 b] w fun e w'=>e = .returned (.bool (decide (a≤x∧x≤b)))∧w=w':=by
 by_cases h:a≤x
 ·have f1:decide (a≤x)=true:=by simp;omega
  have HR:Hid (decide (a≤x∧x≤b)=decide (x≤b)):=by show _=_;simp[h]
  clear h;go_enter Tryz.func110,Tryz.ntmps110;go_wp2;go_ret;exact⟨by rw[HR.out];rfl,rfl⟩
 ·have f1:decide (a≤x)=false:=by simp;omega
  have HR:Hid (decide (a≤x∧x≤b)=false):=by show _=_;simp[h]
  clear h;go_enter Tryz.func110,Tryz.ntmps110;go_wp2;go_ret;exact⟨by rw[HR.out];rfl,rfl⟩
theorem takes_in (w:World)(k:Nat) :
  Calls Tryz.prog 109 #[.int .u8 ((k:Nat):Int)] w fun e w'=>e = .returned (.tuple #[.int .i64 (((Me.takes k).1:Nat):Int),.int .i64 (((Me.takes k).2.1:Nat):Int),.bool (Me.takes k).2.2])∧w=w':=by
 by_cases hk:1≤k∧k≤13
 ·have h:k=1∨k=2∨k=3∨k=4∨k=5∨k=6∨k=7∨k=8∨k=9∨k=10∨k=11∨k=12∨k=13:=by omega
  clear hk;rcases h with rfl|rfl|rfl|rfl|rfl|rfl|rfl|rfl|rfl|rfl|rfl|rfl|rfl
  all_goals
   go_enter Tryz.func109,Tryz.ntmps109;go_wp2
   (try simp only[Exit.inBlock,Exit.then]);refine bodyPost_ret (res3 rfl _ _) rfl ?_
   exact⟨rfl,rfl⟩
 ·have hv:Hid (Me.takes k=(0,0,false)):=by
   show _=_
   unfold Me.takes;rw[if_neg (by omega),if_neg (by omega),if_neg (by omega),if_neg (by omega)]
  have e1:((k:Int)==1)=false:=by simp;omega
  have e2:((k:Int)==2)=false:=by simp;omega
  have e3:((k:Int)==3)=false:=by simp;omega
  have e4:((k:Int)==4)=false:=by simp;omega
  have e5:((k:Int)==5)=false:=by simp;omega
  have e6:((k:Int)==6)=false:=by simp;omega
  have e7:((k:Int)==7)=false:=by simp;omega
  have e8:((k:Int)==8)=false:=by simp;omega
  have e9:((k:Int)==9)=false:=by simp;omega
  have e10:((k:Int)==10)=false:=by simp;omega
  have e11:((k:Int)==11)=false:=by simp;omega
  have e12:((k:Int)==12)=false:=by simp;omega
  have e13:((k:Int)==13)=false:=by simp;omega
  clear hk;go_enter Tryz.func109,Tryz.ntmps109;go_wp2
  (try simp only[Exit.inBlock,Exit.then]);refine bodyPost_ret (res3 rfl _ _) rfl ?_
  rw[hv.out];exact⟨rfl,rfl⟩
end
section
open Go Go.RowKit
theorem Row.c0 {w:World}{g:Nat}{T:TypeId}{a b:Value}(h:Row w g T [a,b]):w.cell? ⟨g,0,none⟩=some a:=h.cell 0
theorem Row.c1 {w:World}{g:Nat}{T:TypeId}{a b:Value}(h:Row w g T [a,b]):w.cell? ⟨g,1,none⟩=some b:=h.cell 1
theorem Row.keep {w w':World}{g X:Nat}{T:TypeId}{l:List Value}(h:Row w X T l)(t:Touch (One g) w w')(hx:X≠g):Row w' X T l:=h.touch t (fun e=>hx e)
theorem TIn.keep {w w0 w':World}{sa la:Option Addr}{n c m d g:Nat}{S:List Nat}{L:List Int}(h:TIn w0 sa n c la m d S L)(t0:Touch No w0 w)(t:Touch (One g) w w')(hg:w0.heap.size≤g):TIn w' sa n c la m d S L:=h.no (t0.oneNo t hg)
theorem TIn.of_row {w:World}{sb:Option Addr}{n c g m:Nat}{T:TypeId}{S:List Nat}{L:List Int}(ok:Me.Ok S)(hn:S.length=n)(hc:n≤c)(hm:Me.pr S=m)(hr:Rd w sb (nums .i64 S))(hR:Row w g T (ints .i32 L))(hl:L.length=m)(hL:∀y∈L,-2147483648≤y∧y≤2147483647) :
  TIn w sb n c (some ⟨g,0,none⟩) m m S L :=
 {sr:=hr,sn:=hn,sc:=hc,lr:=fun i v hi=>⟨g,0,rfl,by rw[Nat.zero_add,hR.cell];exact hi⟩,lm:=hl,lc:=Nat.le_refl _,ok:=ok,len:=hm,rng:=hL}
theorem fill_ints_next {L:List Int}{k:Nat}(hk:k<L.length):(fill (ints .i32 L) (.int .i32 0) k).set k (.int .i32 (Me.at_ L k))=fill (ints .i32 L) (.int .i32 0) (k+1):=fill_next (ints_get hk)
theorem ints_at {k:IntKind}{L:List Int}{i:Nat}(h:i<L.length):(ints k L)[i]? = some (.int k (Me.at_ L i)):=ints_get h
theorem row_step {w:World}{g k:Nat}{T:TypeId}{vs:List Value}{z v:Value}(h:Row w g T (fill vs z k))(hv:vs[k]? = some v):Row ((w.setCell ⟨g,k,none⟩ v).drew) g T (fill vs z (k+1)):=by
 have:=h.setCell k v;rw[fill_next hv]at this;exact this.touch (F:=No) (Touch.refl No _).drew id
theorem touch_step {w w':World}{g:Nat}(h:Touch (One g) w w')(k:Nat)(v:Value):Touch (One g) w ((w'.setCell ⟨g,k,none⟩ v).drew) :=
 (h.setCell (p:=⟨g,k,none⟩) (fun _=>(rfl:g=g)) v).drew
theorem Rd.keepR {w w':World}{g:Nat}{a:Option Addr}{vs:List Value}(h:Rd w a vs)(t:Touch (One g) w w')(hF:∀ad,a=some ad→ad.block≠g):Rd w' a vs:=h.touch t (fun b o e _ f=>hF _ e f)
theorem three_rows (w:World)(T:TypeId)(A B C:Array Value):∃w1,w1=((w.alloc (.cells A T)).alloc (.cells B T)).alloc (.cells C T)∧Touch No w w1∧Row w1 w.heap.size T A.toList∧Row w1 (w.heap.size+1) T B.toList∧Row w1 (w.heap.size+1+1) T C.toList∧w1.heap.size=w.heap.size+3:=by
 refine⟨_,rfl,(((Touch.refl No w).alloc _).alloc _).alloc _,((Row.new w _ _).touch ((Touch.refl No _).alloc _) id).touch ((Touch.refl No _).alloc _) id,?_,?_,by simp⟩
 ·have:=Row.new (w.alloc (.cells A T)) T B
  rw[size_alloc]at this;exact this.touch ((Touch.refl No _).alloc _) id
 ·have:=Row.new ((w.alloc (.cells A T)).alloc (.cells B T)) T C
  rw[size_alloc,size_alloc]at this;exact this
structure Fld (w w5:World) (X g Y:Nat) (sc:Option Addr) (n d m:Nat) (S:List Nat):Prop where
 rowY:Row w5 Y 51 [.slice sc n d,.slice (some ⟨g,0,none⟩) m m]
 rowG:Row w5 g 21 (List.replicate m (.int .i32 0))
 t:Touch No w w5
 rd:Rd w5 sc (nums .i64 S)
 blk:∀ad,sc=some ad→X<ad.block∧ad.block<g
 gY:g<Y
 hd:n≤d
 sn:S.length=n
 pm:Me.pr S=m
 ok:Me.Ok S
 Xg:X<g
 wX:w.heap.size≤X
theorem Fld.make {w w2 w3:World}{X g:Nat}{sc:Option Addr}{n d m:Nat}{S:List Nat}(t2:Touch No w w2)(hX:X<w2.heap.size)(hw:w.heap.size≤X)(ok:Me.Ok S)(hn:S.length=n)(hm:Me.pr S=m)(hd:n≤d)(hr:Rd w3 sc (nums .i64 S))
  (hb:∀ad,sc=some ad→w2.heap.size≤ad.block∧ad.block<g) (hg:w2.heap.size≤g) (hrow:Row w3 g 21 (List.replicate m (.int .i32 0))) (t3:Touch No w2 w3) :
  Fld w (w3.alloc (.cells #[.slice sc n d,.slice (some ⟨g,0,none⟩) m m] 51)) X g w3.heap.size sc n d m S :=
 {rowY:=Row.new w3 _ _,rowG:=hrow.touch ((Touch.refl No w3).alloc _) id,t:=(t2.trans t3).alloc _,rd:=hr.no ((Touch.refl No w3).alloc _),blk:=fun ad e=>by have:=hb ad e;omega,gY:=hrow.lt,hd:=hd,sn:=hn,pm:=hm,ok:=ok,Xg:=by omega,wX:=hw}
theorem Fld.done {w w5 wr W:World}{X g Y:Nat}{sc:Option Addr}{n d m:Nat}{S:List Nat}{L:List Int}(h:Fld w w5 X g Y sc n d m S)(t:Touch (One g) w5 wr)(R:Row wr g 21 (ints .i32 L))(hl:L.length=m)(hL:∀y∈L,-2147483648≤y∧y≤2147483647)(tW:Touch (One X) wr W) :
  TIn W sc n d (some ⟨g,0,none⟩) m m S L∧Touch No w W∧NewA w sc∧NewA w (some ⟨g,0,none⟩) :=
 ⟨TIn.of_row (T:=21) h.ok h.sn h.hd h.pm ((h.rd.keepR t (fun ad e=>by have:=h.blk ad e;omega)).keepR tW (fun ad e=>by have:=h.blk ad e;omega)) (R.keep tW (by have:=h.Xg;omega)) hl hL,(h.t.oneNo t (by have:=h.wX;have:=h.Xg;omega)).oneNo tW h.wX,fun ad e=>by have:=h.blk ad e;have:=h.wX;omega,fun ad e=>by cases e;have:=h.wX;have:=h.Xg;show _≤g;omega⟩
theorem Fld.cell {w w5 wr:World}{X g Y:Nat}{sc:Option Addr}{n d m:Nat}{S:List Nat}(h:Fld w w5 X g Y sc n d m S)(t:Touch (One g) w5 wr):wr.cell? ⟨Y,1,none⟩=some (.slice (some ⟨g,0,none⟩) m m):=(h.rowY.keep t (by have:=h.gY;omega)).c1
theorem Fld.cell0 {w w5 wr:World}{X g Y:Nat}{sc:Option Addr}{n d m:Nat}{S:List Nat}(h:Fld w w5 X g Y sc n d m S)(t:Touch (One g) w5 wr):wr.cell? ⟨Y,0,none⟩=some (.slice sc n d):=(h.rowY.keep t (by have:=h.gY;omega)).c0
theorem Fld.start {w w5:World}{X g Y:Nat}{sc:Option Addr}{n d m:Nat}{S:List Nat}(h:Fld w w5 X g Y sc n d m S){vs:List Value}(hl:vs.length=m):Row w5 g 21 (fill vs (.int .i32 0) 0):=by rw[fill_zero,hl];exact h.rowG
theorem Fld.slot {wr:World}{g k:Nat}{T:TypeId}{vs:List Value}(R:Row wr g T (fill vs (.int .i32 0) k))(hk:k<vs.length):wr.cell? ⟨g,k,none⟩=some (.int .i32 0):=by rw[R.cell];exact fill_get hk
theorem refSame_any (w:World)(a b:Option Addr)(n c n' c':Nat)(xs ys:List Int)(hr:Rd w a (ints .i64 xs))(hl:xs.length=n)(hr':Rd w b (ints .i64 ys))(hl':ys.length=n')(hn:(n:Int)≤1000000000000) :
  Calls Tryz.prog 49 #[.slice a n c,.slice b n' c'] w fun e w'=>e = .returned (.bool (decide (xs=ys)))∧Touch No w w':=by
 by_cases hnn:n=n'
 ·subst hnn
  have hnb:((n:Int) != (n:Int))=false:=by simp
  have HR:=Lib.hid hr;have HR':=Lib.hid hr';have Hl:=Lib.hid hl;have Hl':=Lib.hid hl';clear hr hr' hl hl';go_enter Tryz.func49,Tryz.ntmps49;go_wp2
  go_loopg [5] n (fun gh s5 wr=>∃k:Nat,k+gh=n∧s5 = .int .i64 ((k:Nat):Int)∧Hid (xs.take k=ys.take k)∧Hid (Touch No w wr))
  case atStart=>exact⟨0,by omega,rfl,rfl,Touch.refl _ _⟩
  case round =>
   obtain⟨k,hkg,rfl,HE,T⟩:=hrel;cases gk with
   | zero =>
     obtain rfl:k=n:=by omega
     have Hres:Hid (decide (xs=ys)=true):=by
      have h:=HE.out;rw[List.take_of_length_le (by rw[Hl.out];omega),List.take_of_length_le (by rw[Hl'.out];omega)]at h;exact decide_eq_true h
     go_wp2;go_ret;exact⟨by rw[Hres.out];rfl,T.out⟩
   | succ g' =>
     have hki:(k:Int)<(n:Nat):=by omega
     obtain⟨x,hx⟩:∃x,xs.getD k 0=x:=⟨_,rfl⟩;obtain⟨y,hy⟩:∃y,ys.getD k 0=y:=⟨_,rfl⟩;obtain⟨g1,o1,rfl,hc1⟩:=(HR.out.no T.out).int (i:=k) (by rw[Hl.out];omega);obtain⟨g2,o2,rfl,hc2⟩:=(HR'.out.no T.out).int (i:=k) (by rw[Hl'.out];omega);rw[hx]at hc1;rw[hy]at hc2;have e1:xs.take (k+1)=xs.take k ++ [x]:=by rw[List.take_add_one,← hx,Lgd,Lge (by rw[Hl.out];omega)];rfl
     have e2:ys.take (k+1)=ys.take k ++ [y]:=by rw[List.take_add_one,← hy,Lgd,Lge (by rw[Hl'.out];omega)];rfl
     by_cases hxy:x=y
     ·subst hxy
      have HE2:Hid (xs.take (k+1)=ys.take (k+1)):=by show _=_;rw[e1,e2,HE.out]
      have hb:(x != x)=false:=by simp
      clear e1 e2 hx hy;go_wp2
      go_quiet (fail)
      go_wp2;have T2:=Lib.hid (T.out.drewN nq)
      go_roundg g'
      case measure=>omega
      case rel=>exact⟨k+1,by omega,by go_num,HE2.out,T2.out⟩
     ·have hb:(x != y)=true:=by simpa using hxy
      have Hres:Hid (decide (xs=ys)=false):=decide_eq_false (fun e=>hxy (by rw[← hx,← hy,e]));clear e1 e2 hx hy hxy;go_wp2
      go_quiet (fail)
      go_wp2;go_ret;exact⟨by rw[Hres.out];rfl,T.out.drewN _⟩
 ·have hnb:((n:Int) != (n':Int))=true:=by simp;omega
  have Hres:Hid (decide (xs=ys)=false):=decide_eq_false (fun e=>hnn (by rw[← hl,← hl',e]));clear hr hr' hl hl' hnn;go_enter Tryz.func49,Tryz.ntmps49;go_wp2;go_ret;exact⟨by rw[Hres.out];rfl,Touch.refl _ _⟩
theorem refBoth_in (w:World)(sa la sb lb:Option Addr)(n c m d n' c' m' d':Nat)(S:List Nat)(A B:List Int)(hA:TIn w sa n c la m d S A)(hB:TIn w sb n' c' lb m' d' S B) :
  Calls Tryz.prog 162 #[.agg #[.slice sa n c,.slice la m d],.agg #[.slice sb n' c',.slice lb m' d']] w fun e w'=>e = .returned (.int .i64 0)∧Touch No w w':=by
 have HA:=Lib.hid hA;have HB:=Lib.hid hB;clear hA hB;go_enter Tryz.func162,Tryz.ntmps162;go_wp2_with fail;obtain⟨w1,hw1⟩:∃w1,w1=(w.alloc (.cells #[.slice sa n c,.slice la m d] 51)).alloc (.cells #[.slice sb n' c',.slice lb m' d'] 51):=⟨_,rfl⟩;have T1:Hid (Touch No w w1):=by rw[hw1];exact((Touch.refl No w).alloc _).alloc _
 have b2:Row w1 w.heap.size 51 [.slice sa n c,.slice la m d]:=by rw[hw1];exact(Row.new w _ _).touch ((Touch.refl No _).alloc _) id
 have b3:Row w1 (w.heap.size+1) 51 [.slice sb n' c',.slice lb m' d']:=by
  have:=Row.new (w.alloc (.cells #[.slice sa n c,.slice la m d] 51)) 51 #[.slice sb n' c',.slice lb m' d'];rw[size_alloc]at this;rw[hw1];exact this
 have B2:=Lib.hid b2;have B3:=Lib.hid b3;rw[← hw1];clear hw1 b2 b3;refine(refCheck_ok (HA.out.no T1.out)).mono ?_;rintro e w2 ⟨rfl,t2⟩;have T2:Hid (Touch No w w2):=T1.out.trans t2;have B2':=Lib.hid (B2.out.touch t2 id);have B3':=Lib.hid (B3.out.touch t2 id);clear t2 B2 B3;have k0:=B3'.out.c0;have k1:=B3'.out.c1;go_wp2_with fail;refine(refCheck_ok (HB.out.no T2.out)).mono ?_;rintro e w3 ⟨rfl,t3⟩;have T3:Hid (Touch No w w3):=T2.out.trans t3;have b2:=B2'.out.touch t3 id;have b3:=B3'.out.touch t3 id;have k2:=b2.c0;have k3:=b3.c0;clear t3 k0 k1 b2 b3 B2' B3';go_wp2_with fail;have C:=refSame_any w3 sa sb n c n' c' (Me.zs S) (Me.zs S) (HA.out.no T3.out).srz (HA.out.zn) (HB.out.no T3.out).srz HB.out.zn (by have:=HA.out.n4;omega);rw[decide_eq_true rfl]at C;refine C.mono ?_;rintro e w4 ⟨rfl,t4⟩;have T4:Hid (Touch No w w4):=T3.out.trans t4;clear t4 C k2 k3;go_wp2;go_ret;exact⟨rfl,T4.out⟩
end
end Go.Proofs.YtjlphmmalebgpaaGreat
