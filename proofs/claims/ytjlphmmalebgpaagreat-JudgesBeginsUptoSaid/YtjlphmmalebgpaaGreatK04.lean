/-
  A part of the proof.
-/
import Derived.Test.YtjlphmmalebgpaaGreatK03
import Derived.Deep.RegionLawGrows
import Derived.Test.YtjlphmmalebgpaaGreatK02
import Derived.Deep.RegionHeld3
import Derived.StillTailTactics
import Derived.OwnWalkIn
set_option linter.unusedSimpArgs false
set_option linter.unusedVariables false
set_option maxHeartbeats 2000000
set_option maxRecDepth 100000
namespace Go.Proofs.YtjlphmmalebgpaaGreat
section
open Go Go.RowKit
theorem drop_step (xs:List Int)(k:Nat)(h:k<xs.length):xs.drop k=xs.getD k 0::xs.drop (k+1):=by
 rw[List.drop_eq_getElem_cons h,Lgd,Lge h];rfl
theorem info_I:∃i,Tryz.prog.info? 3=some i∧i.zero=some (.int .i64 0)∧i.size=1∧i.bytes=8:=one_info (by kernel_rfl)
theorem cloneI_own (w:World)(a:Option Addr)(n c:Nat)(xs:List Int)(ha:a≠none)(hr:Rd w a (ints .i64 xs))(hl:xs.length=n)(hn:(n:Int)≤1000000000000) :
  Calls Tryz.prog 91 #[.slice a n c] w fun e w'=>∃a' c',e = .returned (.slice a' n c')∧Own w' w.heap.size 3 (.slice a' n c') (ints .i64 xs)∧n≤c'∧Touch No w w':=by
 obtain⟨⟨g,o,sp⟩,rfl⟩:∃ad,a=some ad:=by cases a with|none=>exact absurd rfl ha|some ad=>exact⟨ad,rfl⟩
 have hq:=fun(w:World) (a:Option Addr) (n c n' c':Nat)=>Lib.run_eql_slice_nil (P:=Tryz.prog) w 48 3 a n c n' c' Tryz.underlying48
 obtain⟨I,hi0,hi1,hi2,hi3⟩:=info_I;have HI:=Lib.hid (aI hi0 (aI hi1 (aI hi2 hi3)));have Hl:=Lib.hid (show(ints .i64 xs).length=n by rw[ints_length];exact hl);have Hn:=Lib.hid hn;have HR:=Lib.hid (hr.no ((Touch.refl No w).alloc (.cells #[] 3)));have HO:Hid (Own (w.alloc (.cells #[] 3)) w.heap.size 3 (.slice (some ⟨w.heap.size,0,none⟩) 0 0) []):=own_of_row (Row.new w 3 #[]) (Nat.le_refl _) rfl (Nat.zero_le _);clear hr hn hl hi0 hi1 hi2 hi3 ha;go_enter Tryz.func91,Tryz.ntmps91;go_wp2_with (refine wpList_append_rd rfl _ _ _ rfl w.heap.size 3 I (.int .i64 0) 8 Tryz.underlying48 HI.out.1 HI.out.2.1 HI.out.2.2.1 HI.out.2.2.2 rfl _ _ HO.out rfl (some ⟨g,o,sp⟩) n c (ints .i64 xs) rfl Hl.out HR.out (ints_one _ _) (by have:=Hn.out;unfold maxLen;simp only[List.length_nil];omega) (by have:=Hn.out;simp only[List.length_nil];omega) (by simp) ?_);rintro v w1 o1 t1;have o1:Own w1 w.heap.size 3 v (ints .i64 xs):=o1;obtain⟨a',c',rfl,hc,_⟩:=o1.form' (n:=n) Hl.out;have O1:=Lib.hid o1;have T1:=Lib.hid (((Touch.refl No w).alloc (.cells #[] 3)).then t1 (fun i hi e=>absurd (HO.out.block e).1 (Nat.not_le.2 hi)));have HC:=Lib.hid hc;clear o1 t1 hc;go_wp2;go_ret;exact⟨a',c',by simp,O1.out,HC.out,T1.out⟩
theorem clipI_any (w:World)(a:Option Addr)(n c:Nat)(h:n≤c):Calls Tryz.prog 87 #[.slice a n c] w fun e w'=>e = .returned (.slice a n n)∧w=w':=by
 have hnc:(n:Int)≤(c:Int):=by omega
 have h0:(0:Int)≤(n:Int):=Int.natCast_nonneg _;go_enter Tryz.func87,Tryz.ntmps87;go_wp2;go_ret;exact⟨rfl,rfl⟩
theorem equalI_any (w:World)(a b:Option Addr)(n c n' c':Nat)(xs ys:List Int)(hr:Rd w a (ints .i64 xs))(hl:xs.length=n)(hr':Rd w b (ints .i64 ys))(hl':ys.length=n')(hn:(n:Int)≤1000000000000) :
  Calls Tryz.prog 46 #[.slice a n c,.slice b n' c'] w fun e w'=>e = .returned (.bool (decide (xs=ys)))∧Touch No w w':=by
 by_cases hnn:n=n'
 ·subst hnn
  have hnb:((n:Int) != (n:Int))=false:=by simp
  have HR:=Lib.hid hr;have HR':=Lib.hid hr';have Hl:=Lib.hid hl;have Hl':=Lib.hid hl';clear hr hr' hl hl';go_enter Tryz.func46,Tryz.ntmps46;go_wp2
  go_loopg [13] n (fun gh s13 wr=>∃k:Nat,k+gh=n∧s13 = .int .i64 ((k:Nat):Int)∧Hid (xs.take k=ys.take k)∧Hid (Touch No w wr))
  case atStart=>exact⟨0,by omega,rfl,rfl,Touch.refl _ _⟩
  case round =>
   obtain⟨k,hkg,rfl,HE,T⟩:=hrel;cases gk with
   | zero =>
     obtain rfl:k=n:=by omega
     have Hres:Hid (decide (xs=ys)=true):=by
      have h:=HE.out;rw[List.take_of_length_le (by rw[Hl.out];omega),List.take_of_length_le (by rw[Hl'.out];omega)]at h;exact decide_eq_true h
     go_wp2;go_ret;exact⟨by rw[Hres.out];rfl,T.out⟩
   | succ g' =>
     have hki:(k:Int)<(n:Nat):=by omega
     obtain⟨x,hx⟩:∃x,xs.getD k 0=x:=⟨_,rfl⟩;obtain⟨y,hy⟩:∃y,ys.getD k 0=y:=⟨_,rfl⟩;obtain⟨g1,o1,rfl,hc1⟩:=(HR.out.no T.out).int (i:=k) (by rw[Hl.out];omega);obtain⟨g2,o2,rfl,hc2⟩:=(HR'.out.no T.out).int (i:=k) (by rw[Hl'.out];omega);rw[hx]at hc1;rw[hy]at hc2;have e1:xs.take (k+1)=xs.take k ++ [x]:=by rw[List.take_add_one,← hx,Lgd,Lge (by rw[Hl.out];omega)];rfl
     have e2:ys.take (k+1)=ys.take k ++ [y]:=by rw[List.take_add_one,← hy,Lgd,Lge (by rw[Hl'.out];omega)];rfl
     by_cases hxy:x=y
     ·subst hxy
      have HE2:Hid (xs.take (k+1)=ys.take (k+1)):=by show _=_;rw[e1,e2,HE.out]
      have hb:(x != x)=false:=by simp
      clear e1 e2 hx hy;go_wp2
      go_quiet (fail)
      go_wp2;have T2:=Lib.hid (T.out.drewN nq)
      go_roundg g'
      case measure=>omega
      case rel=>exact⟨k+1,by omega,by go_num,HE2.out,T2.out⟩
     ·have hb:(x != y)=true:=by simpa using hxy
      have Hres:Hid (decide (xs=ys)=false):=decide_eq_false (fun e=>hxy (by rw[← hx,← hy,e]));clear e1 e2 hx hy hxy;go_wp2
      go_quiet (fail)
      go_wp2;go_ret;exact⟨by rw[Hres.out];rfl,T.out.drewN _⟩
 ·have hnb:((n:Int) != (n':Int))=true:=by simp;omega
  have Hres:Hid (decide (xs=ys)=false):=decide_eq_false (fun e=>hnn (by rw[← hl,← hl',e]));clear hr hr' hl hl' hnn;go_enter Tryz.func46,Tryz.ntmps46;go_wp2;go_ret;exact⟨by rw[Hres.out];rfl,Touch.refl _ _⟩
theorem info_L:∃i,Tryz.prog.info? 21=some i∧i.zero=some (.int .i32 0)∧i.size=1∧i.bytes=4:=one_info (by kernel_rfl)
theorem cloneL_own (w:World)(a:Option Addr)(n c:Nat)(xs:List Int)(ha:a≠none)(hr:Rd w a (ints .i32 xs))(hl:xs.length=n)(hn:(n:Int)≤1000000000000) :
  Calls Tryz.prog 93 #[.slice a n c] w fun e w'=>∃a' c',e = .returned (.slice a' n c')∧Own w' w.heap.size 21 (.slice a' n c') (ints .i32 xs)∧n≤c'∧Touch No w w':=by
 obtain⟨⟨g,o,sp⟩,rfl⟩:∃ad,a=some ad:=by cases a with|none=>exact absurd rfl ha|some ad=>exact⟨ad,rfl⟩
 have hq:=fun(w:World) (a:Option Addr) (n c n' c':Nat)=>Lib.run_eql_slice_nil (P:=Tryz.prog) w 49 21 a n c n' c' Tryz.underlying49
 obtain⟨I,hi0,hi1,hi2,hi3⟩:=info_L;have HI:=Lib.hid (aI hi0 (aI hi1 (aI hi2 hi3)));have Hl:=Lib.hid (show(ints .i32 xs).length=n by rw[ints_length];exact hl);have Hn:=Lib.hid hn;have HR:=Lib.hid (hr.no ((Touch.refl No w).alloc (.cells #[] 21)));have HO:Hid (Own (w.alloc (.cells #[] 21)) w.heap.size 21 (.slice (some ⟨w.heap.size,0,none⟩) 0 0) []):=own_of_row (Row.new w 21 #[]) (Nat.le_refl _) rfl (Nat.zero_le _);clear hr hn hl hi0 hi1 hi2 hi3 ha;go_enter Tryz.func93,Tryz.ntmps93;go_wp2_with (refine wpList_append_rd rfl _ _ _ rfl w.heap.size 21 I (.int .i32 0) 4 Tryz.underlying49 HI.out.1 HI.out.2.1 HI.out.2.2.1 HI.out.2.2.2 rfl _ _ HO.out rfl (some ⟨g,o,sp⟩) n c (ints .i32 xs) rfl Hl.out HR.out (ints_one _ _) (by have:=Hn.out;unfold maxLen;simp only[List.length_nil];omega) (by have:=Hn.out;simp only[List.length_nil];omega) (by simp) ?_);rintro v w1 o1 t1;have o1:Own w1 w.heap.size 21 v (ints .i32 xs):=o1;obtain⟨a',c',rfl,hc,_⟩:=o1.form' (n:=n) Hl.out;have O1:=Lib.hid o1;have T1:=Lib.hid (((Touch.refl No w).alloc (.cells #[] 21)).then t1 (fun i hi e=>absurd (HO.out.block e).1 (Nat.not_le.2 hi)));have HC:=Lib.hid hc;clear o1 t1 hc;go_wp2;go_ret;exact⟨a',c',by simp,O1.out,HC.out,T1.out⟩
theorem clipL_any (w:World)(a:Option Addr)(n c:Nat)(h:n≤c):Calls Tryz.prog 92 #[.slice a n c] w fun e w'=>e = .returned (.slice a n n)∧w=w':=by
 have hnc:(n:Int)≤(c:Int):=by omega
 have h0:(0:Int)≤(n:Int):=Int.natCast_nonneg _;go_enter Tryz.func92,Tryz.ntmps92;go_wp2;go_ret;exact⟨rfl,rfl⟩
theorem equalL_any (w:World)(a b:Option Addr)(n c n' c':Nat)(xs ys:List Int)(hr:Rd w a (ints .i32 xs))(hl:xs.length=n)(hr':Rd w b (ints .i32 ys))(hl':ys.length=n')(hn:(n:Int)≤1000000000000) :
  Calls Tryz.prog 47 #[.slice a n c,.slice b n' c'] w fun e w'=>e = .returned (.bool (decide (xs=ys)))∧Touch No w w':=by
 by_cases hnn:n=n'
 ·subst hnn
  have hnb:((n:Int) != (n:Int))=false:=by simp
  have HR:=Lib.hid hr;have HR':=Lib.hid hr';have Hl:=Lib.hid hl;have Hl':=Lib.hid hl';clear hr hr' hl hl';go_enter Tryz.func47,Tryz.ntmps47;go_wp2
  go_loopg [13] n (fun gh s13 wr=>∃k:Nat,k+gh=n∧s13 = .int .i64 ((k:Nat):Int)∧Hid (xs.take k=ys.take k)∧Hid (Touch No w wr))
  case atStart=>exact⟨0,by omega,rfl,rfl,Touch.refl _ _⟩
  case round =>
   obtain⟨k,hkg,rfl,HE,T⟩:=hrel;cases gk with
   | zero =>
     obtain rfl:k=n:=by omega
     have Hres:Hid (decide (xs=ys)=true):=by
      have h:=HE.out;rw[List.take_of_length_le (by rw[Hl.out];omega),List.take_of_length_le (by rw[Hl'.out];omega)]at h;exact decide_eq_true h
     go_wp2;go_ret;exact⟨by rw[Hres.out];rfl,T.out⟩
   | succ g' =>
     have hki:(k:Int)<(n:Nat):=by omega
     obtain⟨x,hx⟩:∃x,xs.getD k 0=x:=⟨_,rfl⟩;obtain⟨y,hy⟩:∃y,ys.getD k 0=y:=⟨_,rfl⟩;obtain⟨g1,o1,rfl,hc1⟩:=(HR.out.no T.out).int (i:=k) (by rw[Hl.out];omega);obtain⟨g2,o2,rfl,hc2⟩:=(HR'.out.no T.out).int (i:=k) (by rw[Hl'.out];omega);rw[hx]at hc1;rw[hy]at hc2;have e1:xs.take (k+1)=xs.take k ++ [x]:=by rw[List.take_add_one,← hx,Lgd,Lge (by rw[Hl.out];omega)];rfl
     have e2:ys.take (k+1)=ys.take k ++ [y]:=by rw[List.take_add_one,← hy,Lgd,Lge (by rw[Hl'.out];omega)];rfl
     by_cases hxy:x=y
     ·subst hxy
      have HE2:Hid (xs.take (k+1)=ys.take (k+1)):=by show _=_;rw[e1,e2,HE.out]
      have hb:(x != x)=false:=by simp
      clear e1 e2 hx hy;go_wp2
      go_quiet (fail)
      go_wp2;have T2:=Lib.hid (T.out.drewN nq)
      go_roundg g'
      case measure=>omega
      case rel=>exact⟨k+1,by omega,by go_num,HE2.out,T2.out⟩
     ·have hb:(x != y)=true:=by simpa using hxy
      have Hres:Hid (decide (xs=ys)=false):=decide_eq_false (fun e=>hxy (by rw[← hx,← hy,e]));clear e1 e2 hx hy hxy;go_wp2
      go_quiet (fail)
      go_wp2;go_ret;exact⟨by rw[Hres.out];rfl,T.out.drewN _⟩
 ·have hnb:((n:Int) != (n':Int))=true:=by simp;omega
  have Hres:Hid (decide (xs=ys)=false):=decide_eq_false (fun e=>hnn (by rw[← hl,← hl',e]));clear hr hr' hl hl' hnn;go_enter Tryz.func47,Tryz.ntmps47;go_wp2;go_ret;exact⟨by rw[Hres.out];rfl,Touch.refl _ _⟩
end
section
open Go Go.RowKit
theorem times_any (w:World)(a:Option Addr)(n c:Nat)(xs:List Int)(hl:xs.length=n)(hn:(n:Int)≤1000000000000)(hr:Rd w a (ints .i64 xs)) :
  Calls Tryz.prog 215 #[.slice a n c] w fun e w'=>e = .returned (.int .i64 (Ar.times 1 xs:Nat))∧w=w':=by
 have HR:=Lib.hid hr;have HL:=Lib.hid hl;clear hr hl;go_enter Tryz.func215,Tryz.ntmps215;go_wp2
 go_loopg [3,8] n (fun gh s3 s8 wr=>∃k m:Nat,k+gh=n∧s8 = .int .i64 ((k:Nat):Int)∧s3 = .int .i64 ((m:Nat):Int)∧m≤4096∧Hid (Ar.times 1 xs=Ar.times m (xs.drop k))∧Hid (wr=w))
 case atStart=>exact⟨0,1,by omega,rfl,rfl,by omega,rfl,rfl⟩
 case round =>
  obtain⟨k,m,hkg,rfl,rfl,hm,HT,hwr⟩:=hrel;have hww:w=wr:=hwr.out.symm;clear hwr;subst hww;cases gk with
  | zero =>
    obtain rfl:k=n:=by omega
    have Hres:Hid (Ar.times 1 xs=m):=by
     show _=_
     rw[HT.out,List.drop_eq_nil_of_le (by rw[HL.out];exact Nat.le_refl _)];rfl
    go_wp2;go_ret;exact⟨by rw[Hres.out];rfl,rfl⟩
  | succ g' =>
    have hki:(k:Int)<(n:Nat):=by omega
    obtain⟨x,hx⟩:∃x,xs.getD k 0=x:=⟨_,rfl⟩;obtain⟨gb,go,rfl,hcx⟩:=HR.out.int (i:=k) (by rw[HL.out];omega);rw[hx]at hcx
    have HD:Hid (xs.drop k=x::xs.drop (k+1)):=by
     show _=_
     rw[drop_step xs k (by rw[HL.out];omega),hx]
    clear hx
    by_cases h1:x<1
    ·have Hres:Hid (Ar.times 1 xs=0):=by show _=_;rw[HT.out,HD.out,Ar.times,if_pos (Or.inl h1)]
     go_wp2;go_ret;exact⟨by rw[Hres.out];rfl,rfl⟩
    ·by_cases h2:64<x
     ·have Hres:Hid (Ar.times 1 xs=0):=by show _=_;rw[HT.out,HD.out,Ar.times,if_pos (Or.inr h2)]
      go_wp2;go_ret;exact⟨by rw[Hres.out];rfl,rfl⟩
     ·obtain⟨y,rfl⟩:∃y:Nat,x=(y:Nat):=⟨x.toNat,by omega⟩
      obtain⟨p,hp⟩:∃p,m*y=p:=⟨_,rfl⟩;have hy:y≤64:=by omega
      have hpb:p≤262144:=by
       have:=Nat.mul_le_mul hm hy;omega
      have hpi:(m:Int)*(y:Int)=(p:Nat):=by rw[← hp];push_cast;rfl
      have HT2:Hid (Ar.times 1 xs=if 4096<p then 0 else Ar.times p (xs.drop (k+1))):=by
       show _=_
       rw[HT.out,HD.out,Ar.times,if_neg (by omega),Int.toNat_natCast,hp]
      have h2i:(y:Int)≤64:=by omega
      have h1i:1≤(y:Int):=by omega
      have hmi:(m:Int)≤4096:=by omega
      have hwr:IntKind.i64.wrap ((m:Int)*(y:Int))=(p:Nat):=by rw[hpi];exact IntWalk.i64_in _ (by omega)
      clear hp hy
      by_cases h3:4096<p
      ·have h3i:(4096:Int)<(p:Nat):=by omega
       have Hres:Hid (Ar.times 1 xs=0):=by show _=_;rw[HT2.out,if_pos h3]
       go_wp2;go_ret;exact⟨by rw[Hres.out];rfl,rfl⟩
      ·have h3i:¬(4096:Int)<(p:Nat):=by omega
       have HT3:Hid (Ar.times 1 xs=Ar.times p (xs.drop (k+1))):=by show _=_;rw[HT2.out,if_neg h3]
       go_wp2
       go_roundg g'
       case measure=>omega
       case rel=>exact⟨k+1,p,by omega,by go_num,rfl,by omega,HT3.out,rfl⟩
theorem size_any (w:World)(a:Option Addr)(n c:Nat)(xs:List Int)(hl:xs.length=n)(hn:(n:Int)≤1000000000000)(hr:Rd w a (ints .i64 xs)) :
  Calls Tryz.prog 160 #[.slice a n c] w fun e w'=>e = .returned (.int .i64 (Ar.size xs:Nat))∧w=w':=by
 have C:=Lib.hid (times_any w a n c xs hl hn hr)
 by_cases h1:n<1
 ·have hs:Ar.size xs=0:=by rw[Ar.size,if_pos (Or.inl (by omega))]
  have h1i:(n:Int)<1:=by omega
  rw[hs];clear hs hr hl h1;go_enter Tryz.func160,Tryz.ntmps160;go_wp2;go_ret;exact⟨rfl,rfl⟩
 ·by_cases h2:4<n
  ·have hs:Ar.size xs=0:=by rw[Ar.size,if_pos (Or.inr (by omega))]
   have h1i:¬(n:Int)<1:=by omega
   have h2i:(4:Int)<(n:Nat):=by omega
   rw[hs];clear hs hr hl h1 h2;go_enter Tryz.func160,Tryz.ntmps160;go_wp2;go_ret;exact⟨rfl,rfl⟩
  ·have hs:Ar.size xs=Ar.times 1 xs:=by rw[Ar.size,if_neg (by omega)]
   have h1i:¬(n:Int)<1:=by omega
   have h2i:¬(4:Int)<(n:Nat):=by omega
   rw[hs];clear hs hr hl h1 h2;go_enter Tryz.func160,Tryz.ntmps160;go_wp2_with fail;refine C.out.mono ?_;rintro e w' ⟨rfl,rfl⟩;go_wp2;go_ret;exact⟨rfl,rfl⟩
theorem shapeCheck_any (w:World)(a:Option Addr)(n c:Nat)(xs:List Int)(hl:xs.length=n)(hn:(n:Int)≤1000000000000)(hr:Rd w a (ints .i64 xs)) :
  Calls Tryz.prog 136 #[.slice a n c] w fun e w'=>e = .returned (.bool (decide (0<Ar.size xs)))∧w=w':=by
 have C:=size_any w a n c xs hl hn hr;obtain⟨s,hs⟩:∃s,Ar.size xs=s:=⟨_,rfl⟩;rw[hs]at C ⊢;have HC:=Lib.hid C;clear hs C hr hl;go_enter Tryz.func136,Tryz.ntmps136;go_wp2_with fail;refine HC.out.mono ?_;rintro e w' ⟨rfl,rfl⟩;go_wp2;go_ret;refine⟨ret_bool ?_,rfl⟩;simp
theorem tenCheck_any (w:World)(sa la:Option Addr)(n c m d:Nat)(s l:List Int)(hs:s.length=n)(hn:(n:Int)≤1000000000000)(hr:Rd w sa (ints .i64 s))(hl:l.length=m)(hm:(m:Int)≤1000000000000) :
  Calls Tryz.prog 90 #[.agg #[.slice sa n c,.slice la m d]] w fun e w'=>e = .returned (.bool (Ar.check s l))∧Touch No w w':=by
 obtain⟨q,hq⟩:∃q,Ar.size s=q:=⟨_,rfl⟩;obtain⟨w1,hw1⟩:∃w1,w1=w.alloc (.cells #[.slice sa n c,.slice la m d] 51):=⟨_,rfl⟩;have t1:Touch No w w1:=by rw[hw1];exact(Touch.refl No w).alloc _
 have B:=Row.new w 51 #[.slice sa n c,.slice la m d];obtain⟨X,hX⟩:∃X,X=w.heap.size:=⟨_,rfl⟩;rw[← hw1,← hX]at B;have b0:w1.cell? ⟨X,0,none⟩=some (.slice sa n c):=B.cell 0;have b1:w1.cell? ⟨X,1,none⟩=some (.slice la m d):=B.cell 1;have hlt:X<w1.heap.size:=B.lt
 have C1:Hid (∀j,Calls Tryz.prog 136 #[.slice sa n c] (w1.drewN j) fun e w'=>e = .returned (.bool (decide (0<q)))∧w'=w1.drewN j):=fun j=>by
  have:=shapeCheck_any (w1.drewN j) sa n c s hs hn (hr.no (t1.drewN j));rw[hq]at this;exact this.mono fun _ _ ⟨h1,h2⟩=>⟨h1,h2.symm⟩
 have C2:Hid (∀j,Calls Tryz.prog 160 #[.slice sa n c] (w1.drewN j) fun e w'=>e = .returned (.int .i64 (q:Nat))∧w'=w1.drewN j):=fun j=>by
  have:=size_any (w1.drewN j) sa n c s hs hn (hr.no (t1.drewN j));rw[hq]at this;exact this.mono fun _ _ ⟨h1,h2⟩=>⟨h1,h2.symm⟩
 have T1:=Lib.hid t1;have HRes:Hid (Ar.check s l=(decide (0<q)&&decide (m=q))):=by show _=_;rw[Ar.check,hq,hl]
 rw[HRes.out];clear hq hr hs hl t1 B HRes
 by_cases h0:0<q
 ·rw[decide_eq_true h0]at C1 ⊢
  rw[Bool.true_and];go_enter Tryz.func90,Tryz.ntmps90;go_wp2_with fail;rw[← hw1,← hX];clear hw1 hX
  go_quiet ((first|(go_at_call 136;exact Calls.quiet_of_same (C1.out _))|(go_at_call 160;exact Calls.quiet_of_same (C2.out _))))
  go_wp2;go_ret;refine⟨ret_bool ?_,T1.out.drewN _⟩;rw[Bool.eq_iff_iff];simp;omega
 ·rw[decide_eq_false h0]at C1 ⊢
  rw[Bool.false_and];go_enter Tryz.func90,Tryz.ntmps90;go_wp2_with fail;rw[← hw1,← hX];clear hw1 hX
  go_quiet ((first|(go_at_call 136;exact Calls.quiet_of_same (C1.out _))|(go_at_call 160;exact Calls.quiet_of_same (C2.out _))))
  go_wp2;go_ret;exact⟨rfl,T1.out.drewN _⟩
theorem tenSame_any (w:World)(sa la sb lb:Option Addr)(n c m d n' c' m' d':Nat)(s l s' l':List Int)(hs:s.length=n)(hn:(n:Int)≤1000000000000)(hr:Rd w sa (ints .i64 s))(hl:l.length=m)(hm:(m:Int)≤1000000000000)(hr2:Rd w la (ints .i32 l))
  (hs':s'.length=n') (hr':Rd w sb (ints .i64 s')) (hl':l'.length=m') (hr2':Rd w lb (ints .i32 l')) :
  Calls Tryz.prog 27 #[.agg #[.slice sa n c,.slice la m d],.agg #[.slice sb n' c',.slice lb m' d']] w fun e w'=>e = .returned (.bool (decide (s=s')&&decide (l=l')))∧Touch No w w':=by
 have hb:∀o:Obj,∀o':Obj,Touch No w ((w.alloc o).alloc o'):=fun o o'=>((Touch.refl No w).alloc o).alloc o'
 have C1:=Lib.hid (fun(wx:World) (t:Touch No w wx)=>equalI_any wx sa sb n c n' c' s s' (hr.no t) hs (hr'.no t) hs' hn);have C2:=Lib.hid (fun(wx:World) (t:Touch No w wx)=>equalL_any wx la lb m d m' d' l l' (hr2.no t) hl (hr2'.no t) hl' hm);obtain⟨b1,hb1⟩:∃b1,decide (s=s')=b1:=⟨_,rfl⟩;obtain⟨b2,hb2⟩:∃b2,decide (l=l')=b2:=⟨_,rfl⟩;rw[hb1]at C1 ⊢;rw[hb2]at C2 ⊢;have HB:=Lib.hid hb;clear hr hr' hr2 hr2' hs hs' hl hl' hb1 hb2 hb;cases b1 with
 | false =>
   go_enter Tryz.func27,Tryz.ntmps27;go_wp2_with fail;refine(C1.out _ (HB.out _ _)).mono ?_;rintro e w1 ⟨rfl,t1⟩;have T1:=Lib.hid ((HB.out _ _).trans t1);clear t1;go_wp2;go_ret;exact⟨rfl,T1.out⟩
 | true =>
   go_enter Tryz.func27,Tryz.ntmps27;go_wp2_with fail;refine(C1.out _ (HB.out _ _)).mono ?_;rintro e w1 ⟨rfl,t1⟩;have r1:=(Row.new w 51 #[.slice sa n c,.slice la m d]).touch (((Touch.refl No _).alloc (.cells #[.slice sb n' c',.slice lb m' d'] 51)).trans t1) id;have r2:=(Row.new (w.alloc (.cells #[.slice sa n c,.slice la m d] 51)) 51 #[.slice sb n' c',.slice lb m' d']).touch t1 id;have k1:w1.cell? ⟨w.heap.size,1,none⟩=some (.slice la m d):=r1.cell 1;have k2:w1.cell? ⟨w.heap.size+1,1,none⟩=some (.slice lb m' d'):=by have:=r2.cell 1;simpa using this
   have T1:=Lib.hid ((HB.out _ _).trans t1);clear t1 r1 r2;go_wp2_with fail;refine(C2.out _ T1.out).mono ?_;rintro e w2 ⟨rfl,t2⟩;have T2:=Lib.hid (T1.out.trans t2);clear t2;go_wp2;go_ret;exact⟨by simp,T2.out⟩
def TwinPost (w:World)(s l:List Int)(e:Ending)(w':World):Prop :=
 ∃sa la,e = .returned (.agg #[.slice sa s.length s.length,.slice la l.length l.length])∧Rd w' sa (ints .i64 s)∧Rd w' la (ints .i32 l)∧(∀g o,sa=some ⟨g,o,none⟩→w.heap.size≤g∧g<w'.heap.size)∧(∀g o,la=some ⟨g,o,none⟩→w.heap.size≤g∧g<w'.heap.size)∧sa≠none∧la≠none∧Touch No w w'
theorem rd_some {w:World}{k:IntKind}{a:Option Addr}{xs:List Int}(h:Rd w a (ints k xs))(hp:1≤xs.length):a≠none:=by
 obtain⟨b,o,e,_⟩:=h.int (i:=0) (by omega);rw[e];exact fun h=>by cases h
end
section
open Go Go.RowKit
section
variable {P:Program}
end
end
section
open Go Go.RowKit
namespace Ar
def inR (x:Int):Bool:=decide (1≤x)&&decide (x≤64)
def prod:List Int→Nat
 | []=>1
 | x::r=>x.toNat*prod r
theorem prod_append (l m:List Int):prod (l++m)=prod l*prod m:=by
 induction l with
 | nil=>simp[prod]
 | cons x r ih=>rw[List.cons_append,prod,prod,ih,Nat.mul_assoc]
theorem prod_pos {l:List Int}(h:l.all inR=true):1≤prod l:=by
 induction l with
 | nil=>exact Nat.le_refl _
 | cons x r ih =>
   rw[List.all_cons,Bool.and_eq_true]at h;have h1:=ih h.2;have h2:1≤x.toNat:=by have:=h.1;simp[inR]at this;omega
   exact Nat.mul_pos h2 h1
theorem prod_le {l:List Int}(h:l.all inR=true):prod l≤64 ^ l.length:=by
 induction l with
 | nil=>exact Nat.le_refl _
 | cons x r ih =>
   rw[List.all_cons,Bool.and_eq_true]at h;have h1:=ih h.2;have h2:x.toNat≤64:=by have:=h.1;simp[inR]at this;omega
   rw[prod,List.length_cons,Nat.pow_succ,Nat.mul_comm (64 ^ r.length)];exact Nat.mul_le_mul h2 h1
theorem times_is:∀(l:List Int) (n:Nat),1≤n→n≤4096→times n l=if l.all inR=true∧n*prod l≤4096 then n*prod l else 0
 | [],n,h1,h2=>by simp[times,prod,h2]
 | x::r,n,h1,h2=>by
   rw[times]
   by_cases hx:x<1∨64<x
   ·rw[if_pos hx,if_neg (fun h=>by
    have h1:=h.1;rw[List.all_cons,Bool.and_eq_true]at h1;have:=h1.1;simp[inR]at this;omega)]
   ·rw[if_neg hx]
    have hin:inR x=true:=by simp[inR];omega
    have hxn:1≤x.toNat:=by omega
    by_cases hp:4096<n*x.toNat
    ·rw[if_pos hp,if_neg (fun h=>by
     obtain⟨ha,hb⟩:=h;rw[List.all_cons,Bool.and_eq_true]at ha;have h3:=prod_pos ha.2;rw[prod,← Nat.mul_assoc]at hb;have:=Nat.le_mul_of_pos_right (n*x.toNat) h3;omega)]
    ·rw[if_neg hp,times_is r (n*x.toNat) (Nat.mul_pos h1 hxn) (by omega),List.all_cons,hin,Bool.true_and,prod,Nat.mul_assoc]
def shape (s:List Int):Bool:=decide (1≤s.length)&&decide (s.length≤4)&&s.all inR&&decide (prod s≤4096)
theorem shape_iff {s:List Int}:shape s=true↔1≤s.length∧s.length≤4∧s.all inR=true∧prod s≤4096:=by
 simp[shape,Bool.and_eq_true,and_assoc]
theorem size_is (s:List Int):size s=if shape s=true then prod s else 0:=by
 unfold size
 by_cases hl:s.length<1∨4<s.length
 ·rw[if_pos hl,if_neg (fun h=>by rw[shape_iff]at h;omega)]
 ·rw[if_neg hl,times_is s 1 (Nat.le_refl _) (by decide),Nat.one_mul]
  by_cases h:s.all inR=true∧prod s≤4096
  ·rw[if_pos h,if_pos (shape_iff.2 ⟨by omega,by omega,h.1,h.2⟩)]
  ·rw[if_neg h,if_neg (fun h2=>h ⟨(shape_iff.1 h2).2.2.1,(shape_iff.1 h2).2.2.2⟩)]
theorem size_pos (s:List Int):decide (0<size s)=shape s:=by
 rw[size_is];cases h:shape s with
 | false=>simp
 | true =>
   have:=prod_pos (shape_iff.1 h).2.2.1;simp;omega
theorem check_is (s l:List Int):check s l=(shape s&&decide (l.length=size s)):=by rw[check,size_pos]
theorem all_take {s:List Int}{k:Nat}(h:(s.take k).all inR=true){x:Int}(hx:s[k]? = some x)(hin:inR x=true):(s.take (k+1)).all inR=true:=by
 have hk:k<s.length:=by
  rcases Nat.lt_or_ge k s.length with h|h
  ·exact h
  ·rw[Lgn h]at hx;cases hx
 rw[List.take_succ_eq_append_getElem hk,List.all_append,h];rw[Lge hk]at hx;rw[Option.some.inj hx];simp[hin]
theorem prod_take {s:List Int}{k:Nat}{x:Int}(hx:s[k]? = some x):prod (s.take (k+1))=prod (s.take k)*x.toNat:=by
 have hk:k<s.length:=by
  rcases Nat.lt_or_ge k s.length with h|h
  ·exact h
  ·rw[Lgn h]at hx;cases hx
 rw[List.take_succ_eq_append_getElem hk,prod_append];rw[Lge hk]at hx;rw[Option.some.inj hx];simp[prod]
theorem prod_take_le {s:List Int}{k:Nat}(h:(s.take k).all inR=true)(hs:s.length≤4)(hk:k<s.length):prod (s.take k)≤262144:=by
 have h1:=prod_le h;rw[List.length_take,Nat.min_eq_left (by omega)]at h1;have h2:64 ^ k≤64 ^ 3:=Nat.pow_le_pow_right (by decide) (by omega);have h3:64 ^ 3=262144:=by decide
 omega
theorem inR_iff {x:Int}:inR x=true↔1≤x∧x≤64:=by simp[inR]
theorem all_get {s:List Int}(h:s.all inR=true){k:Nat}{x:Int}(hx:s[k]? = some x):inR x=true:=by
 rw[List.all_eq_true]at h;exact h x (List.mem_of_getElem? hx)
end Ar
theorem refShape_any (w:World)(a:Option Addr)(n c:Nat)(s:List Int)(hs:s.length=n)(hn:(n:Int)≤1000000000000)(hr:Rd w a (ints .i64 s)) :
  Calls Tryz.prog 55 #[.slice a n c] w fun e w'=>e = .returned (.bool (Ar.shape s))∧w=w':=by
 by_cases h1:n<1
 ·have hv:Ar.shape s=false:=by cases h:Ar.shape s;rfl;rw[Ar.shape_iff]at h;omega
  rw[hv];have h1':(n:Int)<1:=by omega
  clear hv hr;go_enter Tryz.func55,Tryz.ntmps55;go_wp2;go_ret;exact⟨rfl,rfl⟩
 by_cases h4:4<n
 ·have hv:Ar.shape s=false:=by cases h:Ar.shape s;rfl;rw[Ar.shape_iff]at h;omega
  rw[hv];have h1':¬(n:Int)<1:=by omega
  have h4':(4:Int)<n:=by omega
  clear hv hr;go_enter Tryz.func55,Tryz.ntmps55;go_wp2;go_ret;exact⟨rfl,rfl⟩
 have h1':¬(n:Int)<1:=by omega
 have h4':¬(4:Int)<n:=by omega
 have Hs:=Lib.hid hs;have Hr:=Lib.hid hr;have hn4:n≤4:=by omega
 have hn1:1≤n:=by omega
 clear hs hr h1 h4;go_enter Tryz.func55,Tryz.ntmps55;go_wp2
 go_loopg [3,4] n (fun g s3 s4 wr=>∃k p:Nat,k+g=n∧s4 = .int .i64 ((k:Nat):Int)∧s3 = .int .i64 (p:Nat)∧Hid (p=Ar.prod (s.take k)∧(s.take k).all Ar.inR=true)∧Hid (wr=w))
 case atStart=>exact⟨0,1,by omega,rfl,rfl,⟨rfl,rfl⟩,rfl⟩
 case round =>
  obtain⟨k,p,hkg,rfl,rfl,HP,hwr⟩:=hrel;have hww:w=wr:=hwr.out.symm;clear hwr;subst hww;cases gk with
  | zero =>
    obtain rfl:k=n:=by omega
    have hall:=HP.out.2;have hpp:=HP.out.1;rw[List.take_of_length_le (by rw[Hs.out];exact Nat.le_refl _)]at hall hpp
    have hv:Hid (Ar.shape s=decide ((p:Int)≤4096)):=by
     show _=_
     rw[hpp,Ar.shape,hall,Hs.out,decide_eq_true hn1,decide_eq_true hn4,Bool.true_and,Bool.true_and,Bool.true_and]
     by_cases h:Ar.prod s≤4096
     ·rw[decide_eq_true h,decide_eq_true (by omega)]
     ·rw[decide_eq_false h,decide_eq_false (by omega)]
    clear hall hpp HP;go_wp2;go_ret;exact⟨by rw[hv.out];rfl,rfl⟩
  | succ g' =>
    have hlt:(k:Int)<(n:Nat):=by omega
    have hkl:k<s.length:=by rw[Hs.out];omega
    obtain⟨x,hx⟩:∃x,s[k]? = some x:=⟨_,Lge hkl⟩;obtain⟨ga,oa,rfl,hca⟩:=Hr.out.int hkl;have hgx:s.getD k 0=x:=by rw[Lgd,hx];rfl
    rw[hgx]at hca
    by_cases hin:Ar.inR x=true
    ·have hxr:=Ar.inR_iff.1 hin
     have hx1:¬x<1:=by omega
     have hx2:¬(64:Int)<x:=by omega
     have hN:Hid (p*x.toNat=Ar.prod (s.take (k+1))∧(s.take (k+1)).all Ar.inR=true):=⟨by rw[Ar.prod_take hx,HP.out.1],Ar.all_take HP.out.2 hx hin⟩;have hp0:p≤262144:=by rw[HP.out.1];exact Ar.prod_take_le HP.out.2 (by rw[Hs.out];exact hn4) hkl
     have hpx:p*x.toNat≤262144*64:=Nat.mul_le_mul hp0 (by omega);have he:(p:Int)*x=((p*x.toNat:Nat):Int):=by rw[Int.natCast_mul,Int.toNat_of_nonneg (by omega)]
     have hw:IntKind.i64.wrap ((p:Int)*x)=((p*x.toNat:Nat):Int):=by rw[he];exact IntWalk.i64_in _ (by omega)
     obtain⟨q,hq⟩:∃q,p*x.toNat=q:=⟨_,rfl⟩;rw[hq]at hw hN;clear hx hgx hkl hin hxr HP hp0 hpx he hq;go_wp2
     go_roundg g'
     case measure=>omega
     case rel=>exact⟨k+1,q,by omega,by go_num,rfl,hN,rfl⟩
    ·have hv:Hid (Ar.shape s=false):=by
      show _=_
      cases h:Ar.shape s with
      | false=>rfl
      | true=>exact absurd (Ar.all_get (Ar.shape_iff.1 h).2.2.1 hx) hin
     have hin':x<1∨64<x:=by
      rw[Ar.inR_iff]at hin;omega
     clear hx hgx hkl hin HP
     by_cases hx1:x<1
     ·clear hin'
      go_wp2;go_ret;exact⟨by rw[hv.out];rfl,rfl⟩
     ·have hx2:(64:Int)<x:=by omega
      clear hin';go_wp2;go_ret;exact⟨by rw[hv.out];rfl,rfl⟩
theorem refSize_any (w:World)(a:Option Addr)(n c:Nat)(s:List Int)(hs:s.length=n)(hn:(n:Int)≤1000000000000)(hr:Rd w a (ints .i64 s)) :
  Calls Tryz.prog 35 #[.slice a n c] w fun e w'=>e = .returned (.int .i64 (Ar.size s:Nat))∧w=w':=by
 have C:=Lib.hid (refShape_any w a n c s hs hn hr);rw[Ar.size_is];cases hv:Ar.shape s with
 | false =>
   rw[hv]at C;rw[if_neg (by decide)];clear hr hv;go_enter Tryz.func35,Tryz.ntmps35;go_wp2_with fail;refine C.out.mono ?_;rintro e w' ⟨rfl,rfl⟩;go_wp2;go_ret;exact⟨rfl,rfl⟩
 | true =>
   rw[hv]at C;rw[if_pos rfl];obtain⟨hs1,hs4,hall,hp⟩:=Ar.shape_iff.1 hv;have Hs:=Lib.hid hs;have Hr:=Lib.hid hr;have HA:=Lib.hid hall;have hn4:n≤4:=by omega
   clear hs hr hall hv hs1 hs4 hp;go_enter Tryz.func35,Tryz.ntmps35;go_wp2_with fail;refine C.out.mono ?_;rintro e w' ⟨rfl,rfl⟩;go_wp2
   go_loopg [3,4] n (fun g s3 s4 wr=>∃k p:Nat,k+g=n∧s4 = .int .i64 ((k:Nat):Int)∧s3 = .int .i64 (p:Nat)∧Hid (p=Ar.prod (s.take k)∧(s.take k).all Ar.inR=true)∧Hid (wr=w))
   case atStart=>exact⟨0,1,by omega,rfl,rfl,⟨rfl,rfl⟩,rfl⟩
   case round =>
    obtain⟨k,p,hkg,rfl,rfl,HP,hwr⟩:=hrel;have hww:w=wr:=hwr.out.symm;clear hwr;subst hww;cases gk with
    | zero =>
      obtain rfl:k=n:=by omega
      have hpp:=HP.out.1;rw[List.take_of_length_le (by rw[Hs.out];exact Nat.le_refl _)]at hpp;have Hpp:=Lib.hid hpp;clear hpp HP;go_wp2;go_ret;exact⟨by rw[← Hpp.out];rfl,rfl⟩
    | succ g' =>
      have hlt:(k:Int)<(n:Nat):=by omega
      have hkl:k<s.length:=by rw[Hs.out];omega
      obtain⟨x,hx⟩:∃x,s[k]? = some x:=⟨_,Lge hkl⟩;obtain⟨ga,oa,rfl,hca⟩:=Hr.out.int hkl;have hgx:s.getD k 0=x:=by rw[Lgd,hx];rfl
      rw[hgx]at hca;have hin:=Ar.all_get HA.out hx;have hxr:=Ar.inR_iff.1 hin;have hN:Hid (p*x.toNat=Ar.prod (s.take (k+1))∧(s.take (k+1)).all Ar.inR=true):=⟨by rw[Ar.prod_take hx,HP.out.1],Ar.all_take HP.out.2 hx hin⟩;have hp0:p≤262144:=by rw[HP.out.1];exact Ar.prod_take_le HP.out.2 (by rw[Hs.out];exact hn4) hkl
      have hpx:p*x.toNat≤262144*64:=Nat.mul_le_mul hp0 (by omega);have he:(p:Int)*x=((p*x.toNat:Nat):Int):=by rw[Int.natCast_mul,Int.toNat_of_nonneg (by omega)]
      have hw:IntKind.i64.wrap ((p:Int)*x)=((p*x.toNat:Nat):Int):=by rw[he];exact IntWalk.i64_in _ (by omega)
      obtain⟨q,hq⟩:∃q,p*x.toNat=q:=⟨_,rfl⟩;rw[hq]at hw hN;clear hx hgx hkl hin hxr HP hp0 hpx he hq;go_wp2
      go_roundg g'
      case measure=>omega
      case rel=>exact⟨k+1,q,by omega,by go_num,rfl,hN,rfl⟩
theorem refCheck_any (w:World)(sa la:Option Addr)(n c m d:Nat)(s l:List Int)(hs:s.length=n)(hn:(n:Int)≤1000000000000)(hr:Rd w sa (ints .i64 s))(hl:l.length=m) :
  Calls Tryz.prog 161 #[.agg #[.slice sa n c,.slice la m d]] w fun e w'=>e = .returned (.bool (Ar.check s l))∧Touch No w w':=by
 have hck:=Ar.check_is s l;rw[hl]at hck;have C1:=Lib.hid (fun(wx:World) (t:Touch No w wx)=>(refShape_any wx sa n c s hs hn (hr.no t)));have C2:=Lib.hid (fun(wx:World) (t:Touch No w wx)=>(refSize_any wx sa n c s hs hn (hr.no t)));obtain⟨z,hz⟩:∃z,Ar.size s=z:=⟨_,rfl⟩;have hz4:z≤4096:=by rw[← hz];exact Ar.size_le s
 rw[hz]at C2 hck;rw[hck];cases hv:Ar.shape s with
 | false =>
   rw[hv]at C1;rw[Bool.false_and];clear hr hv hck hs hl hz;go_enter Tryz.func161,Tryz.ntmps161;go_wp2_with fail;obtain⟨w1,hw1⟩:∃w1,w1=w.alloc (.cells #[.slice sa n c,.slice la m d] 51):=⟨_,rfl⟩;have t1:Touch No w w1:=by rw[hw1];exact(Touch.refl No w).alloc _
   have b0:w1.cell? ⟨w.heap.size,0,none⟩=some (.slice sa n c):=by rw[hw1,cell_new];rfl
   have b1:w1.cell? ⟨w.heap.size,1,none⟩=some (.slice la m d):=by rw[hw1,cell_new];rfl
   have T1:=Lib.hid t1;rw[← hw1];clear hw1 t1
   go_quiet ((go_at_call 55;exact Calls.quiet_of_same ((C1.out _ (T1.out.drewN _)).mono (fun _ _ h=>⟨h.1,h.2.symm⟩))))
   go_wp2;go_ret;exact⟨rfl,T1.out.drewN _⟩
 | true =>
   rw[hv]at C1;rw[Bool.true_and];clear hr hv hck hs hl hz;go_enter Tryz.func161,Tryz.ntmps161;go_wp2_with fail;obtain⟨w1,hw1⟩:∃w1,w1=w.alloc (.cells #[.slice sa n c,.slice la m d] 51):=⟨_,rfl⟩;have t1:Touch No w w1:=by rw[hw1];exact(Touch.refl No w).alloc _
   have b0:w1.cell? ⟨w.heap.size,0,none⟩=some (.slice sa n c):=by rw[hw1,cell_new];rfl
   have b1:w1.cell? ⟨w.heap.size,1,none⟩=some (.slice la m d):=by rw[hw1,cell_new];rfl
   have T1:=Lib.hid t1;rw[← hw1];clear hw1 t1
   go_quiet (first
    | (go_at_call 55;exact Calls.quiet_of_same ((C1.out _ (T1.out.drewN _)).mono (fun _ _ h=>⟨h.1,h.2.symm⟩)))
    | (go_at_call 35;exact Calls.quiet_of_same ((C2.out _ (T1.out.drewN _)).mono (fun _ _ h=>⟨h.1,h.2.symm⟩))))
   go_wp2;go_ret;refine⟨?_,T1.out.drewN _⟩
   have hb:((m:Int)==(z:Int))=decide (m=z):=by
    by_cases e:m=z
    ·simp[e]
    ·simp[e];omega
   rw[← hb];rfl
end
section
open Go Go.RowKit
theorem wpListIn_append_rd {F:Fence}{n:Nat}{P:Program}{w:World}{ops:Array Oper}{rest:List Oper}{o:Oper}{a:Act}{Q:Exit→Act→World→Prop}(hgd:o.guard=none)(s x:Operand)(t:TypeId)(ho:o.op = .call {callee:=.builtin .append,args:=#[s,x],argTypes:=#[t,t]})
  (base:Nat) (e:TypeId) (i:TypeInfo) (z:Value) (bytes:Nat) (ht:P.underlying t=some (.slice e)) (hi:P.info? e=some i) (hz:i.zero=some z) (hsize:i.size=1) (hby:i.bytes=bytes) (hzs:z.cells.size=1)
  (v:Value) (vs:List Value) (hown:Own w base e v vs) (hs:a.eval s=v) (ad:Option Addr) (m c:Nat) (us:List Value) (hx:a.eval x = .slice ad m c) (hl:us.length=m) (hr:Rd w ad us) (h1:∀u∈us,u.oneCell'=true)
  (h63:vs.length+m≤maxLen) (hbytes:(vs.length+m)*bytes≤140737488355328) (hbase:base≤w.heap.size)
  (h:∀v' w',Own w' base e v' (vs++us)→Touch (InBlock v) w w'→wpListIn F n P ops Q rest (a.put o.dst v') w'):wpListIn F n P ops Q (o::rest) a w:=by
 refine wpListIn_plain hgd fun K hK'=>?_
 obtain⟨v',w',hrun,r1,r2⟩:=run_append_rd (P:=P) (w:=w) base t o.type e i z bytes ht hi hz hsize hby hzs v vs hown ad m c us hl hr h1 h63 hbytes hbase;unfold Oper.wpIn;refine⟨?_,?_⟩
 ·simp[Oper.about,ho,resolve,Target.leads,Sem.run_pure]
 ·rw[Oper.semAt_plain F _ _ (by rw[ho];intro c hc';cases hc')]
  simp[execOp,ho,resolve,invoke,builtin,hs,hx,hrun,Result.andThen];exact hK' _ _ (h v' w' r1 r2)
end
end Go.Proofs.YtjlphmmalebgpaaGreat
