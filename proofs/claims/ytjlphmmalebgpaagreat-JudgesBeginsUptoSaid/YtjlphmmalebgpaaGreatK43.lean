/-
  A part of the proof.
-/
import Derived.Test.YtjlphmmalebgpaaGreatK42
set_option linter.unusedSimpArgs false
set_option linter.unusedVariables false
set_option maxHeartbeats 2000000
set_option maxRecDepth 100000
namespace Go.Proofs.YtjlphmmalebgpaaGreat
section
open Go Go.RowKit Go.Shelf
noncomputable def Me.whole (Ns:List Me.Node) (Ws Ins:List Me.Raw) (Rc:List (Int × Me.Raw)):Bool:=decide (Rc.length=Ins.length)&&Me.begins Ns Ws Ins Rc
theorem whole_in (w:World)(a wa ia ra:Option Addr)(mm cap wn wc N' ci N cr:Nat)(Ns:List Me.Node)(Ws Ins:List Me.Raw)(Rc:List (Int × Me.Raw))(hNs:NsIn w a Ns)(hm:Ns.length=mm)(hm6:mm≤1000)(hW:WsIn w wa Ws)(hWl:Ws.length=wn)(hWc:wn≤wc)(hW6:wn≤2000000)
  (hI:WsIn w ia Ins) (hIl:Ins.length=N') (hI6:N'≤2000000) (hR:RcIn w ra Rc) (hRl:Rc.length=N) (hR6:N≤2000000) :
  Calls Tryz.prog 12 #[.agg #[.slice a mm cap],.slice wa wn wc,.slice ia N' ci,.slice ra N cr] w fun e w'=>e = .returned (.bool (Me.whole Ns Ws Ins Rc))∧Touch No w w':=by
 obtain⟨BB,hBB⟩:∃z,Me.begins Ns Ws Ins Rc=z:=⟨_,rfl⟩;have HW:Hid (Me.whole Ns Ws Ins Rc=(decide (N=N')&&BB)):=by show _=_;rw[Me.whole,hBB,hRl,hIl]
 obtain⟨w1,hw1,t1,R1⟩:=box_row w [.slice a mm cap] 24;have C:=Lib.hid (begins_in w1 a wa ia ra mm cap wn wc N' ci N cr Ns Ws Ins Rc (hNs.no t1) hm hm6 (hW.no t1) hWl hWc hW6 (hI.no t1) hIl hI6 (hR.no t1) hRl hR6);rw[hBB]at C;have y0:=R1.cell 0;simp only[Lz0]at y0;have HT1:=Lib.hid t1;clear hNs hW hI hR hBB t1 R1;go_enter Tryz.func12,Tryz.ntmps12
 by_cases hNN:N=N'
 ·subst hNN
  have h1:((N:Int)==(N:Int))=true:=by simp
  go_wp2_with fail;rw[← hw1];refine C.out.mono ?_;rintro e w2 ⟨rfl,t2⟩;have HT2:=Lib.hid (HT1.out.trans t2);clear C y0 t2;go_wp2;go_ret;exact⟨by rw[HW.out];simp,HT2.out⟩
 ·have h1:((N:Int)==(N':Int))=false:=by simp;omega
  go_wp2;go_ret;exact⟨by rw[HW.out];simp[hNN],by rw[← hw1];exact HT1.out⟩
theorem refWhole_in (w:World)(a wa ia ra:Option Addr)(mm cap wn wc N' ci N cr:Nat)(Ns:List Me.Node)(Ws Ins:List Me.Raw)(Rc:List (Int × Me.Raw))(hNs:NsIn w a Ns)(hm:Ns.length=mm)(hm6:mm≤1000)(hW:WsIn w wa Ws)(hWl:Ws.length=wn)(hW6:wn≤2000000)
  (hI:WsIn w ia Ins) (hIl:Ins.length=N') (hI6:N'≤2000000) (hR:RcIn w ra Rc) (hRl:Rc.length=N) (hR6:N≤2000000) :
  Calls Tryz.prog 13 #[.agg #[.slice a mm cap],.slice wa wn wc,.slice ia N' ci,.slice ra N cr] w fun e w'=>e = .returned (.bool (Me.whole Ns Ws Ins Rc))∧Touch No w w':=by
 obtain⟨BB,hBB⟩:∃z,Me.begins Ns Ws Ins Rc=z:=⟨_,rfl⟩;have HW:Hid (Me.whole Ns Ws Ins Rc=(decide (N=N')&&BB)):=by show _=_;rw[Me.whole,hBB,hRl,hIl]
 obtain⟨w1,hw1,t1,R1⟩:=box_row w [.slice a mm cap] 24;have C:=Lib.hid (refBegins_in w1 a wa ia ra mm cap wn wc N' ci N cr Ns Ws Ins Rc (hNs.no t1) hm hm6 (hW.no t1) hWl hW6 (hI.no t1) hIl hI6 (hR.no t1) hRl hR6);rw[hBB]at C;have y0:=R1.cell 0;simp only[Lz0]at y0;have HT1:=Lib.hid t1;clear hNs hW hI hR hBB t1 R1;go_enter Tryz.func13,Tryz.ntmps13
 by_cases hNN:N=N'
 ·subst hNN
  have h1:((N:Int)==(N:Int))=true:=by simp
  go_wp2_with fail;rw[← hw1];refine C.out.mono ?_;rintro e w2 ⟨rfl,t2⟩;have HT2:=Lib.hid (HT1.out.trans t2);clear C y0 t2;go_wp2;go_ret;exact⟨by rw[HW.out];simp,HT2.out⟩
 ·have h1:((N:Int)==(N':Int))=false:=by simp;omega
  go_wp2;go_ret;exact⟨by rw[HW.out];simp[hNN],by rw[← hw1];exact HT1.out⟩
end
section
open Go Go.RowKit
theorem int_info:∃i,Tryz.prog.info? 3=some i∧i.zero=some (.int .i64 0)∧i.size=1∧i.bytes=8:=one_info (by kernel_rfl)
end
section
open Go Go.RowKit
end
section
open Go Go.RowKit
theorem ints_snocI (zs:List Int)(k:Nat)(h:k<zs.length):ints .i64 (zs.take (k+1))=ints .i64 (zs.take k) ++ [.int .i64 (zs.getD k 0)]:=by
 rw[List.take_succ_eq_append_getElem h,ints,List.map_append,Lgd,Lge h];rfl
theorem twinInts_any (w:World)(a:Option Addr)(n c:Nat)(zs:List Int)(hz:zs.length=n)(hm:(n:Int)≤10000000)(hr:Rd w a (ints .i64 zs)) :
  Calls Tryz.prog 42 #[.slice a n c] w fun e w'=>∃a' c',e = .returned (.slice a' n c')∧n<c'∧Own w' w.heap.size 3 (.slice a' (n+1) c') (ints .i64 zs ++ [.int .i64 77])∧Touch No w w':=by
 have Hz:=Lib.hid hz;have Hr:=Lib.hid hr;obtain⟨I,hi0,hi1,hi2,hi3⟩:=int_info;have HI:=Lib.hid (aI hi0 (aI hi1 (aI hi2 hi3)));clear hz hr hi0 hi1 hi2 hi3;go_enter Tryz.func42,Tryz.ntmps42;go_wp2_with (at_make;refine wpList_make_own _ rfl _ _ _ rfl w.heap.size _ I _ 1 Tryz.underlying48 HI.out.1 HI.out.2.1 HI.out.2.2.1 .i64 .i64 _ (n+1) rfl rfl (by omega) (by rw[HI.out.2.2.2];omega) (by unfold maxLen;omega) (Nat.le_refl _) ?_;intro w1 hown hgrow);have T1:Hid (Touch No w w1):=(Touch.refl No w).grown hgrow (fun k hk _=>by cases hk);have O1:Hid (Own w1 w.heap.size 3 (.slice (some ⟨w.heap.size,0,none⟩) 0 (n+1)) (ints .i64 (zs.take 0))):=hown;clear hown hgrow
 go_loopg [3,4] n (fun g s3 s4 wr=>∃(k:Nat) (v:Value),k+g=n∧s4 = .int .i64 ((k:Nat):Int)∧s3=v∧Hid (Own wr w.heap.size 3 v (ints .i64 (zs.take k)))∧Hid (Touch No w wr))
 case atStart=>exact⟨0,_,by omega,rfl,rfl,O1,T1⟩
 case round =>
  obtain⟨k,v,hkg,rfl,rfl,O,T⟩:=hrel;cases gk with
  | zero =>
    obtain rfl:k=n:=by omega
    have hO:=O.out;rw[List.take_of_length_le (by rw[Hz.out];exact Nat.le_refl _)]at hO;have hlk:(ints .i64 zs).length=k:=by rw[ints_length,Hz.out]
    obtain⟨al,cl,rfl,_⟩:=hO.form' hlk;have HO:=Lib.hid hO;have Hlk:=Lib.hid hlk;clear hO hlk O;go_wp2_with (at_builtin;refine wpList_append1 rfl _ _ _ rfl w.heap.size _ I _ 8 Tryz.underlying48 HI.out.1 HI.out.2.1 HI.out.2.2.1 HI.out.2.2.2 rfl _ (ints .i64 zs) _ HO.out rfl rfl rfl (by rw[Hlk.out];unfold maxLen;omega) (by rw[Hlk.out];omega) T.out.size ?_;intro v' w3 hown3 ht3;obtain⟨a3,c3,rfl,hc3,_⟩:=hown3.form' (n:=k+1) (by rw[List.length_append,Hlk.out];rfl);have hhead:=fun wx:World=>run_head (P:=Tryz.prog) Tryz.underlying48 HI.out.1 HI.out.2.2.1 a3 (k+1) c3 k .i64 (show k≤c3 by omega) wx);have HF:Hid (Own w3 w.heap.size 3 (.slice a3 (k+1) c3) (ints .i64 zs ++ [.int .i64 77])∧Touch No w w3∧k<c3):=⟨hown3,T.out.then ht3 (fun i hi e=>absurd ((HO.out.block e).1) (by omega)),by omega⟩;clear hown3 ht3 hc3;go_wp2;go_ret;exact⟨a3,c3,rfl,HF.out.2.2,HF.out.1,HF.out.2.1⟩
  | succ g =>
    have hlt:(k:Int)<(n:Nat):=by omega
    have hkl:k<zs.length:=by rw[Hz.out];omega
    have hlk:(ints .i64 (zs.take k)).length=k:=by rw[ints_length,List.length_take];omega
    obtain⟨al,cl,rfl,_⟩:=O.out.form' hlk;obtain⟨ga,oa,rfl,hca⟩:=(Hr.out.no T.out).int hkl;have HN:=Lib.hid (ints_snocI zs k hkl);obtain⟨z,hzz⟩:∃z,zs.getD k 0=z:=⟨_,rfl⟩;rw[hzz]at hca HN;have Hlk:=Lib.hid hlk;clear hlk hzz hkl;go_wp2_with (at_builtin;refine wpList_append1 rfl _ _ _ rfl w.heap.size _ I _ 8 Tryz.underlying48 HI.out.1 HI.out.2.1 HI.out.2.2.1 HI.out.2.2.2 rfl _ _ _ O.out rfl rfl rfl (by rw[Hlk.out];unfold maxLen;omega) (by rw[Hlk.out];omega) T.out.size ?_;intro v' w3 hown3 ht3)
    go_roundg g
    case measure=>omega
    case rel=>exact⟨k+1,v',by omega,by go_num,rfl,by rw[HN.out];exact hown3,T.out.then ht3 (fun i hi e=>absurd ((O.out.block e).1) (by omega))⟩
theorem leftInts_any (w:World)(a':Option Addr)(n c':Nat)(a:Option Addr)(c:Nat)(zs:List Int)(hz:zs.length=n)(hm:(n:Int)≤10000000)(hc:n<c')(hr':Rd w a' (ints .i64 zs ++ [.int .i64 77]))(hr:Rd w a (ints .i64 zs)) :
  Calls Tryz.prog 51 #[.slice a' n c',.slice a n c] w fun e w'=>e = .returned (.bool true)∧Touch No w w':=by
 obtain⟨I,hi0,hi1,hi2,hi3⟩:=int_info;have hhead:=fun wx:World=>run_head (P:=Tryz.prog) Tryz.underlying48 hi0 hi2 a' n c' (n+1) .i64 hc wx
 have Hhead:=Lib.hid hhead;have Hz:=Lib.hid hz;have Hr:=Lib.hid hr;have Hr':=Lib.hid hr';have hcd:decide (c'≤n)=false:=decide_eq_false (by omega);clear hz hr hr' hi0 hi1 hi2 hi3 hhead hc;go_enter Tryz.func51,Tryz.ntmps51;go_wp2;clear hcd
 go_loopg [4,5] n (fun g s4 s5 wr=>∃k:Nat,k+g=n∧s4 = .bool false∧s5 = .int .i64 ((k:Nat):Int)∧Hid (Touch No w wr))
 case atStart=>exact⟨0,by omega,rfl,rfl,Touch.refl _ _⟩
 case round =>
  obtain⟨k,hkg,rfl,rfl,T⟩:=hrel;cases gk with
  | zero =>
    obtain rfl:k=n:=by omega
    obtain⟨ga,oa,rfl,hca⟩:=(Hr'.out.no T.out) k (.int .i64 77) (by rw[List.getElem?_append_right (by rw[ints_length,Hz.out];exact Nat.le_refl _),ints_length,Hz.out,Nat.sub_self];rfl);have hhead:∀wx:World,(Instr.slice 48 (.slice (some ⟨ga,oa,none⟩) k c') none (some (.int .i64 ((k:Int)+1))) none).run Tryz.prog wx = .ok (.slice (some ⟨ga,oa,none⟩) (k+1) c') wx:=fun wx=>Hhead.out wx
    clear Hhead Hr';go_wp2;go_ret;exact⟨rfl,T.out⟩
  | succ g =>
    have hlt:(k:Int)<(n:Nat):=by omega
    have hkl:k<zs.length:=by rw[Hz.out];omega
    obtain⟨ga,oa,rfl,hca⟩:=(Hr.out.no T.out).int hkl;obtain⟨gb,ob,rfl,hcb⟩:=(Hr'.out.no T.out) k (.int .i64 (zs.getD k 0)) (by rw[List.getElem?_append_left (by rw[ints_length];exact hkl),ints_get hkl]);obtain⟨z,hzz⟩:∃z,zs.getD k 0=z:=⟨_,rfl⟩;rw[hzz]at hca hcb;have hzz2:(z != z)=false:=by simp
    have HT:=T;clear hzz hkl T;go_wp2;refine wp_region_still_lit (by kernel_rfl) (by kernel_rfl) ?_;repeat still_step
    refine wpStill_nil ?_;have HN:Hid (Touch No w wr.drew):=HT.out.drew;go_wp2
    go_roundg g
    case measure=>omega
    case rel=>exact⟨k+1,by omega,rfl,by go_num,HN⟩
end
section
open Go Go.RowKit
theorem ints_snocN (zs:List Int)(k:Nat)(h:k<zs.length):ints .i32 (zs.take (k+1))=ints .i32 (zs.take k) ++ [.int .i32 (zs.getD k 0)]:=by
 rw[List.take_succ_eq_append_getElem h,ints,List.map_append,Lgd,Lge h];rfl
theorem twinNumbers_any (w:World)(a:Option Addr)(n c:Nat)(zs:List Int)(hz:zs.length=n)(hm:(n:Int)≤10000000)(hr:Rd w a (ints .i32 zs)) :
  Calls Tryz.prog 43 #[.slice a n c] w fun e w'=>∃a' c',e = .returned (.slice a' n c')∧n<c'∧Own w' w.heap.size 21 (.slice a' (n+1) c') (ints .i32 zs ++ [.int .i32 77])∧Touch No w w':=by
 have Hz:=Lib.hid hz;have Hr:=Lib.hid hr;obtain⟨I,hi0,hi1,hi2,hi3⟩:=i32_info;have HI:=Lib.hid (aI hi0 (aI hi1 (aI hi2 hi3)));clear hz hr hi0 hi1 hi2 hi3;go_enter Tryz.func43,Tryz.ntmps43;go_wp2_with (at_make;refine wpList_make_own _ rfl _ _ _ rfl w.heap.size _ I _ 1 Tryz.underlying49 HI.out.1 HI.out.2.1 HI.out.2.2.1 .i64 .i64 _ (n+1) rfl rfl (by omega) (by rw[HI.out.2.2.2];omega) (by unfold maxLen;omega) (Nat.le_refl _) ?_;intro w1 hown hgrow);have T1:Hid (Touch No w w1):=(Touch.refl No w).grown hgrow (fun k hk _=>by cases hk);have O1:Hid (Own w1 w.heap.size 21 (.slice (some ⟨w.heap.size,0,none⟩) 0 (n+1)) (ints .i32 (zs.take 0))):=hown;clear hown hgrow
 go_loopg [3,4] n (fun g s3 s4 wr=>∃(k:Nat) (v:Value),k+g=n∧s4 = .int .i64 ((k:Nat):Int)∧s3=v∧Hid (Own wr w.heap.size 21 v (ints .i32 (zs.take k)))∧Hid (Touch No w wr))
 case atStart=>exact⟨0,_,by omega,rfl,rfl,O1,T1⟩
 case round =>
  obtain⟨k,v,hkg,rfl,rfl,O,T⟩:=hrel;cases gk with
  | zero =>
    obtain rfl:k=n:=by omega
    have hO:=O.out;rw[List.take_of_length_le (by rw[Hz.out];exact Nat.le_refl _)]at hO;have hlk:(ints .i32 zs).length=k:=by rw[ints_length,Hz.out]
    obtain⟨al,cl,rfl,_⟩:=hO.form' hlk;have HO:=Lib.hid hO;have Hlk:=Lib.hid hlk;clear hO hlk O;go_wp2_with (at_builtin;refine wpList_append1 rfl _ _ _ rfl w.heap.size _ I _ 4 Tryz.underlying49 HI.out.1 HI.out.2.1 HI.out.2.2.1 HI.out.2.2.2 rfl _ (ints .i32 zs) _ HO.out rfl rfl rfl (by rw[Hlk.out];unfold maxLen;omega) (by rw[Hlk.out];omega) T.out.size ?_;intro v' w3 hown3 ht3;obtain⟨a3,c3,rfl,hc3,_⟩:=hown3.form' (n:=k+1) (by rw[List.length_append,Hlk.out];rfl);have hhead:=fun wx:World=>run_head (P:=Tryz.prog) Tryz.underlying49 HI.out.1 HI.out.2.2.1 a3 (k+1) c3 k .i64 (show k≤c3 by omega) wx);have HF:Hid (Own w3 w.heap.size 21 (.slice a3 (k+1) c3) (ints .i32 zs ++ [.int .i32 77])∧Touch No w w3∧k<c3):=⟨hown3,T.out.then ht3 (fun i hi e=>absurd ((HO.out.block e).1) (by omega)),by omega⟩;clear hown3 ht3 hc3;go_wp2;go_ret;exact⟨a3,c3,rfl,HF.out.2.2,HF.out.1,HF.out.2.1⟩
  | succ g =>
    have hlt:(k:Int)<(n:Nat):=by omega
    have hkl:k<zs.length:=by rw[Hz.out];omega
    have hlk:(ints .i32 (zs.take k)).length=k:=by rw[ints_length,List.length_take];omega
    obtain⟨al,cl,rfl,_⟩:=O.out.form' hlk;obtain⟨ga,oa,rfl,hca⟩:=(Hr.out.no T.out).int hkl;have HN:=Lib.hid (ints_snocN zs k hkl);obtain⟨z,hzz⟩:∃z,zs.getD k 0=z:=⟨_,rfl⟩;rw[hzz]at hca HN;have Hlk:=Lib.hid hlk;clear hlk hzz hkl;go_wp2_with (at_builtin;refine wpList_append1 rfl _ _ _ rfl w.heap.size _ I _ 4 Tryz.underlying49 HI.out.1 HI.out.2.1 HI.out.2.2.1 HI.out.2.2.2 rfl _ _ _ O.out rfl rfl rfl (by rw[Hlk.out];unfold maxLen;omega) (by rw[Hlk.out];omega) T.out.size ?_;intro v' w3 hown3 ht3)
    go_roundg g
    case measure=>omega
    case rel=>exact⟨k+1,v',by omega,by go_num,rfl,by rw[HN.out];exact hown3,T.out.then ht3 (fun i hi e=>absurd ((O.out.block e).1) (by omega))⟩
theorem leftNumbers_any (w:World)(a':Option Addr)(n c':Nat)(a:Option Addr)(c:Nat)(zs:List Int)(hz:zs.length=n)(hm:(n:Int)≤10000000)(hc:n<c')(hr':Rd w a' (ints .i32 zs ++ [.int .i32 77]))(hr:Rd w a (ints .i32 zs)) :
  Calls Tryz.prog 52 #[.slice a' n c',.slice a n c] w fun e w'=>e = .returned (.bool true)∧Touch No w w':=by
 obtain⟨I,hi0,hi1,hi2,hi3⟩:=i32_info;have hhead:=fun wx:World=>run_head (P:=Tryz.prog) Tryz.underlying49 hi0 hi2 a' n c' (n+1) .i64 hc wx
 have Hhead:=Lib.hid hhead;have Hz:=Lib.hid hz;have Hr:=Lib.hid hr;have Hr':=Lib.hid hr';have hcd:decide (c'≤n)=false:=decide_eq_false (by omega);clear hz hr hr' hi0 hi1 hi2 hi3 hhead hc;go_enter Tryz.func52,Tryz.ntmps52;go_wp2;clear hcd
 go_loopg [4,5] n (fun g s4 s5 wr=>∃k:Nat,k+g=n∧s4 = .bool false∧s5 = .int .i64 ((k:Nat):Int)∧Hid (Touch No w wr))
 case atStart=>exact⟨0,by omega,rfl,rfl,Touch.refl _ _⟩
 case round =>
  obtain⟨k,hkg,rfl,rfl,T⟩:=hrel;cases gk with
  | zero =>
    obtain rfl:k=n:=by omega
    obtain⟨ga,oa,rfl,hca⟩:=(Hr'.out.no T.out) k (.int .i32 77) (by rw[List.getElem?_append_right (by rw[ints_length,Hz.out];exact Nat.le_refl _),ints_length,Hz.out,Nat.sub_self];rfl);have hhead:∀wx:World,(Instr.slice 49 (.slice (some ⟨ga,oa,none⟩) k c') none (some (.int .i64 ((k:Int)+1))) none).run Tryz.prog wx = .ok (.slice (some ⟨ga,oa,none⟩) (k+1) c') wx:=fun wx=>Hhead.out wx
    clear Hhead Hr';go_wp2;go_ret;exact⟨rfl,T.out⟩
  | succ g =>
    have hlt:(k:Int)<(n:Nat):=by omega
    have hkl:k<zs.length:=by rw[Hz.out];omega
    obtain⟨ga,oa,rfl,hca⟩:=(Hr.out.no T.out).int hkl;obtain⟨gb,ob,rfl,hcb⟩:=(Hr'.out.no T.out) k (.int .i32 (zs.getD k 0)) (by rw[List.getElem?_append_left (by rw[ints_length];exact hkl),ints_get hkl]);obtain⟨z,hzz⟩:∃z,zs.getD k 0=z:=⟨_,rfl⟩;rw[hzz]at hca hcb;have hzz2:(z != z)=false:=by simp
    have HT:=T;clear hzz hkl T;go_wp2;refine wp_region_still_lit (by kernel_rfl) (by kernel_rfl) ?_;repeat still_step
    refine wpStill_nil ?_;have HN:Hid (Touch No w wr.drew):=HT.out.drew;go_wp2
    go_roundg g
    case measure=>omega
    case rel=>exact⟨k+1,by omega,rfl,by go_num,HN⟩
end
section
open Go Go.RowKit
def OffE (e:List Value)(k:Nat):Prop:=∀a n c,Value.slice a n c∈e→Off a k
structure Stays (El:Nat→World→List Value→Prop):Prop where
 touch:∀{j:Nat} {w w':World} {F:Nat→Prop} {e:List Value},El j w e→Touch F w w'→(∀k,F k→OffE e k)→El j w' e
 lt:∀{j:Nat} {w:World} {e:List Value},El j w e→∀k,w.heap.size≤k→OffE e k
def LV (s:Nat)(El:Nat→World→List Value→Prop)(w:World)(v:Value)(cs:List Value)(n:Nat):Prop :=
 ∀j,j<n→∃e:List Value,e.length=s∧(∀i,i<s→cs[j*s+i]? = e[i]?)∧El j w e∧∀k,InBlock v k→OffE e k
def LG (s:Nat)(El:Nat→World→List Value→Prop)(T:TypeId)(w:World)(base:Nat)(v:Value)(n:Nat):Prop:=∃cs,w.ownsRow base T s v n cs∧LV s El w v cs n
def LIn (s:Nat)(El:Nat→World→List Value→Prop)(w:World)(a:Option Addr)(n:Nat):Prop :=
 ∀j,j<n→∃b o e,a=some ⟨b,o,none⟩∧e.length=s∧(∀i v,e[i]? = some v→w.cell? ⟨b,o+(j*s+i),none⟩=some v)∧El j w e
section
variable {s:Nat} {El:Nat→World→List Value→Prop} {T:TypeId} {w w':World} {base n:Nat} {v:Value}
theorem LV.no (hS:Stays El){cs:List Value}(h:LV s El w v cs n)(t:Touch No w w'):LV s El w' v cs n:=fun j hj=>by
 obtain⟨e,h1,h2,h3,h4⟩:=h j hj;exact⟨e,h1,h2,hS.touch h3 t (fun k f=>f.elim),h4⟩
theorem LG.no (hS:Stays El)(h:LG s El T w base v n)(t:Touch No w w'):LG s El T w' base v n:=by
 obtain⟨cs,h1,h2⟩:=h;exact⟨cs,ownsRow_no h1 t,h2.no hS t⟩
theorem LIn.no (hS:Stays El){a:Option Addr}(h:LIn s El w a n)(t:Touch No w w'):LIn s El w' a n:=fun j hj=>by
 obtain⟨b,o,e,h1,h2,h3,h4⟩:=h j hj;exact⟨b,o,e,h1,h2,fun i v hi=>t.cell id (h3 i v hi),hS.touch h4 t (fun k f=>f.elim)⟩
theorem LG.form (hs:0<s)(h:LG s El T w base v n):∃a c,v = .slice a n c∧n≤c∧LIn s El w a n∧∀ad,a=some ad→base≤ad.block:=by
 obtain⟨cs,h1,h2⟩:=h;have hb:=fun k=>ownsRow_block h1 (k:=k)
 have h1':w.ownsRow 0 T s v n cs:=by
  obtain⟨hl,hh⟩:=h1;refine⟨hl,hh.imp id ?_⟩;rintro⟨g,cap,cur,hv,hg,q⟩;exact⟨g,cap,cur,hv,Nat.zero_le _,q⟩
 obtain⟨a,c,rfl,hc,_,hr⟩:=rows_cell h1';refine⟨a,c,rfl,hc,fun j hj=>?_,fun ad e=>(hb ad.block (by rw[e];rfl)).1⟩;obtain⟨e,g1,g2,g3,_⟩:=h2 j hj;have h0:cs[j*s+0]? = some (e[0]'(by omega)):=by rw[g2 0 hs,Lge (by omega)]
 obtain⟨b,o,ea,_⟩:=hr _ _ h0;refine⟨b,o,e,ea,g1,fun i x hi=>?_,g3⟩;have hi':i<s:=by rw[← g1];exact(List.getElem?_eq_some_iff.1 hi).1
 obtain⟨b',o',e',k2⟩:=hr _ _ ((g2 i hi').trans hi);rw[ea]at e';cases e';exact k2
theorem LG.grow (hS:Stays El){w3:World}{v':Value}{us cs:List Value}(ho:w.ownsRow base T s v n cs)(h:LV s El w v cs n)(ho':w3.ownsRow 0 T s v' (n+1) (cs++us))(t:Touch (InBlock v) w w3)(hb:∀k,InBlock v' k→InBlock v k∨w.heap.size≤k)(hs:base≤w.heap.size)
  (hl:us.length=s) (hE:El n w us) (hoff:∀k,InBlock v k→OffE us k):LG s El T w3 base v' (n+1):=by
 refine⟨_,ownsRow_base ho' fun k hk=>?_,fun j hj=>?_⟩
 ·rcases hb k hk with h1|h1
  ·exact(ownsRow_block ho h1).1
  ·exact Nat.le_trans hs h1
 ·have key:∀{j:Nat} {e:List Value},El j w e→(∀k,InBlock v k→OffE e k)→El j w3 e∧∀k,InBlock v' k→OffE e k:=fun hE hoff=>by
   refine⟨hS.touch hE t hoff,fun k hk=>?_⟩;rcases hb k hk with h1|h1
   ·exact hoff k h1
   ·exact hS.lt hE k h1
  have hcl:cs.length=n*s:=ho.1;rcases Nat.lt_or_ge j n with h1|h1
  ·obtain⟨e,g1,g2,g3,g4⟩:=h j h1
   obtain⟨k1,k2⟩:=key g3 g4;refine⟨e,g1,fun i hi=>?_,k1,k2⟩
   have:j*s+i<n*s:=by
    have h3:(j+1)*s≤n*s:=Nat.mul_le_mul_right _ h1;rw[Nat.succ_mul]at h3;omega
   rw[List.getElem?_append_left (by omega)];exact g2 i hi
  ·obtain rfl:j=n:=by omega
   obtain⟨k1,k2⟩:=key hE hoff;refine⟨us,hl,fun i hi=>?_,k1,k2⟩;rw[List.getElem?_append_right (by omega),hcl,show j*s+i-j*s=i by omega]
end
theorem run_headS {P:Program}{t e:TypeId}{i:TypeInfo}(ht:P.underlying t=some (.slice e))(hi:P.info? e=some i)(a:Option Addr)(len cap h:Nat)(k':IntKind)(h2:h≤cap)(w:World) :
  (Instr.slice t (.slice a len cap) none (some (.int k' (h:Nat))) none).run P w = .ok (.slice a h cap) w:=by
 simp[Instr.slice,Instr.sliceBounds,Instr.sliceBound,asIntOf,run_underlying ht,sizeOf,typeInfo,hi,h2,add_zero]
theorem Rd.lt {w:World}{a:Option Addr}{vs:List Value}(h:Rd w a vs)(hl:0<vs.length):∀ad,a=some ad→ad.block<w.heap.size:=fun ad e=>by
 obtain⟨b,o,e',hc⟩:=h 0 _ (Lge hl);rw[e]at e';cases e';exact lt_of_cell hc
theorem Rd.headL {w:World}{a:Option Addr}{vs us:List Value}(h:Rd w a (vs++us)):Rd w a vs:=fun i v hi=>h i v (by rw[List.getElem?_append_left (List.getElem?_eq_some_iff.1 hi).1];exact hi)
theorem Rd.off {w w':World}{F:Nat→Prop}{a:Option Addr}{vs:List Value}(h:Rd w a vs)(t:Touch F w w')(ho:∀k,F k→Off a k):Rd w' a vs:=h.touch t fun b o e _ hF=>ho b hF _ e rfl
def TEl (Ws:List Me.Raw)(j:Nat)(w:World)(e:List Value):Prop :=
 ∃sa n c la m d,e=[.slice sa n c,.slice la m d]∧RIn w sa n c la m d (Me.rawAt Ws j)∧n<c∧m<d∧Rd w sa (ints .i64 (Me.rawAt Ws j).1 ++ [.int .i64 77])∧Rd w la (ints .i32 (Me.rawAt Ws j).2 ++ [.int .i32 77])
theorem tEl_stays (Ws:List Me.Raw):Stays (TEl Ws) where
 touch:=by
  rintro j w w' F e ⟨sa,n,c,la,m,d,rfl,h1,h2,h3,h4,h5⟩ t ho;have o1:∀k,F k→Off sa k:=fun k hk=>ho k hk sa n c (by simp)
  have o2:∀k,F k→Off la k:=fun k hk=>ho k hk la m d (by simp)
  exact⟨sa,n,c,la,m,d,rfl,{h1 with sr:=h1.sr.off t o1,lr:=h1.lr.off t o2},h2,h3,h4.off t o1,h5.off t o2⟩
 lt:=by
  rintro j w e ⟨sa,n,c,la,m,d,rfl,h1,h2,h3,h4,h5⟩ k hk a n' c' hm ad ha hb;simp only[List.mem_cons,List.mem_nil_iff,or_false,Value.slice.injEq]at hm;rcases hm with⟨rfl,_,_⟩|⟨rfl,_,_⟩
  ·have:=h4.lt (by simp) ad ha;omega
  ·have:=h5.lt (by simp) ad ha;omega
def REl (Rc:List (Int × Me.Raw))(j:Nat)(w:World)(e:List Value):Prop :=
 ∃e',e = .int .u32 (Me.recAt Rc j).1::e'∧TEl [(Me.recAt Rc j).2] 0 w e'
theorem rEl_stays (Rc:List (Int × Me.Raw)):Stays (REl Rc) where
 touch:=by
  rintro j w w' F e ⟨e',rfl,h1⟩ t ho;exact⟨e',rfl,(tEl_stays _).touch h1 t (fun k hk a n c hm=>ho k hk a n c (List.mem_cons_of_mem _ hm))⟩
 lt:=by
  rintro j w e ⟨e',rfl,h1⟩ k hk a n' c' hm;have hm':Value.slice a n' c'∈e':=by simpa using hm
  exact(tEl_stays _).lt h1 k hk a n' c' hm'
def NEl (Ns:List Me.Node)(j:Nat)(w:World)(e:List Value):Prop :=
 ∃ia n c sa n' c',e=[.int .u8 (((Me.nodeAt Ns j).kind:Nat):Int),.slice ia n c,.slice sa n' c',.int .i64 (Me.nodeAt Ns j).n,.int .i64 (Me.nodeAt Ns j).pad]∧NIn w ia n c sa n' c' (Me.nodeAt Ns j)∧n<c∧n'<c'∧Rd w ia (ints .i64 (Me.nodeAt Ns j).inn ++ [.int .i64 77])∧Rd w sa (ints .i64 (Me.nodeAt Ns j).shape ++ [.int .i64 77])
theorem nEl_stays (Ns:List Me.Node):Stays (NEl Ns) where
 touch:=by
  rintro j w w' F e ⟨sa,n,c,la,m,d,rfl,h1,h2,h3,h4,h5⟩ t ho;have o1:∀k,F k→Off sa k:=fun k hk=>ho k hk sa n c (by simp)
  have o2:∀k,F k→Off la k:=fun k hk=>ho k hk la m d (by simp)
  exact⟨sa,n,c,la,m,d,rfl,{h1 with ir:=h1.ir.off t o1,sr:=h1.sr.off t o2},h2,h3,h4.off t o1,h5.off t o2⟩
 lt:=by
  rintro j w e ⟨sa,n,c,la,m,d,rfl,h1,h2,h3,h4,h5⟩ k hk a n' c' hm ad ha hb;simp only[List.mem_cons,List.mem_nil_iff,or_false,Value.slice.injEq,reduceCtorEq,false_or]at hm;rcases hm with⟨rfl,_,_⟩|⟨rfl,_,_⟩
  ·have:=h4.lt (by simp) ad ha;omega
  ·have:=h5.lt (by simp) ad ha;omega
theorem LIn.ws {w:World}{a:Option Addr}{Ws:List Me.Raw}(h:LIn 2 (TEl Ws) w a Ws.length):WsIn w a Ws:=fun j hj=>by
 obtain⟨b,o,e,ha,_,hc,sa,n,c,la,m,d,rfl,hr,_⟩:=h j hj;exact⟨b,o,sa,n,c,la,m,d,ha,hc 0 _ rfl,by have:=hc 1 _ rfl;rw[← Nat.add_assoc]at this;exact this,hr⟩
theorem LIn.ns {w:World}{a:Option Addr}{Ns:List Me.Node}(h:LIn 5 (NEl Ns) w a Ns.length):NsIn w a Ns:=fun j hj=>by
 obtain⟨b,o,e,ha,_,hc,ia,n,c,sa,n',c',rfl,hr,_⟩:=h j hj;exact⟨b,o,ia,n,c,sa,n',c',ha,⟨hc 0 _ rfl,by have:=hc 1 _ rfl;rw[← Nat.add_assoc]at this;exact this,by have:=hc 2 _ rfl;rw[← Nat.add_assoc]at this;exact this,by have:=hc 3 _ rfl;rw[← Nat.add_assoc]at this;exact this,by have:=hc 4 _ rfl;rw[← Nat.add_assoc]at this;exact this⟩,hr⟩
theorem LIn.rc {w:World}{a:Option Addr}{Rc:List (Int × Me.Raw)}(h:LIn 3 (REl Rc) w a Rc.length):RcIn w a Rc:=fun j hj=>by
 obtain⟨b,o,e,ha,_,hc,e',rfl,sa,n,c,la,m,d,rfl,hr,_⟩:=h j hj;exact⟨b,o,sa,n,c,la,m,d,ha,hc 0 _ rfl,by have:=hc 1 _ rfl;rw[← Nat.add_assoc]at this;exact this,by have:=hc 2 _ rfl;rw[← Nat.add_assoc]at this;exact this,hr⟩
end
end Go.Proofs.YtjlphmmalebgpaaGreat
