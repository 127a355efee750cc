/-
  A part of the proof.
-/
import Derived.Test.YtjlphmmalebgpaaGreatK20
import Derived.Test.YtjlphmmalebgpaaGreatK23
set_option linter.unusedSimpArgs false
set_option linter.unusedVariables false
set_option maxHeartbeats 2000000
set_option maxRecDepth 100000
namespace Go.Proofs.YtjlphmmalebgpaaGreat
section
open Go Go.RowKit
def NsIn (w:World)(a:Option Addr)(Ns:List Me.Node):Prop :=
 ∀i,i<Ns.length→∃b o ia n c sa n' c',a=some ⟨b,o,none⟩∧(w.cell? ⟨b,o+i*5,none⟩=some (.int .u8 (((Me.nodeAt Ns i).kind:Nat):Int))∧w.cell? ⟨b,o+i*5+1,none⟩=some (.slice ia n c)∧w.cell? ⟨b,o+i*5+2,none⟩=some (.slice sa n' c')∧w.cell? ⟨b,o+i*5+3,none⟩=some (.int .i64 (Me.nodeAt Ns i).n)∧w.cell? ⟨b,o+i*5+4,none⟩=some (.int .i64 (Me.nodeAt Ns i).pad))∧NIn w ia n c sa n' c' (Me.nodeAt Ns i)
theorem NsIn.no {w w':World}{a:Option Addr}{Ns:List Me.Node}(h:NsIn w a Ns)(t:Touch No w w'):NsIn w' a Ns:=fun i hi=>by
 obtain⟨b,o,ia,n,c,sa,n',c',e,⟨h0,h1,h2,h3,h4⟩,h5⟩:=h i hi;exact⟨b,o,ia,n,c,sa,n',c',e,⟨t.cell id h0,t.cell id h1,t.cell id h2,t.cell id h3,t.cell id h4⟩,h5.no t⟩
def TRd (w:World)(T:TypeId)(a:Option Addr)(vs:List Value):Prop:=Rd w a vs∧∀ad,a=some ad→∃c fr,w.heap[ad.block]? = some (.cells c T fr)
theorem TRd.of_own {w:World}{base:Nat}{T:TypeId}{a:Option Addr}{n c:Nat}{vs:List Value}(h:Own w base T (.slice a n c) vs):TRd w T a vs:=by
 refine⟨h.rd,fun ad e=>?_⟩;obtain⟨_,h⟩:=h;rcases h with⟨h,_⟩|⟨g,cap,cur,hv,_,hh,_⟩
 ·cases h;cases e
 ·cases hv;cases e;exact⟨cur,(0,0),hh⟩
theorem TRd.touch {F:Nat→Prop}{w w':World}{T:TypeId}{a:Option Addr}{vs:List Value}(h:TRd w T a vs)(t:Touch F w w')(hF:∀ad,a=some ad→ad.block<w.heap.size→¬F ad.block):TRd w' T a vs:=by
 refine⟨h.1.touch t (fun b o e hb=>hF _ e hb),fun ad e=>?_⟩;obtain⟨c,fr,hh⟩:=h.2 ad e
 have hb:ad.block<w.heap.size:=by
  by_cases hb:ad.block<w.heap.size
  ·exact hb
  ·rw[Array.getElem?_eq_none (Nat.le_of_not_lt hb)]at hh;cases hh
 exact⟨c,fr,by rw[t.block _ hb (hF ad e hb)];exact hh⟩
theorem TRd.no {w w':World}{T:TypeId}{a:Option Addr}{vs:List Value}(h:TRd w T a vs)(t:Touch No w w'):TRd w' T a vs:=h.touch t (fun _ _ _ f=>f)
theorem TRd.apart {w w':World}{base:Nat}{T T':TypeId}{v:Value}{us vs:List Value}{a:Option Addr}(h:TRd w T' a vs)(o:Own w base T v us)(hne:T≠T')(t:Touch (InBlock v) w w'):TRd w' T' a vs:=by
 refine h.touch t fun ad e hb hF=>?_
 obtain⟨c,fr,hh⟩:=h.2 ad e;obtain⟨_,o⟩:=o;rcases o with⟨rfl,_⟩|⟨g,cap,cur,rfl,_,hh2,_⟩
 ·cases hF
 ·have:g=ad.block:=by simpa[InBlock,Value.ownBlock]using hF
  subst this;rw[hh]at hh2;injection hh2 with hh2
  injection hh2 with _ h2 _
  exact hne h2.symm
def ShT (w:World)(vs:List Value)(acc:List (List Nat)):Prop :=
 vs.length=acc.length∧∀j,j<acc.length→∃sa n c,vs[j]? = some (.slice sa n c)∧(Me.sh acc j).length=n∧n≤c∧TRd w 3 sa (nums .i64 (Me.sh acc j))
theorem ShT.nil (w:World):ShT w [] []:=⟨rfl,fun j h=>absurd h (Nat.not_lt_zero j)⟩
theorem ShT.no {w w':World}{vs:List Value}{acc:List (List Nat)}(h:ShT w vs acc)(t:Touch No w w'):ShT w' vs acc :=
 ⟨h.1,fun j hj=>by obtain⟨sa,n,c,h1,h2,h3,h4⟩:=h.2 j hj;exact⟨sa,n,c,h1,h2,h3,h4.no t⟩⟩
theorem ShT.push {w w3:World}{base:Nat}{v:Value}{vs:List Value}{acc:List (List Nat)}{s:List Nat}{sa:Option Addr}{n c:Nat}(hown:Own w base 48 v vs)(h:ShT w vs acc)(t:Touch (InBlock v) w w3)(hs:TRd w 3 sa (nums .i64 s))(hn:s.length=n)(hc:n≤c):ShT w3 (vs ++ [.slice sa n c]) (acc ++ [s]):=by
 refine⟨by simp[h.1],fun j hj=>?_⟩;rcases Nat.lt_or_ge j acc.length with h1|h1
 ·obtain⟨sa',n',c',g1,g2,g3,g4⟩:=h.2 j h1
  exact⟨sa',n',c',by rw[List.getElem?_append_left (by rw[h.1];exact h1)];exact g1,by rw[Me.sh_append h1];exact g2,g3,by rw[Me.sh_append h1];exact g4.apart hown (by decide) t⟩
 ·obtain rfl:j=acc.length:=by rw[List.length_append,List.length_singleton]at hj;omega
  exact⟨sa,n,c,by rw[List.getElem?_append_right (by rw[h.1];exact Nat.le_refl _),h.1];simp,by rw[Me.sh_last];exact hn,hc,by rw[Me.sh_last];exact hs.apart hown (by decide) t⟩
def ShG (w:World)(base:Nat)(v:Value)(acc:List (List Nat)):Prop:=∃vs,Own w base 48 v vs∧ShT w vs acc
theorem ShG.no {w w':World}{base:Nat}{v:Value}{acc:List (List Nat)}(h:ShG w base v acc)(t:Touch No w w'):ShG w' base v acc:=by
 obtain⟨vs,h1,h2⟩:=h;exact⟨vs,h1.touch t (fun _ _ _ f=>f),h2.no t⟩
theorem ShG.form {w:World}{base:Nat}{v:Value}{acc:List (List Nat)}(h:ShG w base v acc){n:Nat}(hn:acc.length=n):∃a c,v = .slice a n c∧n≤c∧SsIn w a acc:=by
 obtain⟨vs,h1,h2⟩:=h;obtain⟨a,c,rfl,hc,hr,_⟩:=h1.form' (n:=n) (by rw[h2.1,hn]);refine⟨a,c,rfl,hc,fun j hj=>?_⟩;obtain⟨sa,n',c',g1,g2,g3,g4⟩:=h2.2 j hj;obtain⟨b,o,e,hcell⟩:=hr j _ g1;exact⟨b,o,sa,n',c',e,hcell,g2,g3,g4.1⟩
def ShV (w:World)(vs:List Value)(acc:List (List Nat)):Prop :=
 vs.length=acc.length∧∀j,j<acc.length→∃sa n c,vs[j]? = some (.slice sa n c)∧(Me.sh acc j).length=n∧n≤c∧Rd w sa (nums .i64 (Me.sh acc j))
theorem ShV.nil (w:World):ShV w [] []:=⟨rfl,fun j h=>absurd h (Nat.not_lt_zero j)⟩
theorem ShV.push {w:World}{vs:List Value}{acc:List (List Nat)}{s:List Nat}{sa:Option Addr}{n c:Nat}(h:ShV w vs acc)(hs:Rd w sa (nums .i64 s))(hn:s.length=n)(hc:n≤c):ShV w (vs ++ [.slice sa n c]) (acc ++ [s]):=by
 refine⟨by simp[h.1],fun j hj=>?_⟩;rcases Nat.lt_or_ge j acc.length with h1|h1
 ·obtain⟨sa',n',c',g1,g2,g3,g4⟩:=h.2 j h1
  exact⟨sa',n',c',by rw[List.getElem?_append_left (by rw[h.1];exact h1)];exact g1,by rw[Me.sh_append h1];exact g2,g3,by rw[Me.sh_append h1];exact g4⟩
 ·obtain rfl:j=acc.length:=by rw[List.length_append,List.length_singleton]at hj;omega
  exact⟨sa,n,c,by rw[List.getElem?_append_right (by rw[h.1];exact Nat.le_refl _),h.1];simp,by rw[Me.sh_last];exact hn,hc,by rw[Me.sh_last];exact hs⟩
theorem ShV.ss {w w':World}{base:Nat}{a:Option Addr}{k c:Nat}{vs:List Value}{acc:List (List Nat)}(h:ShV w vs acc)(o:Own w' base 48 (.slice a k c) vs)(t:Touch No w w'):SsIn w' a acc:=fun j hj=>by
 obtain⟨sa,n',c',g1,g2,g3,g4⟩:=h.2 j hj;obtain⟨b,o,e,hcell⟩:=o.rd j _ g1;exact⟨b,o,sa,n',c',e,hcell,g2,g3,g4.no t⟩
theorem ins_take {acc:List (List Nat)}{l:List Int}{k:Nat}(h:k<l.length):Me.ins acc (l.take (k+1))=Me.ins acc (l.take k) ++ [Me.sh acc (l.getD k 0).toNat]:=by
 unfold Me.ins;rw[List.take_add_one,Lge h,Lgd,Lge h,List.map_append];rfl
def ShsB (w:World)(o:Option (List (List Nat)))(e:Ending)(w':World):Prop :=
 (match o with
 | some l=>∃a' c',e = .returned (.tuple #[.slice a' l.length c',.bool true])∧l.length≤c'∧SsIn w' a' l
 | none=>∃v,e = .returned (.tuple #[v,.bool false]))∧Touch No w w'
theorem ShsB.none {w w':World}{v:Value}{e:Ending}(he:e = .returned (.tuple #[v,.bool false]))(t:Touch No w w'):ShsB w none e w':=⟨⟨v,he⟩,t⟩
theorem refShape10 (w:World)(ia sa a:Option Addr)(n c n' c' k kc:Nat)(x:Me.Node)(Ss:List (List Nat))(hx:NIn w ia n c sa n' c' x)(hS:SsIn w a Ss)(hk:Ss.length=k)(hokS:∀j,j<k→Me.Ok (Me.sh Ss j))(hok:Me.NodeOk x)(hl:x.inn.length=k) :
  Calls Tryz.prog 71 #[nodeV ia n c sa n' c' x,.slice a k kc] w (ShB w (Me.shapeOf x Ss)):=by
 obtain⟨kd,inn,shape,N,P⟩:=x;obtain⟨q,hq,hK⟩:=hok
 by_cases hk13:1≤kd∧kd≤13
 ·have hc:kd=1∨kd=2∨kd=3∨kd=4∨kd=5∨kd=6∨kd=7∨kd=8∨kd=9∨kd=10∨kd=11∨kd=12∨kd=13:=by omega
  have h1:=hK.le;have h2:=hK.me;have h3:=hK.lo;have h4:=hK.hi;have h5:=hK.sh;dsimp only at hq h1 h2 h3 h4 h5 hl;rcases hc with rfl|rfl|rfl|rfl|rfl|rfl|rfl|rfl|rfl|rfl|rfl|rfl|rfl <;> simp only[Me.asks]at hq <;> simp at hq <;> subst hq <;> simp[Me.ShapedOk]at h1 h2 h3 h4 h5
  ·exact refShape10_1 w ia sa a n c n' c' k kc inn shape N P Ss hx hS hk hokS h5
  ·exact refShape10_2 w ia sa a n c n' c' k kc inn shape N P Ss hx hS hk hokS h5
  ·exact refShape10_3 w ia sa a n c n' c' k kc inn shape N P Ss hx hS hk hokS (by omega)
  ·exact refShape10_4 w ia sa a n c n' c' k kc inn shape N P Ss hx hS hk hokS (by omega)
  ·exact refShape10_5 w ia sa a n c n' c' k kc inn shape N P Ss hx hS hk hokS (by omega)
  ·exact refShape10_6 w ia sa a n c n' c' k kc inn shape N P Ss hx hS hk hokS (by omega)
  ·exact refShape10_7 w ia sa a n c n' c' k kc inn shape N P Ss hx hS hk hokS (by omega)
  ·exact refShape10_8 w ia sa a n c n' c' k kc inn shape N P Ss hx hS hk hokS (by omega)
  ·exact refShape10_9 w ia sa a n c n' c' k kc inn shape N P Ss hx hS hk hokS (by omega)
  ·exact refShape10_10 w ia sa a n c n' c' k kc inn shape N P Ss hx hS hk hokS (by omega) h5
  ·exact refShape10_11 w ia sa a n c n' c' k kc inn shape N P Ss hx hS hk hokS (by omega) h5
  ·exact refShape10_12 w ia sa a n c n' c' k kc inn shape N P Ss hx hS hk hokS (by omega) (by omega)
  ·exact refShape10_13 w ia sa a n c n' c' k kc inn shape N P Ss hx hS hk hokS (by omega) (by omega)
 ·rw[Me.asks_none hk13]at hq;cases hq
end
section
open Go Go.RowKit
theorem refShapes_in (w:World)(a:Option Addr)(m cap:Nat)(Ns:List Me.Node)(hN:NsIn w a Ns)(hm:Ns.length=m)(hm6:m≤1000) :
  Calls Tryz.prog 54 #[.agg #[.slice a m cap]] w (ShsB w (Me.shapes Ns)):=by
 obtain⟨I,hi0,hi1,hi2,hi3⟩:=info_LI;have HI:=Lib.hid (aI hi0 (aI hi1 (aI hi2 hi3)));obtain⟨J,hj0,hj1,hj2,hj3⟩:=info_I;have HJ:=Lib.hid (aI hj0 (aI hj1 (aI hj2 hj3)));have HN:=Lib.hid hN;have HM:=Lib.hid hm;obtain⟨R,hR⟩:∃R,Me.shapes Ns=R:=⟨_,rfl⟩;rw[hR];have HR:=Lib.hid hR;clear hN hm hR hi0 hi1 hi2 hi3 hj0 hj1 hj2 hj3
 by_cases hm0:m=0
 ·subst hm0
  have hno:Hid (R=none):=by show _=_;rw[← HR.out];exact Me.shapes_len (by rw[HM.out];omega)
  go_enter Tryz.func54,Tryz.ntmps54;go_wp2
  go_ret2
  rw[hno.out];exact ShsB.none rfl ((Touch.refl No w).alloc _)
 have g1:decide ((m:Int)<1)=false:=by simp;omega
 have g1':decide (m<1)=false:=by simp;omega
 by_cases hm32:32<m
 ·have hno:Hid (R=none):=by show _=_;rw[← HR.out];exact Me.shapes_len (by rw[HM.out];omega)
  have g2:decide ((32:Int)<(m:Nat))=true:=by simp;omega
  have g2':decide (32<m)=true:=by simp;omega
  go_enter Tryz.func54,Tryz.ntmps54;go_wp2
  go_ret2
  rw[hno.out];exact ShsB.none rfl ((Touch.refl No w).alloc _)
 have g2:decide ((32:Int)<(m:Nat))=false:=by simp;omega
 have g2':decide (32<m)=false:=by simp;omega
 go_enter Tryz.func54,Tryz.ntmps54;go_wp2_with fail;obtain⟨w1,hw1,t1,R1⟩:=box_row w [.slice a m cap] 24;rw[← hw1];have HT1:=Lib.hid t1;have HR1:=Lib.hid R1;have hB:w.heap.size<w1.heap.size:=R1.lt;obtain⟨B,hBd⟩:∃B,B=w.heap.size:=⟨_,rfl⟩;rw[← hBd]at HR1 hB ⊢;clear hw1 t1 R1 g1 g1' g2 g2' hBd
 go_loopg [4,5,6] m (fun gh s4 s5 s6 wr=>∃(i q:Nat) (v:Value) (acc:List (List Nat)),i+gh=m∧s6 = .int .i64 ((i:Nat):Int)∧s4 = .int .i64 ((q:Nat):Int)∧v=s5∧q≤i∧Hid (q=Me.inputs (Ns.take i))∧Hid (Touch No w1 wr)∧Hid (ShG wr w1.heap.size v acc)∧Hid (acc.length=i∧Me.OkAll acc∧Me.shapesGo (Ns.drop i) acc=Me.shapesGo Ns []))
 case atStart=>exact⟨0,0,_,[],by omega,rfl,rfl,rfl,Nat.le_refl _,rfl,Touch.refl _ _,⟨[],Own.nil _ _ _,ShT.nil _⟩,rfl,Me.OkAll.nil,rfl⟩
 case round =>
  obtain⟨i,q,v,acc,hig,rfl,rfl,rfl,hqi,HQ,T,HG,HA⟩:=hrel;have k0:=HR1.out.touch T.out id |>.cell 0
  simp only[Lz0]at k0;cases gk with
  | zero =>
    obtain rfl:m=i:=by omega
    obtain⟨m1,hm1⟩:∃m1,m=m1+1:=⟨m-1,by omega⟩;have hi:m1<Ns.length:=by rw[HM.out];omega
    obtain⟨b,o,ia,n,c,sa,n',c',rfl,⟨h0,_,_,_,_⟩,_⟩:=(HN.out.no (HT1.out.trans T.out)) m1 hi;obtain⟨kd,hkd⟩:∃kd,(Me.nodeAt Ns m1).kind=kd:=⟨_,rfl⟩;rw[hkd]at h0;have hA:=HA.out;rw[List.drop_of_length_le (by rw[HM.out];exact Nat.le_refl _),Me.shapesGo]at hA;have hQ:=HQ.out;rw[List.take_of_length_le (by rw[HM.out];exact Nat.le_refl _)]at hQ
    have hL:Hid (Me.LastOk Ns↔(q=1∧kd≠1∧kd≠2)):=by
     show _↔_
     rw[Me.LastOk,← hQ,HM.out,show m-1=m1 by omega,hkd]
    have hNO:Hid (¬(q=1∧kd≠1∧kd≠2)→R=none):=fun h=>by
     rw[← HR.out];exact Me.shapes_last fun k=>h (hL.out.1 k)
    have hYES:Hid ((q=1∧kd≠1∧kd≠2)→R=some acc):=fun h=>by
     rw[← HR.out,Me.shapes_go (by rw[HM.out];omega) (hL.out.2 h),hA.2.2]
    have hm1i:(m1:Int)<(m:Nat):=by omega
    have h0:wr.cell? ⟨b,o+(m-1)*5,none⟩=some (.int .u8 ((kd:Nat):Int)):=by rw[show m-1=m1 by omega];exact h0
    obtain⟨a5,c5,rfl,hc5,hS5⟩:=HG.out.form hA.1;have HE:Hid (m≤c5∧SsIn wr a5 acc∧Touch No w wr):=⟨hc5,hS5,HT1.out.trans T.out⟩;have Hm:=Lib.hid hm1;have HAC:=Lib.hid hA.1;clear hm1 hkd hA hQ hc5 hS5 HG HA HQ hi hqi
    by_cases e1:q=1
    ·subst e1
     by_cases e2:kd=1
     ·have f2:((kd:Int) != 1)=false:=by simp;omega
      have hno:=Lib.hid (hNO.out (by omega));clear e2;go_wp2
      go_ret2
      rw[hno.out];exact ShsB.none rfl HE.out.2.2
     ·have f2:((kd:Int) != 1)=true:=by simp;omega
      by_cases e3:kd=2
      ·have f3:((kd:Int) != 2)=false:=by simp;omega
       have hno:=Lib.hid (hNO.out (by omega));clear e2 e3;go_wp2
       go_ret2
       rw[hno.out];exact ShsB.none rfl HE.out.2.2
      ·have f3:((kd:Int) != 2)=true:=by simp;omega
       have hyes:=Lib.hid (hYES.out ⟨rfl,e2,e3⟩);clear e2 e3;go_wp2
       go_ret2
       rw[hyes.out];exact⟨⟨a5,c5,by rw[HAC.out];rfl,by rw[HAC.out];exact HE.out.1,HE.out.2.1⟩,HE.out.2.2⟩
    ·have f1:((q:Int)==1)=false:=by simp;omega
     have hno:=Lib.hid (hNO.out (by omega));clear e1;go_wp2
     go_ret2
     rw[hno.out];exact ShsB.none rfl HE.out.2.2
  | succ g' =>
    have hik:(i:Int)<(m:Nat):=by omega
    have hi:i<Ns.length:=by rw[HM.out];omega
    obtain⟨b,o,ia,n,c,sa,n',c',rfl,⟨h0,h1,h2,h3,h4⟩,hx⟩:=(HN.out.no (HT1.out.trans T.out)) i hi;have HX:=Lib.hid hx;have HD:=Lib.hid (Me.drop_node hi);have HQ2:=Lib.hid (Me.inputs_take hi);obtain⟨x,hxd⟩:∃x,Me.nodeAt Ns i=x:=⟨_,rfl⟩;rw[hxd]at HX HD HQ2 h0 h3 h4;clear hx hxd;obtain⟨kd,inn,shape,N,P⟩:=x;dsimp only at h0 h3 h4;go_upto_region 9 with(refine wpList_store_mid rfl 55 _ _ rfl (wr.heap.size) 0 55 [.int .u8 0,.slice none 0 0,.slice none 0 0,.int .i64 0,.int .i64 0] (Row.new wr 55 #[.int .u8 0,.slice none 0 0,.slice none 0 0,.int .i64 0,.int .i64 0]) rfl [.int .u8 ((kd:Nat):Int),.slice ia n c,.slice sa n' c',.int .i64 N,.int .i64 P] rfl (by kernel_rfl) (by simp) (by intro v hv;simp at hv;rcases hv with rfl|rfl|rfl|rfl|rfl <;> rfl) ?_);obtain⟨w9,hw9⟩:∃w9,w9=(wr.alloc (.cells #[.int .u8 0,.slice none 0 0,.slice none 0 0,.int .i64 0,.int .i64 0] 55)).setRow wr.heap.size (splice [.int .u8 0,.slice none 0 0,.slice none 0 0,.int .i64 0,.int .i64 0] 0 [.int .u8 ((kd:Nat):Int),.slice ia n c,.slice sa n' c',.int .i64 N,.int .i64 P]).toArray:=⟨_,rfl⟩;have R9:Row w9 wr.heap.size 55 [.int .u8 ((kd:Nat):Int),.slice ia n c,.slice sa n' c',.int .i64 N,.int .i64 P]:=by rw[hw9];exact(Row.new wr 55 #[.int .u8 0,.slice none 0 0,.slice none 0 0,.int .i64 0,.int .i64 0]).setRow _
    have t9:Touch No wr w9:=by rw[hw9];exact((Touch.refl No wr).alloc _).setRow (fun h=>absurd h (Nat.lt_irrefl _)) _
    rw[← hw9];have HR9:=Lib.hid R9;have T9:Hid (Touch No w1 w9):=T.out.trans t9;have HG9:=Lib.hid (HG.out.no t9);have HX9:=Lib.hid (HX.out.no t9);have k0:=(HR1.out.touch T9.out id).cell 0;have y0:=R9.cell 0;have y1:=R9.cell 1;have y2:=R9.cell 2;have y3:=R9.cell 3;have y4:=R9.cell 4;simp only[Lz0,Ls0]at k0 y0 y1 y2 y3 y4;obtain⟨X,hX⟩:∃X,X=wr.heap.size:=⟨_,rfl⟩;rw[← hX]at HR9 y0 y1 y2 y3 y4 ⊢;clear hw9 R9 t9 hX h0 h1 h2 h3 h4 HG T;go_wp2_with fail;refine(refNode_in w9 ia sa n c n' c' ⟨kd,inn,shape,N,P⟩ HX9.out).mono ?_;rintro e w10 ⟨⟨bk,rfl,hbk⟩,t10⟩;have T10:Hid (Touch No w1 w10):=T9.out.trans t10;have HR10:=Lib.hid (HR9.out.touch t10 id);have HG10:=Lib.hid (HG9.out.no t10);have HX10:=Lib.hid (HX9.out.no t10);have hXsz:X<w10.heap.size:=HR10.out.lt;have y0:=HR10.out.cell 0;have y1:=HR10.out.cell 1;have k0:=(HR1.out.touch T10.out id).cell 0;simp only[Lz0,Ls0]at k0 y0 y1;clear y2 y3 y4 t10 HX HX9 HG9 HR9 T9;cases bk with
    | false =>
      have hno:Hid (R=none):=by
       show _=_
       rw[← HR.out];refine Me.shapes_none ?_;rw[← HA.out.2.2,HD.out];exact Me.shapesGo_no fun h=>by have:=hbk.2 h.1;cases this
      clear hbk y0 y1;go_wp2
      go_ret2
      rw[hno.out];exact ShsB.none rfl (HT1.out.trans T10.out)
    | true =>
      have HOK:=Lib.hid (hbk.1 rfl);clear hbk;obtain⟨q2,hq2⟩:∃q2,Me.inputs (Ns.take (i+1))=q2:=⟨_,rfl⟩
      have HQ3:Hid (q2=q+if kd=1 then 1 else 0):=by
       show _=_
       rw[← hq2,HQ2.out,← HQ.out]
      have HQ4:=Lib.hid hq2;clear hq2
      go_upto_if 40 with fail
      go_cut [4] (fun s4 wx=>s4 = .int .i64 ((q2:Nat):Int)∧wx=w10)
      case first =>
       by_cases hk1:kd=1
       ·have hb:((kd:Int)==1)=true:=by simp;omega
        have hq3:=HQ3.out;rw[if_pos hk1]at hq3;rw[hb];clear hb hk1;go_wp2_with fail;go_meet;exact⟨by rw[hq3];go_num,rfl⟩
       ·have hb:((kd:Int)==1)=false:=by simp;omega
        have hq3:=HQ3.out;rw[if_neg hk1,Nat.add_zero]at hq3;rw[hb];clear hb hk1;go_wp2_with fail;go_meet;exact⟨by rw[hq3],rfl⟩
      case rest =>
      obtain⟨rfl,rfl⟩:=hcut;have hq2i:q2≤i+1:=by have:=HQ3.out;split at this <;> omega
      go_wp2_with fail
      go_loopg [8,9] n (fun gh s8 s9 wq=>∃(k:Nat) (v8:Value),k+gh=n∧s9 = .int .i64 ((k:Nat):Int)∧v8=s8∧Hid (Touch No wc wq)∧Hid (∃vs,Own wq wc.heap.size 48 v8 vs∧ShV wc vs (Me.ins acc (inn.take k)))∧Hid (∀y∈inn.take k,0≤y∧y<(i:Int)))
      case atStart=>exact⟨0,_,by omega,rfl,rfl,Touch.refl _ _,⟨[],Own.nil _ _ _,by simp only[List.take_zero];exact ShV.nil _⟩,fun y hy=>by simp at hy⟩
      case round =>
       obtain⟨k,v8,hkn,rfl,rfl,TQ,HV,HY⟩:=hrel;have z1:=(HR10.out.touch TQ.out id).cell 1;simp only[Lz0,Ls0]at z1;cases gk with
       | succ g2 =>
         have hkn':(k:Int)<(n:Nat):=by omega
         have hkl:k<inn.length:=by have:=HX10.out.il;dsimp only at this;omega
         obtain⟨bi,oi,rfl,ci⟩:=(HX10.out.ir.no TQ.out).int (i:=k) hkl;have HTK:=Lib.hid (ins_take (acc:=acc) hkl)
         have HTY:Hid (∀y∈inn.take (k+1),y∈inn.take k∨y=inn.getD k 0):=fun y hy=>by
          rw[List.take_add_one,Lge hkl]at hy;rcases List.mem_append.1 hy with h|h
          ·exact Or.inl h
          ·refine Or.inr ?_
           rw[Lgd,Lge hkl]
           simpa using h
         have HMM:Hid (inn.getD k 0∈inn):=by
          show _∈_
          rw[Lgd,Lge hkl];exact List.getElem_mem hkl
         obtain⟨x,hxx⟩:∃x,inn.getD k 0=x:=⟨_,rfl⟩;rw[hxx]at ci HTK HTY HMM;clear hxx
         have hNO:Hid (¬(0≤x∧x<(i:Int))→R=none):=fun hbad=>by
          rw[← HR.out];refine Me.shapes_none ?_;rw[← HA.out.2.2,HD.out];refine Me.shapesGo_no fun h=>hbad ?_
          have:=h.2 x HMM.out;rw[HA.out.1]at this;exact this
         by_cases hx0:x<0
         ·have f1:decide (x<0)=true:=by simpa using hx0
          have hno:=Lib.hid (hNO.out (by omega));clear hx0;go_wp2
          go_ret2
          rw[hno.out];exact ShsB.none rfl (HT1.out.trans (T10.out.trans TQ.out))
         have f1:decide (x<0)=false:=by simpa using hx0
         by_cases hxi:(i:Int)≤x
         ·have f2:decide ((i:Int)≤x)=true:=by simpa using hxi
          have hno:=Lib.hid (hNO.out (by omega));clear hx0 hxi;go_wp2
          go_ret2
          rw[hno.out];exact ShsB.none rfl (HT1.out.trans (T10.out.trans TQ.out))
         have f2:decide ((i:Int)≤x)=false:=by simpa using hxi
         obtain⟨Xn,rfl⟩:∃Xn:Nat,x=((Xn:Nat):Int):=⟨x.toNat,by omega⟩;have hXi:(Xn:Int)<(i:Nat):=by omega
         obtain⟨a5,cc5,rfl,hc5,hS5⟩:=HG10.out.form HA.out.1;obtain⟨b5,o5,sa5,n5,c5,rfl,e1,e2,e3,e4⟩:=hS5 Xn (by rw[HA.out.1];omega);have e1:=TQ.out.cell id e1;obtain⟨vs,OW0,HV0⟩:=HV.out;have OW:=Lib.hid OW0
         have HVN:Hid (ShV wc (vs ++ [.slice sa5 n5 c5]) (Me.ins acc (inn.take (k+1)))):=by
          show ShV _ _ _
          rw[HTK.out,Int.toNat_natCast];exact HV0.push e4 e2 e3
         have HYN:Hid (∀y∈inn.take (k+1),0≤y∧y<(i:Int)):=fun y hy=>by
          rcases HTY.out y hy with h|rfl
          ·exact HY.out y h
          ·omega
         have hvl:vs.length=k:=by rw[HV0.1,Me.ins_length,List.length_take];omega
         have Hvl:=Lib.hid hvl;have hn6:=HX10.out.i6;clear OW0 HV0 HV hS5 e2 e3 e4 hx0 hxi hNO HTK HTY HMM hvl hc5;go_wp2_with (at_builtin;refine wpList_append1 rfl _ _ _ rfl wc.heap.size _ I _ 24 Tryz.underlying75 HI.out.1 HI.out.2.1 HI.out.2.2.1 HI.out.2.2.2 rfl _ _ _ OW.out rfl rfl rfl (by have:=Hvl.out;unfold maxLen;omega) (by have:=Hvl.out;omega) TQ.out.size ?_;intro v' w3 hown3 ht3)
         go_roundg g2
         case measure=>omega
         case rel=>exact⟨k+1,v',by omega,by go_num,rfl,TQ.out.then ht3 (fun i hi e=>absurd ((OW.out.block e).1) (by omega)),⟨_,hown3,HVN.out⟩,HYN.out⟩
       | zero =>
         obtain rfl:n=k:=by omega
         obtain⟨vs,OW0,HV0⟩:=HV.out;have hin:inn.length=n:=HX10.out.il;have hti:inn.take n=inn:=List.take_of_length_le (by omega);rw[hti]at HV0 HY;have hsl:(Me.ins acc inn).length=n:=by rw[Me.ins_length];exact hin
         obtain⟨a8,c8,rfl,hc8,_⟩:=OW0.form' (n:=n) (by rw[HV0.1,hsl]);have hah:Me.Ahead inn acc.length:=by rw[HA.out.1];exact HY.out
         have hokI:=HA.out.2.1.ins hah;have C:=Lib.hid (refShape10 wr ia sa a8 n c n' c' n c8 ⟨kd,inn,shape,N,P⟩ (Me.ins acc inn) (HX10.out.no TQ.out) (HV0.ss OW0 TQ.out) hsl (fun j hj=>hokI j (by rw[hsl];exact hj)) HOK.out hin);have HAH:=Lib.hid (aI hah hokI);have HSL:=Lib.hid (show inn.length=(Me.ins acc inn).length by rw[hsl];exact hin);have TW:Hid (Touch No w1 wr):=T10.out.trans TQ.out;have HGq:=Lib.hid (HG10.out.no TQ.out);have k0:=(HR1.out.touch TW.out id).cell 0;have y0:=(HR10.out.touch TQ.out id).cell 0;have y1:=z1;have y2:=(HR10.out.touch TQ.out id).cell 2;have y3:=(HR10.out.touch TQ.out id).cell 3;have y4:=(HR10.out.touch TQ.out id).cell 4;simp only[Lz0,Ls0]at k0 y0 y2 y3 y4;clear OW0 HV0 HV HY hti hsl hin hah hokI hc8 z1;go_wp2_with fail;cases ho:Me.shapeOf ⟨kd,inn,shape,N,P⟩ (Me.ins acc inn) with
         | none =>
           have hno:Hid (R=none):=by
            show _=_
            rw[← HR.out];refine Me.shapes_none ?_;rw[← HA.out.2.2,HD.out];exact Me.shapesGo_none ho
           rw[ho]at C;refine C.out.mono ?_;rintro e w12 ⟨vv,rfl,t12⟩;have T12:Hid (Touch No w1 w12):=TW.out.trans t12;clear ho C t12 k0 y0 y1 y2 y3 y4;go_wp2
           go_ret2
           rw[hno.out];exact ShsB.none rfl (HT1.out.trans T12.out)
         | some s =>
           have HSO:=Lib.hid (Me.shapeOf_ok HOK.out HSL.out HAH.out.2 ho)
           have HGO:Hid (Me.shapesGo (Ns.drop (i+1)) (acc ++ [s])=Me.shapesGo Ns []):=by
            show _=_
            rw[← HA.out.2.2,HD.out];exact(Me.shapesGo_some HOK.out HAH.out.1 ho).symm
           rw[ho]at C;refine C.out.mono ?_;rintro e w12 ⟨a12,c12,rfl,hc12,hr12,t12⟩;have T12:Hid (Touch No w1 w12):=TW.out.trans t12;obtain⟨vs,OW0,HT0⟩:=HGq.out.no t12;have OW:=Lib.hid OW0;have HTT:=Lib.hid HT0;have hvl:vs.length=i:=by rw[HT0.1];exact HA.out.1
           have Hvl:=Lib.hid hvl;have hs4:s.length≤4:=HSO.out.four;obtain⟨ns,hns⟩:∃ns,s.length=ns:=⟨_,rfl⟩;rw[hns]at hs4 hc12 ⊢;have Hns:=Lib.hid hns;have Hr12:=Lib.hid hr12;have Hnl:=Lib.hid (show(nums .i64 s).length=ns by rw[nums_length,hns]);clear ho C t12 k0 y0 y1 y2 y3 y4 OW0 HT0 hvl hns hr12;have tok:True:=trivial
           go_wp2_with (at_builtin;first
            | (have _t:=tok;refine wpList_append_rd rfl _ _ _ rfl w12.heap.size _ J _ 8 Tryz.underlying48 HJ.out.1 HJ.out.2.1 HJ.out.2.2.1 HJ.out.2.2.2 rfl _ [] (Own.nil _ _ _) rfl a12 ns c12 (nums .i64 s) rfl Hnl.out Hr12.out (nums_one _ _) (by unfold maxLen;simp;omega) (by simp;omega) (Nat.le_refl _) ?_;intro v13 w13 o13 t130;obtain⟨a13,c13,rfl,hc13,_⟩:=Own.form' o13 (n:=ns) (by simp[Hnl.out]);have H13:=Lib.hid (aI o13 (aI hc13 (show Touch No w12 w13 from t130.mono (fun k _ e=>by cases e))));clear o13 hc13 t130 tok _t)
            | (refine wpList_append1 rfl _ _ _ rfl w1.heap.size _ I _ 24 Tryz.underlying75 HI.out.1 HI.out.2.1 HI.out.2.2.1 HI.out.2.2.2 rfl _ _ _ (OW.out.touch H13.out.2.2 (fun _ _ _ f=>f)) rfl rfl rfl (by have:=Hvl.out;unfold maxLen;omega) (by have:=Hvl.out;omega) (T12.out.trans H13.out.2.2).size ?_;intro v' w3 hown3 ht3))
           go_roundg g'
           case measure=>omega
           case rel =>
            have o13:=H13.out.1;rw[List.nil_append]at o13;refine⟨i+1,q2,v',acc ++ [s],by omega,by go_num,rfl,rfl,hq2i,HQ4.out.symm,?_,⟨_,hown3,(HTT.out.no H13.out.2.2).push (OW.out.touch H13.out.2.2 (fun _ _ _ f=>f)) ht3 (TRd.of_own o13) Hns.out H13.out.2.1⟩,by rw[List.length_append,HA.out.1];rfl,HA.out.2.1.snoc HSO.out,HGO.out⟩;exact(T12.out.trans H13.out.2.2).then ht3 (fun i hi e=>absurd ((OW.out.block e).1) (by omega))
end
end Go.Proofs.YtjlphmmalebgpaaGreat
