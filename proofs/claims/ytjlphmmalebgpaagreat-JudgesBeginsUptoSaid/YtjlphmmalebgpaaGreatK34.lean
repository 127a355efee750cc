/-
  A part of the proof.
-/
import Derived.Test.YtjlphmmalebgpaaGreatK33
set_option linter.unusedSimpArgs false
set_option linter.unusedVariables false
set_option maxHeartbeats 4000000
set_option maxRecDepth 100000
namespace Go.Proofs.YtjlphmmalebgpaaGreat
section
open Go Go.RowKit
theorem refDo_in (w:World)(ia sa a:Option Addr)(k c n' c' kc:Nat)(x:Me.Node)(Xs:List Me.Ten)(s:List Nat)(hx:NIn w ia k c sa n' c' x)(hok:Me.NodeOk x)(h3:3≤x.kind)(hX:TsIn w a Xs)(hl:Xs.length=k)(hs:Me.shapeOf x (Xs.map Prod.fst)=some s) :
  Calls Tryz.prog 69 #[nodeV ia k c sa n' c' x,.slice a k kc] w (TOut w s (Me.opL x Xs)):=by
 obtain⟨kd,inn,shape,N,P⟩:=x;have hokk:=hok;obtain⟨A,hA,hK⟩:=hok;have hin:inn.length=k:=hx.il;have h1:=hK.le;have h2:=hK.me;have g3:=hK.lo;have g4:=hK.hi;have g5:=hK.sh;have g6:=hK.p0;have g7:=hK.pa;dsimp only at hA h1 h2 g3 g4 g5 g6 g7 h3;rw[hin]at h1 h2
 have hk13:kd≤13:=by
  rcases Nat.lt_or_ge 13 kd with h'|h'
  ·rw[Me.asks_none (by omega)]at hA;cases hA
  ·exact h'
 have hc:kd=3∨kd=4∨kd=5∨kd=6∨kd=7∨kd=8∨kd=9∨kd=10∨kd=11∨kd=12∨kd=13:=by omega
 have hk1:1≤k:=by
  have:1≤A.least:=by
   rcases hc with rfl|rfl|rfl|rfl|rfl|rfl|rfl|rfl|rfl|rfl|rfl <;> simp[Me.asks]at hA <;> subst hA <;> decide
  omega
 have e0:Me.sh (Xs.map Prod.fst) 0=(Me.tn Xs 0).1:=Me.sh_map (by omega);obtain⟨b,o,ta,tn,tc,tl,tm,td,rfl,q0,q1,hT0⟩:=hX.ten (j:=0) (by omega);simp only[Nat.zero_mul,Nat.add_zero]at q0 q1;have hE:=hX.each
 have two:2≤k→∃ua un uc ul um ud,w.cell? ⟨b,o+2,none⟩=some (.slice ua un uc)∧w.cell? ⟨b,o+2+1,none⟩=some (.slice ul um ud)∧TIn w ua un uc ul um ud (Me.tn Xs 1).1 (Me.tn Xs 1).2∧Me.sh (Xs.map Prod.fst) 1=(Me.tn Xs 1).1:=fun h=>by
  obtain⟨b',o',ua,un,uc,ul,um,ud,e,r0,r1,hT1⟩:=hX.ten (j:=1) (by omega);cases e
  exact⟨ua,un,uc,ul,um,ud,by simpa using r0,by simpa using r1,hT1,Me.sh_map (by omega)⟩
 clear hk13;rcases hc with rfl|rfl|rfl|rfl|rfl|rfl|rfl|rfl|rfl|rfl|rfl <;> simp[Me.asks]at hA <;> subst hA <;> simp[Me.ShapedOk]at h1 h2 g3 g4 g5 g6 g7 <;> simp only[Me.shapeOf]at hs <;> simp only[Me.opL] <;> simp at hs ⊢
 ·obtain⟨ua,un,uc,ul,um,ud,r0,r1,hT1,e1⟩:=two (by omega)
  rw[e0,e1]at hs;rw[← hs.1]at hT1;rw[← hs.2];obtain rfl:k=2:=by omega
  exact refDo_3 w ia sa ta tl ua ul b o tn tc tm td un uc um ud 2 c n' c' kc inn shape N P _ _ hx hokk (by omega) q0 q1 r0 r1 (fun wx t=>refAdd_in wx ta tl ua ul tn tc tm td un uc um ud _ _ _ (hT0.no t) (hT1.no t))
 ·obtain⟨ua,un,uc,ul,um,ud,r0,r1,hT1,e1⟩:=two (by omega)
  rw[e0,e1]at hs;rw[← hs.1]at hT1;rw[← hs.2];obtain rfl:k=2:=by omega
  exact refDo_4 w ia sa ta tl ua ul b o tn tc tm td un uc um ud 2 c n' c' kc inn shape N P _ _ hx hokk (by omega) q0 q1 r0 r1 (fun wx t=>refMul_in wx ta tl ua ul tn tc tm td un uc um ud _ _ _ (hT0.no t) (hT1.no t))
 ·
  rw[e0]at hs;rw[← hs];exact refDo_5 w ia sa ta tl b o tn tc tm td k c n' c' kc inn shape N P _ _ hx hokk (by omega) q0 q1 (fun wx t=>refRelu_in wx ta tl tn tc tm td _ _ (hT0.no t))
 ·
  rw[e0]at hs;rw[← hs];obtain⟨q,hq⟩:∃q:Nat,N.toNat=q:=⟨_,rfl⟩;have hN:N=((q:Nat):Int):=by omega
  rw[hq];clear hq;subst hN;exact refDo_6 w ia sa ta tl b o tn tc tm td k c n' c' kc inn shape _ P _ _ hx hokk (by omega) q0 q1 (fun wx t=>refShift_in wx ta tl tn tc tm td _ _ q (by omega) (hT0.no t))
 ·
  obtain⟨ua,un,uc,ul,um,ud,r0,r1,hT1,e1⟩:=two (by omega);rw[e0,e1]at hs;obtain⟨p1,p2,p3,p4,p5⟩:=Me.prod_ok hT0.ok hT1.ok hs;subst p2;obtain rfl:k=2:=by omega
  exact refDo_7 w ia sa ta tl ua ul b o tn tc tm td un uc um ud 2 c n' c' kc inn shape N P _ _ hx hokk (by omega) q0 q1 r0 r1 (fun wx t=>refProdOf_in wx ta tl ua ul tn tc tm td un uc um ud _ _ _ _ (hT0.no t) (hT1.no t) (by rw[← hT0.sn];exact p3) (by rw[← hT1.sn];exact p4) p5 p1)
 ·
  obtain⟨ua,un,uc,ul,um,ud,r0,r1,hT1,e1⟩:=two (by omega);rw[e0,e1]at hs;obtain⟨p1,p2,p3⟩:=Me.win_ok hs;obtain⟨q,r,hq,hr,hG⟩:=Me.winG hs;subst hq hr;simp only[Int.toNat_natCast]at p2 ⊢;rw[← p2];obtain rfl:k=2:=by omega
  exact refDo_8 w ia sa ta tl ua ul b o tn tc tm td un uc um ud 2 c n' c' kc inn shape _ _ _ _ hx hokk (by omega) q0 q1 r0 r1 (fun wx t=>refWinOf_in wx ta tl ua ul tn tc tm td un uc um ud q r _ _ _ _ _ (hT0.no t) (hT1.no t) hG hs)
 ·
  rw[e0]at hs;obtain⟨p1,p2,p3⟩:=Me.poolS_ok hT0.ok hs;obtain⟨q,hq,hG⟩:=Me.poolG hT0.ok hs;subst hq;simp only[Int.toNat_natCast]at p2 ⊢;rw[← p2];exact refDo_9 w ia sa ta tl b o tn tc tm td k c n' c' kc inn shape _ P _ _ hx hokk (by omega) q0 q1 (fun wx t=>refPoolOf_in wx ta tl tn tc tm td q _ _ _ (hT0.no t) hG hs)
 ·
  rw[e0]at hs;have hz:=Me.ok_nats g5;have hpr:Rd w sa (nums .i64 (Me.nats shape)):=by rw[← zs_ints,hz.1];exact hx.sr
  have hpl:(Me.nats shape).length=n':=by rw[Me.nats_length];exact hx.sl
  rw[← hs.2];exact refDo_10 w ia sa ta tl b o tn tc tm td k c n' c' kc inn shape N P _ _ hx hokk (by omega) q0 q1 (fun wx t=>refMovesShape_in wx ta tl sa tn tc tm td n' c' _ _ _ (hT0.no t) hz.2 hpl (by rw[hs.1,hT0.len]) hx.sc (hpr.no t))
 ·
  rw[e0]at hs;have hz:=Me.ord_nats g5;have hpr:Rd w sa (nums .i64 (Me.nats shape)):=by rw[← zs_ints,hz.1];exact hx.sr
  have hsl:shape.length=n':=hx.sl;have htn:tn=n':=by rw[← hT0.sn,← hs.1,hsl]
  rw[← hs.2];subst htn;exact refDo_11 w ia sa ta tl b o tn tc tm td k c tn c' kc inn shape N P _ _ hx hokk (by omega) q0 q1 (fun wx t=>refTurn_in wx ta tl sa tn tc tm td c' _ _ _ (hT0.no t) (by have:=hz.2;rw[hsl]at this;exact this) hx.sc (hpr.no t))
 ·
  obtain⟨q,hq⟩:∃q:Nat,N.toNat=q:=⟨_,rfl⟩;have hN:N=((q:Nat):Int):=by omega
  rw[hq]at hs ⊢;clear hq;subst hN;obtain⟨p1,p2,p3⟩:=Me.joinS_ok hs;rw[p2];have hJ:=Me.joins_of p1 (by omega) (fun x hx=>(hE x hx).1);exact refDo_12 w ia sa none b o k c n' c' kc inn shape _ P _ _ hx hokk (by omega) (fun wx t=>refJoin_in wx _ k kc q Xs _ hJ (hX.no t) hl (by omega) (fun x hx=>(hE x hx).2))
 ·
  obtain⟨q,hq⟩:∃q:Nat,N.toNat=q:=⟨_,rfl⟩;have hN:N=((q:Nat):Int):=by omega
  rw[hq,e0]at hs;rw[hq];clear hq;subst hN;rw[← hs.2];exact refDo_13 w ia sa ta tl b o tn tc tm td k c n' c' kc inn shape _ P _ _ hx hokk (by omega) q0 q1 (fun wx t=>refSum_in wx ta tl tn tc tm td q _ _ (hT0.no t) (by rw[← hT0.sn];exact hs.1))
end
section
open Go Go.RowKit
theorem rows_cell {w:World}{T:TypeId}{s m:Nat}{v:Value}{cs:List Value}(h:w.ownsRow 0 T s v m cs):∃a c,v = .slice a m c∧m≤c∧c≤maxLen∧Rd w a cs:=by
 obtain⟨hl,hh⟩:=h;rcases hh with⟨rfl,rfl⟩|⟨g,cap,cur,rfl,_,hg,hn,hm,hs,ht⟩
 ·refine⟨none,0,rfl,Nat.le_refl _,Nat.zero_le _,fun i v hi=>?_⟩
  have:cs=[]:=List.length_eq_zero_iff.1 (by rw[hl,Nat.zero_mul]);rw[this]at hi;cases hi
 ·refine⟨_,cap,rfl,hn,hm,fun i v hi=>⟨g,0,rfl,?_⟩⟩
  have hi':i<cs.length:=by
   rcases Nat.lt_or_ge i cs.length with h|h
   ·exact h
   ·rw[Lgn h]at hi;cases hi
  rw[← ht,List.getElem?_take_of_lt (by rw[← hl];exact hi')]at hi;rw[Nat.zero_add];simp only[World.cell?,hg]
  simpa using hi
section
variable {P:Program} {w:World}
theorem run_append_rows (base:Nat)(t ty e:TypeId)(i:TypeInfo)(z:Value)(s bytes:Nat)(ht:P.underlying t=some (.slice e))(hi:P.info? e=some i)(hz:i.zero=some z)(hsize:i.size=s)(hby:i.bytes=bytes)(hzs:z.cells.size=s)(hs:0<s)
  (v:Value) (n:Nat) (vs:List Value) (hown:w.ownsRow base e s v n vs) (a:Option Addr) (m c:Nat) (us:List Value) (hl:us.length=m*s) (hr:Rd w a us) (h1:∀u∈us,u.oneCell'=true)
  (h63:n+m≤maxLen) (hbytes:(n+m)*bytes≤140737488355328) (hbase:base≤w.heap.size) :
  ∃v' w',(Builtin.append_ #[t,t] ty #[v,.slice a m c]).run P w = .ok v' w'∧w'.ownsRow base e s v' (n+m) (vs++us)∧Touch (InBlock v) w w'∧∀k,InBlock v' k→InBlock v k∨w.heap.size≤k:=by
 cases a with
 | some ad =>
   have hnews:∀j u,us[j]? = some u→w.cell? (ad.add j)=some u:=fun j u hj=>by
    obtain⟨b,o,e1,hc⟩:=hr j u hj;cases e1
    unfold Addr.add;split
    ·rename_i h0;subst h0;exact hc
    ·exact hc
   obtain⟨v',w',h2,h3,h4,_,h5⟩:=run_append_own_at (P:=P) w base t ty e i z s bytes ht hi hz hsize hby hzs hs v n vs hown ad m c us hl hnews h1 h63 hbytes hbase;refine⟨v',w',h2,h3,(Touch.refl _ w).grown h4 (fun k hk _=>hk),fun k hk=>?_⟩;have hk':v'.ownBlock=some k:=hk;rcases h5 with h5|h5
   ·exact Or.inl (by show v.ownBlock=some k;rw[← h5];exact hk')
   ·rw[h5]at hk';cases hk';exact Or.inr (Nat.le_refl _)
 | none =>
   have hus:us=[]:=by
    cases us with
    | nil=>rfl
    | cons u r=>obtain⟨b,o,e1,_⟩:=hr 0 u rfl;cases e1
   subst hus
   obtain rfl:m=0:=by
    have h0:m*s=0:=hl.symm;rcases Nat.mul_eq_zero.1 h0 with h|h
    ·exact h
    ·omega
   obtain⟨b,cap,rfl,hcap,_⟩:∃b cap,v = .slice b n cap∧n≤cap∧True:=by
    rcases hown.2 with⟨rfl,rfl⟩|⟨g,cap,cur,rfl,_,_,hc,_⟩
    ·exact⟨_,_,rfl,Nat.le_refl _,trivial⟩
    ·exact⟨_,_,rfl,hc,trivial⟩
   refine⟨.slice b n cap,w,?_,by rw[List.append_nil];exact hown,Touch.refl _ _,fun k hk=>Or.inl hk⟩;cases b <;> simp[Builtin.append_,run_underlying ht,sizeOf,typeInfo,hi,Builtin.lenOf,hcap,Builtin.firstCells,storeCells]
theorem rowSlice' {w:World}{base e size n:Nat}{v:Value}{xs:List Value}(h:w.ownsRow base e size v n xs):∃a c,v = .slice a n c:=by
 rcases h.2 with⟨rfl,rfl⟩|⟨g,cap,cur,rfl,_⟩
 ·exact⟨_,_,rfl⟩
 ·exact⟨_,_,rfl⟩
theorem wp_append_rows {o:Oper}{ac:Act}{K:Act→World→Prop}{Q:Exit→Act→World→Prop}(s x:Operand)(t:TypeId)(ho:o.op = .call {callee:=.builtin .append,args:=#[s,x],argTypes:=#[t,t]})
  (e:TypeId) (i:TypeInfo) (z:Value) (size bytes:Nat) (ht:P.underlying t=some (.slice e)) (hi:P.info? e=some i) (hz:i.zero=some z) (hsize:i.size=size) (hby:i.bytes=bytes) (hzs:z.cells.size=size) (hsz:0<size)
  (v:Value) (n:Nat) (vs:List Value) (hown:w.ownsRow 0 e size v n vs) (hs:ac.eval s=v) (ad:Option Addr) (m c:Nat) (us:List Value) (hx:ac.eval x = .slice ad m c) (hl:us.length=m*size) (hr:Rd w ad us) (h1:∀u∈us,u.oneCell'=true)
  (h63:n+m≤maxLen) (hbytes:(n+m)*bytes≤140737488355328)
  (h:∀a' c' w',w'.ownsRow 0 e size (.slice a' (n+m) c') (n+m) (vs++us)→Touch (InBlock v) w w'→(∀k,InBlock (.slice a' (n+m) c') k→InBlock v k∨w.heap.size≤k)→K (ac.put o.dst (.slice a' (n+m) c')) w'):o.wp P ac w K Q :=
 wp_append_run s x t t ho v _ hs hx (R:=fun v' w'=>w'.ownsRow 0 e size v' (n+m) (vs++us)∧Touch (InBlock v) w w'∧∀k,InBlock v' k→InBlock v k∨w.heap.size≤k) (run_append_rows 0 t _ e i z size bytes ht hi hz hsize hby hzs hsz v n vs hown ad m c us hl hr h1 h63 hbytes (Nat.zero_le _)) fun v' w' hh=>by
  obtain⟨a',c',rfl⟩:=rowSlice' hh.1;exact h a' c' w' hh.1 hh.2.1 hh.2.2
theorem wpList_append_rows {ops:Array Oper}{rest:List Oper}{o:Oper}{ac:Act}{Q:Exit→Act→World→Prop}(hgd:o.guard=none)(s x:Operand)(t:TypeId)(ho:o.op = .call {callee:=.builtin .append,args:=#[s,x],argTypes:=#[t,t]})
  (e:TypeId) (i:TypeInfo) (z:Value) (size bytes:Nat) (ht:P.underlying t=some (.slice e)) (hi:P.info? e=some i) (hz:i.zero=some z) (hsize:i.size=size) (hby:i.bytes=bytes) (hzs:z.cells.size=size) (hsz:0<size)
  (v:Value) (n:Nat) (vs:List Value) (hown:w.ownsRow 0 e size v n vs) (hs:ac.eval s=v) (ad:Option Addr) (m c:Nat) (us:List Value) (hx:ac.eval x = .slice ad m c) (hl:us.length=m*size) (hr:Rd w ad us) (h1:∀u∈us,u.oneCell'=true)
  (h63:n+m≤maxLen) (hbytes:(n+m)*bytes≤140737488355328)
  (h:∀a' c' w',w'.ownsRow 0 e size (.slice a' (n+m) c') (n+m) (vs++us)→Touch (InBlock v) w w'→(∀k,InBlock (.slice a' (n+m) c') k→InBlock v k∨w.heap.size≤k)→wpList P ops Q rest (ac.put o.dst (.slice a' (n+m) c')) w'):wpList P ops Q (o::rest) ac w :=
 wpList_plain hgd fun _ hK=>wp_append_rows s x t ho e i z size bytes ht hi hz hsize hby hzs hsz v n vs hown hs ad m c us hx hl hr h1 h63 hbytes fun a' c' w' p q r=>hK _ _ (h a' c' w' p q r)
end
end
section
open Go Go.RowKit
namespace Me
abbrev Raw:=List Int × List Int
def fitsR (t:Raw)(s:List Int):Bool:=Ar.check t.1 t.2&&decide (t.1=s)
def ten (t:Raw):Ten:=(nats t.1,t.2)
def rawAt (l:List Raw)(j:Nat):Raw:=l.getD j ([],[])
def insT (Ts:List Ten)(l:List Int):List Ten:=l.map fun k=>tn Ts k.toNat
theorem insT_length (Ts:List Ten)(l:List Int):(insT Ts l).length=l.length:=by simp[insT]
theorem insT_fst (Ts:List Ten)(l:List Int):(insT Ts l).map Prod.fst=ins (Ts.map Prod.fst) l:=by
 unfold insT ins;rw[List.map_map];refine List.map_congr_left fun k _=>?_
 simp only[Function.comp,tn,sh,Lgd,List.getElem?_map];cases Ts[k.toNat]? <;> rfl
theorem insT_take {Ts:List Ten}{l:List Int}{k:Nat}(h:k<l.length):insT Ts (l.take (k+1))=insT Ts (l.take k) ++ [tn Ts (l.getD k 0).toNat]:=by
 unfold insT;rw[List.take_add_one,Lge h,Lgd,Lge h,List.map_append];rfl
theorem tn_append {Ts:List Ten}{t:Ten}{j:Nat}(h:j<Ts.length):tn (Ts ++ [t]) j=tn Ts j:=by
 rw[tn,tn,Lgd,Lgd,List.getElem?_append_left h]
theorem tn_last {Ts:List Ten}{t:Ten}:tn (Ts ++ [t]) Ts.length=t:=by
 rw[tn,Lgd,List.getElem?_append_right (Nat.le_refl _)];simp
noncomputable def allGo (ws:List Raw) (input:Raw):List Node→List Ten→Nat→Option (List Ten)
 | [],Ts,_=>some Ts
 | x::r,Ts,w =>
   if x.kind=1 then(if fitsR input x.shape=true then allGo ws input r (Ts ++ [ten input]) w else none)
   else if x.kind=2 then(if fitsR (rawAt ws w) x.shape=true then allGo ws input r (Ts ++ [ten (rawAt ws w)]) (w+1) else none)
   else allGo ws input r (Ts ++ [((shapeOf x ((insT Ts x.inn).map Prod.fst)).getD [],opL x (insT Ts x.inn))]) w
open Classical in
noncomputable def all (g:List Node) (ws:List Raw) (input:Raw):Option (List Ten) :=
 if (shapes g).isSome=true∧ws.length=(weights g g.length).length then allGo ws input g [] 0 else none
end Me
structure RIn (w:World) (sa:Option Addr) (n c:Nat) (la:Option Addr) (m d:Nat) (t:Me.Raw):Prop where
 sr:Rd w sa (ints .i64 t.1)
 sn:t.1.length=n
 sc:n≤c
 s6:n≤2000000
 lr:Rd w la (ints .i32 t.2)
 lm:t.2.length=m
 lc:m≤d
 l6:m≤2000000
 rng:∀y∈t.2,-2147483648≤y∧y≤2147483647
theorem RIn.no {w w':World}{sa la:Option Addr}{n c m d:Nat}{t:Me.Raw}(h:RIn w sa n c la m d t)(tt:Touch No w w'):RIn w' sa n c la m d t:={h with sr:=h.sr.no tt,lr:=h.lr.no tt}
theorem RIn.ten {w:World}{sa la:Option Addr}{n c m d:Nat}{t:Me.Raw}(h:RIn w sa n c la m d t)(hc:Ar.check t.1 t.2=true):TIn w sa n c la m d (Me.nats t.1) t.2:=by
 rw[Ar.check_is,Bool.and_eq_true,decide_eq_true_eq]at hc;have hz:=Me.ok_nats hc.1;refine {sr:=by rw[← zs_ints,hz.1];exact h.sr,sn:=by rw[Me.nats_length];exact h.sn,sc:=h.sc,lr:=h.lr,lm:=h.lm,lc:=h.lc,ok:=hz.2,len:=?_,rng:=h.rng};rw[← h.lm,hc.2,Ar.size_is,if_pos hc.1,← Me.prod_zs,hz.1]
def WsIn (w:World)(a:Option Addr)(Ws:List Me.Raw):Prop :=
 ∀j,j<Ws.length→∃b o sa n c la m d,a=some ⟨b,o,none⟩∧w.cell? ⟨b,o+j*2,none⟩=some (.slice sa n c)∧w.cell? ⟨b,o+j*2+1,none⟩=some (.slice la m d)∧RIn w sa n c la m d (Me.rawAt Ws j)
theorem WsIn.no {w w':World}{a:Option Addr}{Ws:List Me.Raw}(h:WsIn w a Ws)(t:Touch No w w'):WsIn w' a Ws:=fun j hj=>by
 obtain⟨b,o,sa,n,c,la,m,d,e,h1,h2,h3⟩:=h j hj;exact⟨b,o,sa,n,c,la,m,d,e,t.cell id h1,t.cell id h2,h3.no t⟩
def Off (a:Option Addr)(k:Nat):Prop:=∀ad,a=some ad→ad.block≠k
theorem TIn.lt {w:World}{sa la:Option Addr}{n c m d:Nat}{S:List Nat}{L:List Int}(h:TIn w sa n c la m d S L):(∀ad,sa=some ad→ad.block<w.heap.size)∧∀ad,la=some ad→ad.block<w.heap.size:=by
 have h1:=h.n1;have h2:=h.m1;obtain⟨b,o,e,hc⟩:=h.dir (k:=0) (by omega);obtain⟨b',o',e',hc'⟩:=h.num (k:=0) (by omega);refine⟨fun ad ha=>?_,fun ad ha=>?_⟩
 ·rw[e]at ha;cases ha;exact lt_of_cell hc
 ·rw[e']at ha;cases ha;exact lt_of_cell hc'
theorem TIn.off {w w':World}{F:Nat→Prop}{sa la:Option Addr}{n c m d:Nat}{S:List Nat}{L:List Int}(h:TIn w sa n c la m d S L)(t:Touch F w w')(h1:∀k,F k→Off sa k)(h2:∀k,F k→Off la k):TIn w' sa n c la m d S L :=
 {h with sr:=h.sr.touch t fun b o e _ hF=>h1 b hF _ e rfl,lr:=h.lr.touch t fun b o e _ hF=>h2 b hF _ e rfl}
def TsV (w:World)(v:Value)(cs:List Value)(Ts:List Me.Ten):Prop :=
 ∀j,j<Ts.length→∃sa n c la m d,cs[j*2]? = some (.slice sa n c)∧cs[j*2+1]? = some (.slice la m d)∧TIn w sa n c la m d (Me.tn Ts j).1 (Me.tn Ts j).2∧∀k,InBlock v k→Off sa k∧Off la k
theorem TsV.no {w w':World}{v:Value}{cs:List Value}{Ts:List Me.Ten}(h:TsV w v cs Ts)(t:Touch No w w'):TsV w' v cs Ts:=fun j hj=>by
 obtain⟨sa,n,c,la,m,d,h1,h2,h3,h4⟩:=h j hj;exact⟨sa,n,c,la,m,d,h1,h2,h3.no t,h4⟩
def TsG (w:World)(base:Nat)(v:Value)(Ts:List Me.Ten):Prop:=∃cs,w.ownsRow base 51 2 v Ts.length cs∧TsV w v cs Ts
theorem TsG.nil (w:World)(base:Nat):TsG w base (.slice none 0 0) []:=⟨[],⟨rfl,Or.inl ⟨rfl,rfl⟩⟩,fun j h=>absurd h (Nat.not_lt_zero j)⟩
theorem ownsRow_no {w w':World}{base:Nat}{T:TypeId}{s n:Nat}{v:Value}{cs:List Value}(h:w.ownsRow base T s v n cs)(t:Touch No w w'):w'.ownsRow base T s v n cs:=by
 obtain⟨hl,hh⟩:=h;refine⟨hl,hh.imp id ?_⟩;rintro⟨g,cap,cur,hv,hg,hgt,q⟩;exact⟨g,cap,cur,hv,hg,by rw[t.block g (Array.getElem?_eq_some_iff.1 hgt).1 id];exact hgt,q⟩
theorem ownsRow_block {w:World}{base:Nat}{T:TypeId}{s n:Nat}{v:Value}{cs:List Value}(h:w.ownsRow base T s v n cs){k:Nat}(hk:InBlock v k):base≤k∧k<w.heap.size:=by
 obtain⟨_,hh⟩:=h;rcases hh with⟨rfl,_⟩|⟨g,cap,cur,rfl,hg,hgt,_⟩
 ·cases hk
 ·cases hk;exact⟨hg,(Array.getElem?_eq_some_iff.1 hgt).1⟩
theorem TsG.form {w:World}{base:Nat}{v:Value}{Ts:List Me.Ten}(h:TsG w base v Ts){n:Nat}(hn:Ts.length=n):∃a c,v = .slice a n c∧n≤c∧TsIn w a Ts∧∀ad,a=some ad→base≤ad.block:=by
 obtain⟨cs,h1,h2⟩:=h;have hb:=fun k=>ownsRow_block h1 (k:=k)
 have h1':w.ownsRow 0 51 2 v Ts.length cs:=by
  obtain⟨hl,hh⟩:=h1;refine⟨hl,hh.imp id ?_⟩;rintro⟨g,cap,cur,hv,hg,q⟩;exact⟨g,cap,cur,hv,Nat.zero_le _,q⟩
 obtain⟨a,c,rfl,hc,_,hr⟩:=rows_cell h1';rw[hn]at hc ⊢;refine⟨a,c,rfl,hc,fun j hj=>?_,fun ad e=>(hb ad.block (by rw[e];rfl)).1⟩;obtain⟨sa,n',c',la,m,d,g1,g2,g3,_⟩:=h2 j hj;obtain⟨b,o,e,k1⟩:=hr _ _ g1;obtain⟨b',o',e',k2⟩:=hr _ _ g2;rw[e]at e';cases e';exact⟨b,o,sa,n',c',la,m,d,e,k1,by rw[Nat.add_assoc];exact k2,g3⟩
theorem TsV.push {w w3:World}{base:Nat}{v v':Value}{cs:List Value}{Ts:List Me.Ten}{sa la:Option Addr}{n c m d:Nat}{S:List Nat}{L:List Int}(ho:w.ownsRow base 51 2 v Ts.length cs)(h:TsV w v cs Ts)(t:Touch (InBlock v) w w3)(hb:∀k,InBlock v' k→InBlock v k∨w.heap.size≤k)(hT:TIn w sa n c la m d S L)(hoff:∀k,InBlock v k→Off sa k∧Off la k) :
  TsV w3 v' (cs ++ [.slice sa n c,.slice la m d]) (Ts ++ [(S,L)]):=fun j hj=>by
 have key:∀{sa la:Option Addr} {n c m d:Nat} {S:List Nat} {L:List Int},TIn w sa n c la m d S L→(∀k,InBlock v k→Off sa k∧Off la k)→TIn w3 sa n c la m d S L∧∀k,InBlock v' k→Off sa k∧Off la k:=fun hT hoff=>by
  refine⟨hT.off t (fun k hk=>(hoff k hk).1) (fun k hk=>(hoff k hk).2),fun k hk=>?_⟩;rcases hb k hk with h1|h1
  ·exact hoff k h1
  ·exact⟨fun ad e he=>by have:=hT.lt.1 ad e;omega,fun ad e he=>by have:=hT.lt.2 ad e;omega⟩
 have hl:cs.length=Ts.length*2:=ho.1;rcases Nat.lt_or_ge j Ts.length with h1|h1
 ·obtain⟨sa',n',c',la',m',d',g1,g2,g3,g4⟩:=h j h1
  obtain⟨k1,k2⟩:=key g3 g4;exact⟨sa',n',c',la',m',d',by rw[List.getElem?_append_left (by omega)];exact g1,by rw[List.getElem?_append_left (by omega)];exact g2,by rw[Me.tn_append h1];exact k1,k2⟩
 ·obtain rfl:j=Ts.length:=by rw[List.length_append,List.length_singleton]at hj;omega
  obtain⟨k1,k2⟩:=key hT hoff;refine⟨sa,n,c,la,m,d,?_,?_,by rw[Me.tn_last];exact k1,k2⟩
  ·rw[List.getElem?_append_right (by omega),hl,Nat.sub_self];rfl
  ·rw[List.getElem?_append_right (by omega),hl,show Ts.length*2+1-Ts.length*2=1 by omega];rfl
end
section
open Go Go.RowKit
theorem fits_any (w:World)(sa la sb:Option Addr)(n c m d n' c':Nat)(t:Me.Raw)(s:List Int)(hT:RIn w sa n c la m d t)(hs:Rd w sb (ints .i64 s))(hsl:s.length=n')(hs6:n'≤1000) :
  Calls Tryz.prog 65 #[.agg #[.slice sa n c,.slice la m d],.slice sb n' c'] w fun e w'=>e = .returned (.bool (Me.fitsR t s))∧Touch No w w':=by
 obtain⟨w1,hw1,t1,R1⟩:=box_row w [.slice sa n c,.slice la m d] 51;have C1:=Lib.hid (tenCheck_any w1 sa la n c m d t.1 t.2 hT.sn (by have:=hT.s6;omega) (hT.sr.no t1) hT.lm (by have:=hT.l6;omega));have C2:=Lib.hid (fun(wx:World) (tt:Touch No w wx)=>equalI_any wx sa sb n c n' c' t.1 s (hT.sr.no tt) hT.sn (hs.no tt) hsl (by have:=hT.s6;omega));obtain⟨b1,hb1⟩:∃b1,Ar.check t.1 t.2=b1:=⟨_,rfl⟩;obtain⟨b2,hb2⟩:∃b2,decide (t.1=s)=b2:=⟨_,rfl⟩;have HF:Hid (Me.fitsR t s=(b1&&b2)):=by show _=_;rw[Me.fitsR,hb1,hb2]
 rw[hb1]at C1;rw[hb2]at C2;have y0:=R1.cell 0;have HR1:=Lib.hid R1;have HT1:=Lib.hid t1;simp only[Lz0]at y0;clear hT hs hsl hb1 hb2 t1 R1;cases b1 with
 | false =>
   go_enter Tryz.func65,Tryz.ntmps65;go_wp2_with fail;rw[← hw1];refine C1.out.mono ?_;rintro e w' ⟨rfl,t2⟩;have T2:=Lib.hid (HT1.out.trans t2);clear t2 C1 C2 y0;go_wp2;go_ret;exact⟨by rw[HF.out];rfl,T2.out⟩
 | true =>
   go_enter Tryz.func65,Tryz.ntmps65;go_wp2_with fail;rw[← hw1];refine C1.out.mono ?_;rintro e w2 ⟨rfl,t2⟩;have z0:=(HR1.out.touch t2 id).cell 0;simp only[Lz0]at z0;have T2:=Lib.hid (HT1.out.trans t2);clear t2 C1 y0;go_wp2_with fail;refine(C2.out _ T2.out).mono ?_;rintro e w3 ⟨rfl,t3⟩;have T3:=Lib.hid (T2.out.trans t3);clear t3 C2 z0;go_wp2;go_ret;exact⟨by rw[HF.out];rfl,T3.out⟩
theorem refFits_any (w:World)(sa la sb:Option Addr)(n c m d n' c':Nat)(t:Me.Raw)(s:List Int)(hT:RIn w sa n c la m d t)(hs:Rd w sb (ints .i64 s))(hsl:s.length=n')(hs6:n'≤1000) :
  Calls Tryz.prog 95 #[.agg #[.slice sa n c,.slice la m d],.slice sb n' c'] w fun e w'=>e = .returned (.bool (Me.fitsR t s))∧Touch No w w':=by
 obtain⟨w1,hw1,t1,R1⟩:=box_row w [.slice sa n c,.slice la m d] 51;have C1:=Lib.hid (refCheck_any w1 sa la n c m d t.1 t.2 hT.sn (by have:=hT.s6;omega) (hT.sr.no t1) hT.lm);have C2:=Lib.hid (fun(wx:World) (tt:Touch No w wx)=>refSame_any wx sa sb n c n' c' t.1 s (hT.sr.no tt) hT.sn (hs.no tt) hsl (by have:=hT.s6;omega));obtain⟨b1,hb1⟩:∃b1,Ar.check t.1 t.2=b1:=⟨_,rfl⟩;obtain⟨b2,hb2⟩:∃b2,decide (t.1=s)=b2:=⟨_,rfl⟩;have HF:Hid (Me.fitsR t s=(b1&&b2)):=by show _=_;rw[Me.fitsR,hb1,hb2]
 rw[hb1]at C1;rw[hb2]at C2;have y0:=R1.cell 0;have HR1:=Lib.hid R1;have HT1:=Lib.hid t1;simp only[Lz0]at y0;clear hT hs hsl hb1 hb2 t1 R1;cases b1 with
 | false =>
   go_enter Tryz.func95,Tryz.ntmps95;go_wp2_with fail;rw[← hw1];refine C1.out.mono ?_;rintro e w' ⟨rfl,t2⟩;have T2:=Lib.hid (HT1.out.trans t2);clear t2 C1 C2 y0;go_wp2;go_ret;exact⟨by rw[HF.out];rfl,T2.out⟩
 | true =>
   go_enter Tryz.func95,Tryz.ntmps95;go_wp2_with fail;rw[← hw1];refine C1.out.mono ?_;rintro e w2 ⟨rfl,t2⟩;have z0:=(HR1.out.touch t2 id).cell 0;simp only[Lz0]at z0;have T2:=Lib.hid (HT1.out.trans t2);clear t2 C1 y0;go_wp2_with fail;refine(C2.out _ T2.out).mono ?_;rintro e w3 ⟨rfl,t3⟩;have T3:=Lib.hid (T2.out.trans t3);clear t3 C2 z0;go_wp2;go_ret;exact⟨by rw[HF.out];rfl,T3.out⟩
theorem meansTwin_any (w:World)(sa la:Option Addr)(n c m d:Nat)(s l:List Int)(hs:s.length=n)(hn:(n:Int)≤1000000000000)(hn1:1≤n)(hr:Rd w sa (ints .i64 s))(hl:l.length=m)(hm:(m:Int)≤1000000000000)(hm1:1≤m)(hr2:Rd w la (ints .i32 l)) :
  Calls Tryz.prog 66 #[.agg #[.slice sa n c,.slice la m d]] w (TwinPost w s l):=by
 have hsa:=Lib.hid (rd_some hr (by rw[hs];exact hn1));have hla:=Lib.hid (rd_some hr2 (by rw[hl];exact hm1));obtain⟨w1,hw1⟩:∃w1,w1=(w.alloc (.cells #[.slice sa n c,.slice la m d] 51)).alloc (.cells #[.slice none 0 0,.slice none 0 0] 51):=⟨_,rfl⟩;have t1:Touch No w w1:=by rw[hw1];exact((Touch.refl No w).alloc _).alloc _
 have B:=(Row.new w 51 #[.slice sa n c,.slice la m d]).touch ((Touch.refl No _).alloc (.cells #[.slice none 0 0,.slice none 0 0] 51)) id;have B':=Row.new (w.alloc (.cells #[.slice sa n c,.slice la m d] 51)) 51 #[.slice none 0 0,.slice none 0 0];obtain⟨X,hX⟩:∃X,X=w.heap.size:=⟨_,rfl⟩;have hX2:(w.alloc (.cells #[.slice sa n c,.slice la m d] 51)).heap.size=X+1:=by rw[hX];simp
 rw[hX2]at B';rw[← hX]at B;rw[← hw1]at B B';have HBx:=Lib.hid B;have HBy:=Lib.hid B';have HXX:=Lib.hid hX;have C1:=Lib.hid (fun(wx:World) (t:Touch No w wx)=>cloneI_own wx sa n c s hsa.out (hr.no t) hs hn);have C2:=Lib.hid (fun(wx:World) (t:Touch No w wx)=>cloneL_own wx la m d l hla.out (hr2.no t) hl hm);have T1:=Lib.hid t1;have Hs:=Lib.hid hs;have Hl:=Lib.hid hl;clear hr hr2 hs hl t1 B B' hX2;go_enter Tryz.func66,Tryz.ntmps66;go_wp2_with fail;rw[← hw1,← hX];clear hw1 hX;have T1d:=T1.out.drew;have Q:Hid (∀wx,Touch (fun k=>k=X+1) w1 wx→wx.cell? ⟨X,0,none⟩=some (.slice sa n c)∧wx.cell? ⟨X,1,none⟩=some (.slice la m d)):=fun wx t=>⟨(HBx.out.touch t (by omega)).cell 0,(HBx.out.touch t (by omega)).cell 1⟩
 have Q0:=Q.out w1 (Touch.refl _ w1)
 go_region_held3 (fun w'=>w'.cell? ⟨X,0,none⟩=some (.slice sa n c)∧w'.cell? ⟨X,1,none⟩=some (.slice la m d)) (first|exact Q0|exact Q.out _ ((((q5.no:Touch (fun k=>k=X+1) w1 w5).setCell (p:=⟨X+1,0,none⟩) (fun _=>rfl) _).setCell (p:=⟨X+1,1,none⟩) (fun _=>rfl) _).drew)|exact Q.out _ (((q5.no:Touch (fun k=>k=X+1) w1 w5).setCell (p:=⟨X+1,0,none⟩) (fun _=>rfl) _).setCell (p:=⟨X+1,1,none⟩) (fun _=>rfl) _)|exact Q.out _ q5.no|exact Q.out _ q3.no|exact Q.out _ ((Touch.refl _ w1).drew)) (first
  | (go_at_call 91;refine(C1.out _ T1d).mono ?_;rintro e w3 ⟨a3,c3,rfl,o3,hc3,t3⟩;have q3:=((Touch.refl No w1).drew).trans t3)
  | (go_at_call 87;refine(clipI_any _ a3 n c3 hc3).mono ?_;rintro e w' ⟨rfl,rfl⟩)
  | (go_at_call 93;refine(C2.out _ (T1d.trans t3)).mono ?_;rintro e w5 ⟨a5,c5,rfl,o5,hc5,t5⟩;have q5:=q3.trans t5;have y0:w5.cell? ⟨X+1,0,none⟩=some (.slice none 0 0):=(HBy.out.touch q5 id).cell 0;have y1:w5.cell? ⟨X+1,1,none⟩=some (.slice none 0 0):=(HBy.out.touch q5 id).cell 1;have z0:=(HBy.out.touch q5 id).soft 0;have z1:=(HBy.out.touch q5 id).soft 1)
  | (go_at_call 92;refine(clipL_any _ a5 m c5 hc5).mono ?_;rintro e w' ⟨rfl,rfl⟩))
 have hy:=HBy.out.lt;have HY:=Lib.hid hy
 have HE:Hid (∀wx,Touch (fun k=>k=X+1) w5 wx→TwinPost w s l (.returned (.agg #[.slice a3 n n,.slice a5 m m])) wx):=fun wx t=>by
  have b3:∀gg oo,a3=some ⟨gg,oo,none⟩→w1.heap.size≤gg∧gg<w3.heap.size:=fun gg oo e=>o3.block (by rw[e];rfl)
  have b5:∀gg oo,a5=some ⟨gg,oo,none⟩→w3.heap.size≤gg∧gg<w5.heap.size:=fun gg oo e=>o5.block (by rw[e];rfl)
  have h13:w1.heap.size≤w3.heap.size:=t3.size;have h01:=T1.out.size;have h35:=t5.size;have h5x:=t.size;have hyy:=HY.out;have r3:Rd wx a3 (ints .i64 s):=(o3.rd.no t5).touch t (fun gg oo e _ hk=>by have:=b3 gg oo e;omega);have r5:Rd wx a5 (ints .i32 l):=o5.rd.touch t (fun gg oo e _ hk=>by have:=b5 gg oo e;omega);refine⟨a3,a5,by rw[Hs.out,Hl.out],r3,r5,fun gg oo e=>?_,fun gg oo e=>?_,rd_some r3 (by rw[Hs.out];exact hn1),rd_some r5 (by rw[Hl.out];exact hm1),?_⟩
  ·have:=b3 gg oo e;omega
  ·have:=b5 gg oo e;omega
  ·exact((T1.out.trans q3).trans t5).then t (fun i hi e=>by
   have h:=HXX.out;omega)
 clear o3 o5 hc3 hc5 t3 t5 q3 q5 Q Q0 T1d hy;go_wp2;refine bodyPost_ret (v:=.agg #[.slice a3 n n,.slice a5 m m]) (by simp[results,Tryz.results66,go_sem,y0,y1]) rfl ?_;exact HE.out _ (((Touch.refl (fun k=>k=X+1) w5).setCell (p:=⟨X+1,0,none⟩) (fun _=>rfl) _).setCell (p:=⟨X+1,1,none⟩) (fun _=>rfl) _)
theorem clipTs_any (w:World)(a:Option Addr)(n c:Nat)(h:n≤c):Calls Tryz.prog 67 #[.slice a n c] w fun e w'=>e = .returned (.slice a n n)∧w=w':=by
 have hnc:(n:Int)≤(c:Int):=by omega
 have h0:(0:Int)≤(n:Int):=Int.natCast_nonneg _;go_enter Tryz.func67,Tryz.ntmps67;go_wp2;go_ret;exact⟨rfl,rfl⟩
end
section
open Go Go.RowKit
namespace Me
theorem go_node {Ns:List Node}{i:Nat}{Ts:List Ten}{l:List (List Nat)}(hi:i<Ns.length)(hT:Ts.length=i)(h:shapesGo (Ns.drop i) (Ts.map Prod.fst)=some l) :
  NodeOk (nodeAt Ns i)∧Ahead (nodeAt Ns i).inn i∧∃s,shapeOf (nodeAt Ns i) ((insT Ts (nodeAt Ns i).inn).map Prod.fst)=some s∧∀L,shapesGo (Ns.drop (i+1)) ((Ts ++ [(s,L)]).map Prod.fst)=some l:=by
 rw[drop_node hi]at h;have hl:(Ts.map Prod.fst).length=i:=by rw[List.length_map,hT]
 by_cases hA:NodeOk (nodeAt Ns i)∧Ahead (nodeAt Ns i).inn (Ts.map Prod.fst).length
 ·refine⟨hA.1,by have h2:=hA.2;rw[hl]at h2;exact h2,?_⟩
  cases hs:shapeOf (nodeAt Ns i) (ins (Ts.map Prod.fst) (nodeAt Ns i).inn) with
  | none=>rw[shapesGo_none hs]at h;cases h
  | some s =>
    rw[shapesGo_some hA.1 hA.2 hs]at h;refine⟨s,by rw[insT_fst];exact hs,fun L=>?_⟩;rw[List.map_append];exact h
 ·rw[shapesGo_no hA]at h;cases h
theorem node_kind {x:Node}(h:NodeOk x):1≤x.kind∧x.kind≤13:=by
 obtain⟨A,hA,_⟩:=h;rcases Nat.lt_or_ge x.kind 1 with h'|h'
 ·rw[asks_none (by omega)]at hA;cases hA
 ·rcases Nat.lt_or_ge 13 x.kind with h2|h2
  ·rw[asks_none (by omega)]at hA;cases hA
  ·exact⟨h',h2⟩
theorem fitsR_ten {t:Raw}{s:List Int}(h:fitsR t s=true):Ar.check t.1 t.2=true∧ten t=(nats s,t.2):=by
 unfold fitsR at h;rw[Bool.and_eq_true,decide_eq_true_eq]at h;exact⟨h.1,by rw[ten,h.2]⟩
section
variable {Ns:List Node} {i:Nat} {Ts:List Ten} {ws:List Raw} {input:Raw} {k:Nat}
theorem all_in (hi:i<Ns.length)(hk:(nodeAt Ns i).kind=1)(h:fitsR input (nodeAt Ns i).shape=true):allGo ws input (Ns.drop i) Ts k=allGo ws input (Ns.drop (i+1)) (Ts ++ [ten input]) k:=by
 rw[drop_node hi,allGo,if_pos hk,if_pos h]
theorem all_in_no (hi:i<Ns.length)(hk:(nodeAt Ns i).kind=1)(h:fitsR input (nodeAt Ns i).shape=false):allGo ws input (Ns.drop i) Ts k=none:=by
 rw[drop_node hi,allGo,if_pos hk,if_neg (by rw[h];decide)]
theorem all_w (hi:i<Ns.length)(hk:(nodeAt Ns i).kind=2)(h:fitsR (rawAt ws k) (nodeAt Ns i).shape=true):allGo ws input (Ns.drop i) Ts k=allGo ws input (Ns.drop (i+1)) (Ts ++ [ten (rawAt ws k)]) (k+1):=by
 rw[drop_node hi,allGo,if_neg (by rw[hk];decide),if_pos hk,if_pos h]
theorem all_w_no (hi:i<Ns.length)(hk:(nodeAt Ns i).kind=2)(h:fitsR (rawAt ws k) (nodeAt Ns i).shape=false):allGo ws input (Ns.drop i) Ts k=none:=by
 rw[drop_node hi,allGo,if_neg (by rw[hk];decide),if_pos hk,if_neg (by rw[h];decide)]
theorem all_do (hi:i<Ns.length)(hk:3≤(nodeAt Ns i).kind){s:List Nat}(h:shapeOf (nodeAt Ns i) ((insT Ts (nodeAt Ns i).inn).map Prod.fst)=some s):allGo ws input (Ns.drop i) Ts k=allGo ws input (Ns.drop (i+1)) (Ts ++ [(s,opL (nodeAt Ns i) (insT Ts (nodeAt Ns i).inn))]) k:=by
 rw[drop_node hi,allGo,if_neg (by omega),if_neg (by omega),h];rfl
end
theorem drop_raw {Ws:List Raw}{k j:Nat}:rawAt (Ws.drop k) j=rawAt Ws (k+j):=by
 rw[rawAt,rawAt,Lgd,Lgd,List.getElem?_drop]
theorem weights_lt:∀(g:List Node) (n m:Nat),n<m→(nodeAt g n).kind=2→(weights g n).length<(weights g m).length:=by
 intro g n m hnm hk
 have mono:∀a d,(weights g a).length≤(weights g (a+d)).length:=fun a d=>by
  induction d with
  | zero=>exact Nat.le_refl _
  | succ d ih =>
    refine Nat.le_trans ih ?_;rw[show a+(d+1)=(a+d)+1 by omega,weights];split
    ·simp
    ·exact Nat.le_refl _
 have h1:(weights g (n+1)).length=(weights g n).length+1:=by rw[weights,if_pos hk];simp
 have:=mono (n+1) (m-(n+1));rw[show n+1+(m-(n+1))=m by omega]at this;omega
theorem inputs_one {g:List Node}{i:Nat}(h:inputs g=1)(hi:i<g.length)(hk:(nodeAt g i).kind=1):inputs (g.take i)=0∧inputs (g.take (i+1))=1:=by
 have h1:=inputs_take hi;rw[if_pos hk]at h1
 have h2:inputs (g.take (i+1))≤inputs g:=by
  unfold inputs;exact((List.take_sublist (i+1) g).filter _).length_le
 omega
theorem inputs_not {g:List Node}{i:Nat}(hi:i<g.length)(hk:(nodeAt g i).kind≠1):inputs (g.take (i+1))=inputs (g.take i):=by
 have h1:=inputs_take hi;rw[if_neg hk]at h1;omega
end Me
theorem info_Ten:∃i,Tryz.prog.info? 51=some i∧i.zero=some (.agg #[.slice none 0 0,.slice none 0 0])∧i.size=2∧i.bytes=48:=any_info (by kernel_rfl)
theorem ownsRow_base {w:World}{base:Nat}{T:TypeId}{s n:Nat}{v:Value}{cs:List Value}(h:w.ownsRow 0 T s v n cs)(hb:∀k,InBlock v k→base≤k):w.ownsRow base T s v n cs:=by
 obtain⟨hl,hh⟩:=h;refine⟨hl,hh.imp id ?_⟩;rintro⟨g,cap,cur,hv,hg,q⟩;exact⟨g,cap,cur,hv,hb g (by rw[hv];rfl),q⟩
theorem TsG.grow {w w3:World}{base:Nat}{v v':Value}{Ts:List Me.Ten}{sa la:Option Addr}{n c m d:Nat}{S:List Nat}{L:List Int}{cs:List Value}(ho:w.ownsRow base 51 2 v Ts.length cs)(h:TsV w v cs Ts)
  (ho':w3.ownsRow 0 51 2 v' (Ts.length+1) (cs ++ [.slice sa n c,.slice la m d])) (t:Touch (InBlock v) w w3) (hb:∀k,InBlock v' k→InBlock v k∨w.heap.size≤k) (hs:base≤w.heap.size) (hT:TIn w sa n c la m d S L) (hoff:∀k,InBlock v k→Off sa k∧Off la k) :
  TsG w3 base v' (Ts ++ [(S,L)]):=by
 refine⟨_,?_,TsV.push ho h t hb hT hoff⟩;rw[List.length_append,List.length_singleton];refine ownsRow_base ho' fun k hk=>?_
 rcases hb k hk with h1|h1
 ·exact(ownsRow_block ho h1).1
 ·exact Nat.le_trans hs h1
def AllOut (w:World)(O:Option (List Me.Ten))(e:Ending)(w':World):Prop :=
 match O with
 | none=>e = .returned (.tuple #[.slice none 0 0,.int .i64 1])∧Touch No w w'
 | some Ts=>∃a c,e = .returned (.tuple #[.slice a Ts.length c,.int .i64 0])∧Ts.length≤c∧TsIn w' a Ts∧Touch No w w'
end
end Go.Proofs.YtjlphmmalebgpaaGreat
