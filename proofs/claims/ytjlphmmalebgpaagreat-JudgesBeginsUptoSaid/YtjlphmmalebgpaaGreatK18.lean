/-
  A part of the proof.
-/
import Derived.Test.YtjlphmmalebgpaaGreatK17
set_option linter.unusedSimpArgs false
set_option linter.unusedVariables false
set_option maxHeartbeats 2000000
set_option maxRecDepth 100000
namespace Go.Proofs.YtjlphmmalebgpaaGreat
section
open Go Go.RowKit
structure NIn (w:World) (ia:Option Addr) (n c:Nat) (sa:Option Addr) (n' c':Nat) (x:Me.Node):Prop where
 ir:Rd w ia (ints .i64 x.inn)
 il:x.inn.length=n
 ic:n≤c
 i6:n≤1000
 sr:Rd w sa (ints .i64 x.shape)
 sl:x.shape.length=n'
 sc:n'≤c'
 s6:n'≤1000
 k8:x.kind<256
 nr:-9223372036854775808≤x.n∧x.n≤9223372036854775807
 pr:-9223372036854775808≤x.pad∧x.pad≤9223372036854775807
 irng:∀y∈x.inn,-9223372036854775808≤y∧y≤9223372036854775807
 srng:∀y∈x.shape,-9223372036854775808≤y∧y≤9223372036854775807
theorem NIn.no {w w':World}{ia sa:Option Addr}{n c n' c':Nat}{x:Me.Node}(h:NIn w ia n c sa n' c' x)(t:Touch No w w'):NIn w' ia n c sa n' c' x :=
 {h with ir:=h.ir.no t,sr:=h.sr.no t}
def nodeV (ia:Option Addr)(n c:Nat)(sa:Option Addr)(n' c':Nat)(x:Me.Node):Value :=
 .agg #[.int .u8 ((x.kind:Nat):Int),.slice ia n c,.slice sa n' c',.int .i64 x.n,.int .i64 x.pad]
namespace Me
theorem nk_shape {k:Nat}{i s:List Int}{n p:Int}{m:Nat}(hk:k=1∧m=0∨k=2∧m=0∨k=10∧m=1):NodeOk ⟨k,i,s,n,p⟩↔i.length=m∧Ar.shape s=true∧n=0∧p=0:=by
 rcases hk with⟨rfl,rfl⟩|⟨rfl,rfl⟩|⟨rfl,rfl⟩ <;> rw[nodeOk_of rfl] <;>
 exact⟨fun h=>⟨by have a:=h.le;have b:=h.me;dsimp only at a b;omega,by have:=h.sh;simpa[ShapedOk]using this,by have a:=h.lo;have b:=h.hi;dsimp only at a b;omega,by have a:=h.p0;have b:=h.pa;dsimp only at a b;omega⟩,
  fun⟨h1,h2,h3,h4⟩=>⟨by dsimp only;omega,by dsimp only;omega,by dsimp only;omega,by dsimp only;omega,by dsimp only;omega,by dsimp only;omega,by simpa[ShapedOk]using h2⟩⟩
theorem nk_turn {i s:List Int}{n p:Int}:NodeOk ⟨11,i,s,n,p⟩↔i.length=1∧(s.length≤4∧ordB s s.length=true)∧n=0∧p=0:=by
 rw[nodeOk_of rfl,← order_ordB]
 exact⟨fun h=>⟨by have a:=h.le;have b:=h.me;dsimp only at a b;omega,by have:=h.sh;simpa[ShapedOk]using this,by have a:=h.lo;have b:=h.hi;dsimp only at a b;omega,by have a:=h.p0;have b:=h.pa;dsimp only at a b;omega⟩,
  fun⟨h1,h2,h3,h4⟩=>⟨by dsimp only;omega,by dsimp only;omega,by dsimp only;omega,by dsimp only;omega,by dsimp only;omega,by dsimp only;omega,by simpa[ShapedOk]using h2⟩⟩
theorem nk_plain {k:Nat}{i s:List Int}{n p:Int}{a b l h r:Nat}(hk:asks k=some ⟨a,b,l,h,r,0⟩):NodeOk ⟨k,i,s,n,p⟩↔(a≤i.length∧i.length≤b)∧s.length=0∧((l:Int)≤n∧n≤(h:Int))∧0≤p∧p≤(r:Int):=by
 rw[nodeOk_of hk]
 exact⟨fun h=>⟨⟨h.le,h.me⟩,by have:=h.sh;simpa[ShapedOk]using this,⟨h.lo,h.hi⟩,h.p0,h.pa⟩,
  fun⟨h1,h2,h3,h4,h5⟩=>⟨h1.1,h1.2,h3.1,h3.2,h4,h5,by simpa[ShapedOk]using h2⟩⟩
end Me
def NodePost (w:World)(x:Me.Node)(e:Ending)(w':World):Prop:=(∃b:Bool,e = .returned (.bool b)∧(b=true↔Me.NodeOk x))∧Touch No w w'
theorem npost {w w':World}{x:Me.Node}{b:Bool}(h:b=true↔Me.NodeOk x)(t:Touch No w w'):NodePost w x (.returned (.bool b)) w':=⟨⟨b,rfl,h⟩,t⟩
theorem npost_no {w w':World}{x:Me.Node}(h:¬Me.NodeOk x)(t:Touch No w w'):NodePost w x (.returned (.bool false)) w':=⟨⟨false,rfl,iff_of_false (by decide) h⟩,t⟩
theorem within_yes (w:World)(x a b:Int)(h:a≤x∧x≤b):Calls Tryz.prog 110 #[.int .i64 x,.int .i64 a,.int .i64 b] w fun e w'=>e = .returned (.bool true)∧w=w':=by
 have:=within_in w x a b;rw[decide_eq_true h]at this;exact this
theorem within_no (w:World)(x a b:Int)(h:¬(a≤x∧x≤b)):Calls Tryz.prog 110 #[.int .i64 x,.int .i64 a,.int .i64 b] w fun e w'=>e = .returned (.bool false)∧w=w':=by
 have:=within_in w x a b;rw[decide_eq_false h]at this;exact this
theorem refNode_none (w:World)(ia sa:Option Addr)(n c n' c':Nat)(x:Me.Node)(hk:¬(1≤x.kind∧x.kind≤13)) :
  Calls Tryz.prog 70 #[nodeV ia n c sa n' c' x] w (NodePost w x):=by
 have hno:Hid (¬Me.NodeOk x):=Me.nodeOk_no (Me.asks_none hk)
 have hT:Hid (Me.takes x.kind=(0,0,false)):=by
  show _=_
  unfold Me.takes;rw[if_neg (by omega),if_neg (by omega),if_neg (by omega),if_neg (by omega)]
 clear hk;unfold nodeV
 have C:Hid (∀wx:World,Calls Tryz.prog 109 #[.int .u8 ((x.kind:Nat):Int)] wx fun e w'=>e = .returned (.tuple #[.int .i64 0,.int .i64 0,.bool false])∧wx=w'):=fun wx=>by
  have:=takes_in wx x.kind;rw[hT.out]at this;exact this
 clear hT;go_enter Tryz.func70,Tryz.ntmps70;go_wp2_with fail;refine(C.out _).mono ?_;rintro e w' ⟨rfl,rfl⟩;go_wp2;go_ret;exact npost_no hno.out ((Touch.refl No w).alloc _)
theorem refNode_1 (w:World)(ia sa:Option Addr)(n c n' c':Nat)(inn shape:List Int)(N P:Int)(hx:NIn w ia n c sa n' c' ⟨1,inn,shape,N,P⟩) :
  Calls Tryz.prog 70 #[nodeV ia n c sa n' c' ⟨1,inn,shape,N,P⟩] w (NodePost w ⟨1,inn,shape,N,P⟩):=by
 have hl:inn.length=n:=hx.il;have hsl:shape.length=n':=hx.sl;have HX:=Lib.hid hx;have HK:=Lib.hid (Me.nk_shape (k:=1) (i:=inn) (s:=shape) (n:=N) (p:=P) (m:=0) (by simp));have CT:Hid (∀wx:World,Calls Tryz.prog 109 #[.int .u8 ((1:Nat):Int)] wx fun e w'=>e = .returned (.tuple #[.int .i64 0,.int .i64 0,.bool true])∧wx=w'):=fun wx=>takes_in wx 1
 clear hx;unfold nodeV;dsimp only
 by_cases hin:(0:Int)≤(n:Nat)∧((n:Nat):Int)≤0
 case neg =>
  have hno:Hid (¬Me.NodeOk ⟨1,inn,shape,N,P⟩):=by show ¬_;rw[HK.out];omega
  go_enter Tryz.func70,Tryz.ntmps70;go_wp2_with fail;refine(CT.out _).mono ?_;rintro e w' ⟨rfl,rfl⟩;go_wp2_with fail;refine(within_no _ _ _ _ (by omega)).mono ?_;rintro e w' ⟨rfl,rfl⟩;go_wp2;go_ret;exact npost_no hno.out ((Touch.refl No w).alloc _)
 case pos =>
  have CS:Hid (∀wx:World,Touch No w wx→Calls Tryz.prog 55 #[.slice sa n' c'] wx fun e w'=>e = .returned (.bool (Ar.shape shape))∧wx=w'):=fun wx t=>refShape_any wx sa n' c' shape HX.out.sl (by have h6:=HX.out.s6;omega) (HX.out.sr.no t)
  by_cases hs:Ar.shape shape=true
  case neg =>
   have hs:Ar.shape shape=false:=by simpa using hs
   rw[hs]at CS;have hno:Hid (¬Me.NodeOk ⟨1,inn,shape,N,P⟩):=by show ¬_;rw[HK.out,hs];simp
   clear hs;go_enter Tryz.func70,Tryz.ntmps70;go_wp2_with fail;refine(CT.out _).mono ?_;rintro e w' ⟨rfl,rfl⟩;go_wp2_with fail;refine(within_yes _ _ _ _ (by omega)).mono ?_;rintro e w' ⟨rfl,rfl⟩;go_wp2_with fail;refine(CS.out _ ((Touch.refl No w).alloc _)).mono ?_;rintro e w' ⟨rfl,rfl⟩;go_wp2;go_ret;exact npost_no hno.out ((Touch.refl No w).alloc _)
  case pos =>
   rw[hs]at CS
   by_cases hN:N=0
   case neg =>
    have hno:Hid (¬Me.NodeOk ⟨1,inn,shape,N,P⟩):=by show ¬_;rw[HK.out];exact fun h=>hN h.2.2.1
    have f1:(N==0)=false:=by simpa using hN
    clear hs hN;go_enter Tryz.func70,Tryz.ntmps70;go_wp2_with fail;refine(CT.out _).mono ?_;rintro e w' ⟨rfl,rfl⟩;go_wp2_with fail;refine(within_yes _ _ _ _ (by omega)).mono ?_;rintro e w' ⟨rfl,rfl⟩;go_wp2_with fail;refine(CS.out _ ((Touch.refl No w).alloc _)).mono ?_;rintro e w' ⟨rfl,rfl⟩;go_wp2;go_ret;exact npost_no hno.out ((Touch.refl No w).alloc _)
   case pos =>
    subst hN;have hi:Hid ((P==0)=true↔Me.NodeOk ⟨1,inn,shape,0,P⟩):=by show _↔_;rw[HK.out,hs,beq_iff_eq];exact⟨fun h=>⟨by omega,rfl,rfl,h⟩,fun h=>h.2.2.2⟩
    clear hs;go_enter Tryz.func70,Tryz.ntmps70;go_wp2_with fail;refine(CT.out _).mono ?_;rintro e w' ⟨rfl,rfl⟩;go_wp2_with fail;refine(within_yes _ _ _ _ (by omega)).mono ?_;rintro e w' ⟨rfl,rfl⟩;go_wp2_with fail;refine(CS.out _ ((Touch.refl No w).alloc _)).mono ?_;rintro e w' ⟨rfl,rfl⟩;go_wp2;go_ret;exact npost hi.out ((Touch.refl No w).alloc _)
theorem refNode_2 (w:World)(ia sa:Option Addr)(n c n' c':Nat)(inn shape:List Int)(N P:Int)(hx:NIn w ia n c sa n' c' ⟨2,inn,shape,N,P⟩) :
  Calls Tryz.prog 70 #[nodeV ia n c sa n' c' ⟨2,inn,shape,N,P⟩] w (NodePost w ⟨2,inn,shape,N,P⟩):=by
 have hl:inn.length=n:=hx.il;have hsl:shape.length=n':=hx.sl;have HX:=Lib.hid hx;have HK:=Lib.hid (Me.nk_shape (k:=2) (i:=inn) (s:=shape) (n:=N) (p:=P) (m:=0) (by simp));have CT:Hid (∀wx:World,Calls Tryz.prog 109 #[.int .u8 ((2:Nat):Int)] wx fun e w'=>e = .returned (.tuple #[.int .i64 0,.int .i64 0,.bool true])∧wx=w'):=fun wx=>takes_in wx 2
 clear hx;unfold nodeV;dsimp only
 by_cases hin:(0:Int)≤(n:Nat)∧((n:Nat):Int)≤0
 case neg =>
  have hno:Hid (¬Me.NodeOk ⟨2,inn,shape,N,P⟩):=by show ¬_;rw[HK.out];omega
  go_enter Tryz.func70,Tryz.ntmps70;go_wp2_with fail;refine(CT.out _).mono ?_;rintro e w' ⟨rfl,rfl⟩;go_wp2_with fail;refine(within_no _ _ _ _ (by omega)).mono ?_;rintro e w' ⟨rfl,rfl⟩;go_wp2;go_ret;exact npost_no hno.out ((Touch.refl No w).alloc _)
 case pos =>
  have CS:Hid (∀wx:World,Touch No w wx→Calls Tryz.prog 55 #[.slice sa n' c'] wx fun e w'=>e = .returned (.bool (Ar.shape shape))∧wx=w'):=fun wx t=>refShape_any wx sa n' c' shape HX.out.sl (by have h6:=HX.out.s6;omega) (HX.out.sr.no t)
  by_cases hs:Ar.shape shape=true
  case neg =>
   have hs:Ar.shape shape=false:=by simpa using hs
   rw[hs]at CS;have hno:Hid (¬Me.NodeOk ⟨2,inn,shape,N,P⟩):=by show ¬_;rw[HK.out,hs];simp
   clear hs;go_enter Tryz.func70,Tryz.ntmps70;go_wp2_with fail;refine(CT.out _).mono ?_;rintro e w' ⟨rfl,rfl⟩;go_wp2_with fail;refine(within_yes _ _ _ _ (by omega)).mono ?_;rintro e w' ⟨rfl,rfl⟩;go_wp2_with fail;refine(CS.out _ ((Touch.refl No w).alloc _)).mono ?_;rintro e w' ⟨rfl,rfl⟩;go_wp2;go_ret;exact npost_no hno.out ((Touch.refl No w).alloc _)
  case pos =>
   rw[hs]at CS
   by_cases hN:N=0
   case neg =>
    have hno:Hid (¬Me.NodeOk ⟨2,inn,shape,N,P⟩):=by show ¬_;rw[HK.out];exact fun h=>hN h.2.2.1
    have f1:(N==0)=false:=by simpa using hN
    clear hs hN;go_enter Tryz.func70,Tryz.ntmps70;go_wp2_with fail;refine(CT.out _).mono ?_;rintro e w' ⟨rfl,rfl⟩;go_wp2_with fail;refine(within_yes _ _ _ _ (by omega)).mono ?_;rintro e w' ⟨rfl,rfl⟩;go_wp2_with fail;refine(CS.out _ ((Touch.refl No w).alloc _)).mono ?_;rintro e w' ⟨rfl,rfl⟩;go_wp2;go_ret;exact npost_no hno.out ((Touch.refl No w).alloc _)
   case pos =>
    subst hN;have hi:Hid ((P==0)=true↔Me.NodeOk ⟨2,inn,shape,0,P⟩):=by show _↔_;rw[HK.out,hs,beq_iff_eq];exact⟨fun h=>⟨by omega,rfl,rfl,h⟩,fun h=>h.2.2.2⟩
    clear hs;go_enter Tryz.func70,Tryz.ntmps70;go_wp2_with fail;refine(CT.out _).mono ?_;rintro e w' ⟨rfl,rfl⟩;go_wp2_with fail;refine(within_yes _ _ _ _ (by omega)).mono ?_;rintro e w' ⟨rfl,rfl⟩;go_wp2_with fail;refine(CS.out _ ((Touch.refl No w).alloc _)).mono ?_;rintro e w' ⟨rfl,rfl⟩;go_wp2;go_ret;exact npost hi.out ((Touch.refl No w).alloc _)
theorem refNode_10 (w:World)(ia sa:Option Addr)(n c n' c':Nat)(inn shape:List Int)(N P:Int)(hx:NIn w ia n c sa n' c' ⟨10,inn,shape,N,P⟩) :
  Calls Tryz.prog 70 #[nodeV ia n c sa n' c' ⟨10,inn,shape,N,P⟩] w (NodePost w ⟨10,inn,shape,N,P⟩):=by
 have hl:inn.length=n:=hx.il;have hsl:shape.length=n':=hx.sl;have HX:=Lib.hid hx;have HK:=Lib.hid (Me.nk_shape (k:=10) (i:=inn) (s:=shape) (n:=N) (p:=P) (m:=1) (by simp));have CT:Hid (∀wx:World,Calls Tryz.prog 109 #[.int .u8 ((10:Nat):Int)] wx fun e w'=>e = .returned (.tuple #[.int .i64 1,.int .i64 1,.bool true])∧wx=w'):=fun wx=>takes_in wx 10
 clear hx;unfold nodeV;dsimp only
 by_cases hin:(1:Int)≤(n:Nat)∧((n:Nat):Int)≤1
 case neg =>
  have hno:Hid (¬Me.NodeOk ⟨10,inn,shape,N,P⟩):=by show ¬_;rw[HK.out];omega
  go_enter Tryz.func70,Tryz.ntmps70;go_wp2_with fail;refine(CT.out _).mono ?_;rintro e w' ⟨rfl,rfl⟩;go_wp2_with fail;refine(within_no _ _ _ _ (by omega)).mono ?_;rintro e w' ⟨rfl,rfl⟩;go_wp2;go_ret;exact npost_no hno.out ((Touch.refl No w).alloc _)
 case pos =>
  have CS:Hid (∀wx:World,Touch No w wx→Calls Tryz.prog 55 #[.slice sa n' c'] wx fun e w'=>e = .returned (.bool (Ar.shape shape))∧wx=w'):=fun wx t=>refShape_any wx sa n' c' shape HX.out.sl (by have h6:=HX.out.s6;omega) (HX.out.sr.no t)
  by_cases hs:Ar.shape shape=true
  case neg =>
   have hs:Ar.shape shape=false:=by simpa using hs
   rw[hs]at CS;have hno:Hid (¬Me.NodeOk ⟨10,inn,shape,N,P⟩):=by show ¬_;rw[HK.out,hs];simp
   clear hs;go_enter Tryz.func70,Tryz.ntmps70;go_wp2_with fail;refine(CT.out _).mono ?_;rintro e w' ⟨rfl,rfl⟩;go_wp2_with fail;refine(within_yes _ _ _ _ (by omega)).mono ?_;rintro e w' ⟨rfl,rfl⟩;go_wp2_with fail;refine(CS.out _ ((Touch.refl No w).alloc _)).mono ?_;rintro e w' ⟨rfl,rfl⟩;go_wp2;go_ret;exact npost_no hno.out ((Touch.refl No w).alloc _)
  case pos =>
   rw[hs]at CS
   by_cases hN:N=0
   case neg =>
    have hno:Hid (¬Me.NodeOk ⟨10,inn,shape,N,P⟩):=by show ¬_;rw[HK.out];exact fun h=>hN h.2.2.1
    have f1:(N==0)=false:=by simpa using hN
    clear hs hN;go_enter Tryz.func70,Tryz.ntmps70;go_wp2_with fail;refine(CT.out _).mono ?_;rintro e w' ⟨rfl,rfl⟩;go_wp2_with fail;refine(within_yes _ _ _ _ (by omega)).mono ?_;rintro e w' ⟨rfl,rfl⟩;go_wp2_with fail;refine(CS.out _ ((Touch.refl No w).alloc _)).mono ?_;rintro e w' ⟨rfl,rfl⟩;go_wp2;go_ret;exact npost_no hno.out ((Touch.refl No w).alloc _)
   case pos =>
    subst hN;have hi:Hid ((P==0)=true↔Me.NodeOk ⟨10,inn,shape,0,P⟩):=by show _↔_;rw[HK.out,hs,beq_iff_eq];exact⟨fun h=>⟨by omega,rfl,rfl,h⟩,fun h=>h.2.2.2⟩
    clear hs;go_enter Tryz.func70,Tryz.ntmps70;go_wp2_with fail;refine(CT.out _).mono ?_;rintro e w' ⟨rfl,rfl⟩;go_wp2_with fail;refine(within_yes _ _ _ _ (by omega)).mono ?_;rintro e w' ⟨rfl,rfl⟩;go_wp2_with fail;refine(CS.out _ ((Touch.refl No w).alloc _)).mono ?_;rintro e w' ⟨rfl,rfl⟩;go_wp2;go_ret;exact npost hi.out ((Touch.refl No w).alloc _)
theorem refNode_11 (w:World)(ia sa:Option Addr)(n c n' c':Nat)(inn shape:List Int)(N P:Int)(hx:NIn w ia n c sa n' c' ⟨11,inn,shape,N,P⟩) :
  Calls Tryz.prog 70 #[nodeV ia n c sa n' c' ⟨11,inn,shape,N,P⟩] w (NodePost w ⟨11,inn,shape,N,P⟩):=by
 have hl:inn.length=n:=hx.il;have hsl:shape.length=n':=hx.sl;have HX:=Lib.hid hx;have HK:=Lib.hid (Me.nk_turn (i:=inn) (s:=shape) (n:=N) (p:=P));have CT:Hid (∀wx:World,Calls Tryz.prog 109 #[.int .u8 ((11:Nat):Int)] wx fun e w'=>e = .returned (.tuple #[.int .i64 1,.int .i64 1,.bool true])∧wx=w'):=fun wx=>takes_in wx 11
 clear hx;unfold nodeV;dsimp only
 by_cases hin:(1:Int)≤(n:Nat)∧((n:Nat):Int)≤1
 case neg =>
  have hno:Hid (¬Me.NodeOk ⟨11,inn,shape,N,P⟩):=by show ¬_;rw[HK.out];omega
  go_enter Tryz.func70,Tryz.ntmps70;go_wp2_with fail;refine(CT.out _).mono ?_;rintro e w' ⟨rfl,rfl⟩;go_wp2_with fail;refine(within_no _ _ _ _ (by omega)).mono ?_;rintro e w' ⟨rfl,rfl⟩;go_wp2;go_ret;exact npost_no hno.out ((Touch.refl No w).alloc _)
 case pos =>
  have CS:Hid (∀wx:World,Touch No w wx→Calls Tryz.prog 111 #[.slice sa n' c',.int .i64 ((n':Nat):Int)] wx fun e w'=>e = .returned (.bool (Me.ordB shape n'))∧wx=w'):=fun wx t=>refOrder_any wx sa n' c' shape HX.out.sl (by have h6:=HX.out.s6;omega) (HX.out.sr.no t)
  by_cases h4:n'≤4
  case neg =>
   have hno:Hid (¬Me.NodeOk ⟨11,inn,shape,N,P⟩):=by show ¬_;rw[HK.out];omega
   have f1:decide ((n':Int)≤4)=false:=by simp;omega
   go_enter Tryz.func70,Tryz.ntmps70;go_wp2_with fail;refine(CT.out _).mono ?_;rintro e w' ⟨rfl,rfl⟩;go_wp2_with fail;refine(within_yes _ _ _ _ (by omega)).mono ?_;rintro e w' ⟨rfl,rfl⟩;go_wp2;go_ret;exact npost_no hno.out ((Touch.refl No w).alloc _)
  case pos =>
  have f1:decide ((n':Int)≤4)=true:=by simp;omega
  by_cases hs:Me.ordB shape n'=true
  case neg =>
   have hs:Me.ordB shape n'=false:=by simpa using hs
   rw[hs]at CS;have hno:Hid (¬Me.NodeOk ⟨11,inn,shape,N,P⟩):=by show ¬_;rw[HK.out,hsl,hs];simp
   clear hs;go_enter Tryz.func70,Tryz.ntmps70;go_wp2_with fail;refine(CT.out _).mono ?_;rintro e w' ⟨rfl,rfl⟩;go_wp2_with fail;refine(within_yes _ _ _ _ (by omega)).mono ?_;rintro e w' ⟨rfl,rfl⟩;go_wp2_with fail;refine(CS.out _ ((Touch.refl No w).alloc _)).mono ?_;rintro e w' ⟨rfl,rfl⟩;go_wp2;go_ret;exact npost_no hno.out ((Touch.refl No w).alloc _)
  case pos =>
   rw[hs]at CS
   by_cases hN:N=0
   case neg =>
    have hno:Hid (¬Me.NodeOk ⟨11,inn,shape,N,P⟩):=by show ¬_;rw[HK.out];exact fun h=>hN h.2.2.1
    have f2:(N==0)=false:=by simpa using hN
    clear hs hN;go_enter Tryz.func70,Tryz.ntmps70;go_wp2_with fail;refine(CT.out _).mono ?_;rintro e w' ⟨rfl,rfl⟩;go_wp2_with fail;refine(within_yes _ _ _ _ (by omega)).mono ?_;rintro e w' ⟨rfl,rfl⟩;go_wp2_with fail;refine(CS.out _ ((Touch.refl No w).alloc _)).mono ?_;rintro e w' ⟨rfl,rfl⟩;go_wp2;go_ret;exact npost_no hno.out ((Touch.refl No w).alloc _)
   case pos =>
    subst hN;have hi:Hid ((P==0)=true↔Me.NodeOk ⟨11,inn,shape,0,P⟩):=by show _↔_;rw[HK.out,hsl,hs,beq_iff_eq];exact⟨fun h=>⟨by omega,⟨h4,rfl⟩,rfl,h⟩,fun h=>h.2.2.2⟩
    clear hs;go_enter Tryz.func70,Tryz.ntmps70;go_wp2_with fail;refine(CT.out _).mono ?_;rintro e w' ⟨rfl,rfl⟩;go_wp2_with fail;refine(within_yes _ _ _ _ (by omega)).mono ?_;rintro e w' ⟨rfl,rfl⟩;go_wp2_with fail;refine(CS.out _ ((Touch.refl No w).alloc _)).mono ?_;rintro e w' ⟨rfl,rfl⟩;go_wp2;go_ret;exact npost hi.out ((Touch.refl No w).alloc _)
theorem refNode_3 (w:World)(ia sa:Option Addr)(n c n' c':Nat)(inn shape:List Int)(N P:Int)(hx:NIn w ia n c sa n' c' ⟨3,inn,shape,N,P⟩) :
  Calls Tryz.prog 70 #[nodeV ia n c sa n' c' ⟨3,inn,shape,N,P⟩] w (NodePost w ⟨3,inn,shape,N,P⟩):=by
 have hl:inn.length=n:=hx.il;have hsl:shape.length=n':=hx.sl;have HX:=Lib.hid hx;have HK:=Lib.hid (Me.nk_plain (k:=3) (i:=inn) (s:=shape) (n:=N) (p:=P) (a:=2) (b:=2) (l:=0) (h:=0) (r:=0) rfl);have CT:Hid (∀wx:World,Calls Tryz.prog 109 #[.int .u8 ((3:Nat):Int)] wx fun e w'=>e = .returned (.tuple #[.int .i64 2,.int .i64 2,.bool true])∧wx=w'):=fun wx=>takes_in wx 3
 clear hx;unfold nodeV;dsimp only
 by_cases hin:(2:Int)≤(n:Nat)∧((n:Nat):Int)≤2
 case neg =>
  have hno:Hid (¬Me.NodeOk ⟨3,inn,shape,N,P⟩):=by show ¬_;rw[HK.out];omega
  go_enter Tryz.func70,Tryz.ntmps70;go_wp2_with fail;refine(CT.out _).mono ?_;rintro e w' ⟨rfl,rfl⟩;go_wp2_with fail;refine(within_no _ _ _ _ (by omega)).mono ?_;rintro e w' ⟨rfl,rfl⟩;go_wp2;go_ret;exact npost_no hno.out ((Touch.refl No w).alloc _)
 case pos =>
  rcases Nat.eq_zero_or_pos n' with h0|h0
  case inr =>
   have hno:Hid (¬Me.NodeOk ⟨3,inn,shape,N,P⟩):=by show ¬_;rw[HK.out];omega
   have f1:decide ((0:Int)<(n':Nat))=true:=by simp;omega
   have f2:decide (0<n')=true:=by simp;omega
   go_enter Tryz.func70,Tryz.ntmps70;go_wp2_with fail;refine(CT.out _).mono ?_;rintro e w' ⟨rfl,rfl⟩;go_wp2_with fail;refine(within_yes _ _ _ _ (by omega)).mono ?_;rintro e w' ⟨rfl,rfl⟩;go_wp2;go_ret;exact npost_no hno.out ((Touch.refl No w).alloc _)
  case inl =>
  subst h0
  by_cases hP:P=0
  case neg =>
   have hno:Hid (¬Me.NodeOk ⟨3,inn,shape,N,P⟩):=by show ¬_;rw[HK.out];omega
   have f1:(P != 0)=true:=by simpa using hP
   go_enter Tryz.func70,Tryz.ntmps70;go_wp2_with fail;refine(CT.out _).mono ?_;rintro e w' ⟨rfl,rfl⟩;go_wp2_with fail;refine(within_yes _ _ _ _ (by omega)).mono ?_;rintro e w' ⟨rfl,rfl⟩;go_wp2;go_ret;exact npost_no hno.out ((Touch.refl No w).alloc _)
  case pos =>
  subst hP;have hi:Hid ((N==0)=true↔Me.NodeOk ⟨3,inn,shape,N,0⟩):=by show _↔_;rw[HK.out];simp only[beq_iff_eq,decide_eq_true_eq];omega
  go_enter Tryz.func70,Tryz.ntmps70;go_wp2_with fail;refine(CT.out _).mono ?_;rintro e w' ⟨rfl,rfl⟩;go_wp2_with fail;refine(within_yes _ _ _ _ (by omega)).mono ?_;rintro e w' ⟨rfl,rfl⟩;go_wp2;go_ret;exact npost hi.out ((Touch.refl No w).alloc _)
theorem refNode_4 (w:World)(ia sa:Option Addr)(n c n' c':Nat)(inn shape:List Int)(N P:Int)(hx:NIn w ia n c sa n' c' ⟨4,inn,shape,N,P⟩) :
  Calls Tryz.prog 70 #[nodeV ia n c sa n' c' ⟨4,inn,shape,N,P⟩] w (NodePost w ⟨4,inn,shape,N,P⟩):=by
 have hl:inn.length=n:=hx.il;have hsl:shape.length=n':=hx.sl;have HX:=Lib.hid hx;have HK:=Lib.hid (Me.nk_plain (k:=4) (i:=inn) (s:=shape) (n:=N) (p:=P) (a:=2) (b:=2) (l:=0) (h:=0) (r:=0) rfl);have CT:Hid (∀wx:World,Calls Tryz.prog 109 #[.int .u8 ((4:Nat):Int)] wx fun e w'=>e = .returned (.tuple #[.int .i64 2,.int .i64 2,.bool true])∧wx=w'):=fun wx=>takes_in wx 4
 clear hx;unfold nodeV;dsimp only
 by_cases hin:(2:Int)≤(n:Nat)∧((n:Nat):Int)≤2
 case neg =>
  have hno:Hid (¬Me.NodeOk ⟨4,inn,shape,N,P⟩):=by show ¬_;rw[HK.out];omega
  go_enter Tryz.func70,Tryz.ntmps70;go_wp2_with fail;refine(CT.out _).mono ?_;rintro e w' ⟨rfl,rfl⟩;go_wp2_with fail;refine(within_no _ _ _ _ (by omega)).mono ?_;rintro e w' ⟨rfl,rfl⟩;go_wp2;go_ret;exact npost_no hno.out ((Touch.refl No w).alloc _)
 case pos =>
  rcases Nat.eq_zero_or_pos n' with h0|h0
  case inr =>
   have hno:Hid (¬Me.NodeOk ⟨4,inn,shape,N,P⟩):=by show ¬_;rw[HK.out];omega
   have f1:decide ((0:Int)<(n':Nat))=true:=by simp;omega
   have f2:decide (0<n')=true:=by simp;omega
   go_enter Tryz.func70,Tryz.ntmps70;go_wp2_with fail;refine(CT.out _).mono ?_;rintro e w' ⟨rfl,rfl⟩;go_wp2_with fail;refine(within_yes _ _ _ _ (by omega)).mono ?_;rintro e w' ⟨rfl,rfl⟩;go_wp2;go_ret;exact npost_no hno.out ((Touch.refl No w).alloc _)
  case inl =>
  subst h0
  by_cases hP:P=0
  case neg =>
   have hno:Hid (¬Me.NodeOk ⟨4,inn,shape,N,P⟩):=by show ¬_;rw[HK.out];omega
   have f1:(P != 0)=true:=by simpa using hP
   go_enter Tryz.func70,Tryz.ntmps70;go_wp2_with fail;refine(CT.out _).mono ?_;rintro e w' ⟨rfl,rfl⟩;go_wp2_with fail;refine(within_yes _ _ _ _ (by omega)).mono ?_;rintro e w' ⟨rfl,rfl⟩;go_wp2;go_ret;exact npost_no hno.out ((Touch.refl No w).alloc _)
  case pos =>
  subst hP;have hi:Hid ((N==0)=true↔Me.NodeOk ⟨4,inn,shape,N,0⟩):=by show _↔_;rw[HK.out];simp only[beq_iff_eq,decide_eq_true_eq];omega
  go_enter Tryz.func70,Tryz.ntmps70;go_wp2_with fail;refine(CT.out _).mono ?_;rintro e w' ⟨rfl,rfl⟩;go_wp2_with fail;refine(within_yes _ _ _ _ (by omega)).mono ?_;rintro e w' ⟨rfl,rfl⟩;go_wp2;go_ret;exact npost hi.out ((Touch.refl No w).alloc _)
theorem refNode_7 (w:World)(ia sa:Option Addr)(n c n' c':Nat)(inn shape:List Int)(N P:Int)(hx:NIn w ia n c sa n' c' ⟨7,inn,shape,N,P⟩) :
  Calls Tryz.prog 70 #[nodeV ia n c sa n' c' ⟨7,inn,shape,N,P⟩] w (NodePost w ⟨7,inn,shape,N,P⟩):=by
 have hl:inn.length=n:=hx.il;have hsl:shape.length=n':=hx.sl;have HX:=Lib.hid hx;have HK:=Lib.hid (Me.nk_plain (k:=7) (i:=inn) (s:=shape) (n:=N) (p:=P) (a:=2) (b:=2) (l:=0) (h:=0) (r:=0) rfl);have CT:Hid (∀wx:World,Calls Tryz.prog 109 #[.int .u8 ((7:Nat):Int)] wx fun e w'=>e = .returned (.tuple #[.int .i64 2,.int .i64 2,.bool true])∧wx=w'):=fun wx=>takes_in wx 7
 clear hx;unfold nodeV;dsimp only
 by_cases hin:(2:Int)≤(n:Nat)∧((n:Nat):Int)≤2
 case neg =>
  have hno:Hid (¬Me.NodeOk ⟨7,inn,shape,N,P⟩):=by show ¬_;rw[HK.out];omega
  go_enter Tryz.func70,Tryz.ntmps70;go_wp2_with fail;refine(CT.out _).mono ?_;rintro e w' ⟨rfl,rfl⟩;go_wp2_with fail;refine(within_no _ _ _ _ (by omega)).mono ?_;rintro e w' ⟨rfl,rfl⟩;go_wp2;go_ret;exact npost_no hno.out ((Touch.refl No w).alloc _)
 case pos =>
  rcases Nat.eq_zero_or_pos n' with h0|h0
  case inr =>
   have hno:Hid (¬Me.NodeOk ⟨7,inn,shape,N,P⟩):=by show ¬_;rw[HK.out];omega
   have f1:decide ((0:Int)<(n':Nat))=true:=by simp;omega
   have f2:decide (0<n')=true:=by simp;omega
   go_enter Tryz.func70,Tryz.ntmps70;go_wp2_with fail;refine(CT.out _).mono ?_;rintro e w' ⟨rfl,rfl⟩;go_wp2_with fail;refine(within_yes _ _ _ _ (by omega)).mono ?_;rintro e w' ⟨rfl,rfl⟩;go_wp2;go_ret;exact npost_no hno.out ((Touch.refl No w).alloc _)
  case inl =>
  subst h0
  by_cases hP:P=0
  case neg =>
   have hno:Hid (¬Me.NodeOk ⟨7,inn,shape,N,P⟩):=by show ¬_;rw[HK.out];omega
   have f1:(P != 0)=true:=by simpa using hP
   go_enter Tryz.func70,Tryz.ntmps70;go_wp2_with fail;refine(CT.out _).mono ?_;rintro e w' ⟨rfl,rfl⟩;go_wp2_with fail;refine(within_yes _ _ _ _ (by omega)).mono ?_;rintro e w' ⟨rfl,rfl⟩;go_wp2;go_ret;exact npost_no hno.out ((Touch.refl No w).alloc _)
  case pos =>
  subst hP;have hi:Hid ((N==0)=true↔Me.NodeOk ⟨7,inn,shape,N,0⟩):=by show _↔_;rw[HK.out];simp only[beq_iff_eq,decide_eq_true_eq];omega
  go_enter Tryz.func70,Tryz.ntmps70;go_wp2_with fail;refine(CT.out _).mono ?_;rintro e w' ⟨rfl,rfl⟩;go_wp2_with fail;refine(within_yes _ _ _ _ (by omega)).mono ?_;rintro e w' ⟨rfl,rfl⟩;go_wp2;go_ret;exact npost hi.out ((Touch.refl No w).alloc _)
theorem refNode_5 (w:World)(ia sa:Option Addr)(n c n' c':Nat)(inn shape:List Int)(N P:Int)(hx:NIn w ia n c sa n' c' ⟨5,inn,shape,N,P⟩) :
  Calls Tryz.prog 70 #[nodeV ia n c sa n' c' ⟨5,inn,shape,N,P⟩] w (NodePost w ⟨5,inn,shape,N,P⟩):=by
 have hl:inn.length=n:=hx.il;have hsl:shape.length=n':=hx.sl;have HX:=Lib.hid hx;have HK:=Lib.hid (Me.nk_plain (k:=5) (i:=inn) (s:=shape) (n:=N) (p:=P) (a:=1) (b:=1) (l:=0) (h:=0) (r:=0) rfl);have CT:Hid (∀wx:World,Calls Tryz.prog 109 #[.int .u8 ((5:Nat):Int)] wx fun e w'=>e = .returned (.tuple #[.int .i64 1,.int .i64 1,.bool true])∧wx=w'):=fun wx=>takes_in wx 5
 clear hx;unfold nodeV;dsimp only
 by_cases hin:(1:Int)≤(n:Nat)∧((n:Nat):Int)≤1
 case neg =>
  have hno:Hid (¬Me.NodeOk ⟨5,inn,shape,N,P⟩):=by show ¬_;rw[HK.out];omega
  go_enter Tryz.func70,Tryz.ntmps70;go_wp2_with fail;refine(CT.out _).mono ?_;rintro e w' ⟨rfl,rfl⟩;go_wp2_with fail;refine(within_no _ _ _ _ (by omega)).mono ?_;rintro e w' ⟨rfl,rfl⟩;go_wp2;go_ret;exact npost_no hno.out ((Touch.refl No w).alloc _)
 case pos =>
  rcases Nat.eq_zero_or_pos n' with h0|h0
  case inr =>
   have hno:Hid (¬Me.NodeOk ⟨5,inn,shape,N,P⟩):=by show ¬_;rw[HK.out];omega
   have f1:decide ((0:Int)<(n':Nat))=true:=by simp;omega
   have f2:decide (0<n')=true:=by simp;omega
   go_enter Tryz.func70,Tryz.ntmps70;go_wp2_with fail;refine(CT.out _).mono ?_;rintro e w' ⟨rfl,rfl⟩;go_wp2_with fail;refine(within_yes _ _ _ _ (by omega)).mono ?_;rintro e w' ⟨rfl,rfl⟩;go_wp2;go_ret;exact npost_no hno.out ((Touch.refl No w).alloc _)
  case inl =>
  subst h0
  by_cases hP:P=0
  case neg =>
   have hno:Hid (¬Me.NodeOk ⟨5,inn,shape,N,P⟩):=by show ¬_;rw[HK.out];omega
   have f1:(P != 0)=true:=by simpa using hP
   go_enter Tryz.func70,Tryz.ntmps70;go_wp2_with fail;refine(CT.out _).mono ?_;rintro e w' ⟨rfl,rfl⟩;go_wp2_with fail;refine(within_yes _ _ _ _ (by omega)).mono ?_;rintro e w' ⟨rfl,rfl⟩;go_wp2;go_ret;exact npost_no hno.out ((Touch.refl No w).alloc _)
  case pos =>
  subst hP;have hi:Hid ((N==0)=true↔Me.NodeOk ⟨5,inn,shape,N,0⟩):=by show _↔_;rw[HK.out];simp only[beq_iff_eq,decide_eq_true_eq];omega
  go_enter Tryz.func70,Tryz.ntmps70;go_wp2_with fail;refine(CT.out _).mono ?_;rintro e w' ⟨rfl,rfl⟩;go_wp2_with fail;refine(within_yes _ _ _ _ (by omega)).mono ?_;rintro e w' ⟨rfl,rfl⟩;go_wp2;go_ret;exact npost hi.out ((Touch.refl No w).alloc _)
theorem refNode_6 (w:World)(ia sa:Option Addr)(n c n' c':Nat)(inn shape:List Int)(N P:Int)(hx:NIn w ia n c sa n' c' ⟨6,inn,shape,N,P⟩) :
  Calls Tryz.prog 70 #[nodeV ia n c sa n' c' ⟨6,inn,shape,N,P⟩] w (NodePost w ⟨6,inn,shape,N,P⟩):=by
 have hl:inn.length=n:=hx.il;have hsl:shape.length=n':=hx.sl;have HX:=Lib.hid hx;have HK:=Lib.hid (Me.nk_plain (k:=6) (i:=inn) (s:=shape) (n:=N) (p:=P) (a:=1) (b:=1) (l:=0) (h:=31) (r:=0) rfl);have CT:Hid (∀wx:World,Calls Tryz.prog 109 #[.int .u8 ((6:Nat):Int)] wx fun e w'=>e = .returned (.tuple #[.int .i64 1,.int .i64 1,.bool true])∧wx=w'):=fun wx=>takes_in wx 6
 clear hx;unfold nodeV;dsimp only
 by_cases hin:(1:Int)≤(n:Nat)∧((n:Nat):Int)≤1
 case neg =>
  have hno:Hid (¬Me.NodeOk ⟨6,inn,shape,N,P⟩):=by show ¬_;rw[HK.out];omega
  go_enter Tryz.func70,Tryz.ntmps70;go_wp2_with fail;refine(CT.out _).mono ?_;rintro e w' ⟨rfl,rfl⟩;go_wp2_with fail;refine(within_no _ _ _ _ (by omega)).mono ?_;rintro e w' ⟨rfl,rfl⟩;go_wp2;go_ret;exact npost_no hno.out ((Touch.refl No w).alloc _)
 case pos =>
  rcases Nat.eq_zero_or_pos n' with h0|h0
  case inr =>
   have hno:Hid (¬Me.NodeOk ⟨6,inn,shape,N,P⟩):=by show ¬_;rw[HK.out];omega
   have f1:decide ((0:Int)<(n':Nat))=true:=by simp;omega
   have f2:decide (0<n')=true:=by simp;omega
   go_enter Tryz.func70,Tryz.ntmps70;go_wp2_with fail;refine(CT.out _).mono ?_;rintro e w' ⟨rfl,rfl⟩;go_wp2_with fail;refine(within_yes _ _ _ _ (by omega)).mono ?_;rintro e w' ⟨rfl,rfl⟩;go_wp2;go_ret;exact npost_no hno.out ((Touch.refl No w).alloc _)
  case inl =>
  subst h0
  by_cases hP:P=0
  case neg =>
   have hno:Hid (¬Me.NodeOk ⟨6,inn,shape,N,P⟩):=by show ¬_;rw[HK.out];omega
   have f1:(P != 0)=true:=by simpa using hP
   go_enter Tryz.func70,Tryz.ntmps70;go_wp2_with fail;refine(CT.out _).mono ?_;rintro e w' ⟨rfl,rfl⟩;go_wp2_with fail;refine(within_yes _ _ _ _ (by omega)).mono ?_;rintro e w' ⟨rfl,rfl⟩;go_wp2;go_ret;exact npost_no hno.out ((Touch.refl No w).alloc _)
  case pos =>
  subst hP;have hi:Hid (decide (((0:Int))≤N∧N≤31)=true↔Me.NodeOk ⟨6,inn,shape,N,0⟩):=by show _↔_;rw[HK.out];simp only[beq_iff_eq,decide_eq_true_eq];omega
  go_enter Tryz.func70,Tryz.ntmps70;go_wp2_with fail;refine(CT.out _).mono ?_;rintro e w' ⟨rfl,rfl⟩;go_wp2_with fail;refine(within_yes _ _ _ _ (by omega)).mono ?_;rintro e w' ⟨rfl,rfl⟩;go_wp2_with fail;refine(within_in _ _ _ _).mono ?_;rintro e w' ⟨rfl,rfl⟩;go_wp2;go_ret;exact npost (by rw[← Bool.decide_and];exact hi.out) ((Touch.refl No w).alloc _)
theorem refNode_9 (w:World)(ia sa:Option Addr)(n c n' c':Nat)(inn shape:List Int)(N P:Int)(hx:NIn w ia n c sa n' c' ⟨9,inn,shape,N,P⟩) :
  Calls Tryz.prog 70 #[nodeV ia n c sa n' c' ⟨9,inn,shape,N,P⟩] w (NodePost w ⟨9,inn,shape,N,P⟩):=by
 have hl:inn.length=n:=hx.il;have hsl:shape.length=n':=hx.sl;have HX:=Lib.hid hx;have HK:=Lib.hid (Me.nk_plain (k:=9) (i:=inn) (s:=shape) (n:=N) (p:=P) (a:=1) (b:=1) (l:=1) (h:=64) (r:=0) rfl);have CT:Hid (∀wx:World,Calls Tryz.prog 109 #[.int .u8 ((9:Nat):Int)] wx fun e w'=>e = .returned (.tuple #[.int .i64 1,.int .i64 1,.bool true])∧wx=w'):=fun wx=>takes_in wx 9
 clear hx;unfold nodeV;dsimp only
 by_cases hin:(1:Int)≤(n:Nat)∧((n:Nat):Int)≤1
 case neg =>
  have hno:Hid (¬Me.NodeOk ⟨9,inn,shape,N,P⟩):=by show ¬_;rw[HK.out];omega
  go_enter Tryz.func70,Tryz.ntmps70;go_wp2_with fail;refine(CT.out _).mono ?_;rintro e w' ⟨rfl,rfl⟩;go_wp2_with fail;refine(within_no _ _ _ _ (by omega)).mono ?_;rintro e w' ⟨rfl,rfl⟩;go_wp2;go_ret;exact npost_no hno.out ((Touch.refl No w).alloc _)
 case pos =>
  rcases Nat.eq_zero_or_pos n' with h0|h0
  case inr =>
   have hno:Hid (¬Me.NodeOk ⟨9,inn,shape,N,P⟩):=by show ¬_;rw[HK.out];omega
   have f1:decide ((0:Int)<(n':Nat))=true:=by simp;omega
   have f2:decide (0<n')=true:=by simp;omega
   go_enter Tryz.func70,Tryz.ntmps70;go_wp2_with fail;refine(CT.out _).mono ?_;rintro e w' ⟨rfl,rfl⟩;go_wp2_with fail;refine(within_yes _ _ _ _ (by omega)).mono ?_;rintro e w' ⟨rfl,rfl⟩;go_wp2;go_ret;exact npost_no hno.out ((Touch.refl No w).alloc _)
  case inl =>
  subst h0
  by_cases hP:P=0
  case neg =>
   have hno:Hid (¬Me.NodeOk ⟨9,inn,shape,N,P⟩):=by show ¬_;rw[HK.out];omega
   have f1:(P != 0)=true:=by simpa using hP
   go_enter Tryz.func70,Tryz.ntmps70;go_wp2_with fail;refine(CT.out _).mono ?_;rintro e w' ⟨rfl,rfl⟩;go_wp2_with fail;refine(within_yes _ _ _ _ (by omega)).mono ?_;rintro e w' ⟨rfl,rfl⟩;go_wp2;go_ret;exact npost_no hno.out ((Touch.refl No w).alloc _)
  case pos =>
  subst hP;have hi:Hid (decide (((1:Int))≤N∧N≤64)=true↔Me.NodeOk ⟨9,inn,shape,N,0⟩):=by show _↔_;rw[HK.out];simp only[beq_iff_eq,decide_eq_true_eq];omega
  go_enter Tryz.func70,Tryz.ntmps70;go_wp2_with fail;refine(CT.out _).mono ?_;rintro e w' ⟨rfl,rfl⟩;go_wp2_with fail;refine(within_yes _ _ _ _ (by omega)).mono ?_;rintro e w' ⟨rfl,rfl⟩;go_wp2_with fail;refine(within_in _ _ _ _).mono ?_;rintro e w' ⟨rfl,rfl⟩;go_wp2;go_ret;exact npost (by rw[← Bool.decide_and];exact hi.out) ((Touch.refl No w).alloc _)
theorem refNode_12 (w:World)(ia sa:Option Addr)(n c n' c':Nat)(inn shape:List Int)(N P:Int)(hx:NIn w ia n c sa n' c' ⟨12,inn,shape,N,P⟩) :
  Calls Tryz.prog 70 #[nodeV ia n c sa n' c' ⟨12,inn,shape,N,P⟩] w (NodePost w ⟨12,inn,shape,N,P⟩):=by
 have hl:inn.length=n:=hx.il;have hsl:shape.length=n':=hx.sl;have HX:=Lib.hid hx;have HK:=Lib.hid (Me.nk_plain (k:=12) (i:=inn) (s:=shape) (n:=N) (p:=P) (a:=1) (b:=4) (l:=0) (h:=3) (r:=0) rfl);have CT:Hid (∀wx:World,Calls Tryz.prog 109 #[.int .u8 ((12:Nat):Int)] wx fun e w'=>e = .returned (.tuple #[.int .i64 1,.int .i64 4,.bool true])∧wx=w'):=fun wx=>takes_in wx 12
 clear hx;unfold nodeV;dsimp only
 by_cases hin:(1:Int)≤(n:Nat)∧((n:Nat):Int)≤4
 case neg =>
  have hno:Hid (¬Me.NodeOk ⟨12,inn,shape,N,P⟩):=by show ¬_;rw[HK.out];omega
  go_enter Tryz.func70,Tryz.ntmps70;go_wp2_with fail;refine(CT.out _).mono ?_;rintro e w' ⟨rfl,rfl⟩;go_wp2_with fail;refine(within_no _ _ _ _ (by omega)).mono ?_;rintro e w' ⟨rfl,rfl⟩;go_wp2;go_ret;exact npost_no hno.out ((Touch.refl No w).alloc _)
 case pos =>
  rcases Nat.eq_zero_or_pos n' with h0|h0
  case inr =>
   have hno:Hid (¬Me.NodeOk ⟨12,inn,shape,N,P⟩):=by show ¬_;rw[HK.out];omega
   have f1:decide ((0:Int)<(n':Nat))=true:=by simp;omega
   have f2:decide (0<n')=true:=by simp;omega
   go_enter Tryz.func70,Tryz.ntmps70;go_wp2_with fail;refine(CT.out _).mono ?_;rintro e w' ⟨rfl,rfl⟩;go_wp2_with fail;refine(within_yes _ _ _ _ (by omega)).mono ?_;rintro e w' ⟨rfl,rfl⟩;go_wp2;go_ret;exact npost_no hno.out ((Touch.refl No w).alloc _)
  case inl =>
  subst h0
  by_cases hP:P=0
  case neg =>
   have hno:Hid (¬Me.NodeOk ⟨12,inn,shape,N,P⟩):=by show ¬_;rw[HK.out];omega
   have f1:(P != 0)=true:=by simpa using hP
   go_enter Tryz.func70,Tryz.ntmps70;go_wp2_with fail;refine(CT.out _).mono ?_;rintro e w' ⟨rfl,rfl⟩;go_wp2_with fail;refine(within_yes _ _ _ _ (by omega)).mono ?_;rintro e w' ⟨rfl,rfl⟩;go_wp2;go_ret;exact npost_no hno.out ((Touch.refl No w).alloc _)
  case pos =>
  subst hP;have hi:Hid (decide (((0:Int))≤N∧N≤3)=true↔Me.NodeOk ⟨12,inn,shape,N,0⟩):=by show _↔_;rw[HK.out];simp only[beq_iff_eq,decide_eq_true_eq];omega
  go_enter Tryz.func70,Tryz.ntmps70;go_wp2_with fail;refine(CT.out _).mono ?_;rintro e w' ⟨rfl,rfl⟩;go_wp2_with fail;refine(within_yes _ _ _ _ (by omega)).mono ?_;rintro e w' ⟨rfl,rfl⟩;go_wp2_with fail;refine(within_in _ _ _ _).mono ?_;rintro e w' ⟨rfl,rfl⟩;go_wp2;go_ret;exact npost (by rw[← Bool.decide_and];exact hi.out) ((Touch.refl No w).alloc _)
theorem refNode_13 (w:World)(ia sa:Option Addr)(n c n' c':Nat)(inn shape:List Int)(N P:Int)(hx:NIn w ia n c sa n' c' ⟨13,inn,shape,N,P⟩) :
  Calls Tryz.prog 70 #[nodeV ia n c sa n' c' ⟨13,inn,shape,N,P⟩] w (NodePost w ⟨13,inn,shape,N,P⟩):=by
 have hl:inn.length=n:=hx.il;have hsl:shape.length=n':=hx.sl;have HX:=Lib.hid hx;have HK:=Lib.hid (Me.nk_plain (k:=13) (i:=inn) (s:=shape) (n:=N) (p:=P) (a:=1) (b:=1) (l:=0) (h:=3) (r:=0) rfl);have CT:Hid (∀wx:World,Calls Tryz.prog 109 #[.int .u8 ((13:Nat):Int)] wx fun e w'=>e = .returned (.tuple #[.int .i64 1,.int .i64 1,.bool true])∧wx=w'):=fun wx=>takes_in wx 13
 clear hx;unfold nodeV;dsimp only
 by_cases hin:(1:Int)≤(n:Nat)∧((n:Nat):Int)≤1
 case neg =>
  have hno:Hid (¬Me.NodeOk ⟨13,inn,shape,N,P⟩):=by show ¬_;rw[HK.out];omega
  go_enter Tryz.func70,Tryz.ntmps70;go_wp2_with fail;refine(CT.out _).mono ?_;rintro e w' ⟨rfl,rfl⟩;go_wp2_with fail;refine(within_no _ _ _ _ (by omega)).mono ?_;rintro e w' ⟨rfl,rfl⟩;go_wp2;go_ret;exact npost_no hno.out ((Touch.refl No w).alloc _)
 case pos =>
  rcases Nat.eq_zero_or_pos n' with h0|h0
  case inr =>
   have hno:Hid (¬Me.NodeOk ⟨13,inn,shape,N,P⟩):=by show ¬_;rw[HK.out];omega
   have f1:decide ((0:Int)<(n':Nat))=true:=by simp;omega
   have f2:decide (0<n')=true:=by simp;omega
   go_enter Tryz.func70,Tryz.ntmps70;go_wp2_with fail;refine(CT.out _).mono ?_;rintro e w' ⟨rfl,rfl⟩;go_wp2_with fail;refine(within_yes _ _ _ _ (by omega)).mono ?_;rintro e w' ⟨rfl,rfl⟩;go_wp2;go_ret;exact npost_no hno.out ((Touch.refl No w).alloc _)
  case inl =>
  subst h0
  by_cases hP:P=0
  case neg =>
   have hno:Hid (¬Me.NodeOk ⟨13,inn,shape,N,P⟩):=by show ¬_;rw[HK.out];omega
   have f1:(P != 0)=true:=by simpa using hP
   go_enter Tryz.func70,Tryz.ntmps70;go_wp2_with fail;refine(CT.out _).mono ?_;rintro e w' ⟨rfl,rfl⟩;go_wp2_with fail;refine(within_yes _ _ _ _ (by omega)).mono ?_;rintro e w' ⟨rfl,rfl⟩;go_wp2;go_ret;exact npost_no hno.out ((Touch.refl No w).alloc _)
  case pos =>
  subst hP;have hi:Hid (decide (((0:Int))≤N∧N≤3)=true↔Me.NodeOk ⟨13,inn,shape,N,0⟩):=by show _↔_;rw[HK.out];simp only[beq_iff_eq,decide_eq_true_eq];omega
  go_enter Tryz.func70,Tryz.ntmps70;go_wp2_with fail;refine(CT.out _).mono ?_;rintro e w' ⟨rfl,rfl⟩;go_wp2_with fail;refine(within_yes _ _ _ _ (by omega)).mono ?_;rintro e w' ⟨rfl,rfl⟩;go_wp2_with fail;refine(within_in _ _ _ _).mono ?_;rintro e w' ⟨rfl,rfl⟩;go_wp2;go_ret;exact npost (by rw[← Bool.decide_and];exact hi.out) ((Touch.refl No w).alloc _)
theorem refNode_8 (w:World)(ia sa:Option Addr)(n c n' c':Nat)(inn shape:List Int)(N P:Int)(hx:NIn w ia n c sa n' c' ⟨8,inn,shape,N,P⟩) :
  Calls Tryz.prog 70 #[nodeV ia n c sa n' c' ⟨8,inn,shape,N,P⟩] w (NodePost w ⟨8,inn,shape,N,P⟩):=by
 have hl:inn.length=n:=hx.il;have hsl:shape.length=n':=hx.sl;have HX:=Lib.hid hx;have HK:=Lib.hid (Me.nk_plain (k:=8) (i:=inn) (s:=shape) (n:=N) (p:=P) (a:=2) (b:=2) (l:=1) (h:=8) (r:=8) rfl);have CT:Hid (∀wx:World,Calls Tryz.prog 109 #[.int .u8 ((8:Nat):Int)] wx fun e w'=>e = .returned (.tuple #[.int .i64 2,.int .i64 2,.bool true])∧wx=w'):=fun wx=>takes_in wx 8
 clear hx;unfold nodeV;dsimp only
 by_cases hin:(2:Int)≤(n:Nat)∧((n:Nat):Int)≤2
 case neg =>
  have hno:Hid (¬Me.NodeOk ⟨8,inn,shape,N,P⟩):=by show ¬_;rw[HK.out];omega
  go_enter Tryz.func70,Tryz.ntmps70;go_wp2_with fail;refine(CT.out _).mono ?_;rintro e w' ⟨rfl,rfl⟩;go_wp2_with fail;refine(within_no _ _ _ _ (by omega)).mono ?_;rintro e w' ⟨rfl,rfl⟩;go_wp2;go_ret;exact npost_no hno.out ((Touch.refl No w).alloc _)
 case pos =>
  rcases Nat.eq_zero_or_pos n' with h0|h0
  case inr =>
   have hno:Hid (¬Me.NodeOk ⟨8,inn,shape,N,P⟩):=by show ¬_;rw[HK.out];omega
   have f1:decide ((0:Int)<(n':Nat))=true:=by simp;omega
   have f2:decide (0<n')=true:=by simp;omega
   go_enter Tryz.func70,Tryz.ntmps70;go_wp2_with fail;refine(CT.out _).mono ?_;rintro e w' ⟨rfl,rfl⟩;go_wp2_with fail;refine(within_yes _ _ _ _ (by omega)).mono ?_;rintro e w' ⟨rfl,rfl⟩;go_wp2;go_ret;exact npost_no hno.out ((Touch.refl No w).alloc _)
  case inl =>
  subst h0
  by_cases hN:1≤N∧N≤8
  case neg =>
   have hno:Hid (¬Me.NodeOk ⟨8,inn,shape,N,P⟩):=by show ¬_;rw[HK.out];omega
   go_enter Tryz.func70,Tryz.ntmps70;go_wp2_with fail;refine(CT.out _).mono ?_;rintro e w' ⟨rfl,rfl⟩;go_wp2_with fail;refine(within_yes _ _ _ _ (by omega)).mono ?_;rintro e w' ⟨rfl,rfl⟩;go_wp2_with fail;refine(within_no _ _ _ _ hN).mono ?_;rintro e w' ⟨rfl,rfl⟩;go_wp2;go_ret;exact npost_no hno.out ((Touch.refl No w).alloc _)
  case pos =>
  have hi:Hid (decide ((0:Int)≤P∧P≤8)=true↔Me.NodeOk ⟨8,inn,shape,N,P⟩):=by show _↔_;rw[HK.out];simp only[beq_iff_eq,decide_eq_true_eq];omega
  go_enter Tryz.func70,Tryz.ntmps70;go_wp2_with fail;refine(CT.out _).mono ?_;rintro e w' ⟨rfl,rfl⟩;go_wp2_with fail;refine(within_yes _ _ _ _ (by omega)).mono ?_;rintro e w' ⟨rfl,rfl⟩;go_wp2_with fail;refine(within_yes _ _ _ _ hN).mono ?_;rintro e w' ⟨rfl,rfl⟩;go_wp2_with fail;refine(within_in _ _ _ _).mono ?_;rintro e w' ⟨rfl,rfl⟩;go_wp2;go_ret;exact npost (by rw[← Bool.decide_and];exact hi.out) ((Touch.refl No w).alloc _)
theorem refNode_in (w:World)(ia sa:Option Addr)(n c n' c':Nat)(x:Me.Node)(hx:NIn w ia n c sa n' c' x) :
  Calls Tryz.prog 70 #[nodeV ia n c sa n' c' x] w (NodePost w x):=by
 by_cases hk:1≤x.kind∧x.kind≤13
 ·obtain⟨k,inn,shape,N,P⟩:=x
  dsimp only at hk;have h:k=1∨k=2∨k=3∨k=4∨k=5∨k=6∨k=7∨k=8∨k=9∨k=10∨k=11∨k=12∨k=13:=by omega
  rcases h with rfl|rfl|rfl|rfl|rfl|rfl|rfl|rfl|rfl|rfl|rfl|rfl|rfl
  ·exact refNode_1 w ia sa n c n' c' inn shape N P hx
  ·exact refNode_2 w ia sa n c n' c' inn shape N P hx
  ·exact refNode_3 w ia sa n c n' c' inn shape N P hx
  ·exact refNode_4 w ia sa n c n' c' inn shape N P hx
  ·exact refNode_5 w ia sa n c n' c' inn shape N P hx
  ·exact refNode_6 w ia sa n c n' c' inn shape N P hx
  ·exact refNode_7 w ia sa n c n' c' inn shape N P hx
  ·exact refNode_8 w ia sa n c n' c' inn shape N P hx
  ·exact refNode_9 w ia sa n c n' c' inn shape N P hx
  ·exact refNode_10 w ia sa n c n' c' inn shape N P hx
  ·exact refNode_11 w ia sa n c n' c' inn shape N P hx
  ·exact refNode_12 w ia sa n c n' c' inn shape N P hx
  ·exact refNode_13 w ia sa n c n' c' inn shape N P hx
 ·exact refNode_none w ia sa n c n' c' x hk
end
end Go.Proofs.YtjlphmmalebgpaaGreat
