/-
  More for the walks: appending a slice to one of the call's own, as one operation of a region and as one of a list.
-/
import Derived.Test.YtjmkfpiahnibkaaDoorBase
import Derived.Deep.RegionHeld3
import Derived.Deep.AppendLies
namespace Go.Proofs.YtjmkfpiahnibkaaDoor
open Go Go.RowKit

theorem Rd.news {w : World} {ad : Addr} {vs : List Value} (h : Rd w (some ad) vs) : ∀ j u, vs[j]? = some u → w.cell? (ad.add j) = some u := by
  intro j u hj
  obtain ⟨b, o, e, hc⟩ := h j u hj
  cases e
  rw [Go.WideShapes.add_plain]; exact hc

theorem Own.capmax {w : World} {base : Nat} {T : TypeId} {a : Option Addr} {n cap : Nat} {vs : List Value} (h : Own w base T (.slice a n cap) vs) : (cap : Int) ≤ 9223372036854775807 := by
  obtain ⟨_, hh⟩ := h
  rcases hh with ⟨hh, _⟩ | ⟨g, cp, cur, hv, _, _, _, hc, _⟩
  · simp only [Value.slice.injEq] at hh; omega
  · simp only [Value.slice.injEq] at hv; unfold maxLen at hc; omega

/-- 'append(out, xs...)' inside a region: out is the call's own -/
theorem step_appendv {P : Program} {w : World} {ops : Array Oper} {o : Oper} {a : Act} {K : Act → World → Prop} {Q : Exit → Act → World → Prop} {E : Prop} (hgd : o.guard = none) (s x : Operand) (t : TypeId)
    (ho : o.op = .call { callee := .builtin .append, args := #[s, x], argTypes := #[t, t] })
    (base : Nat) (e : TypeId) (i : TypeInfo) (z : Value) (bytes : Nat) (ht : P.underlying t = some (.slice e)) (hi : P.info? e = some i) (hz : i.zero = some z) (hsize : i.size = 1) (hby : i.bytes = bytes) (hzs : z.cells.size = 1)
    (v : Value) (vs : List Value) (hown : Own w base e v vs) (hs : a.eval s = v) (ad : Addr) (m c : Nat) (news : List Value) (hrd : Rd w (some ad) news) (hx : a.eval x = .slice (some ad) m c) (hl : news.length = m) (h1 : ∀ u ∈ news, u.oneCell' = true)
    (h63 : vs.length + m ≤ maxLen) (hbytes : (vs.length + m) * bytes ≤ 140737488355328) (hbase : base ≤ w.heap.size)
    (h : ∀ v' w', Own w' base e v' (vs ++ news) → Touch (InBlock v) w w' → K (a.put o.dst v') w') :
    if Region.wanted o (yielded ops a.tmps) = true then Oper.wp P o a w K Q else E := by
  have hw : Region.wanted o (yielded ops a.tmps) = true := by simp [Region.wanted, hgd]
  rw [if_pos hw]
  refine wp_append_own w s x t ho base e i z 1 bytes ht hi hz hsize hby hzs (by decide) v vs.length vs hs hown ad m c news hx (by omega) hrd.news h1 h63 hbytes hbase fun v' w' h2 h3 _ => ?_
  refine h v' w' ?_ ((Touch.refl (InBlock v) w).grown h3 (fun k hk _ => hk))
  have : (vs ++ news).length = vs.length + m := by simp [hl]
  rw [Own, this]; exact h2

/-- 'append(out, xs...)' in a list of operations: out is the call's own -/
theorem wpList_appendv {P : Program} {w : World} {ops : Array Oper} {rest : List Oper} {o : Oper} {a : Act} {Q : Exit → Act → World → Prop} (hgd : o.guard = none) (s x : Operand) (t : TypeId)
    (ho : o.op = .call { callee := .builtin .append, args := #[s, x], argTypes := #[t, t] })
    (base : Nat) (e : TypeId) (i : TypeInfo) (z : Value) (bytes : Nat) (ht : P.underlying t = some (.slice e)) (hi : P.info? e = some i) (hz : i.zero = some z) (hsize : i.size = 1) (hby : i.bytes = bytes) (hzs : z.cells.size = 1)
    (v : Value) (vs : List Value) (hown : Own w base e v vs) (hs : a.eval s = v) (ad : Addr) (m c : Nat) (news : List Value) (hrd : Rd w (some ad) news) (hx : a.eval x = .slice (some ad) m c) (hl : news.length = m) (h1 : ∀ u ∈ news, u.oneCell' = true)
    (h63 : vs.length + m ≤ maxLen) (hbytes : (vs.length + m) * bytes ≤ 140737488355328) (hbase : base ≤ w.heap.size)
    (h : ∀ v' w', Own w' base e v' (vs ++ news) → Touch (InBlock v) w w' → wpList P ops Q rest (a.put o.dst v') w') : wpList P ops Q (o :: rest) a w := by
  refine wpList_append_own w hgd s x t ho base e i z 1 bytes ht hi hz hsize hby hzs (by decide) v vs.length vs hs hown ad m c news hx (by omega) hrd.news h1 h63 hbytes hbase fun v' w' h2 h3 _ => ?_
  refine h v' w' ?_ ((Touch.refl (InBlock v) w).grown h3 (fun k hk _ => hk))
  have : (vs ++ news).length = vs.length + m := by simp [hl]
  rw [Own, this]; exact h2
end Go.Proofs.YtjmkfpiahnibkaaDoor
