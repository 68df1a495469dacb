/- Part 12 of the proof of a law: the interpreter, its soundness, and what functions of the program compute over it. Conditions: none but those that each theorem names. -/
import Derived.Test.YtdkbgdjfmbppfaaGreatDoorB06
import Derived.Test.YtdkbgdjfmbppfaaGreatDoorB07
import Derived.Test.YtdkbgdjfmbppfaaGreatDoorB11
import Derived.Test.YtdkbgdjfmbppfaaGreatDoorB08
import Derived.Test.YtdkbgdjfmbppfaaGreatDoorB10
import Derived.Test.YtdkbgdjfmbppfaaGreatDoorB09
import Derived.Test.YtdkbgdjfmbppfaaGreatDoorB05
import Derived.Laws.Externs
import Derived.CallsIn
import Derived.Sort.EncStr
import Derived.Sort.Grow
import Derived.WalkKit
import Derived.Test.YtdkbgdjfmbppfaaGreatDoorProg
import Derived.KernelRfl

set_option linter.all false
set_option maxRecDepth 20000
set_option maxHeartbeats 40000000
section
namespace Go.Proofs.Try1
open Go Go.Lite
attribute [-simp] dH gG
attribute [local simp] dO fV dM dK dL df
attribute [local simp low] dJ
theorem uk {H : List Ob} {v w : V} {l m : List Str} (h : AStrs H v l) (h' : AStrs H w m) : callW C 17 [v, w] H = some (.bool (dec (l = m)), H) := by
 rw [← gu (EqBy.eq (l := l) (m := m))]
 apply Ret.dec
 rw [TQ]
 have hb : l.length ≤ 9223372036854775807 := h.bound
 have ho := h.one
 have ho' := h'.one
 by_cases hl : l.length = m.length
 rotate_left
 ·have hn : ¬ EqBy (fun x y => x = y) l m := fun h => hl h.1
  have hl' : ¬ (l.length : Int) = m.length := by omega
  simp [Df, Tryz.f17, h.len, h'.len, ho, ho', hl, hl', hn]
 have hl' : (l.length : Int) = m.length := by omega
 simp [Df, Tryz.f17, h.len, h'.len, ho, ho', hl, hl']
 refine aH (fun k σ => ∃ (i : Nat) (r : Nat → R), i + k = l.length ∧ σ = ⟨r, 0, H⟩ ∧ r 0 = .val v ∧ r 1 = .val w ∧ r 5 = .val (.int .i64 i) ∧ EqUp (fun x y => x = y) l m i) ?_ l.length _ ⟨0, _, by simp, rfl, by simp, by simp, by simp, EqUp.zero⟩
 rintro k σ ⟨i, r, hik, rfl, r0, r1, r5, hall⟩
 cases k with
 | zero =>
  have hx : EqBy (fun x y => x = y) l m := hall.all (by omega) hl
  have : ¬ i < l.length := by omega
  simp [r0, r1, r5, h.len, hx, this]
 | succ k =>
  have hi : i < l.length := by omega
  have hi' : i < m.length := by omega
  obtain ⟨x, hx⟩ : ∃ c, l[i]? = some c := ⟨l[i], by simp [hi]⟩
  obtain ⟨y, hy⟩ : ∃ c, m[i]? = some c := ⟨m[i]'(by omega), by simp⟩
  have hw : IntKind.i64.wrap ((i : Int) + 1) = ((i : Int) + 1) := wrap_i64 (by omega) (by omega)
  obtain ⟨id, o, e1, l0, _⟩ := cZ h hx
  obtain ⟨id', o', e1', l0', _⟩ := cZ h' hy
  by_cases g1 : x = y
  ·simp [r0, r1, r5, hi, hi', h.len, h'.len, e1, e1', l0, l0', g1, hw, ae, ag, List.lookup]
   exact ⟨k, by omega, i + 1, by omega, by omega, hall.succ hx hy g1⟩
  ·have hn : ¬ EqBy (fun x y => x = y) l m := fun h => g1 (h.2 i x y hx hy)
   simp [r0, r1, r5, hi, hi', h.len, h'.len, e1, e1', l0, l0', g1, hn, ae, ag, List.lookup]
theorem Py {H : List Ob} {v w : V} {l m : List PRdn} (h : aX H v l) (h' : aX H w m) : callW C 75 [v, w] H = some (.bool (dec (l = m)), H) := by
 rw [← gu (EqBy.eq (l := l) (m := m))]
 apply Ret.dec
 rw [SI]
 have hb : l.length ≤ 9223372036854775807 := h.bound
 have ho := h.one
 have ho' := h'.one
 by_cases hl : l.length = m.length
 rotate_left
 ·have hn : ¬ EqBy (fun x y => x = y) l m := fun h => hl h.1
  have hl' : ¬ (l.length : Int) = m.length := by omega
  simp [D5, Tryz.f75, h.len, h'.len, ho, ho', hl, hl', hn]
 have hl' : (l.length : Int) = m.length := by omega
 simp [D5, Tryz.f75, h.len, h'.len, ho, ho', hl, hl']
 refine aH (fun k σ => ∃ (i : Nat) (r : Nat → R), i + k = l.length ∧ σ = ⟨r, 0, H⟩ ∧ r 0 = .val v ∧ r 1 = .val w ∧ r 5 = .val (.int .i64 i) ∧ EqUp (fun x y => x = y) l m i) ?_ l.length _ ⟨0, _, by simp, rfl, by simp, by simp, by simp, EqUp.zero⟩
 rintro k σ ⟨i, r, hik, rfl, r0, r1, r5, hall⟩
 cases k with
 | zero =>
  have hx : EqBy (fun x y => x = y) l m := hall.all (by omega) hl
  have : ¬ i < l.length := by omega
  simp [r0, r1, r5, h.len, hx, this]
 | succ k =>
  have hi : i < l.length := by omega
  have hi' : i < m.length := by omega
  obtain ⟨x, hx⟩ : ∃ c, l[i]? = some c := ⟨l[i], by simp [hi]⟩
  obtain ⟨y, hy⟩ : ∃ c, m[i]? = some c := ⟨m[i]'(by omega), by simp⟩
  have hw : IntKind.i64.wrap ((i : Int) + 1) = ((i : Int) + 1) := wrap_i64 (by omega) (by omega)
  obtain ⟨id, o, own, cells, e1, q1, q2, q3⟩ := ASl.idx h hx (by decide)
  obtain ⟨id', o', own', cells', e1', q1', q2', q3'⟩ := ASl.idx h' hy (by decide)
  have l0 : ∀ T : LT, T.many 2 → ∀ r c, loadAt T ⟨r, c, H⟩ (.hp id o) = some (.agg [.str x.attr, .str x.value]) := rO q1 q2 (by decide) (uo.1 q3).1
  have l0' : ∀ T : LT, T.many 2 → ∀ r c, loadAt T ⟨r, c, H⟩ (.hp id' o') = some (.agg [.str y.attr, .str y.value]) := rO q1' q2' (by decide) (uo.1 q3').1
  have hsz : shRdn.size = 2 := rfl
  rw [hsz] at e1 e1'
  have hxy : x = y ↔ x.attr = y.attr ∧ x.value = y.value := ⟨fun h => by subst h; exact ⟨rfl, rfl⟩, fun h => by cases x; cases y; simp at h; rw [h.1, h.2]⟩
  by_cases g1 : x = y
  ·have g2 := hxy.1 g1
   simp [r0, r1, r5, hi, hi', h.len, h'.len, e1, e1', l0, l0', g2.1, g2.2, hw, Gl, eqF, zl, ae, ag, List.lookup]
   exact ⟨k, by omega, i + 1, by omega, by omega, hall.succ hx hy g1⟩
  ·have hn : ¬ EqBy (fun x y => x = y) l m := fun h => g1 (h.2 i x y hx hy)
   have g2 : ¬ (x.attr = y.attr ∧ x.value = y.value) := fun h => g1 (hxy.2 h)
   by_cases g3 : x.attr = y.attr
   ·have g4 : ¬ x.value = y.value := fun h => g2 ⟨g3, h⟩
    simp [r0, r1, r5, hi, hi', h.len, h'.len, e1, e1', l0, l0', g3, g4, hn, Gl, eqF, zl, ae, ag, List.lookup]
   ·simp [r0, r1, r5, hi, hi', h.len, h'.len, e1, e1', l0, l0', g3, hn, Gl, eqF, zl, ae, ag, List.lookup]
theorem Iy {H : List Ob} {v w : V} {l m : List PAttr} (h : aC H v l) (h' : aC H w m) : callW C 162 [v, w] H = some (.bool (dec (l = m)), H) := by
 rw [← gu (EqBy.eq (l := l) (m := m))]
 apply Ret.dec
 rw [O8]
 have hb : l.length ≤ 9223372036854775807 := h.bound
 have ho := h.one
 have ho' := h'.one
 by_cases hl : l.length = m.length
 rotate_left
 ·have hn : ¬ EqBy (fun x y => x = y) l m := fun h => hl h.1
  have hl' : ¬ (l.length : Int) = m.length := by omega
  simp [zf, Tryz.f162, h.len, h'.len, ho, ho', hl, hl', hn]
 have hl' : (l.length : Int) = m.length := by omega
 simp [zf, Tryz.f162, h.len, h'.len, ho, ho', hl, hl']
 refine aH (fun k σ => ∃ (i : Nat) (r : Nat → R), i + k = l.length ∧ σ = ⟨r, 0, H⟩ ∧ r 0 = .val v ∧ r 1 = .val w ∧ r 5 = .val (.int .i64 i) ∧ EqUp (fun x y => x = y) l m i) ?_ l.length _ ⟨0, _, by simp, rfl, by simp, by simp, by simp, EqUp.zero⟩
 rintro k σ ⟨i, r, hik, rfl, r0, r1, r5, hall⟩
 cases k with
 | zero =>
  have hx : EqBy (fun x y => x = y) l m := hall.all (by omega) hl
  have : ¬ i < l.length := by omega
  simp [r0, r1, r5, h.len, hx, this]
 | succ k =>
  have hi : i < l.length := by omega
  have hi' : i < m.length := by omega
  obtain ⟨x, hx⟩ : ∃ c, l[i]? = some c := ⟨l[i], by simp [hi]⟩
  obtain ⟨y, hy⟩ : ∃ c, m[i]? = some c := ⟨m[i]'(by omega), by simp⟩
  have hw : IntKind.i64.wrap ((i : Int) + 1) = ((i : Int) + 1) := wrap_i64 (by omega) (by omega)
  obtain ⟨id, o, u1, e1, k1, q1, _⟩ := dN h hx
  obtain ⟨id', o', u2, e1', k1', q1', _⟩ := dN h' hy
  have l0 := (k1 H ⟨[], by simp⟩).1
  have l0' := (k1' H ⟨[], by simp⟩).1
  have l1 := (k1 H ⟨[], by simp⟩).2.1
  have l1' := (k1' H ⟨[], by simp⟩).2.1
  have c1 := uk q1 q1'
  have hxy : x = y ↔ x.name = y.name ∧ x.vals = y.vals := ⟨fun h => by subst h; exact ⟨rfl, rfl⟩, fun h => by cases x; cases y; simp at h; rw [h.1, h.2]⟩
  by_cases g3 : x.name = y.name
  ·by_cases g4 : x.vals = y.vals
   ·rw [au g4] at c1
    simp [r0, r1, r5, hi, hi', h.len, h'.len, e1, e1', l0, l0', l1, l1', c1, g3, hw, ae, ag, List.lookup]
    exact ⟨k, by omega, i + 1, by omega, by omega, hall.succ hx hy (hxy.2 ⟨g3, g4⟩)⟩
   ·rw [ai g4] at c1
    have hn : ¬ EqBy (fun x y => x = y) l m := fun h => g4 (hxy.1 (h.2 i x y hx hy)).2
    simp [r0, r1, r5, hi, hi', h.len, h'.len, e1, e1', l0, l0', l1, l1', c1, g3, hn, ae, ag, List.lookup]
  ·have hn : ¬ EqBy (fun x y => x = y) l m := fun h => g3 (hxy.1 (h.2 i x y hx hy)).1
   simp [r0, r1, r5, hi, hi', h.len, h'.len, e1, e1', l0, l0', g3, hn, ae, ag, List.lookup]
theorem Ju {H : List Ob} {v1 v2 w1 w2 : V} {a b : PEntry} (h1 : aX H v1 a.dn) (h2 : aC H v2 a.attrs) (k1 : aX H w1 b.dn) (k2 : aC H w2 b.attrs) : callW C 61 [.agg [v1, v2], .agg [w1, w2]] H = some (.bool (dec (a = b)), H) := by
 have o1 := h1.one
 have o2 := h2.one
 have o3 := k1.one
 have o4 := k2.one
 have c1 := Py h1 k1
 have c2 := Iy h2 k2
 have hab : a = b ↔ a.dn = b.dn ∧ a.attrs = b.attrs := ⟨fun h => by subst h; exact ⟨rfl, rfl⟩, fun h => by cases a; cases b; simp at h; rw [h.1, h.2]⟩
 by_cases g : a.dn = b.dn
 ·have : a = b ↔ a.attrs = b.attrs := ⟨fun h => (hab.1 h).2, fun h => hab.2 ⟨g, h⟩⟩
  rw [gu this]
  rw [au g] at c1
  apply Ret.eq
  rw [Ov]
  simp [DC, Tryz.f61, c1, c2, o1, o2, o3, o4]
 ·have : ¬ a = b := fun h => g (hab.1 h).1
  rw [ai this]
  rw [ai g] at c1
  apply Ret.eq
  rw [Ov]
  simp [DC, Tryz.f61, c1, o1, o2, o3, o4]
theorem BP {H : List Ob} {v1 v2 w1 w2 : V} {a b : PEntryOut} (h1 : aX H v1 a.entry.dn) (h2 : aC H v2 a.entry.attrs) (k1 : aX H w1 b.entry.dn) (k2 : aC H w2 b.entry.attrs) : callW C 13 [.agg [v1, v2, .int .i64 a.code], .agg [w1, w2, .int .i64 b.code]] H = some (.bool (dec (a = b)), H) := by
 have o1 := h1.one
 have o2 := h2.one
 have o3 := k1.one
 have o4 := k2.one
 have c1 := Ju h1 h2 k1 k2
 have hab : a = b ↔ a.entry = b.entry ∧ a.code = b.code := ⟨fun h => by subst h; exact ⟨rfl, rfl⟩, fun h => by cases a; cases b; simp at h; rw [h.1, h.2]⟩
 by_cases g : a.code = b.code
 ·have : a = b ↔ a.entry = b.entry := ⟨fun h => (hab.1 h).1, fun h => hab.2 ⟨h, g⟩⟩
  rw [gu this]
  apply Ret.eq
  rw [Oz]
  simp [DU, Tryz.f13, c1, g, o1, o2, o3, o4]
 ·have : ¬ a = b := fun h => g (hab.1 h).2
  rw [ai this]
  apply Ret.eq
  rw [Oz]
  simp [DU, Tryz.f13, g, o1, o2, o3, o4]
end Go.Proofs.Try1
end
section
namespace Go.Lite
open Go
structure PPart where
 op : Int
 text : Str
 n : Int
def PPart.u (n : PPart) : U := .st [.int n.op, .str n.text, .int n.n]
abbrev PPart.cs (n : PPart) : List V := [.int .i64 n.op, .str n.text, .int .i64 n.n]
section
variable {H : List Ob} {v : V}
end
def PPart.many (p : PPart) : Nat := if p.op = 3 ∨ p.op = 4 ∨ p.op = 7 then 1 else if p.op = 5 ∨ p.op = 6 then 2 else 0
end Go.Lite
end
section
namespace Go.Proofs.Try1
open Go Go.Lite
attribute [-simp] dH gG
attribute [local simp] dO fV dM dK dL df
attribute [local simp low] dJ



end Go.Proofs.Try1
end
section
namespace Go.Lite
open Go
structure PFlow where
 base : List PRdn
 filter : List PNode
 login : List PPart
 mail : List PPart
 phone : List PPart
 back : Bool
def PFlow.u (f : PFlow) : U := .st [.lst (f.base.map PRdn.u), .lst (f.filter.map PNode.u), .lst (f.login.map PPart.u), .lst (f.mail.map PPart.u), .lst (f.phone.map PPart.u), .bool f.back]
section
variable {H : List Ob}
end
structure PMod where
 kind : Int
 attr : Str
 vals : List Str
def PMod.u (m : PMod) : U := .st [.int m.kind, .str m.attr, .lst (m.vals.map kD)]
section
variable {H : List Ob} {v : V}
end
end Go.Lite
end
section
namespace Go.Proofs.Try1
open Go Go.Lite

end Go.Proofs.Try1
end
section
namespace Go.Lite
open Go
theorem ASl.ofSl {H : List Ob} {α : Type} {sh : Sh} {f : α → U} {v : V} {l : List α} (h : Sl H sh.size (At H sh) v (l.map f)) (hb : l.length ≤ maxLen) : ASl H sh f v l := aG.2 ⟨v, _, rfl, rfl, by simpa using hb, h⟩
theorem ASl.cut {H : List Ob} {α : Type} {sh : Sh} {f : α → U} {v : V} {l : List α} (h : ASl H sh f v l) {i : Nat} (hi : i ≤ l.length) :
  ∃ s1 s2 : V, ASl H sh f s1 (l.take i) ∧ ASl H sh f s2 (l.drop i) ∧
   ((v = .slc none 0 ∧ s1 = .slc none 0 ∧ s2 = .slc none 0 ∧ i = 0 ∧ l = []) ∨ ∃ id off, v = .slc (some (id, off)) l.length ∧ s1 = .slc (some (id, off)) i ∧ s2 = .slc (some (id, off + i * sh.size)) (l.length - i) ∧ ∀ G, (∃ S, G = H ++ S) → bQ G id sh.size = true) := by
 have hb := h.bound
 rcases h.sl with ⟨rfl, h1⟩ | ⟨id, off, own, cells, hv, h2, h3, h4⟩
 ·have h0 : l = [] := by simpa using h1
  subst h0
  have hi0 : i = 0 := by simpa using hi
  subst hi0
  exact ⟨.slc none 0, .slc none 0, h, h, .inl ⟨rfl, rfl, rfl, rfl, rfl⟩⟩
 ·rw [List.length_map] at hv h3
  have hget : ∀ j, (l.map f)[j]? = (l[j]?).map f := fun j => List.getElem?_map
  refine ⟨.slc (some (id, off)) i, .slc (some (id, off + i * sh.size)) (l.length - i), ASl.ofSl (.inr ⟨id, off, own, cells, ?_, h2, ?_, fun j x hx => ?_⟩) ?_, ASl.ofSl (.inr ⟨id, off + i * sh.size, own, cells, ?_, h2, ?_, fun j x hx => ?_⟩) ?_, .inr ⟨id, off, hv, rfl, rfl, ?_⟩⟩
  ·simp; omega
  ·rw [List.length_map, List.length_take, Nat.min_eq_left hi]
   exact Nat.le_trans (Nat.add_le_add_left (Nat.mul_le_mul_right _ hi) _) h3
  ·rw [List.getElem?_map] at hx
   obtain ⟨y, hy, rfl⟩ := Option.map_eq_some_iff.1 hx
   have hj : j < i := by have := (List.getElem?_eq_some_iff.1 hy).1; simp at this; omega
   rw [List.getElem?_take_of_lt hj] at hy
   exact h4 j _ (by rw [hget, hy]; rfl)
  ·simp; omega
  ·simp
  ·rw [List.length_map, List.length_drop, Nat.add_assoc, ← Nat.add_mul, show i + (l.length - i) = l.length by omega]
   exact h3
  ·rw [List.getElem?_map, List.getElem?_drop] at hx
   obtain ⟨y, hy, rfl⟩ := Option.map_eq_some_iff.1 hx
   rw [Nat.add_assoc, ← Nat.add_mul]
   exact h4 (i + j) _ (by rw [hget, hy]; rfl)
  ·simp; omega
  ·rintro G ⟨S, rfl⟩
   unfold bQ
   rw [bg _ _ h2]
   simp
theorem AStrs.low {H T : List Ob} {w : V} {l : List Str} (h : AStrs (H ++ T) w l) (hl : eF H w) : AStrs H w l := by
 rcases h.sl with ⟨hw, h1⟩ | ⟨id, off, own, cells, hv, h2, h3, h4⟩
 ·exact ASl.ofSl (.inl ⟨hw, h1⟩) h.bound
 ·rw [hv] at hl
  simp only [eF] at hl
  obtain ⟨_, _, _, h0⟩ := hl
  have hid := (List.getElem?_eq_some_iff.1 h0).1
  rw [List.getElem?_append_left hid] at h2
  refine ASl.ofSl (.inr ⟨id, off, own, cells, hv, h2, h3, fun i x hx => ?_⟩) h.bound
  obtain ⟨s, e1, e2, e3⟩ := dw.1 (h4 i x hx)
  exact dw.2 ⟨s, e1, e2, e3⟩
theorem AStrs.gc {H X : List Ob} {w : V} {l : List Str} (h : AStrs (H ++ X) w l) : ∃ T, eY H (H ++ X) w = H ++ T ∧ AStrs (H ++ T) w l := by
 unfold eY
 split
 ·rename_i hc
  exact ⟨[], by simp, by simpa using h.low hc.2⟩
 ·exact ⟨X, rfl, h⟩
theorem AStrs.frame {G G' : List Ob} {w : V} {l : List Str} (h : AStrs G w l) (hf : ∀ q o n, w = .slc (some (q, o)) n → G'[q]? = G[q]?) : AStrs G' w l := by
 rcases h.sl with ⟨hw, h1⟩ | ⟨id, off, own, cells, hv, h2, h3, h4⟩
 ·exact ASl.ofSl (.inl ⟨hw, h1⟩) h.bound
 ·rw [← hf _ _ _ hv] at h2
  refine ASl.ofSl (.inr ⟨id, off, own, cells, hv, h2, h3, fun i x hx => ?_⟩) h.bound
  obtain ⟨s, e1, e2, e3⟩ := dw.1 (h4 i x hx)
  exact dw.2 ⟨s, e1, e2, e3⟩
theorem AStrs.lt {G : List Ob} {w : V} {l : List Str} (h : AStrs G w l) : ∀ q o n, w = .slc (some (q, o)) n → q < G.length := by
 rintro q o n rfl
 rcases h.sl with ⟨hw, h1⟩ | ⟨id, off, own, cells, hv, h2, h3, h4⟩
 ·cases hw
 ·cases hv
  exact (List.getElem?_eq_some_iff.1 h2).1
end Go.Lite
end
section
namespace Go.Proofs.Try1
open Go Go.Lite


theorem Aw {l : List PAttr} {n : Str} (hl : fH l) : fH (aY l n []) := by
 have hp : l.Pairwise fun a b => a.name < b.name := lW (fun j x hx => (hl.1 j x hx).2.1)
 have e : aY l n [] = l.filter (fun a => dec (bG a.name n)) ++ l.filter (fun a => dec (bG n a.name)) := by
  unfold aY
  simp
 rw [e]
 have hpw : (l.filter (fun a => dec (bG a.name n)) ++ l.filter (fun a => dec (bG n a.name))).Pairwise fun a b => a.name < b.name :=
  List.pairwise_append.2 ⟨hp.filter _, hp.filter _, fun a ha b hb => List.lt_trans ((bi _ _).1 (dC.1 (List.mem_filter.1 ha).2)) ((bi _ _).1 (dC.1 (List.mem_filter.1 hb).2))⟩
 refine ⟨fun j x hx => ?_, ?_⟩
 ·have hm : x ∈ l := by
   rcases List.mem_append.1 (List.mem_of_getElem? hx) with h | h
   ·exact (List.mem_filter.1 h).1
   ·exact (List.mem_filter.1 h).1
  obtain ⟨q, hq, rfl⟩ := List.getElem_of_mem hm
  have := hl.1 q _ (List.getElem?_eq_getElem hq)
  exact ⟨this.1, zq hpw hx, this.2.2⟩
 ·have h1 := (um (p := fun a : PAttr => dec (bG a.name n)) (q := fun a => dec (bG n a.name)) (fun x hx => bY (dC.1 hx.1) (dC.1 hx.2)) l).1
  have := hl.2
  simp only [List.length_append]
  omega
theorem JR {e : PEntry} {n : Str} {vs : List Str} (he : EntryOk e) (hn : aF n) (hv : gm vs) (h0 : (fJ e n vs).code = 0) : EntryOk (fJ e n vs).entry := by
 unfold fJ at h0 ⊢
 split at h0
 ·cases h0
 rename_i g1
 rw [if_neg g1]
 refine ⟨he.1, he.2.1, ?_⟩
 show fH (aY e.attrs n (bD vs))
 by_cases hz : vs = []
 ·subst hz
  exact Aw he.2.2
 ·obtain ⟨h1, h2, h3⟩ := rH.1 hv
  refine DZ he.2.2 hn (Dq h1 h2 (List.length_pos_iff.2 hz) h3) fun hh => g1 ⟨hz, hh.2, ?_⟩
  have h4 := hh.1
  unfold valsOf at h4
  cases hf : bT PAttr.name e.attrs n with
  | none => rfl
  | some a =>
   rw [hf] at h4
   obtain ⟨j, hj, rfl⟩ := List.getElem_of_mem (List.mem_of_find?_eq_some hf)
   have := (he.2.2.1 j _ (List.getElem?_eq_getElem hj)).2.2.2.1
   simp only at h4
   rw [h4] at this
   simp at this
end Go.Proofs.Try1
end
section
namespace Go.Proofs.Try1
open Go Go.Lite
attribute [-simp] dH gG
attribute [local simp] dO fV dM dK dL df
attribute [local simp low] dJ
noncomputable def gy (e : PEntry) (n : Str) : List Str := if 8000 < n.length then [] else if dec (EntryOk e) = true then valsOf e.attrs n else []
theorem nM {e : PEntry} {n : Str} (hn : ¬ 8000 < n.length) (he : EntryOk e) : gy e n = valsOf e.attrs n := by unfold gy; rw [if_neg hn, au he, if_pos rfl]
theorem sH {e : PEntry} {n : Str} (hn : 8000 < n.length) : gy e n = [] := by unfold gy; rw [if_pos hn]
theorem uI {e : PEntry} {n : Str} (he : ¬ EntryOk e) : gy e n = [] := by
 unfold gy
 rw [ai he]
 split <;> rfl
theorem uA {G : List Ob} : AStrs G (.slc none 0) [] := aG.2 ⟨_, _, rfl, rfl, by simp, .inl ⟨rfl, rfl⟩⟩
theorem BA {e : PEntry} {n : Str} (he : EntryOk e) : (valsOf e.attrs n).length ≤ 4 := by
 unfold valsOf
 split
 ·rename_i a ha
  obtain ⟨j, hj, rfl⟩ := List.getElem_of_mem (List.mem_of_find?_eq_some ha)
  exact (he.2.2.1 j _ (List.getElem?_eq_getElem hj)).2.2.2.2
 ·simp
theorem vV {H : List Ob} {vd va : V} {e : PEntry} {n : Str} (hd : aX H vd e.dn) (ha : aC H va e.attrs) (hn : n.length ≤ maxLen) : ∃ T w, callW C 18 [.agg [vd, va], .str n] H = some (w, H ++ T) ∧ AStrs (H ++ T) w (gy e n) := by
 suffices hs : Ret C 18 [.agg [vd, va], .str n] H fun q H' => ∃ T, H' = H ++ T ∧ AStrs (H ++ T) q (gy e n) by
  obtain ⟨q, H', hc, T, rfl, hr⟩ := hs
  exact ⟨T, q, hc, hr⟩
 rw [Ry]
 have od := hd.one
 have oa := ha.one
 obtain ⟨HE, hHE⟩ : ∃ HE, HE = H ++ [Ob.mk true 2 [vd, va]] := ⟨_, rfl⟩
 have hgE : HE[H.length]? = some (.mk true 2 [vd, va]) := by rw [hHE]; exact get_last
 have hl : HE.length = H.length + 1 := by rw [hHE]; simp
 have hS : AStrs (HE ++ [.mk true 1 [.str n]]) (.slc (some (HE.length, 0)) 1) [n] := by
  have := (Gs.strs (H := HE) (G := HE ++ [.mk true 1 [.str n]]) (v := .slc (some (HE.length, 0)) [V.str n].length) (l := [n]) ⟨_, HE.length, rfl, by simp, get_last, rfl⟩ (by unfold maxLen; simp) (fun s hs => by simp at hs; subst hs; exact hn)).1
  simpa using this
 have c1 := DN hS
 have ldE : ∀ T : LT, T.many 2 → ∀ r c, loadAt T ⟨r, c, HE ++ [.mk true 1 [.str n]]⟩ (.hp H.length 0) = some (.agg [vd, va]) := rO (l := [vd, va]) (bg _ _ hgE) (by simp) (by decide) (by rfl)
 have c2 := ql (H := HE ++ [.mk true 1 [.str n]]) (by rw [hHE]; exact hd.ext.ext) (by rw [hHE]; exact ha.ext.ext)
 rw [hl] at c1
 subst hHE
 simp at c1 c2 ldE
 by_cases g1 : 8000 < n.length
 ·rw [au (by simpa using g1)] at c1
  rw [sH g1]
  simp [zG, Tryz.f18, od, oa, aV, ay, ak, aB, St.new, aP, ah, c1]
  exact AStrs.gc uA
 rw [ai (by simpa using g1)] at c1
 by_cases g2 : EntryOk e
 rotate_left
 ·rw [ai g2] at c2
  rw [uI g2]
  simp [zG, Tryz.f18, od, oa, aV, ay, ak, aB, St.new, aP, ah, c1, ldE, c2]
  exact AStrs.gc uA
 rw [au g2] at c2
 rw [nM g1 g2]
 obtain ⟨w, c3, hw⟩ := Bi (H := H ++ [.mk true 2 [vd, va]] ++ [.mk true 1 [.str n]]) (t := n) (bg _ _ hgE) ha.ext.ext (by have := g2.2.2.2; omega) (EntryOk.rise g2)
 obtain ⟨T, w', c4, hn4⟩ := Af hw (by have := BA (n := n) g2; omega)
 simp at c3 c4
 simp [zG, Tryz.f18, od, oa, aV, ay, ak, aB, St.new, aP, ah, c1, ldE, c2, c3, c4, hn4.one1]
 have := hn4.at
 simp only [List.append_assoc, List.cons_append, List.nil_append] at this
 exact AStrs.gc this
theorem OM {H T : List Ob} {v v' : V} {l : List PAttr} {t : Str} (h : aC H v l) (ho : cellsOf v' = some [v']) (ho' : aI v' = true) : ∃ w, callW C 100 [.agg [v', v], .str t] (H ++ T) = some (w, H ++ T) ∧ AStrs H w (valsOf l t) := by
 obtain ⟨r, hc, hr⟩ := MV (t := t) (h.ext (T := T)) ho
 suffices hs : Ret C 100 [.agg [v', v], .str t] (H ++ T) fun q H' => AStrs H q (valsOf l t) ∧ H' = H ++ T by
  obtain ⟨q, H', hc, hr, rfl⟩ := hs
  exact ⟨q, hc, hr⟩
 rw [LW]
 rcases hr.pos with ⟨k, a, h1, rfl, h2⟩ | ⟨rfl, h2⟩
 ·obtain ⟨id, o, w, e1, hl, hw, _⟩ := dN h h1
  have l1 := (hl (H ++ T) ⟨T, rfl⟩).2.1
  have hv : valsOf l t = a.vals := by unfold valsOf; rw [h2]
  have hk : ¬ ((k : Int) < 0) := by omega
  simp [qc, Tryz.f100, hc, ho, ho', hk, e1, l1, hv]
  exact hw
 ·have hv : valsOf l t = [] := by unfold valsOf; rw [h2]
  simp [qc, Tryz.f100, hc, ho, ho', hv]
  exact uA
theorem I8 {H : List Ob} {vd va : V} {e : PEntry} {n : Str} (hd : aX H vd e.dn) (ha : aC H va e.attrs) : ∃ T w, callW C 19 [.agg [vd, va], .str n] H = some (w, H ++ T) ∧ AStrs (H ++ T) w (gy e n) := by
 suffices hs : Ret C 19 [.agg [vd, va], .str n] H fun q H' => ∃ T, H' = H ++ T ∧ AStrs (H ++ T) q (gy e n) by
  obtain ⟨q, H', hc, T, rfl, hr⟩ := hs
  exact ⟨T, q, hc, hr⟩
 rw [Rl]
 have od := hd.one
 have oa := ha.one
 have c1 := nS hd ha
 have e0 : AStrs (H ++ [.mk true 1 []]) (.slc (some (H.length, 0)) 0) [] := (Gs.strs (l := []) Gs.init (by simp) (by simp)).1
 by_cases g1 : 8000 < n.length
 ·have g1' : (8000 : Int) < n.length := by omega
  rw [sH g1]
  simp [zC, Tryz.f19, od, oa, ay, ak, aB, St.new, g1']
  exact e0
 have g1' : ¬ (8000 : Int) < n.length := by omega
 by_cases g2 : EntryOk e
 rotate_left
 ·rw [ai g2] at c1
  rw [uI g2]
  simp [zC, Tryz.f19, od, oa, ay, ak, aB, St.new, g1', c1]
  exact e0
 rw [au g2] at c1
 rw [nM g1 g2]
 obtain ⟨w, c2, hw⟩ := OM (T := [.mk true 1 []]) (t := n) ha od.2 od.1
 obtain ⟨wv, T2, a2, n2⟩ := iR (H := H) (d := .str) (by_ := 16) (z := [.str []]) (sz := 1) hw rfl rfl rfl (by decide) (by decide) (by decide) (by have := BA (n := n) g2; unfold ax; omega)
 have hone := n2.one1
 simp [zC, Tryz.f19, od, oa, ay, ak, aB, St.new, g1', c1, c2, a2, hone]
 exact AStrs.gc n2.at
def uQ (e : PEntry) (n v : Str) : Prop := ¬ 8000 < n.length ∧ ¬ 8000 < v.length ∧ EntryOk e ∧ xh e.attrs n (norm v)
theorem Dh {H : List Ob} {vd va : V} {e : PEntry} {n v : Str} (hd : aX H vd e.dn) (ha : aC H va e.attrs) (hn : n.length ≤ maxLen) (hv : v.length ≤ maxLen) : callW C 21 [.agg [vd, va], .str n, .str v] H = some (.bool (dec (uQ e n v)), H) := by
 have od := hd.one
 have oa := ha.one
 obtain ⟨HE, hHE⟩ : ∃ HE, HE = H ++ [Ob.mk true 2 [vd, va]] := ⟨_, rfl⟩
 have hgE : HE[H.length]? = some (.mk true 2 [vd, va]) := by rw [hHE]; exact get_last
 have hl : HE.length = H.length + 1 := by rw [hHE]; simp
 have hS : AStrs (HE ++ [.mk true 1 [.str n, .str v]]) (.slc (some (HE.length, 0)) 2) [n, v] := by
  have := (Gs.strs (H := HE) (G := HE ++ [.mk true 1 [.str n, .str v]]) (v := .slc (some (HE.length, 0)) [V.str n, V.str v].length) (l := [n, v]) ⟨_, HE.length, rfl, by simp, get_last, rfl⟩ (by unfold maxLen; simp) (fun s hs => by simp at hs; rcases hs with rfl | rfl <;> assumption)).1
  simpa using this
 have c1 := DN hS
 have ldE : ∀ T : LT, T.many 2 → ∀ r c, loadAt T ⟨r, c, HE ++ [.mk true 1 [.str n, .str v]]⟩ (.hp H.length 0) = some (.agg [vd, va]) := rO (l := [vd, va]) (bg _ _ hgE) (by simp) (by decide) (by rfl)
 have c2 := ql (H := HE ++ [.mk true 1 [.str n, .str v]]) (by rw [hHE]; exact hd.ext.ext) (by rw [hHE]; exact ha.ext.ext)
 rw [hl] at c1
 subst hHE
 simp at c1 c2 ldE
 have hgb : ∀ X b, eY H (H ++ X) (.bool b) = H := fun X b => qQ
 by_cases g1 : 8000 < n.length ∨ 8000 < v.length
 ·rw [au (by simpa using g1)] at c1
  have hno : ¬ uQ e n v := fun h => by rcases g1 with g | g; exact h.1 g; exact h.2.1 g
  rw [ai hno]
  apply Ret.eq
  rw [ML]
  simp [yI, Tryz.f21, od, oa, aV, ay, ak, aB, St.new, aP, ah, c1, hgb]
 rw [ai (by simpa using g1)] at c1
 by_cases g2 : EntryOk e
 rotate_left
 ·rw [ai g2] at c2
  have hno : ¬ uQ e n v := fun h => g2 h.2.2.1
  rw [ai hno]
  apply Ret.eq
  rw [ML]
  simp [yI, Tryz.f21, od, oa, aV, ay, ak, aB, St.new, aP, ah, c1, ldE, c2, hgb]
 rw [au g2] at c2
 have c3 := Pj (H := H ++ [.mk true 2 [vd, va]] ++ [.mk true 1 [.str n, .str v]]) (t := n) (n := norm v) (bg _ _ hgE) ha.ext.ext (by have := g2.2.2.2; omega) (EntryOk.rise g2)
 have c4 := fun G => ku (t := v) (H := G)
 simp at c3
 have hiff : uQ e n v ↔ xh e.attrs n (norm v) := ⟨fun h => h.2.2.2, fun h => ⟨fun g => g1 (.inl g), fun g => g1 (.inr g), g2, h⟩⟩
 rw [gu hiff]
 apply Ret.eq
 rw [ML]
 simp [yI, Tryz.f21, od, oa, aV, ay, ak, aB, St.new, aP, ah, c1, ldE, c2, c3, c4, hgb]
end Go.Proofs.Try1
end
section
namespace Go.Proofs.Try1
open Go Go.Lite
theorem CE {e : PEntry} {n : Str} {l : List Str} (h0 : (aT e n l).code = 0) : EntryOk e ∧ aF n ∧ gm l ∧ EntryOk (aT e n l).entry ∧ (aT e n l).entry.attrs = aY e.attrs n (bD l) ∧ (aT e n l).entry.dn = e.dn := by
 unfold aT at h0 ⊢
 split at h0
 ·simp [gz] at h0
 rename_i g1
 rw [if_neg g1]
 by_cases g2 : EntryOk e ∧ aF n ∧ gm l
 rotate_left
 ·rw [ai g2] at h0
  simp [gz] at h0
 rw [au g2, if_pos rfl] at h0 ⊢
 refine ⟨g2.1, g2.2.1, g2.2.2, JR g2.1 g2.2.1 g2.2.2 h0, ?_⟩
 unfold fJ at h0 ⊢
 split at h0
 ·simp [gz] at h0
 ·rename_i g3
  rw [if_neg g3]
  exact ⟨rfl, rfl⟩
theorem EW {l : List PAttr} {n : Str} {p : PAttr → Bool} (hp : ∀ a, p a = true → a.name ≠ n) : (l.filter p).find? (fun a => a.name == n) = none := by
 rw [List.find?_eq_none]
 intro a ha
 have := hp a (List.mem_filter.1 ha).2
 simpa using this
theorem oH {l : List PAttr} {n : Str} {vs : List Str} : valsOf (aY l n vs) n = vs := by
 have h1 : (l.filter fun a => dec (bG a.name n)).find? (fun a => a.name == n) = none := EW fun a ha h => by
  rw [h] at ha; exact bC _ (dC.1 ha)
 have h2 : (l.filter fun a => dec (bG n a.name)).find? (fun a => a.name == n) = none := EW fun a ha h => by
  rw [h] at ha; exact bC _ (dC.1 ha)
 unfold valsOf bT aY
 by_cases hv : vs = []
 ·subst hv
  rw [if_pos rfl, List.append_nil, List.find?_append, h1, h2]
  rfl
 ·rw [if_neg hv, List.find?_append, List.find?_append, h1]
  simp
theorem uN {e : PEntry} {n : Str} {vs : List Str} {a : PAttr} (ha : a ∈ e.attrs) (hne : a.name ≠ n) (hok : EntryOk ⟨e.dn, aY e.attrs n vs⟩) : valsOf (aY e.attrs n vs) a.name = a.vals := by
 have hm : a ∈ aY e.attrs n vs := by
  unfold aY
  rw [List.mem_append, List.mem_append]
  by_cases g : bG a.name n
  ·exact .inl (.inl (List.mem_filter.2 ⟨ha, au g⟩))
  ·refine .inr (List.mem_filter.2 ⟨ha, au ?_⟩)
   rcases tN a.name n with h | h | h
   ·exact absurd h g
   ·exact absurd h hne
   ·exact h
 obtain ⟨j, hj, hja⟩ := List.getElem_of_mem hm
 have := oU (key := PAttr.name) (l := aY e.attrs n vs) (EntryOk.rise hok) (by rw [List.getElem?_eq_getElem hj, hja]) rfl
 unfold valsOf
 rw [this]
theorem AV {e : PEntry} {n : Str} {l : List Str} (h0 : (aT e n l).code = 0) (hn : ¬ 8000 < n.length) :
  EntryOk (aT e n l).entry ∧ (gy (aT e n l).entry n).length = l.length ∧ (∀ x ∈ l, uQ (aT e n l).entry n x) ∧ ∀ a ∈ e.attrs, a.name ≠ n → gy (aT e n l).entry a.name = a.vals := by
 obtain ⟨h1, h2, h3, h4, h5, h6⟩ := CE h0
 refine ⟨h4, ?_, fun x hx => ?_, fun a ha hne => ?_⟩
 ·rw [nM hn h4, h5, oH, jS]
 ·obtain ⟨i, hi, rfl⟩ := List.getElem_of_mem hx
  have hv := (h3.1 i _ (List.getElem?_eq_getElem hi)).1
  refine ⟨hn, by have := hv.2.1; omega, h4, ?_⟩
  refine ⟨hv.2.2, l[i], ?_, rfl⟩
  rw [h5, oH]
  exact (jW l).mem_iff.2 hx
 ·have hal : ¬ 8000 < a.name.length := by
   obtain ⟨j, hj, rfl⟩ := List.getElem_of_mem ha
   have := (h1.2.2.1 j _ (List.getElem?_eq_getElem hj)).1.2.1
   omega
  rw [nM hal h4, h5]
  exact uN ha hne (by
   have : (⟨e.dn, aY e.attrs n (bD l)⟩ : PEntry) = (aT e n l).entry := by rw [← h5, ← h6]
   rw [this]; exact h4)
end Go.Proofs.Try1
end
section
namespace Go.Proofs.Try1
open Go Go.Lite
attribute [-simp] dH gG
attribute [local simp] dO fV dM dK dL df
attribute [local simp low] dJ
theorem BU {H : List Ob} {v v' : V} {us us' : List U} (hv : At H (.slice (.int .u8)) [v] (.lst us)) (hv' : At H (.slice (.int .u8)) [v'] (.lst us')) : Ret C 3 [v, v'] H fun r _ => r = .bool true := by
 have hA : ASl H (.int .u8) (fun u => u) v us := by unfold ASl; simpa using hv
 have hA' : ASl H (.int .u8) (fun u => u) v' us' := by unfold ASl; simpa using hv'
 have o1 := hA.one
 have o2 := hA'.one
 rw [UD]
 by_cases g1 : 1048576 < us.length
 ·have g1' : (1048576 : Int) < us.length := by omega
  simp [BG, Tryz.f3, o1, o2, hA.len, g1']
 have g1' : ¬ (1048576 : Int) < us.length := by omega
 by_cases g2 : 1048576 < us'.length
 ·have g2' : (1048576 : Int) < us'.length := by omega
  simp [BG, Tryz.f3, o1, o2, hA.len, hA'.len, g1', g2']
 have g2' : ¬ (1048576 : Int) < us'.length := by omega
 obtain ⟨T1, w1, w2, e, s, w, l, c1, a1, a2, hs, a3⟩ := FO hv
 have hsn : ¬ 8000 < s.length := by omega
 have p1 := a1.one
 have p2 := a2.one
 have p3 := a3.one
 obtain ⟨q, H', c2, T2, x1, x2, rfl, rfl, hx⟩ := Gw a1 a2 (n := s) (by unfold maxLen; omega) a3
 obtain ⟨_, _, hcs, b1, b2, hwf⟩ := dS.1 hx.at
 cases hcs
 have p4 := b1.one
 have p5 := b2.one
 obtain ⟨T3, y1, y2, y3, y4, ea, eb, c3, d1, d2, d3, d4⟩ := BQ (H := H ++ T1 ++ T2) hv'.ext.ext
 have p6 := d1.one
 have p7 := d2.one
 have p8 := d3.one
 have p9 := d4.one
 obtain ⟨T4, z1, z2, ef, sf, c4, e1, e2, hsf⟩ := Hm (H := H ++ T1 ++ T2 ++ T3) hv'.ext.ext.ext
 have p10 := e1.one
 have p11 := e2.one
 obtain ⟨q, H', c5, T5, u1, u2, rfl, rfl, hat, _⟩ := FP (H := H ++ T1 ++ T2 ++ T3 ++ T4) a1.ext.ext.ext a2.ext.ext.ext (n := s) (by unfold maxLen; omega) a3.ext.ext.ext
 obtain ⟨_, _, hcs, f1, f2, _⟩ := dS.1 hat
 cases hcs
 have p12 := f1.one
 have p13 := f2.one
 have c6 := BP (H := H ++ T1 ++ T2 ++ T3 ++ T4 ++ T5) (a := aT e s l) (b := aT e s l) b1.ext.ext.ext b2.ext.ext.ext f1 f2
 rw [au rfl] at c6
 have c7 := su (H := H ++ T1 ++ T2 ++ T3 ++ T4 ++ T5) (a := ea) (b := eb) d1.ext.ext d2.ext.ext d3.ext.ext d4.ext.ext
 have c8 := zU (H := H ++ T1 ++ T2 ++ T3 ++ T4 ++ T5) (a := ea) (b := eb) d1.ext.ext d2.ext.ext d3.ext.ext d4.ext.ext
 have c9 := su (H := H ++ T1 ++ T2 ++ T3 ++ T4 ++ T5) (a := eb) (b := ea) d3.ext.ext d4.ext.ext d1.ext.ext d2.ext.ext
 rw [gu SameOk.comm] at c9
 generalize dec (SameOk ea eb) = bs at c7 c8 c9
 obtain ⟨T6, w6, c10, h6⟩ := vV (H := H ++ T1 ++ T2 ++ T3 ++ T4 ++ T5) (e := ef) (n := sf) e1.ext e2.ext (by unfold maxLen; omega)
 obtain ⟨T7, w7, c11, h7⟩ := I8 (H := H ++ T1 ++ T2 ++ T3 ++ T4 ++ T5 ++ T6) (e := ef) (n := sf) e1.ext.ext e2.ext.ext
 have c12 := uk h6.ext h7
 rw [au rfl] at c12
 by_cases g3 : (aT e s l).code = 0
 rotate_left
 ·simp only [List.append_assoc] at c1 c2 c3 c4 c5 c6 c7 c8 c9 c10 c11 c12
  simp [BG, Tryz.f3, o1, o2, hA.len, hA'.len, g1', g2', ay, ak, aB, St.new, aP, ah, ae, ag, List.lookup, c1, c2, c3, c4, c5, c6, c7, c8, c9, c10, c11, c12, p1, p2, p3, p4, p5, p6, p7, p8, p9, p10, p11, p12, p13, g3]
 obtain ⟨L1, L2, L3, L4⟩ := AV g3 hsn
 have m1 := b1.ext (T := T3) |>.ext (T := T4) |>.ext (T := T5) |>.ext (T := T6) |>.ext (T := T7)
 have m2 := b2.ext (T := T3) |>.ext (T := T4) |>.ext (T := T5) |>.ext (T := T6) |>.ext (T := T7)
 obtain ⟨T8, w8, c13, h8⟩ := vV (H := H ++ T1 ++ T2 ++ T3 ++ T4 ++ T5 ++ T6 ++ T7) (e := (aT e s l).entry) (n := s) m1 m2 (by unfold maxLen; omega)
 have p14 := h8.one
 have c14 := nS (H := H ++ T1 ++ T2 ++ T3 ++ T4 ++ T5 ++ T6 ++ T7 ++ T8) m1.ext m2.ext
 rw [au L1] at c14
 have hl1 : ((gy (aT e s l).entry s).length : Int) = l.length := by rw [L2]
 have m3 := m1.ext (T := T8)
 have m4 := m2.ext (T := T8)
 have m5 := a2.ext (T := T2) |>.ext (T := T3) |>.ext (T := T4) |>.ext (T := T5) |>.ext (T := T6) |>.ext (T := T7) |>.ext (T := T8)
 have m6 := a3.ext (T := T2) |>.ext (T := T3) |>.ext (T := T4) |>.ext (T := T5) |>.ext (T := T6) |>.ext (T := T7) |>.ext (T := T8)
 have hll := h8.len (e := 9) (s := 1) (b := 24) (z := [.slc none 0])
 simp only [List.append_assoc] at c1 c2 c3 c4 c5 c6 c7 c8 c9 c10 c11 c12 c13 c14 m3 m4 m5 m6
 rw [g3] at c2 c5 c6
 simp [BG, Tryz.f3, o1, o2, hA.len, hA'.len, g1', g2', ay, ak, aB, St.new, aP, ah, ae, ag, List.lookup, c1, c2, c3, c4, c5, c6, c7, c8, c9, c10, c11, c12, c13, c14, p1, p2, p3, p4, p5, p6, p7, p8, p9, p10, p11, p12, p13, p14, g3, h8.len, a3.len, L2]
 clear c1 c2 c3 c4 c5 c6 c7 c8 c9 c10 c11 c12 c13 c14 p6 p7 p8 p9 p10 p11 p12 p13 p14
 generalize H ++ (T1 ++ (T2 ++ (T3 ++ (T4 ++ (T5 ++ (T6 ++ (T7 ++ T8))))))) = G at m3 m4 m5 m6 ⊢
 have hlb := m6.bound
 have heb := m5.bound
 unfold maxLen at hlb heb
 refine WP.mono (Q := fun ex σ' => ex = .exit 0 ∧ ∃ (r : Nat → R) (n : Nat), σ' = ⟨r, n, G⟩ ∧ (∃ c, r 5 = .box c [w1, w2]) ∧ r 6 = .val (.str s) ∧ ∃ c, r 8 = .box c [x1, x2, .int .i64 0]) ?_ ?_
 ·refine aH (fun k σ => ∃ (i : Nat) (r : Nat → R) (n : Nat), i + k = l.length ∧ σ = ⟨r, n, G⟩ ∧ (∃ c, r 5 = .box c [w1, w2]) ∧ r 6 = .val (.str s) ∧ r 7 = .val w ∧ (∃ c, r 8 = .box c [x1, x2, .int .i64 0]) ∧ r 14 = .val (.int .i64 i)) ?_ l.length _ ⟨0, _, _, by simp, rfl, ⟨_, by simp; rfl⟩, by simp, by simp, ⟨_, by simp; rfl⟩, by simp⟩
  rintro k σ ⟨i, r, n, hik, rfl, ⟨cc, r5⟩, r6, r7, ⟨cd, r8⟩, r14⟩
  cases k with
  | zero =>
   have hi : i = l.length := by omega
   subst hi
   simp [r5, r6, r7, r8, r14, m6.len, ae, ag, List.lookup]
  | succ k =>
   have hi : i < l.length := by omega
   obtain ⟨x, hx⟩ : ∃ c, l[i]? = some c := ⟨l[i], by simp [hi]⟩
   have hw : IntKind.i64.wrap ((i : Int) + 1) = ((i : Int) + 1) := wrap_i64 (by omega) (by omega)
   obtain ⟨id, o, k1, l0, hxl⟩ := cZ m6 hx
   have cv := Dh m3 m4 (n := s) (v := x) (by unfold maxLen; omega) (AStrs.max m6 x (List.mem_of_getElem? hx))
   rw [au (L3 x (List.mem_of_getElem? hx))] at cv
   simp [r5, r6, r7, r8, r14, m6.len, hi, hw, k1, l0, cv, p4, p5, ae, ag, List.lookup]
   exact ⟨k, by omega, i + 1, by omega, by omega⟩
 ·rintro ex σ' ⟨rfl, r, n, rfl, ⟨cc, r5⟩, r6, ⟨cd, r8⟩⟩
  simp [r5, r6, r8, ae, ag, List.lookup]
  refine aH (fun k σ => ∃ (i : Nat) (r : Nat → R) (n : Nat) (T : List Ob), i + k = e.attrs.length ∧ σ = ⟨r, n, G ++ T⟩ ∧ (∃ c, r 5 = .box c [w1, w2]) ∧ r 6 = .val (.str s) ∧ (∃ c, r 8 = .box c [x1, x2, .int .i64 0]) ∧ r 15 = .val (.int .i64 i)) ?_ e.attrs.length _ ⟨0, _, _, [], by simp, by rw [List.append_nil], ⟨_, by simp [r5]; rfl⟩, by simp [r6], ⟨_, by simp [r8]; rfl⟩, by simp⟩
  clear r5 r6 r8 r n
  rintro k σ ⟨i, r, n, T, hik, rfl, ⟨cc, r5⟩, r6, ⟨cd, r8⟩, r15⟩
  cases k with
  | zero =>
   have hi : i = e.attrs.length := by omega
   subst hi
   simp [r5, r6, r8, r15, m5.len, ae, ag, List.lookup]
  | succ k =>
   have hi : i < e.attrs.length := by omega
   obtain ⟨x, hx⟩ : ∃ c, e.attrs[i]? = some c := ⟨e.attrs[i], by simp [hi]⟩
   have hxm := List.mem_of_getElem? hx
   have hw : IntKind.i64.wrap ((i : Int) + 1) = ((i : Int) + 1) := wrap_i64 (by omega) (by omega)
   obtain ⟨id, o, u, k1, kl, hu, hnl, hidl, _⟩ := dN m5 hx
   have l0 := (kl (G ++ T) ⟨T, rfl⟩).1
   have l1 := (kl (G ++ T) ⟨T, rfl⟩).2.1
   have pu := hu.one
   by_cases g4 : x.name = s
   ·simp [r5, r6, r8, r15, m5.len, hi, hw, k1, l0, g4, ae, ag, List.lookup]
    exact ⟨k, by omega, i + 1, by omega, by omega⟩
   ·obtain ⟨T', w', ca, h'⟩ := vV (H := G ++ T) (e := (aT e s l).entry) (n := x.name) m3.ext m4.ext hnl
    rw [L4 x hxm g4] at h'
    have ct := uk h' ((hu.ext (T := T)).ext (T := T'))
    rw [au rfl] at ct
    have hkp : Keep (G.length + T.length) (G ++ T) (G ++ (T ++ T')) := by
     rw [← List.append_assoc, ← List.length_append]; exact kV (Nat.le_refl _)
    have hidl' : id < G.length + T.length := by omega
    have l1' := (kl (G ++ (T ++ T')) ⟨_, rfl⟩).2.1
    simp only [List.append_assoc] at ca ct
    simp [r5, r6, r8, r15, m5.len, hi, hw, k1, l0, l1, l1', g4, ca, ct, hkp, hidl', p4, p5, h'.one, pu, ae, ag, List.lookup]
    exact ⟨k, by omega, i + 1, by omega, by omega⟩
theorem lawFnAttr {H : List Ob} {vs : List V} {xs : List D} (h : IsArgs H [.slice (.int .u8), .slice (.int .u8)] vs xs) : ∃ H', callW C 3 vs H = some (.bool true, H') := by
 rcases vs with _ | ⟨v1, _ | ⟨v2, _ | ⟨v3, vs⟩⟩⟩ <;> rcases xs with _ | ⟨d1, _ | ⟨d2, _ | ⟨d3, xs⟩⟩⟩ <;> first | (exfalso; simp [IsArgs] at h; done) | skip
 obtain ⟨⟨cs1, e1, l1, i1⟩, ⟨cs2, e2, l2, i2⟩, _⟩ := h
 subst e1; subst e2
 have h1 := Is.at _ i1
 have h2 := Is.at _ i2
 obtain ⟨v, us, rfl, hu, _⟩ := aG.1 h1
 obtain ⟨v', us', rfl, hu', _⟩ := aG.1 h2
 rw [hu] at h1
 rw [hu'] at h2
 obtain ⟨r, H', hc, rfl⟩ := BU h1 h2
 exact ⟨H', hc⟩
end Go.Proofs.Try1
end
section
namespace Go.Lite
open Go
variable [Draws]
theorem VL.one {μ : Mu} {v : V} {us : Array Value} (h : VL μ [v] us.toList) : ∃ u, us = #[u] ∧ VR μ v u := by
 have hl := h.length
 match us, hl, h with
 | ⟨[u]⟩, _, h => exact ⟨u, rfl, h.get 0 v u rfl rfl⟩
theorem VL.two {μ : Mu} {v v' : V} {us : Array Value} (h : VL μ [v, v'] us.toList) : ∃ u u', us = #[u, u'] ∧ VR μ v u ∧ VR μ v' u' := by
 have hl := h.length
 match us, hl, h with
 | ⟨[u, u']⟩, _, h => exact ⟨u, u', rfl, h.get 0 v u rfl rfl, h.get 1 v' u' rfl rfl⟩
theorem Dy {P : Program} {g : FuncId} {fn : Func} (hf : P.funcs[g]? = some fn) (hname : (fn.name == "runtime.NumGoroutine") = false) (hb : fn.body.isNone = true) (hn : Extern.findNext fn = none) (he : Extern.find fn = some Extern.BytealgCompare.compare) : jB P g mP := by
 intro args H r H' h μ w us hs hv
 unfold mP at h
 split at h
 ·rename_i a b
  cases h
  obtain ⟨u, u', rfl, h1, h2⟩ := hv.two
  obtain ⟨x, rfl, rfl⟩ := h1.str_inv
  obtain ⟨y, rfl, rfl⟩ := h2.str_inv
  refine .inl ⟨.int .i64 (Lib.compareBytes x.data.toList y.data.toList), w, ?_, μ, .refl hs, .int _ _⟩
  rw [run_callFunc_extern hf hname hb hn he, Lib.run_compareString]
  rfl
 ·cases h
theorem uJ : ∀ {cs : List V} {l : List (List UInt8)}, strsOf cs = some l → cs = l.map V.str
 | [], l, h => by cases h; rfl
 | c :: cs, l, h => by
  unfold strsOf at h
  split at h
  ·rename_i he; cases he
  ·rename_i s vs he
   cases he
   split at h
   ·rename_i l' hl
    cases h
    rw [List.map_cons, ← uJ hl]
   ·cases h
  ·cases h
theorem D7 {cells l : List V} {o n : Nat} (h : (cells.drop o).take n = l) {j : Nat} (hj : j < n) : cells[o + j]? = l[j]? := by
 subst h
 rw [List.getElem?_take_of_lt hj, List.getElem?_drop]
theorem HGoes.garbage {H : List Ob} {μ : Mu} {w : World} (h : HSim H μ w) (n : Nat) (os : Array Obj) : HGoes H μ w H μ (Sort.grow (Sort.ahead w n) os) := by
 have hsame : ∀ b, b < w.heap.size → (Sort.grow (Sort.ahead w n) os).heap[b]? = w.heap[b]? := fun b hb => by
  show (w.heap ++ os)[b]? = _
  rw [Array.getElem?_append_left hb]
 have hsz : w.heap.size ≤ (Sort.grow (Sort.ahead w n) os).heap.size := by
  show _ ≤ (w.heap ++ os).size
  rw [Array.size_append]; omega
 exact ⟨h.world (fun id o m h1 h2 h3 => .of_heap (hsame _ (jG h id o m h1 h2 h3))) hsz, μ.le_refl, ⟨hsz, fun b hb _ => hsame b hb, fun b hb => .inl hb, rfl, rfl, rfl, fun _ => Nat.le_add_right _ _⟩, Lives.refl _ _ _⟩
theorem yZ {w : World} {blk off : Nat} {d d' : Array (List UInt8)} (h0 : Sort.Holds Go.Proofs.encStr w blk off d) (hs : d'.size = d.size) : Wrote w (Sort.putRow Go.Proofs.encStr w blk off d') blk off (d'.toList.map Go.Proofs.encStr) where
 size := by simp
 os := rfl
 tape := rfl
 drawn := rfl
 output := rfl
 other b' hb := by
  show (w.heap.modify blk _)[b']? = _
  rw [Array.getElem?_modify, if_neg (fun e => hb e.symm)]
 cell j := by
  rw [List.length_map, Array.length_toList]
  split
  ·rename_i hj
   have := Sort.cell?_putRow Go.Proofs.encStr w blk off d d' h0 hs (j - off) (by omega)
   rw [show off + (j - off) = j by omega] at this
   rw [this, List.getElem?_map, Array.getElem?_toList, Array.getElem?_eq_getElem (by omega), getElem!_pos d' (j - off) (by omega)]
   rfl
  ·rename_i hj
   exact Sort.cell?_putRow_other Go.Proofs.encStr w blk off d' ⟨blk, j, none⟩ (by simp only; omega)
 frozen j := by simp
end Go.Lite
end
section
namespace Go.Proofs.Try1
open Go Go.Lite
theorem HY [Draws] : jB Tryz.prog 314 mP :=
 Dy Tryz.func314 (by kernel_rfl) (by kernel_rfl) rfl rfl
theorem enters {g : Nat} {fn : Func} (h1 : Tryz.prog.funcs[g]? = some fn) (h2 : (fn.name == "runtime.NumGoroutine") = false) (h3 : fn.body.isNone = false) (us : Array Value) (w : World) : (callFunc g us).run Tryz.prog w = .ok (.enter g us) w := by
 simp [callFunc, h1, (by simpa using h2 : ¬ fn.name = "runtime.NumGoroutine")]
 intro hb
 rw [hb] at h3
 cases h3
end Go.Proofs.Try1
end
section
namespace Go.Proofs.Try0
open Go Go.Lite
def locTab : List (Nat × List Nat) := [(141, [3, 5])]
def ordTab : List (Nat × List (Nat × Hint)) := [(141, [(4, ⟨[0, 1, 2, 3, 4, 5, 6, 7, 8, 9, 10], [], [], [(0, 3), (2, 5), (6, 5), (10, 3)], [], [], []⟩)])]
def fids : List Nat := [36, 93, 122, 123, 179, 185, 187, 212, 238, 249, 264, 270, 294]
noncomputable def primTab : Nat → Option (List V → List Ob → Option (V × List Ob)) := fun f => if f = 314 then some mP else none
noncomputable def tabs : Tabs := { locs := fun f => (locTab.lookup f).getD [], ord := fun f id => ((ordTab.lookup f).getD []).lookup id, prim := primTab, fids := fids }
theorem mixed : Tryz.prog.follows .mixedOrders = true := rfl
theorem ok : Iq Tryz.prog tabs = true := by decide +kernel
end Go.Proofs.Try0
end
section
namespace Go.Proofs.Try0
open Go Go.Lite
noncomputable def C : Ctx := ctxOf Tryz.prog tabs
set_option maxRecDepth 20000
variable {a : List V} {H : List Ob} {R : V → List Ob → Prop}
@[simp] theorem UC : C.ty 3 = ⟨.int .i64, 1, 8, [.int .i64 0]⟩ := by kernel_rfl
@[simp] theorem UF : C.ty 4 = ⟨.bool, 1, 1, [.bool false]⟩ := by kernel_rfl
@[simp] theorem Uw : C.ty 5 = ⟨.int .u8, 1, 1, [.int .u8 0]⟩ := by kernel_rfl
@[simp] theorem Ut : C.ty 9 = ⟨.str, 1, 16, [.str []]⟩ := by kernel_rfl
@[simp] theorem RD : C.ty 22 = ⟨.slice 5, 1, 24, [.slc none 0]⟩ := by kernel_rfl
@[simp] theorem SB : C.ty 23 = ⟨.slice 89, 1, 24, [.slc none 0]⟩ := by kernel_rfl
@[simp] theorem RX : C.ty 89 = ⟨.struct [(0, 9), (1, 9)], 2, 32, [.str [], .str []]⟩ := by kernel_rfl
noncomputable def mQ := Tryz.f36.body.getD .skip
theorem Nv : Ret C 36 a H R ↔ WP C 36 mQ ⟨af a, 0, H⟩ (aK C Tryz.f36 H R) := aj rfl (by kernel_rfl) Tryz.func36 rfl
@[simp] theorem Nz : C.locs 36 = [] := by kernel_rfl
noncomputable def l9 := Tryz.f93.body.getD .skip
theorem Nc : Ret C 93 a H R ↔ WP C 93 l9 ⟨af a, 0, H⟩ (aK C Tryz.f93 H R) := aj rfl (by kernel_rfl) Tryz.func93 rfl
@[simp] theorem Na : C.locs 93 = [] := by kernel_rfl
noncomputable def qA := Tryz.f122.body.getD .skip
theorem IL : Ret C 122 a H R ↔ WP C 122 qA ⟨af a, 0, H⟩ (aK C Tryz.f122 H R) := aj rfl (by kernel_rfl) Tryz.func122 rfl
@[simp] theorem LC : C.locs 122 = [] := by kernel_rfl
noncomputable def qR := Tryz.f123.body.getD .skip
theorem Ip : Ret C 123 a H R ↔ WP C 123 qR ⟨af a, 0, H⟩ (aK C Tryz.f123 H R) := aj rfl (by kernel_rfl) Tryz.func123 rfl
@[simp] theorem KI : C.locs 123 = [] := by kernel_rfl
noncomputable def pW := Tryz.f179.body.getD .skip
theorem JB : Ret C 179 a H R ↔ WP C 179 pW ⟨af a, 0, H⟩ (aK C Tryz.f179 H R) := aj rfl (by kernel_rfl) Tryz.func179 rfl
@[simp] theorem KG : C.locs 179 = [] := by kernel_rfl
noncomputable def iQ := Tryz.f185.body.getD .skip
theorem IR : Ret C 185 a H R ↔ WP C 185 iQ ⟨af a, 0, H⟩ (aK C Tryz.f185 H R) := aj rfl (by kernel_rfl) Tryz.func185 rfl
@[simp] theorem J9 : C.locs 185 = [] := by kernel_rfl
noncomputable def jJ := Tryz.f187.body.getD .skip
theorem Jn : Ret C 187 a H R ↔ WP C 187 jJ ⟨af a, 0, H⟩ (aK C Tryz.f187 H R) := aj rfl (by kernel_rfl) Tryz.func187 rfl
@[simp] theorem J7 : C.locs 187 = [] := by kernel_rfl
noncomputable def mG := Tryz.f212.body.getD .skip
theorem IK : Ret C 212 a H R ↔ WP C 212 mG ⟨af a, 0, H⟩ (aK C Tryz.f212 H R) := aj rfl (by kernel_rfl) Tryz.func212 rfl
@[simp] theorem Ko : C.locs 212 = [] := by kernel_rfl
noncomputable def iL := Tryz.f238.body.getD .skip
theorem IU : Ret C 238 a H R ↔ WP C 238 iL ⟨af a, 0, H⟩ (aK C Tryz.f238 H R) := aj rfl (by kernel_rfl) Tryz.func238 rfl
@[simp] theorem Kq : C.locs 238 = [] := by kernel_rfl
noncomputable def pY := Tryz.f249.body.getD .skip
theorem JC : Ret C 249 a H R ↔ WP C 249 pY ⟨af a, 0, H⟩ (aK C Tryz.f249 H R) := aj rfl (by kernel_rfl) Tryz.func249 rfl
@[simp] theorem KX : C.locs 249 = [] := by kernel_rfl
noncomputable def qG := Tryz.f264.body.getD .skip
theorem Jy : Ret C 264 a H R ↔ WP C 264 qG ⟨af a, 0, H⟩ (aK C Tryz.f264 H R) := aj rfl (by kernel_rfl) Tryz.func264 rfl
@[simp] theorem Lt : C.locs 264 = [] := by kernel_rfl
noncomputable def jE := Tryz.f270.body.getD .skip
theorem I7 : Ret C 270 a H R ↔ WP C 270 jE ⟨af a, 0, H⟩ (aK C Tryz.f270 H R) := aj rfl (by kernel_rfl) Tryz.func270 rfl
@[simp] theorem Lm : C.locs 270 = [] := by kernel_rfl
noncomputable def qU := Tryz.f294.body.getD .skip
theorem Jg : Ret C 294 a H R ↔ WP C 294 qU ⟨af a, 0, H⟩ (aK C Tryz.f294 H R) := aj rfl (by kernel_rfl) Tryz.func294 rfl
@[simp] theorem KE : C.locs 294 = [] := by kernel_rfl
noncomputable def EX := Tryz.f141.body.getD .skip
@[simp] theorem Qy : C.locs 141 = [3, 5] := by kernel_rfl
@[simp] theorem Ol : C.ord 141 4 = some ⟨[0, 1, 2, 3, 4, 5, 6, 7, 8, 9, 10], [], [], [(0, 3), (2, 5), (6, 5), (10, 3)], [], [], []⟩ := by kernel_rfl
end Go.Proofs.Try0
end
section
namespace Go.Proofs.Try0
open Go Go.Lite
theorem yR {t : Str} {H : List Ob} (ht : t.length ≤ 1000) : callW C 264 [.str t] H = some (.bool (dec (Plain t)), H) := by
 apply Ret.dec
 rw [Jy]
 simp [qG, Tryz.f264]
 refine aH (fun k σ => ∃ (i : Nat) (r : Nat → R), i + k = t.length ∧ σ = ⟨r, 0, H⟩ ∧ r 0 = .val (.str t) ∧ r 3 = .val (.int .i64 i) ∧ ∀ j, j < i → ∀ c, t[j]? = some c → jA c) ?_ t.length _ ⟨0, _, by simp, rfl, by simp, by simp, by simp⟩
 rintro k σ ⟨i, r, hik, rfl, r0, r3, hall⟩
 cases k with
 | zero =>
  have hi : i = t.length := by omega
  subst hi
  simp [r0, r3]
  intro j c hc
  exact hall j (List.getElem?_eq_some_iff.1 hc).1 c hc
 | succ k =>
  have hi : i < t.length := by omega
  obtain ⟨c, hc⟩ : ∃ c, t[i]? = some c := ⟨t[i], by simp [hi]⟩
  have hc' : t[i] = c := (List.getElem?_eq_some_iff.1 hc).2
  have hw : IntKind.i64.wrap ((i : Int) + 1) = ((i : Int) + 1) := wrap_i64 (by omega) (by omega)
  by_cases h1 : (c.toNat : Int) < 32
  ·simp [r0, r3, hi, hc', h1]
   intro hp
   have := (hp i c hc).1
   omega
  ·by_cases h2 : (c.toNat : Int) > 126
   ·simp [r0, r3, hi, hc', h1, h2]
    intro hp
    have := (hp i c hc).2
    omega
   ·simp [r0, r3, hi, hc', h1, h2, hw]
    exact ⟨k, by omega, i + 1, by omega, by omega, lY (P := fun _ c => jA c) hall hc ⟨by omega, by omega⟩⟩
theorem zM {t : Str} {H : List Ob} (ht : t.length ≤ 1000) : callW C 122 [.str t] H = some (.bool (dec (Plain t)), H) := by
 apply Ret.dec
 rw [IL]
 simp [qA, Tryz.f122]
 refine aH (fun k σ => ∃ (i : Nat) (r : Nat → R), i + k = t.length ∧ σ = ⟨r, 0, H⟩ ∧ r 0 = .val (.str t) ∧ r 5 = .val (.int .i64 t.length) ∧ r 6 = .val (.int .i64 i) ∧ ∀ j, j < i → ∀ c, t[j]? = some c → jA c) ?_ t.length _ ⟨0, _, by simp, rfl, by simp, by simp, by simp, by simp⟩
 rintro k σ ⟨i, r, hik, rfl, r0, r5, r6, hall⟩
 cases k with
 | zero =>
  have hi : i = t.length := by omega
  subst hi
  simp [r0, r5, r6]
  intro j c hc
  exact hall j (List.getElem?_eq_some_iff.1 hc).1 c hc
 | succ k =>
  have hi : i < t.length := by omega
  obtain ⟨c, hc⟩ : ∃ c, t[i]? = some c := ⟨t[i], by simp [hi]⟩
  have hc' : t[i] = c := (List.getElem?_eq_some_iff.1 hc).2
  have hw : IntKind.i64.wrap ((i : Int) + 1) = ((i : Int) + 1) := wrap_i64 (by omega) (by omega)
  by_cases h1 : (c.toNat : Int) < 32
  ·simp [r0, r5, r6, hi, hc', h1]
   intro hp
   have := (hp i c hc).1
   omega
  ·by_cases h2 : (c.toNat : Int) > 126
   ·simp [r0, r5, r6, hi, hc', h1, h2]
    intro hp
    have := (hp i c hc).2
    omega
   ·simp [r0, r5, r6, hi, hc', h1, h2, hw]
    exact ⟨k, by omega, i + 1, by omega, by omega, lY (P := fun _ c => jA c) hall hc ⟨by omega, by omega⟩⟩
theorem uX {t : Str} {H : List Ob} : callW C 93 [.str t] H = some (.bool (dec (aF t)), H) := by
 apply Ret.dec
 rw [Nc]
 by_cases g1 : (t.length : Int) < 1
 ·have g2 : ¬ aF t := fun h => by have := h.1; omega
  simp [l9, Tryz.f93, g1, g2]
 by_cases g2 : (t.length : Int) > 20
 ·have g3 : ¬ aF t := fun h => by have := h.2.1; omega
  simp [l9, Tryz.f93, g1, g2, g3]
 simp [l9, Tryz.f93, g1, g2]
 refine aH (fun k σ => ∃ (i : Nat) (r : Nat → R), i + k = t.length ∧ σ = ⟨r, 0, H⟩ ∧ r 0 = .val (.str t) ∧ r 3 = .val (.int .i64 i) ∧ ∀ j, j < i → ∀ c, t[j]? = some c → mZ c ∨ (0 < j ∧ (mV c ∨ c.toNat = 95))) ?_ t.length _ ⟨0, _, by simp, rfl, by simp, by simp, by simp⟩
 rintro k σ ⟨i, r, hik, rfl, r0, r3, hall⟩
 cases k with
 | zero =>
  have hi : i = t.length := by omega
  subst hi
  have hok : aF t := ⟨by omega, by omega, fun j c hc => hall j (List.getElem?_eq_some_iff.1 hc).1 c hc⟩
  simp [r0, r3, hok]
 | succ k =>
  have hi : i < t.length := by omega
  obtain ⟨c, hc⟩ : ∃ c, t[i]? = some c := ⟨t[i], by simp [hi]⟩
  have hc' : t[i] = c := (List.getElem?_eq_some_iff.1 hc).2
  have hw : IntKind.i64.wrap ((i : Int) + 1) = ((i : Int) + 1) := wrap_i64 (by omega) (by omega)
  have hgo : mZ c ∨ (0 < i ∧ (mV c ∨ c.toNat = 95)) → ∃ k', k' < k + 1 ∧ ∃ i', i' + k' = t.length ∧ (i : Int) + 1 = i' ∧ ∀ j, j < i' → ∀ c, t[j]? = some c → mZ c ∨ (0 < j ∧ (mV c ∨ c.toNat = 95)) := fun h =>
   ⟨k, by omega, i + 1, by omega, by omega, lY (P := fun j c => mZ c ∨ (0 < j ∧ (mV c ∨ c.toNat = 95))) hall hc h⟩
  by_cases h1 : mZ c
  ·have h1a : (c.toNat : Int) ≥ 97 := by have := h1.1; omega
   have h1b : (c.toNat : Int) ≤ 122 := by have := h1.2; omega
   simp [r0, r3, hi, hc', h1a, h1b, hw]
   exact hgo (.inl h1)
  have hl : (¬ (c.toNat : Int) ≥ 97) ∨ ((c.toNat : Int) ≥ 97 ∧ ¬ (c.toNat : Int) ≤ 122) := by unfold mZ at h1; omega
  have hno : ¬ (0 < i ∧ (mV c ∨ c.toNat = 95)) → ¬ aF t := fun h hk => (hk.2.2 i c hc).elim h1 h
  by_cases h2 : i = 0
  ·have hno := hno (by omega)
   subst h2
   rcases hl with hl | ⟨hl, hl2⟩
   ·simp [r0, r3, hi, hc', hl, hno]
   ·simp [r0, r3, hi, hc', hl, hl2, hno]
  have h2' : ¬ (i : Int) = 0 := by omega
  by_cases h3 : mV c
  ·have h3a : (c.toNat : Int) ≥ 48 := by have := h3.1; omega
   have h3b : (c.toNat : Int) ≤ 57 := by have := h3.2; omega
   have h3c : ¬ (c.toNat : Int) ≥ 97 := by omega
   simp [r0, r3, hi, hc', h2, h3a, h3b, h3c, hw]
   exact hgo (.inr ⟨by omega, .inl h3⟩)
  have hd : (¬ (c.toNat : Int) ≥ 48) ∨ ((c.toNat : Int) ≥ 48 ∧ ¬ (c.toNat : Int) ≤ 57) := by unfold mV at h3; omega
  by_cases h4 : c.toNat = 95
  ·have := hgo (.inr ⟨by omega, .inr h4⟩)
   simp [r0, r3, hi, hc', h2, h4, hw]
   exact this
  ·have h4' : ¬ (c.toNat : Int) = 95 := by omega
   have hno := hno (fun h => h.2.elim h3 h4)
   rcases hl with hl | ⟨hl, hl2⟩ <;> rcases hd with hd | ⟨hd, hd2⟩
   ·simp [r0, r3, hi, hc', h2, h4', hl, hd, hno]
   ·simp [r0, r3, hi, hc', h2, h4', hl, hd, hd2, hno]
   ·simp [r0, r3, hi, hc', h2, h4', hl, hl2, hd, hno]
   ·simp [r0, r3, hi, hc', h2, h4', hl, hl2, hd, hd2, hno]
theorem qB {c : UInt8} (h1 : 65 ≤ c.toNat) (h2 : c.toNat ≤ 90) : IntKind.u8.wrap ((c.toNat : Int) + 32) = ((gW c).toNat : Int) := by
 have : gW c = c + 32 := by unfold gW; rw [if_pos ⟨h1, h2⟩]
 rw [this]
 unfold IntKind.wrap
 simp [IntKind.bits, IntKind.signed, UInt8.toNat_add]
theorem lN {c : UInt8} (h1 : 65 ≤ c.toNat) (h2 : c.toNat ≤ 90) : (gW c).toNat = c.toNat + 32 := by
 have : gW c = c + 32 := by unfold gW; rw [if_pos ⟨h1, h2⟩]
 rw [this, UInt8.toNat_add]
 have : c.toNat + 32 < 256 := by omega
 simp
 omega
theorem qy {c : UInt8} (h : ¬ (65 ≤ c.toNat ∧ c.toNat ≤ 90)) : gW c = c := by unfold gW; rw [if_neg h]
theorem kz {c : UInt8} : c = 32 ↔ c.toNat = 32 := ⟨fun h => by rw [h]; rfl, fun h => UInt8.toNat_inj.1 h⟩
theorem jT {t : Str} {i : Nat} {c : UInt8} (h : t[i]? = some c) (f : Str → UInt8 → Str) (b : Str) : (t.take (i + 1)).foldl f b = f ((t.take i).foldl f b) c := by
 rw [fA h, List.foldl_append]
 rfl
theorem bZ {b : Str} {d : UInt8} (h : b.getLast? = some d) : kX b = true ↔ d = 32 := by
 unfold kX
 rw [h]
 simp
theorem jc {b : Str} (h : b ≠ []) : ∃ d, b.getLast? = some d := ⟨b.getLast h, List.getLast?_eq_some_getLast h⟩
theorem iY {t : Str} {H : List Ob} : callW C 187 [.str t] H = some (.str (norm t), H) := by
 apply Ret.eq
 rw [Jn]
 by_cases g1 : (t.length : Int) > 100
 ·have : norm t = [] := by unfold norm; rw [if_neg (by omega)]
  simp [jJ, Tryz.f187, g1, this]
 have hp := yR (t := t) (H := H) (by omega)
 by_cases g2 : Plain t
 rotate_left
 ·rw [ai g2] at hp
  have : norm t = [] := by unfold norm; rw [ai g2]; simp
  simp [jJ, Tryz.f187, g1, hp, this]
 rw [au g2] at hp
 have hn : norm t = kF (t.foldl aN []) := by unfold norm; rw [if_pos ⟨by omega, au g2⟩]
 have hbz : ∀ i, ((t.take i).foldl aN []).length ≤ 100 := fun i => by
  have := jR (t.take i) []
  simp at this
  omega
 simp [jJ, Tryz.f187, g1, hp, aB, ay, ak, St.new]
 refine aH (fun k σ => ∃ (i : Nat) (r : Nat → R) (G : List Ob) (v : V), i + k = t.length ∧ σ = ⟨r, 0, G⟩ ∧ r 0 = .val (.str t) ∧ r 3 = .val v ∧ r 4 = .val (.int .i64 i) ∧ Bs H G v ((t.take i).foldl aN [])) ?_ t.length _ ⟨0, _, _, _, by simp, rfl, by simp, by simp, by simp, Bs.init⟩
 rintro k σ ⟨i, r, G, v, hik, rfl, r0, r3, r4, hB⟩
 have hbl := hbz i
 generalize hb : (t.take i).foldl aN [] = b at hB hbl
 have hw1 : IntKind.i64.wrap ((b.length : Int) - 1) = (b.length : Int) - 1 := wrap_i64 (by omega) (by omega)
 cases k with
 | zero =>
  have hi : i = t.length := by omega
  subst hi
  rw [List.take_length] at hb
  rw [hb] at hn
  obtain ⟨TT, rfl⟩ := hB.ext
  by_cases hb0 : b = []
  ·subst hb0
   obtain ⟨id, rfl, hst, hsl⟩ := hB.cut (n := 0) (Nat.le_refl _)
   simp [r0, r3, r4, hsl, isByte, iK, hn, kF, kX]
  ·obtain ⟨d, hd⟩ := jc hb0
   have hb1 : 0 < b.length := List.length_pos_iff.2 hb0
   have hb2 : 0 < (b.length : Int) := by omega
   have hb3 : (1 : Int) ≤ (b.length : Int) := by omega
   have hb5 : (b.length : Int) - 1 < (b.length : Int) := by omega
   have hb4 : ((b.length : Int) - 1).toNat = b.length - 1 := by omega
   obtain ⟨id, rfl, hld⟩ := hB.last hd
   by_cases hd32 : d = 32
   ·obtain ⟨_, hv, hst, hsl⟩ := hB.cut (n := b.length - 1) (by omega)
    cases hv
    have he : kF b = b.take (b.length - 1) := by unfold kF; rw [if_pos ((bZ hd).2 hd32), List.dropLast_eq_take]
    have hd' : (d.toNat : Int) = 32 := by rw [hd32]; rfl
    simp [r0, r3, r4, hb0, hb1, hb2, hb3, hb4, hb5, hw1, hld, hd', hst, hsl, isByte, iK, hn, he]
   ·obtain ⟨_, hv, hst, hsl⟩ := hB.cut (n := b.length) (Nat.le_refl _)
    cases hv
    have he : kF b = b := by unfold kF; rw [if_neg (fun h => hd32 ((bZ hd).1 h))]
    have hd' : ¬ (d.toNat : Int) = 32 := by have := mt kz.2 hd32; omega
    rw [List.take_length] at hsl
    simp [r0, r3, r4, hb0, hb1, hb2, hb3, hb4, hb5, hw1, hld, hd', hst, hsl, isByte, iK, hn, he]
 | succ k =>
  have hi : i < t.length := by omega
  obtain ⟨c, hc⟩ : ∃ c, t[i]? = some c := ⟨t[i], by simp [hi]⟩
  have hc' : t[i] = c := (List.getElem?_eq_some_iff.1 hc).2
  have hw : IntKind.i64.wrap ((i : Int) + 1) = ((i : Int) + 1) := wrap_i64 (by omega) (by omega)
  have hfs := jT hc aN []
  rw [hb] at hfs
  have hgo : ∀ G' v', Bs H G' v' (aN b c) → ∃ k', k' < k + 1 ∧ ∃ i', i' + k' = t.length ∧ (i : Int) + 1 = i' ∧ Bs H G' v' ((t.take i').foldl aN []) := fun G' v' h =>
   ⟨k, by omega, i + 1, by omega, by omega, by rw [hfs]; exact h⟩
  by_cases hup : 65 ≤ c.toNat ∧ c.toNat ≤ 90
  ·have hu1 : (c.toNat : Int) ≥ 65 := by omega
   have hu2 : (c.toNat : Int) ≤ 90 := by omega
   have hlw := qB hup.1 hup.2
   have hl32 : ¬ ((gW c).toNat : Int) = 32 := by rw [lN hup.1 hup.2]; omega
   have hns : aN b c = b ++ [gW c] := by unfold aN; rw [if_neg (fun h => hl32 (by rw [kz.1 h.1]; rfl))]
   obtain ⟨v', G', ha, hB'⟩ := hB.push (by omega) (c := gW c) (d := .int .u8) (z := [.int .u8 0]) rfl
   rw [← hns] at hB'
   simp [r0, r3, r4, hi, hc', hu1, hu2, hlw, hl32, aB, ay, ak, St.new, eu, ha, hw]
   obtain ⟨k', q1, i', q2, q3, q4⟩ := hgo G' v' hB'
   exact ⟨k', q1, i', q2, _, _, ⟨rfl, rfl⟩, by simp [r0], _, by simp [r3], by simp [q3], q4⟩
  have hlc := qy hup
  have hu : (¬ (c.toNat : Int) ≥ 65) ∨ ((c.toNat : Int) ≥ 65 ∧ ¬ (c.toNat : Int) ≤ 90) := by omega
  by_cases h32 : c = 32
  ·have h32' : (c.toNat : Int) = 32 := by rw [h32]; rfl
   have hu1 : ¬ (c.toNat : Int) ≥ 65 := by omega
   by_cases hb0 : b = []
   ·have hns : aN b c = b := by unfold aN; rw [if_pos ⟨by rw [hlc, h32], .inl hb0⟩]
    rw [hns] at hgo
    have hbl0 : b.length = 0 := by rw [hb0]; rfl
    have := hgo G v hB
    simp [r0, r3, r4, hi, hc', h32', hB.len, hbl0, hw]
    obtain ⟨k', q1, i', q2, q3, q4⟩ := this
    exact ⟨k', q1, i', q2, _, _, ⟨rfl, rfl⟩, by simp [r0], _, by simp [r3], by simp [q3], q4⟩
   ·obtain ⟨d, hd⟩ := jc hb0
    have hb1 : 0 < b.length := List.length_pos_iff.2 hb0
    have hb3 : (1 : Int) ≤ (b.length : Int) := by omega
    have hb5 : (b.length : Int) - 1 < (b.length : Int) := by omega
    have hb4 : ((b.length : Int) - 1).toNat = b.length - 1 := by omega
    obtain ⟨id, hv, hld⟩ := hB.last hd
    have hB0 := hB
    subst hv
    by_cases hd32 : d = 32
    ·have hns : aN b c = b := by unfold aN; rw [if_pos ⟨by rw [hlc, h32], .inr ((bZ hd).2 hd32)⟩]
     rw [hns] at hgo
     have hd' : (d.toNat : Int) = 32 := by rw [hd32]; rfl
     have := hgo G _ hB
     simp [r0, r3, r4, hi, hc', h32', hb0, hb1, hb3, hb4, hb5, hw1, hld, hd', hw]
     obtain ⟨k', q1, i', q2, q3, q4⟩ := this
     exact ⟨k', q1, i', q2, _, _, ⟨rfl, rfl⟩, by simp [r0], _, by simp [r3], by simp [q3], q4⟩
    ·have hns : aN b c = b ++ [c] := by unfold aN; rw [if_neg (fun h => h.2.elim hb0 (fun h => hd32 ((bZ hd).1 h))), hlc]
     have hd' : ¬ (d.toNat : Int) = 32 := by have := mt kz.2 hd32; omega
     obtain ⟨v', G', ha, hB'⟩ := hB.push (by omega) (c := c) (d := .int .u8) (z := [.int .u8 0]) rfl
     rw [← hns] at hB'
     rw [h32'] at ha
     simp [r0, r3, r4, hi, hc', h32', hb0, hb1, hb3, hb4, hb5, hw1, hld, hd', aB, ay, ak, St.new, eu, ha, hw]
     obtain ⟨k', q1, i', q2, q3, q4⟩ := hgo G' v' hB'
     exact ⟨k', q1, i', q2, _, _, ⟨rfl, rfl⟩, by simp [r0], _, by simp [r3], by simp [q3], q4⟩
  ·have h32' : ¬ (c.toNat : Int) = 32 := by have := mt kz.2 h32; omega
   have hns : aN b c = b ++ [c] := by unfold aN; rw [if_neg (fun h => h32 (hlc ▸ h.1)), hlc]
   obtain ⟨v', G', ha, hB'⟩ := hB.push (by omega) (c := c) (d := .int .u8) (z := [.int .u8 0]) rfl
   rw [← hns] at hB'
   have := hgo G' v' hB'
   rcases hu with hu | ⟨hu, hu2⟩
   ·simp [r0, r3, r4, hi, hc', hu, h32', aB, ay, ak, St.new, eu, ha, hw]
    obtain ⟨k', q1, i', q2, q3, q4⟩ := this
    exact ⟨k', q1, i', q2, _, _, ⟨rfl, rfl⟩, by simp [r0], _, by simp [r3], by simp [q3], q4⟩
   ·simp [r0, r3, r4, hi, hc', hu, hu2, h32', aB, ay, ak, St.new, eu, ha, hw]
    obtain ⟨k', q1, i', q2, q3, q4⟩ := this
    exact ⟨k', q1, i', q2, _, _, ⟨rfl, rfl⟩, by simp [r0], _, by simp [r3], by simp [q3], q4⟩
def dh (s w : Str) : Prop := w.length ≤ s.length ∧ s.drop (s.length - w.length) = w
theorem hasSuffix {s w : Str} {H : List Ob} (hs : s.length ≤ 1000000) (hw : w.length ≤ 1000000) : callW C 270 [.str s, .str w] H = some (.bool (dec (dh s w)), H) := by
 apply Ret.dec
 rw [I7]
 by_cases h1 : (s.length : Int) ≥ w.length
 ·have hw1 : IntKind.i64.wrap ((s.length : Int) - w.length) = (s.length : Int) - w.length := wrap_i64 (by omega) (by omega)
  have h2 : (w.length : Int) ≤ (s.length : Int) := h1
  have h3 : ((s.length : Int) - w.length).toNat = s.length - w.length := by omega
  have h4 : (0 : Int) ≤ (s.length : Int) - w.length := by omega
  have h5 : w.length ≤ s.length := by omega
  by_cases h6 : s.drop (s.length - w.length) = w
  ·have hn : dh s w := ⟨h5, h6⟩
   simp [jE, Tryz.f270, h1, h2, h3, h4, h5, hw1, h6, hn]
  ·have hn : ¬ dh s w := fun h => h6 h.2
   simp [jE, Tryz.f270, h1, h2, h3, h4, h5, hw1, h6, hn]
 ·have hn : ¬ dh s w := fun h => h1 (by have := h.1; omega)
  simp [jE, Tryz.f270, h1, hn]
noncomputable def eQ (s w : Str) : Str := if dec (dh s w) = true then s.take (s.length - w.length) else s
theorem nH {s w : Str} {H : List Ob} (hs : s.length ≤ 1000000) (hw : w.length ≤ 1000000) : callW C 212 [.str s, .str w] H = some (.str (eQ s w), H) := by
 apply Ret.eq
 rw [IK]
 have hc := hasSuffix (H := H) hs hw
 by_cases h : dh s w
 ·rw [au h] at hc
  have h0 := h.1
  have hw1 : IntKind.i64.wrap ((s.length : Int) - w.length) = (s.length : Int) - w.length := wrap_i64 (by omega) (by omega)
  have h2 : (w.length : Int) ≤ (s.length : Int) := by omega
  have h3 : ((s.length : Int) - w.length).toNat = s.length - w.length := by omega
  have ht : eQ s w = s.take (s.length - w.length) := by unfold eQ; rw [au h]; rfl
  simp [mG, Tryz.f212, hc, hw1, h2, h3, ht]
 ·rw [ai h] at hc
  have ht : eQ s w = s := by unfold eQ; rw [ai h]; rfl
  simp [mG, Tryz.f212, hc, ht]
theorem pI {s : Str} : eQ s [32] = kF s := by
 have he : dh s [32] ↔ kX s = true := by
  unfold dh kX
  cases hl : s.getLast? with
  | none =>
   have : s = [] := by simpa using hl
   subst this
   simp
  | some d =>
   have hne : s ≠ [] := by rintro rfl; simp at hl
   have h1 : 1 ≤ s.length := List.length_pos_iff.2 hne
   rw [List.getLast?_eq_getElem?] at hl
   have h2 : s.drop (s.length - 1) = [d] := by
    apply List.ext_getElem?
    intro j
    rw [List.getElem?_drop]
    cases j with
    | zero => simpa using hl
    | succ j => simp; omega
   simp [h1, h2]
 unfold eQ kF
 by_cases h : kX s = true
 ·rw [au (he.2 h), if_pos rfl, if_pos h, List.dropLast_eq_take]
  rfl
 ·rw [ai (mt he.1 h), if_neg (by simp), if_neg h]
theorem Di {s : Str} {H : List Ob} (hs : s.length ≤ 1000000) : callW C 123 [.str s, .str [32]] H = some (.str (kF s), H) := by
 apply Ret.eq
 rw [Ip]
 have hc := nH (H := H) hs (w := [32]) (by simp)
 rw [pI] at hc
 simp [qR, Tryz.f123, hc]
theorem ku {t : Str} {H : List Ob} : callW C 36 [.str t] H = some (.str (norm t), H) := by
 apply Ret.eq
 rw [Nv]
 by_cases g1 : (t.length : Int) > 100
 ·have : norm t = [] := by unfold norm; rw [if_neg (by omega)]
  simp [mQ, Tryz.f36, g1, this]
 have hp := zM (t := t) (H := H) (by omega)
 by_cases g2 : Plain t
 rotate_left
 ·rw [ai g2] at hp
  have : norm t = [] := by unfold norm; rw [ai g2]; simp
  simp [mQ, Tryz.f36, g1, hp, this]
 rw [au g2] at hp
 have hn : norm t = kF (t.foldl aN []) := by unfold norm; rw [if_pos ⟨by omega, au g2⟩]
 have hbz : ∀ i, ((t.take i).foldl aN []).length ≤ 100 := fun i => by
  have := jR (t.take i) []
  simp at this
  omega
 simp [mQ, Tryz.f36, g1, hp, aB, ay, ak, St.new]
 refine aH (fun k σ => ∃ (i : Nat) (r : Nat → R) (G : List Ob) (v : V), i + k = t.length ∧ σ = ⟨r, 0, G⟩ ∧ r 0 = .val (.str t) ∧ r 3 = .val v ∧ r 16 = .val (.int .i64 t.length) ∧ r 17 = .val (.int .i64 i) ∧ Bs H G v ((t.take i).foldl aN [])) ?_ t.length _ ⟨0, _, _, _, by simp, rfl, by simp, by simp, by simp, by simp, Bs.init⟩
 rintro k σ ⟨i, r, G, v, hik, rfl, r0, r3, r16, r17, hB⟩
 have hbl := hbz i
 generalize hb : (t.take i).foldl aN [] = b at hB hbl
 have hw1 : IntKind.i64.wrap ((b.length : Int) - 1) = (b.length : Int) - 1 := wrap_i64 (by omega) (by omega)
 cases k with
 | zero =>
  have hi : i = t.length := by omega
  subst hi
  rw [List.take_length] at hb
  rw [hb] at hn
  obtain ⟨TT, rfl⟩ := hB.ext
  obtain ⟨id, rfl, hst, hsl⟩ := hB.cut (n := b.length) (Nat.le_refl _)
  rw [List.take_length] at hsl
  have hts := Di (s := b) (H := H ++ TT) (by omega)
  simp [r0, r3, r16, r17, hsl, isByte, iK, hn, hts]
 | succ k =>
  have hi : i < t.length := by omega
  obtain ⟨c, hc⟩ : ∃ c, t[i]? = some c := ⟨t[i], by simp [hi]⟩
  have hc' : t[i] = c := (List.getElem?_eq_some_iff.1 hc).2
  have hw : IntKind.i64.wrap ((i : Int) + 1) = ((i : Int) + 1) := wrap_i64 (by omega) (by omega)
  have hfs := jT hc aN []
  rw [hb] at hfs
  have hgo : ∀ G' v', Bs H G' v' (aN b c) → ∃ k', k' < k + 1 ∧ ∃ i', i' + k' = t.length ∧ (i : Int) + 1 = i' ∧ Bs H G' v' ((t.take i').foldl aN []) := fun G' v' h =>
   ⟨k, by omega, i + 1, by omega, by omega, by rw [hfs]; exact h⟩
  by_cases hup : 65 ≤ c.toNat ∧ c.toNat ≤ 90
  ·have hu1 : (c.toNat : Int) ≥ 65 := by omega
   have hu2 : (c.toNat : Int) ≤ 90 := by omega
   have hlw := qB hup.1 hup.2
   have hl32 : ¬ ((gW c).toNat : Int) = 32 := by rw [lN hup.1 hup.2]; omega
   have hns : aN b c = b ++ [gW c] := by unfold aN; rw [if_neg (fun h => hl32 (by rw [kz.1 h.1]; rfl))]
   obtain ⟨v', G', ha, hB'⟩ := hB.push (by omega) (c := gW c) (d := .int .u8) (z := [.int .u8 0]) rfl
   rw [← hns] at hB'
   simp [r0, r3, r16, r17, hi, hc', hu1, hu2, hlw, hl32, aB, ay, ak, St.new, eu, ha, hw]
   obtain ⟨k', q1, i', q2, q3, q4⟩ := hgo G' v' hB'
   exact ⟨k', q1, i', q2, _, _, ⟨rfl, rfl⟩, by simp [r0], _, by simp [r3], by simp [r16], by simp [q3], q4⟩
  have hlc := qy hup
  have hu : (¬ (c.toNat : Int) ≥ 65) ∨ ((c.toNat : Int) ≥ 65 ∧ ¬ (c.toNat : Int) ≤ 90) := by omega
  by_cases h32 : c = 32
  ·have h32' : (c.toNat : Int) = 32 := by rw [h32]; rfl
   have hu1 : ¬ (c.toNat : Int) ≥ 65 := by omega
   by_cases hb0 : b = []
   ·have hns : aN b c = b := by unfold aN; rw [if_pos ⟨by rw [hlc, h32], .inl hb0⟩]
    rw [hns] at hgo
    have hbl0 : b.length = 0 := by rw [hb0]; rfl
    simp [r0, r3, r16, r17, hi, hc', h32', hB.len, hbl0, hw]
    obtain ⟨k', q1, i', q2, q3, q4⟩ := hgo G v hB
    exact ⟨k', q1, i', q2, _, _, ⟨rfl, rfl⟩, by simp [r0], _, by simp [r3], by simp [r16], by simp [q3], q4⟩
   ·obtain ⟨d, hd⟩ := jc hb0
    have hb1 : 0 < b.length := List.length_pos_iff.2 hb0
    have hb3 : (1 : Int) ≤ (b.length : Int) := by omega
    have hb5 : (b.length : Int) - 1 < (b.length : Int) := by omega
    have hb4 : ((b.length : Int) - 1).toNat = b.length - 1 := by omega
    obtain ⟨id, hv, hld⟩ := hB.last hd
    subst hv
    by_cases hd32 : d = 32
    ·have hns : aN b c = b := by unfold aN; rw [if_pos ⟨by rw [hlc, h32], .inr ((bZ hd).2 hd32)⟩]
     rw [hns] at hgo
     have hd' : (d.toNat : Int) = 32 := by rw [hd32]; rfl
     simp [r0, r3, r16, r17, hi, hc', h32', hb0, hb1, hb3, hb4, hb5, hw1, hld, hd', hw]
     obtain ⟨k', q1, i', q2, q3, q4⟩ := hgo G _ hB
     exact ⟨k', q1, i', q2, _, _, ⟨rfl, rfl⟩, by simp [r0], _, by simp [r3], by simp [r16], by simp [q3], q4⟩
    ·have hns : aN b c = b ++ [c] := by unfold aN; rw [if_neg (fun h => h.2.elim hb0 (fun h => hd32 ((bZ hd).1 h))), hlc]
     have hd' : ¬ (d.toNat : Int) = 32 := by have := mt kz.2 hd32; omega
     obtain ⟨v', G', ha, hB'⟩ := hB.push (by omega) (c := c) (d := .int .u8) (z := [.int .u8 0]) rfl
     rw [← hns] at hB'
     rw [h32'] at ha
     simp [r0, r3, r16, r17, hi, hc', h32', hb0, hb1, hb3, hb4, hb5, hw1, hld, hd', aB, ay, ak, St.new, eu, ha, hw]
     obtain ⟨k', q1, i', q2, q3, q4⟩ := hgo G' v' hB'
     exact ⟨k', q1, i', q2, _, _, ⟨rfl, rfl⟩, by simp [r0], _, by simp [r3], by simp [r16], by simp [q3], q4⟩
  ·have h32' : ¬ (c.toNat : Int) = 32 := by have := mt kz.2 h32; omega
   have hns : aN b c = b ++ [c] := by unfold aN; rw [if_neg (fun h => h32 (hlc ▸ h.1)), hlc]
   obtain ⟨v', G', ha, hB'⟩ := hB.push (by omega) (c := c) (d := .int .u8) (z := [.int .u8 0]) rfl
   rw [← hns] at hB'
   obtain ⟨k', q1, i', q2, q3, q4⟩ := hgo G' v' hB'
   rcases hu with hu | ⟨hu, hu2⟩
   ·simp [r0, r3, r16, r17, hi, hc', hu, h32', aB, ay, ak, St.new, eu, ha, hw]
    exact ⟨k', q1, i', q2, _, _, ⟨rfl, rfl⟩, by simp [r0], _, by simp [r3], by simp [r16], by simp [q3], q4⟩
   ·simp [r0, r3, r16, r17, hi, hc', hu, hu2, h32', aB, ay, ak, St.new, eu, ha, hw]
    exact ⟨k', q1, i', q2, _, _, ⟨rfl, rfl⟩, by simp [r0], _, by simp [r3], by simp [r16], by simp [q3], q4⟩
theorem qw {t : Str} {H : List Ob} : callW C 185 [.str t] H = some (.bool (dec (aA t)), H) := by
 apply Ret.dec
 rw [IR]
 have hn := iY (t := t) (H := H)
 by_cases g1 : (t.length : Int) ≥ 1
 ·by_cases g2 : (t.length : Int) ≤ 40
  ·by_cases g3 : norm t = []
   ·have hv : ¬ aA t := fun h => h.2.2 g3
    simp [iQ, Tryz.f185, g1, g2, hn, g3, hv]
   ·have hv : aA t := ⟨by omega, by omega, g3⟩
    simp [iQ, Tryz.f185, g1, g2, hn, g3, hv]
  ·have : ¬ aA t := fun h => by have := h.2.1; omega
   simp [iQ, Tryz.f185, g1, g2, this]
 ·have : ¬ aA t := fun h => by have := h.1; omega
  simp [iQ, Tryz.f185, g1, this]
theorem yE {t : Str} {H : List Ob} : callW C 238 [.str t] H = some (.bool (dec (aA t)), H) := by
 apply Ret.dec
 rw [IU]
 have hn := ku (t := t) (H := H)
 by_cases g1 : (t.length : Int) ≥ 1
 ·by_cases g2 : (t.length : Int) ≤ 40
  ·by_cases g3 : norm t = []
   ·have hv : ¬ aA t := fun h => h.2.2 g3
    simp [iL, Tryz.f238, g1, g2, hn, g3, hv]
   ·have hv : aA t := ⟨by omega, by omega, g3⟩
    simp [iL, Tryz.f238, g1, g2, hn, g3, hv]
  ·have : ¬ aA t := fun h => by have := h.2.1; omega
   simp [iL, Tryz.f238, g1, g2, this]
 ·have : ¬ aA t := fun h => by have := h.1; omega
  simp [iL, Tryz.f238, g1, this]
theorem uw {a b : Str} {H : List Ob} : callW C 314 [.str a, .str b] H = some (.int .i64 (Lib.compareBytes a b), H) :=
 jV (pr := mP) rfl
theorem jw {a b : Str} {H : List Ob} : callW C 294 [.str a, .str b] H = some (.int .i64 (Lib.compareBytes a b), H) := by
 apply Ret.eq
 rw [Jg]
 simp [qU, Tryz.f294, uw]
theorem rG {a b : Str} {H : List Ob} : callW C 249 [.str a, .str b] H = some (.int .i64 (Lib.compareBytes a b), H) := by
 apply Ret.eq
 rw [JC]
 simp [pY, Tryz.f249, jw]
theorem i_byNorm {a b : Str} {H : List Ob} : callW C 179 [.str a, .str b] H = some (.int .i64 (Lib.compareBytes (norm a) (norm b)), H) := by
 apply Ret.eq
 rw [JB]
 have c1 := ku (t := a) (H := H)
 have c2 := ku (t := b) (H := H)
 simp [pW, Tryz.f179, c1, c2, rG]
end Go.Proofs.Try0
end
section
namespace Go.Proofs.Try1
open Go Go.Lite
theorem EH [Draws] : ProgOk Tryz.prog Try0.C := rY Try0.mixed Try0.ok fun g pr h => by
 change Try0.primTab g = some pr at h
 unfold Try0.primTab at h
 split at h
 ·rename_i hg; subst hg; cases h; exact HY
 ·cases h
end Go.Proofs.Try1
end
section
namespace Go.Lite
open Go
variable [Draws]
theorem BZ {ro : Option Nat} {n m : Nat} {P : Program} {c : Code} {Q : Exit → Act → World → Prop} {a : Act} {w : World} (h : c.wpIn (rf ro) n P Q a w) : c.wpIn (rf ro) m P Q a w :=
 fun b k cs h1 h2 _ => h b k cs h1 h2 (fun d hd => by cases hd)
theorem JW {P : Program} {C : Ctx} (hp : ProgOk P C) {f : Nat} {c : Code} {σ σ' : St} {μ : Mu} {β : List Nat} {a : Act} {w : World} {ex : Ex} {Q : Exit → Act → World → Prop} {ro : Option Nat} {n : Nat}
  (hs : Sim (C.locs f) σ μ β a w) (hc : CodeOk P C f a.tmps.size c) (h : iF C f c σ = some (ex, σ')) (hq : ∀ a' w', Leads (C.locs f) σ μ β a w σ' a' w' → Q (pg ex) a' w') : c.wpIn (rf ro) n P Q a w := by
 obtain ⟨m, hm⟩ := execW_iff.1 h
 exact BZ (oZ hp.ty (Ai hp m) c hs hc hm hq)
end Go.Lite
end
