/- Part 07 of the proof of a law: the interpreter, its soundness, and what functions of the program compute over it. Conditions: none but those that each theorem names. -/
import Derived.Test.YtdkbgdjfmbppfaaGreatDoorE06
import Derived.Lib.Bytealg

set_option linter.all false
set_option maxRecDepth 20000
set_option maxHeartbeats 40000000
section
namespace Go.Lite
open Go
abbrev FP : Sh := .st [.str, .str]
abbrev dK : Sh := .st [.str, .slice .str]
abbrev gz : Sh := .st [.slice FP, .slice dK]
abbrev jX : Sh := .st [.str, .slice .str, .slice .str, .slice .str]
structure PRdn where
 attr : Str
 value : Str
structure PAttr where
 name : Str
 vals : List Str
structure PEntry where
 dn : List PRdn
 attrs : List PAttr
structure PClass where
 name : Str
 must : List Str
 may : List Str
 single : List Str
abbrev qg (s : Str) : U := .str s
def PRdn.u (r : PRdn) : U := .st [.str r.attr, .str r.value]
def PAttr.u (a : PAttr) : U := .st [.str a.name, .lst (a.vals.map qg)]
def PEntry.u (e : PEntry) : U := .st [.lst (e.dn.map PRdn.u), .lst (e.attrs.map PAttr.u)]
def PClass.u (c : PClass) : U := .st [.str c.name, .lst (c.must.map qg), .lst (c.may.map qg), .lst (c.single.map qg)]
section
variable (H : List Ob)
def ASl {α : Type} (sh : Sh) (f : α → U) (v : V) (l : List α) : Prop := At H (.slice sh) [v] (.lst (l.map f))
abbrev AStrs (v : V) (l : List Str) : Prop := ASl H .str qg v l
abbrev eu (v : V) (l : List PRdn) : Prop := ASl H FP PRdn.u v l
abbrev bD (v : V) (l : List PAttr) : Prop := ASl H dK PAttr.u v l
abbrev aP (v : V) (l : List PClass) : Prop := ASl H jX PClass.u v l
end
section
variable {H H' T : List Ob} {v : V} {α : Type} {sh : Sh} {f : α → U} {l : List α}
theorem ASl.at (h : ASl H sh f v l) : At H (.slice sh) [v] (.lst (l.map f)) := h
theorem ASl.sl (h : ASl H sh f v l) : Sl H sh.size (At H sh) v (l.map f) := by
 obtain ⟨w, m, hw, hm, _, h⟩ := aC.1 h.at
 cases hw
 cases hm
 exact h
theorem ASl.bound (h : ASl H sh f v l) : l.length ≤ maxLen := by
 obtain ⟨w, m, hw, hm, h, _⟩ := aC.1 h.at
 cases hm
 simpa using h
theorem ASl.len (h : ASl H sh f v l) {e s b : Nat} {z : List V} : lenV ⟨.slice e, s, b, z⟩ v = some (.int .i64 l.length) := by
 have := h.sl.len (e := e) (s := s) (b := b) (z := z)
 simpa using this
theorem ASl.one (h : ASl H sh f v l) : aJ v = true ∧ cellsOf v = some [v] := h.sl.one
theorem ASl.ext (h : ASl H sh f v l) : ASl (H ++ T) sh f v l := At.ext h
theorem ASl.up (h : ASl H sh f v l) (hH : ∀ (id : Nat) o, H[id]? = some o → H'[id]? = some o) : ASl H' sh f v l := At.up hH _ h
theorem ASl.idx (h : ASl H sh f v l) {i : Nat} {x : α} (hx : l[i]? = some x) (hs : sh.size ≠ 0) : ∃ id o own cells,
  (∀ (e s b : Nat) (z : List V) (ty : Nat → LT) (k : IntKind), (ty e).size = sh.size → dE ⟨.slice e, s, b, z⟩ ty (.val v) (.int k i) = some (.val (.ptr (some (id, o))))) ∧
  H[id]? = some (.mk own sh.size cells) ∧ o + sh.size ≤ cells.length ∧ At H sh ((cells.drop o).take sh.size) (f x) :=
 h.sl.idx (by rw [List.getElem?_map, hx]; rfl) hs
theorem IZ {cs : List V} {r : PRdn} : At H FP cs r.u ↔ cs = [.str r.attr, .str r.value] ∧ r.attr.length ≤ maxLen ∧ r.value.length ≤ maxLen := by
 constructor
 ·intro h
  obtain ⟨us, hu, h⟩ := kS.1 h
  cases hu
  obtain ⟨c1, c2, u1, us1, rfl, hu, h1, h⟩ := bn.1 h
  cases hu
  obtain ⟨c3, c4, u2, us2, rfl, hu, h2, h⟩ := bn.1 h
  cases hu
  obtain ⟨rfl, _⟩ := fV.1 h
  obtain ⟨s, rfl, hs, w1⟩ := ed.1 h1
  cases hs
  obtain ⟨s, rfl, hs, w2⟩ := ed.1 h2
  cases hs
  exact ⟨rfl, w1, w2⟩
 ·rintro ⟨rfl, h1, h2⟩
  exact kS.2 ⟨_, rfl, bn.2 ⟨[_], _, _, _, rfl, rfl, ed.2 ⟨_, rfl, rfl, h1⟩, bn.2 ⟨[_], _, _, _, rfl, rfl, ed.2 ⟨_, rfl, rfl, h2⟩, fV.2 ⟨rfl, rfl⟩⟩⟩⟩
theorem jv {cs : List V} {a : PAttr} : At H dK cs a.u ↔ ∃ v, cs = [.str a.name, v] ∧ a.name.length ≤ maxLen ∧ AStrs H v a.vals := by
 constructor
 ·intro h
  obtain ⟨us, hu, h⟩ := kS.1 h
  cases hu
  obtain ⟨c1, c2, u1, us1, rfl, hu, h1, h⟩ := bn.1 h
  cases hu
  obtain ⟨c3, c4, u2, us2, rfl, hu, h2, h⟩ := bn.1 h
  cases hu
  obtain ⟨rfl, _⟩ := fV.1 h
  obtain ⟨s, rfl, hs, w1⟩ := ed.1 h1
  cases hs
  obtain ⟨v, _, rfl, _⟩ := aC.1 h2
  exact ⟨v, rfl, w1, h2⟩
 ·rintro ⟨v, rfl, h1, h2⟩
  exact kS.2 ⟨_, rfl, bn.2 ⟨[_], _, _, _, rfl, rfl, ed.2 ⟨_, rfl, rfl, h1⟩, bn.2 ⟨[_], _, _, _, rfl, rfl, h2, fV.2 ⟨rfl, rfl⟩⟩⟩⟩
theorem l7 {cs : List V} {c : PClass} : At H jX cs c.u ↔ ∃ v1 v2 v3, cs = [.str c.name, v1, v2, v3] ∧ c.name.length ≤ maxLen ∧ AStrs H v1 c.must ∧ AStrs H v2 c.may ∧ AStrs H v3 c.single := by
 constructor
 ·intro h
  obtain ⟨us, hu, h⟩ := kS.1 h
  cases hu
  obtain ⟨c1, c2, u1, us1, rfl, hu, h1, h⟩ := bn.1 h
  cases hu
  obtain ⟨c3, c4, u2, us2, rfl, hu, h2, h⟩ := bn.1 h
  cases hu
  obtain ⟨c5, c6, u3, us3, rfl, hu, h3, h⟩ := bn.1 h
  cases hu
  obtain ⟨c7, c8, u4, us4, rfl, hu, h4, h⟩ := bn.1 h
  cases hu
  obtain ⟨rfl, _⟩ := fV.1 h
  obtain ⟨s, rfl, hs, w1⟩ := ed.1 h1
  cases hs
  obtain ⟨v1, _, rfl, _⟩ := aC.1 h2
  obtain ⟨v2, _, rfl, _⟩ := aC.1 h3
  obtain ⟨v3, _, rfl, _⟩ := aC.1 h4
  exact ⟨v1, v2, v3, rfl, w1, h2, h3, h4⟩
 ·rintro ⟨v1, v2, v3, rfl, h1, h2, h3, h4⟩
  exact kS.2 ⟨_, rfl, bn.2 ⟨[_], _, _, _, rfl, rfl, ed.2 ⟨_, rfl, rfl, h1⟩, bn.2 ⟨[_], _, _, _, rfl, rfl, h2, bn.2 ⟨[_], _, _, _, rfl, rfl, h3, bn.2 ⟨[_], _, _, _, rfl, rfl, h4, fV.2 ⟨rfl, rfl⟩⟩⟩⟩⟩⟩
theorem jC {cs : List V} {e : PEntry} : At H gz cs e.u ↔ ∃ v1 v2, cs = [v1, v2] ∧ eu H v1 e.dn ∧ bD H v2 e.attrs := by
 constructor
 ·intro h
  obtain ⟨us, hu, h⟩ := kS.1 h
  cases hu
  obtain ⟨c1, c2, u1, us1, rfl, hu, h1, h⟩ := bn.1 h
  cases hu
  obtain ⟨c3, c4, u2, us2, rfl, hu, h2, h⟩ := bn.1 h
  cases hu
  obtain ⟨rfl, _⟩ := fV.1 h
  obtain ⟨v1, _, rfl, _⟩ := aC.1 h1
  obtain ⟨v2, _, rfl, _⟩ := aC.1 h2
  exact ⟨v1, v2, rfl, h1, h2⟩
 ·rintro ⟨v1, v2, rfl, h1, h2⟩
  exact kS.2 ⟨_, rfl, bn.2 ⟨[_], _, _, _, rfl, rfl, h1, bn.2 ⟨[_], _, _, _, rfl, rfl, h2, fV.2 ⟨rfl, rfl⟩⟩⟩⟩
theorem aU {xs : List Str} (h : AStrs H v xs) {i : Nat} {s : Str} (hx : xs[i]? = some s) : ∃ id o,
  (∀ (e s b : Nat) (z : List V) (ty : Nat → LT) (k : IntKind), (ty e).size = 1 → dE ⟨.slice e, s, b, z⟩ ty (.val v) (.int k i) = some (.val (.ptr (some (id, o))))) ∧
  (∀ T : LT, T.one → ∀ r c, loadAt T ⟨r, c, H⟩ (.hp id o) = some (.str s)) ∧ s.length ≤ maxLen := by
 obtain ⟨id, o, own, cells, e1, e2, e3, e4⟩ := ASl.idx h hx (by decide)
 obtain ⟨t, e4, ht, e5⟩ := ed.1 e4
 cases ht
 exact ⟨id, o, e1, bM e2 (by simpa using dH e4 (j := 0) rfl), e5⟩
theorem qW {xs : List PRdn} (h : eu H v xs) {i : Nat} {x : PRdn} (hx : xs[i]? = some x) : ∃ id o,
  (∀ (e s b : Nat) (z : List V) (ty : Nat → LT) (k : IntKind), (ty e).size = 2 → dE ⟨.slice e, s, b, z⟩ ty (.val v) (.int k i) = some (.val (.ptr (some (id, o))))) ∧
  (∀ T : LT, T.one → ∀ r c, loadAt T ⟨r, c, H⟩ (.hp id o) = some (.str x.attr)) ∧ (∀ T : LT, T.one → ∀ r c, loadAt T ⟨r, c, H⟩ (.hp id (o + 1)) = some (.str x.value)) ∧
  (∀ T : LT, T.many 2 → ∀ r c, loadAt T ⟨r, c, H⟩ (.hp id o) = some (.agg [.str x.attr, .str x.value])) ∧ At H FP [.str x.attr, .str x.value] x.u := by
 obtain ⟨id, o, own, cells, e1, e2, e3, e4⟩ := ASl.idx h hx (by decide)
 have e6 := e4
 obtain ⟨e4, e5⟩ := IZ.1 e4
 rw [e4] at e6
 exact ⟨id, o, e1, bM e2 (by simpa using dH e4 (j := 0) rfl), bM e2 (by simpa using dH e4 (j := 1) rfl), pF e2 e3 (by decide) e4, e6⟩
theorem fC {xs : List PAttr} (h : bD H v xs) {i : Nat} {x : PAttr} (hx : xs[i]? = some x) : ∃ id o w,
  (∀ (e s b : Nat) (z : List V) (ty : Nat → LT) (k : IntKind), (ty e).size = 2 → dE ⟨.slice e, s, b, z⟩ ty (.val v) (.int k i) = some (.val (.ptr (some (id, o))))) ∧
  (∀ T : LT, T.one → ∀ r c, loadAt T ⟨r, c, H⟩ (.hp id o) = some (.str x.name)) ∧ (∀ T : LT, T.one → ∀ r c, loadAt T ⟨r, c, H⟩ (.hp id (o + 1)) = some w) ∧
  (∀ T : LT, T.many 2 → ∀ r c, loadAt T ⟨r, c, H⟩ (.hp id o) = some (.agg [.str x.name, w])) ∧ AStrs H w x.vals ∧ At H dK [.str x.name, w] x.u ∧ x.name.length ≤ maxLen := by
 obtain ⟨id, o, own, cells, e1, e2, e3, e4⟩ := ASl.idx h hx (by decide)
 have e6 := e4
 obtain ⟨w, e4, e7, e5⟩ := jv.1 e4
 rw [e4] at e6
 exact ⟨id, o, w, e1, bM e2 (by simpa using dH e4 (j := 0) rfl), bM e2 (by simpa using dH e4 (j := 1) rfl), pF e2 e3 (by decide) e4, e5, e6, e7⟩
theorem iH {xs : List PClass} (h : aP H v xs) {i : Nat} {x : PClass} (hx : xs[i]? = some x) : ∃ id o w1 w2 w3,
  (∀ (e s b : Nat) (z : List V) (ty : Nat → LT) (k : IntKind), (ty e).size = 4 → dE ⟨.slice e, s, b, z⟩ ty (.val v) (.int k i) = some (.val (.ptr (some (id, o))))) ∧
  (∀ T : LT, T.one → ∀ r c, loadAt T ⟨r, c, H⟩ (.hp id o) = some (.str x.name)) ∧
  (∀ T : LT, T.many 4 → ∀ r c, loadAt T ⟨r, c, H⟩ (.hp id o) = some (.agg [.str x.name, w1, w2, w3])) ∧ AStrs H w1 x.must ∧ AStrs H w2 x.may ∧ AStrs H w3 x.single ∧ At H jX [.str x.name, w1, w2, w3] x.u ∧ x.name.length ≤ maxLen := by
 obtain ⟨id, o, own, cells, e1, e2, e3, e4⟩ := ASl.idx h hx (by decide)
 have e6 := e4
 obtain ⟨w1, w2, w3, e4, e7, e8, e9, e5⟩ := l7.1 e4
 rw [e4] at e6
 exact ⟨id, o, w1, w2, w3, e1, bM e2 (by simpa using dH e4 (j := 0) rfl), pF e2 e3 (by decide) e4, e8, e9, e5, e6, e7⟩
theorem qM {xs : List PClass} (h : aP H v xs) {i : Nat} {x : PClass} (hx : xs[i]? = some x) : ∃ id o w1 w2 w3,
  (∀ (e s b : Nat) (z : List V) (ty : Nat → LT) (k : IntKind), (ty e).size = 4 → dE ⟨.slice e, s, b, z⟩ ty (.val v) (.int k i) = some (.val (.ptr (some (id, o))))) ∧
  (∀ T' : List Ob, ∀ T : LT, T.many 4 → ∀ r c, loadAt T ⟨r, c, H ++ T'⟩ (.hp id o) = some (.agg [.str x.name, w1, w2, w3])) ∧ AStrs H w1 x.must ∧ AStrs H w2 x.may ∧ AStrs H w3 x.single := by
 obtain ⟨id, o, own, cells, e1, e2, e3, e4⟩ := ASl.idx h hx (by decide)
 obtain ⟨w1, w2, w3, e4, e7, e8, e9, e5⟩ := l7.1 e4
 exact ⟨id, o, w1, w2, w3, e1, fun T' => pF (aW _ _ e2) e3 (by decide) e4, e8, e9, e5⟩
end
def bT (a b : Str) : Prop := Op.bytesLess a b = true
def bK {α : Type} (key : α → Str) (l : List α) (j : Nat) (x : α) : Prop := ∀ y, 0 < j → l[j - 1]? = some y → bT (key y) (key x)
def DnOk (l : List PRdn) : Prop := (∀ (j : Nat) x, l[j]? = some x → aG x.attr ∧ aO x.value) ∧ l.length ≤ 6
def dI (l : List Str) : Prop := ∀ (j : Nat) x, l[j]? = some x → aG x ∧ bK (fun x => x) l j x
def bH (l : List Str) : Prop := (∀ (j : Nat) x, l[j]? = some x → aO x ∧ bK norm l j x) ∧ 1 ≤ l.length ∧ l.length ≤ 4
def eY (l : List PAttr) : Prop := (∀ (j : Nat) x, l[j]? = some x → aG x.name ∧ bK PAttr.name l j x ∧ bH x.vals) ∧ l.length ≤ 8
def EntryOk (e : PEntry) : Prop := 0 < e.dn.length ∧ DnOk e.dn ∧ eY e.attrs
def dN : Str := [99, 108, 97, 115, 115]
structure ClassOk (c : PClass) : Prop where
 name : aG c.name
 l1 : c.must.length ≤ 10
 l2 : c.may.length ≤ 10
 l3 : c.single.length ≤ 10
 n1 : dI c.must
 n2 : dI c.may
 n3 : dI c.single
 apart : ∀ t ∈ c.must, t ∉ c.may
 known : ∀ t ∈ c.single, t ∈ c.may ∨ t ∈ c.must
 noMust : dN ∉ c.must
 noMay : dN ∉ c.may
def aZ (l : List PClass) : Prop := (∀ (j : Nat) x, l[j]? = some x → ClassOk x ∧ bK PClass.name l j x) ∧ l.length ≤ 6
theorem dm {α : Type} {l : List α} {i : Nat} {P : Nat → α → Prop} (h : ∀ j x, j < i → l[j]? = some x → P j x) {c : α} (hc : l[i]? = some c) (hp : P i c) : ∀ j x, j < i + 1 → l[j]? = some x → P j x := by
 intro j x hj hx
 by_cases hji : j = i
 ·subst hji; rw [hc] at hx; cases hx; exact hp
 ·exact h j x (by omega) hx
theorem fH {α : Type} {l : List α} {P : Nat → α → Prop} (h : ∀ j x, j < l.length → l[j]? = some x → P j x) : ∀ j x, l[j]? = some x → P j x :=
 fun j x hx => h j x (List.getElem?_eq_some_iff.1 hx).1 hx
def FirstAt {α : Type} (key : α → Str) (l : List α) (n : Str) (r : Int) : Prop :=
 (∃ (k : Nat) (a : α), l[k]? = some a ∧ key a = n ∧ (∀ j b, j < k → l[j]? = some b → key b ≠ n) ∧ r = k) ∨ ((∀ (j : Nat) b, l[j]? = some b → key b ≠ n) ∧ r = -1)
def bi {α : Type} (key : α → Str) (l : List α) (n : Str) : Option α := l.find? fun a => key a == n
theorem FirstAt.pos {α : Type} {key : α → Str} {l : List α} {n : Str} {r : Int} (h : FirstAt key l n r) : (∃ (k : Nat) (a : α), l[k]? = some a ∧ r = k ∧ bi key l n = some a) ∨ (r = -1 ∧ bi key l n = none) := by
 rcases h with ⟨k, a, h1, h2, h3, rfl⟩ | ⟨h1, rfl⟩
 ·refine .inl ⟨k, a, h1, rfl, ?_⟩
  unfold bi
  rw [List.find?_eq_some_iff_getElem]
  obtain ⟨hk, h1⟩ := List.getElem?_eq_some_iff.1 h1
  refine ⟨by simp [h2], k, hk, h1, fun j hj => ?_⟩
  have := h3 j l[j] hj (List.getElem?_eq_getElem _)
  simp [this]
 ·refine .inr ⟨rfl, ?_⟩
  unfold bi
  rw [List.find?_eq_none]
  intro x hx
  obtain ⟨j, hj, rfl⟩ := List.getElem_of_mem hx
  simpa using h1 j _ (List.getElem?_eq_getElem hj)
def valsOf (l : List PAttr) (n : Str) : List Str := match bi PAttr.name l n with
 | some a => a.vals
 | none => []
noncomputable def dW (l : List PClass) (az : List PAttr) : Option PClass := match valsOf az dN with
 | [v] => bi PClass.name l (norm v)
 | _ => none
noncomputable def lacks (c : PClass) (az : List PAttr) : List Str := c.must.filter fun t => (bi PAttr.name az t).isNone
noncomputable def bC (l : List PClass) (e : PEntry) : List Str := if dec (aZ l ∧ EntryOk e) = true then (match dW l e.attrs with
 | some c => lacks c e.attrs
 | none => []) else []
def Gs (H G : List Ob) (v : V) (cs : List V) : Prop := ∃ T id, G = H ++ T ∧ H.length ≤ id ∧ G[id]? = some (.mk true 1 cs) ∧ v = .slc (some (id, 0)) cs.length
theorem Gs.init {H : List Ob} : Gs H (H ++ [.mk true 1 []]) (.slc (some (H.length, 0)) 0) [] := ⟨_, H.length, rfl, Nat.le_refl _, by simp, rfl⟩
section
variable {H G : List Ob} {v : V} {cs : List V}
theorem Gs.push (h : Gs H G v cs) {x : V} {z : List V} {d : LD} {b : Nat} (hx : aJ x = true) (hb : (cs.length + 1) * b ≤ aB) (hb0 : 0 < b) (hb1 : b ≤ 1000000) (hz : z.length = 1) : ∃ v' G', aT ⟨d, 1, b, z⟩ (G ++ [.mk true 1 [x]]) v (.slc (some (G.length, 0)) 1) = some (v', G') ∧ Gs H G' v' (cs ++ [x]) := by
 obtain ⟨T, id, rfl, h1, h2, rfl⟩ := h
 have hid : id < (H ++ T).length := (List.getElem?_eq_some_iff.1 h2).1
 have hid' : id < H.length + T.length := by simpa using hid
 have hg : (H ++ T ++ [Ob.mk true 1 [x]])[id]? = some (.mk true 1 cs) := by rw [List.getElem?_append_left hid]; exact h2
 have hnew : aI ⟨d, 1, b, z⟩ (H ++ T ++ [Ob.mk true 1 [x]]) (.slc (some ((H ++ T).length, 0)) 1) = some ([x], 1) := by
  simp only [aI, Nat.mul_one, aQ, get_last]
  rfl
 refine ⟨.slc (some ((H ++ T ++ [Ob.mk true 1 [x]]).length, 0)) (cs.length + 1), (H ++ T ++ [Ob.mk true 1 [x]]).set id .dead ++ [.mk true 1 (cs ++ [x])], ?_, ?_⟩
 ·unfold aT
  rw [if_pos (by simp [fU, hz, hb0, hb1]), hnew]
  simp only [Nat.one_ne_zero, if_false, List.all_cons, List.all_nil, hx, Bool.and_true, if_true, hg]
  have e1 : ¬ (0 + (cs.length + 1) * 1 ≤ cs.length) := by omega
  have e2 : (0 + cs.length * 1 = cs.length ∨ cs.length = 0 ∧ cs.length ≤ 0) ∧ (cs.length + 1) * b ≤ aB := ⟨.inl (by simp), hb⟩
  rw [if_neg e1, if_pos e2, List.drop_zero]
 ·refine ⟨T.set (id - H.length) .dead ++ [.mk true 1 [x]] ++ [.mk true 1 (cs ++ [x])], (H ++ T ++ [Ob.mk true 1 [x]]).length, ?_, by simp only [List.length_append]; omega, ?_, by simp⟩
  ·rw [List.append_assoc H T, List.set_append_right _ _ h1, List.set_append_left _ _ (by omega)]
   simp
  ·have hl : ((H ++ T ++ [Ob.mk true 1 [x]]).set id .dead).length = (H ++ T ++ [Ob.mk true 1 [x]]).length := List.length_set
   rw [← hl, get_last]
theorem Gs.ext (h : Gs H G v cs) : ∃ T, G = H ++ T := by
 obtain ⟨T, id, h, _⟩ := h
 exact ⟨T, h⟩
theorem Gs.gc (h : Gs H G v cs) : eU H G v = G := by
 obtain ⟨T, id, rfl, h1, h2, rfl⟩ := h
 unfold eU
 rw [if_neg]
 rintro ⟨_, own, es, cells, h⟩
 have := (List.getElem?_eq_some_iff.1 h).1
 omega
theorem Gs.one (h : Gs H G v cs) : aJ v = true ∧ cellsOf v = some [v] := by
 obtain ⟨T, id, rfl, h1, h2, rfl⟩ := h
 exact ⟨rfl, rfl⟩
theorem Gs.strs {l : List Str} (h : Gs H G v (l.map V.str)) (hl : l.length ≤ maxLen) (hs : ∀ s ∈ l, s.length ≤ maxLen) : AStrs G v l ∧ ∃ id, AtF G (.slice .str) [v] (.lst (l.map qg)) [id] ∧ H.length ≤ id := by
 obtain ⟨T, id, rfl, h1, h2, rfl⟩ := h
 have hF : AtF (H ++ T) (.slice .str) [.slc (some (id, 0)) (l.map V.str).length] (.lst (l.map qg)) [id] := by
  refine eG.2 ⟨_, _, rfl, rfl, by simpa using hl, .inr ⟨id, 0, l.map V.str, List.replicate l.length [], by simp, h2, by simp, by simp, by simp, fun i x G hx hG => ?_⟩⟩
  rw [List.getElem?_map] at hx
  obtain ⟨s, hs', rfl⟩ := Option.map_eq_some_iff.1 hx
  have hi : i < l.length := (List.getElem?_eq_some_iff.1 hs').1
  rw [List.getElem?_replicate, if_pos hi] at hG
  cases hG
  refine qK.2 ⟨⟨s, ?_, rfl, hs s (List.mem_of_getElem? hs')⟩, rfl⟩
  rw [Sh.size_str, Nat.zero_add, Nat.mul_one, List.drop_eq_getElem_cons (by simpa using hi)]
  obtain ⟨_, rfl⟩ := List.getElem?_eq_some_iff.1 hs'
  simp
 exact ⟨AtF.at _ hF, id, hF, h1⟩
end
abbrev Dl : Sh := .st [.slice jX, .slice gz]
structure PTree where
 schema : List PClass
 entries : List PEntry
def PTree.u (t : PTree) : U := .st [.lst (t.schema.map PClass.u), .lst (t.entries.map PEntry.u)]
section
variable {H H' T : List Ob} {v : V}
end
noncomputable def JX (dn : List PRdn) : Str := Uo (dn.map fun r => (r.attr, r.value))
def oU (as' : List PAttr) (name n : Str) : Prop := n ≠ [] ∧ ∃ v ∈ valsOf as' name, norm v = n
def iR (c : PClass) (a : PAttr) : Prop := (a.name = dN ∨ a.name ∈ c.must ∨ a.name ∈ c.may) ∧ ¬ (1 < a.vals.length ∧ a.name ∈ c.single)
def ji (l : List PClass) (e : PEntry) : Prop := ∃ c, dW l e.attrs = some c ∧ lacks c e.attrs = [] ∧ (∀ a ∈ e.attrs, iR c a) ∧ ∃ r, e.dn[0]? = some r ∧ oU e.attrs r.attr (norm r.value)
def IX (es : List PEntry) (dn : List PRdn) : Prop := dn.length ≤ 1 ∨ ∃ y ∈ es, JX y.dn = JX dn.tail
def Gv (s : List PClass) (es : List PEntry) : Prop := es.length ≤ 20 ∧ ∀ (j : Nat) x, es[j]? = some x → EntryOk x ∧ ji s x ∧ bK (fun e => JX e.dn) es j x
def TreeOk (t : PTree) : Prop := aZ t.schema ∧ Gv t.schema t.entries ∧ ∀ x ∈ t.entries, IX t.entries x.dn
theorem DnOk.small {l : List PRdn} (hd : DnOk l) : l.length ≤ 1048576 ∧ ∀ x ∈ l, x.attr.length ≤ 1048576 ∧ x.value.length ≤ 1048576 := by
 refine ⟨by have := hd.2; omega, fun x hx => ?_⟩
 obtain ⟨j, hj, rfl⟩ := List.getElem_of_mem hx
 obtain ⟨h1, h2⟩ := hd.1 j _ (List.getElem?_eq_getElem hj)
 have := h1.2.1
 have := h2.2.1
 omega
theorem DnOk.tail {l : List PRdn} (hd : DnOk l) : DnOk l.tail := by
 refine ⟨fun j x hx => hd.1 (j + 1) x (by rw [List.getElem?_tail] at hx; exact hx), ?_⟩
 have := hd.2
 simp
 omega

section
variable {H H' T : List Ob}
theorem Sl.mapL {α : Type} {es : Nat} {R R' : List V → α → Prop} {v : V} {xs : List α} (h : Sl H es R v xs) (hH : ∀ (id : Nat) own es cells, H[id]? = some (.mk own es cells) → H'[id]? = some (.mk own es cells)) (hR : ∀ cs x, R cs x → R' cs x) : Sl H' es R' v xs := by
 rcases h with h | ⟨id, off, own, cells, h1, h2, h3, h4⟩
 ·exact .inl h
 ·exact .inr ⟨id, off, own, cells, h1, hH _ _ _ _ h2, h3, fun i x hx => hR _ _ (h4 i x hx)⟩
mutual
theorem At.upL (hH : ∀ (id : Nat) own es cells, H[id]? = some (.mk own es cells) → H'[id]? = some (.mk own es cells)) : ∀ (sh : Sh) {cs : List V} {u : U}, At H sh cs u → At H' sh cs u
 | .int k, _, _, h => h
 | .bool, _, _, h => h
 | .str, _, _, h => h
 | .slice e, _, _, h => by
  simp only [At] at h ⊢
  obtain ⟨v, l, h1, h2, h3, h4⟩ := h
  exact ⟨v, l, h1, h2, h3, h4.mapL hH fun _ _ h => At.upL hH e h⟩
 | .st fs, _, _, h => by
  simp only [At] at h ⊢
  obtain ⟨us, h1, h2⟩ := h
  exact ⟨us, h1, Ats.upL hH fs h2⟩
theorem Ats.upL (hH : ∀ (id : Nat) own es cells, H[id]? = some (.mk own es cells) → H'[id]? = some (.mk own es cells)) : ∀ (fs : List Sh) {cs : List V} {us : List U}, Ats H fs cs us → Ats H' fs cs us
 | [], _, _, h => h
 | f :: fs, _, _, h => by
  simp only [Ats] at h ⊢
  obtain ⟨c1, c2, u, us', h1, h2, h3, h4⟩ := h
  exact ⟨c1, c2, u, us', h1, h2, At.upL hH f h3, Ats.upL hH fs h4⟩
end
theorem At.undead {id : Nat} {sh : Sh} {cs : List V} {u : U} (h : At (H.set id .dead) sh cs u) : At H sh cs u := by
 refine At.upL (fun q own es cells hq => ?_) sh h
 by_cases e : id = q
 ·subst e
  by_cases hl : id < H.length
  ·rw [List.getElem?_set_self hl] at hq; cases hq
  ·rw [List.getElem?_eq_none (by simp; omega)] at hq; cases hq
 ·rwa [List.getElem?_set_ne e] at hq
theorem AtF.kill {id : Nat} {sh : Sh} {cs : List V} {u : U} {F : List Nat} (h : AtF H sh cs u F) (hF : id ∉ F) {o : Ob} : AtF (H.set id o) sh cs u F :=
 h.frame sh fun q hq => List.getElem?_set_ne fun e => hF (by rw [e]; exact hq)
theorem ku {id : Nat} {o : Ob} (h : id < H.length) : (H ++ T).set id o = H.set id o ++ T := List.set_append_left _ _ h
theorem IE {id : Nat} {o : Ob} (h : H.length ≤ id) : ∃ T', (H ++ T).set id o = H ++ T' := ⟨_, List.set_append_right _ _ h⟩
end
def New (b e : Nat) (G : List Ob) (sh : Sh) (cs : List V) (u : U) : Prop := ∃ F, AtF G sh cs u F ∧ F.Nodup ∧ ∀ q ∈ F, b ≤ q ∧ q < e
def News (b e : Nat) (G : List Ob) (fs : List Sh) (cs : List V) (us : List U) : Prop := ∃ F, AtsF G fs cs us F ∧ F.Nodup ∧ ∀ q ∈ F, b ≤ q ∧ q < e
section
variable {b e b' e' : Nat} {G G' T : List Ob} {sh : Sh} {fs : List Sh} {cs c1 c2 : List V} {u : U} {us : List U}
theorem New.at (h : New b e G sh cs u) : At G sh cs u := h.elim fun _ h => AtF.at _ h.1
theorem New.ext (h : New b e G sh cs u) : New b e (G ++ T) sh cs u := h.imp fun _ h => ⟨h.1.ext, h.2⟩
theorem New.wide (h : New b e G sh cs u) (hb : b' ≤ b) (he : e ≤ e') : New b' e' G sh cs u := h.imp fun _ h => ⟨h.1, h.2.1, fun q hq => ⟨Nat.le_trans hb (h.2.2 q hq).1, Nat.lt_of_lt_of_le (h.2.2 q hq).2 he⟩⟩
theorem New.frame (h : New b e G sh cs u) (hG : ∀ q, b ≤ q → q < e → G'[q]? = G[q]?) : New b e G' sh cs u := h.imp fun _ h => ⟨h.1.frame _ fun q hq => hG q (h.2.2 q hq).1 (h.2.2 q hq).2, h.2⟩
theorem New.inG (h : New b e G sh cs u) : New b G.length G sh cs u := h.imp fun _ h => ⟨h.1, h.2.1, fun q hq => ⟨(h.2.2 q hq).1, AtF.mem _ h.1 q hq⟩⟩
theorem New.kill (h : New b e G sh cs u) {id : Nat} (hid : id < b ∨ e ≤ id) {o : Ob} : New b e (G.set id o) sh cs u := h.frame fun q h1 h2 => List.getElem?_set_ne (by omega)
theorem New.str {s : Str} (h : s.length ≤ maxLen) : New b e G .str [.str s] (.str s) := ⟨[], qK.2 ⟨⟨s, rfl, rfl, h⟩, rfl⟩, by simp, by simp⟩
theorem New.int {k : IntKind} {n : Int} (h : (Lit.int k n).wf = true) : New b e G (.int k) [.int k n] (.int n) := ⟨[], zT.2 ⟨⟨n, rfl, rfl, h⟩, rfl⟩, by simp, by simp⟩
theorem New.bool {t : Bool} : New b e G .bool [.bool t] (.bool t) := ⟨[], vV.2 ⟨⟨t, rfl, rfl⟩, rfl⟩, by simp, by simp⟩
theorem New.nil : New b e G (.slice sh) [.slc none 0] (.lst []) := ⟨[], eG.2 ⟨_, _, rfl, rfl, by simp, .inl ⟨rfl, rfl, rfl⟩⟩, by simp, by simp⟩
theorem News.nil : News b e G [] [] [] := ⟨[], Bg.2 ⟨rfl, rfl, rfl⟩, by simp, by simp⟩
theorem News.ext (h : News b e G fs cs us) : News b e (G ++ T) fs cs us := by
 obtain ⟨F, h1, h2⟩ := h
 exact ⟨F, AtsF.frame _ (fun q hq => List.getElem?_append_left (AtsF.mem _ h1 q hq)) h1, h2⟩
theorem News.frame (h : News b e G fs cs us) (hG : ∀ q, b ≤ q → q < e → G'[q]? = G[q]?) : News b e G' fs cs us := h.imp fun _ h => ⟨h.1.frame _ fun q hq => hG q (h.2.2 q hq).1 (h.2.2 q hq).2, h.2⟩
theorem New.st (h : News b e G fs cs us) : New b e G (.st fs) cs (.st us) := h.imp fun _ h => ⟨uY.2 ⟨_, rfl, h.1⟩, h.2⟩
theorem News.cons {m : Nat} (h : New b m G sh c1 u) (hs : News m e G fs c2 us) (h1 : b ≤ m) (h2 : m ≤ e) : News b e G (sh :: fs) (c1 ++ c2) (u :: us) := by
 obtain ⟨F, f1, f2, f3⟩ := h
 obtain ⟨K, k1, k2, k3⟩ := hs
 refine ⟨F ++ K, jf.2 ⟨c1, c2, u, us, F, K, rfl, rfl, rfl, f1, k1⟩, List.nodup_append.2 ⟨f2, k2, fun x hx y hy e => ?_⟩, fun q hq => ?_⟩
 ·subst e; have := f3 x hx; have := k3 x hy; omega
 ·rcases List.mem_append.1 hq with hq | hq
  ·have := f3 q hq; omega
  ·have := k3 q hq; omega
theorem News.cons0 (h : AtF G sh c1 u []) (hs : News b e G fs c2 us) : News b e G (sh :: fs) (c1 ++ c2) (u :: us) := by
 obtain ⟨K, k1, k2⟩ := hs
 exact ⟨K, jf.2 ⟨c1, c2, u, us, [], K, rfl, rfl, rfl, h, k1⟩, k2⟩
theorem News.str {s : Str} (hl : s.length ≤ maxLen) (hs : News b e G fs c2 us) : News b e G (.str :: fs) (.str s :: c2) (.str s :: us) := News.cons0 (c1 := [.str s]) (qK.2 ⟨⟨s, rfl, rfl, hl⟩, rfl⟩) hs
theorem News.int {k : IntKind} {n : Int} (hn : (Lit.int k n).wf = true) (hs : News b e G fs c2 us) : News b e G (.int k :: fs) (.int k n :: c2) (.int n :: us) := News.cons0 (c1 := [.int k n]) (zT.2 ⟨⟨n, rfl, rfl, hn⟩, rfl⟩) hs
theorem News.bool {t : Bool} (hs : News b e G fs c2 us) : News b e G (.bool :: fs) (.bool t :: c2) (.bool t :: us) := News.cons0 (c1 := [.bool t]) (vV.2 ⟨⟨t, rfl, rfl⟩, rfl⟩) hs
theorem News.nilS {e' : Sh} (hs : News b e G fs c2 us) : News b e G (.slice e' :: fs) (.slc none 0 :: c2) (.lst [] :: us) := News.cons0 (c1 := [.slc none 0]) (eG.2 ⟨_, _, rfl, rfl, by simp, .inl ⟨rfl, rfl, rfl⟩⟩) hs
theorem News.one (h : New b e G sh cs u) (h1 : b ≤ e) : News b e G [sh] cs [u] := by
 have := News.cons h (News.nil (b := e) (e := e) (G := G)) h1 (Nat.le_refl _)
 simpa using this
theorem New.gc {H : List Ob} {v : V} (hv : dZ H v ↔ gK H cs) (h : New H.length e (H ++ T) sh cs u) : ∃ T', eU H (H ++ T) v = H ++ T' ∧ New H.length (H ++ T').length (H ++ T') sh cs u := by
 by_cases hl : dZ H v
 ·refine ⟨[], by rw [kw hl, List.append_nil], ?_⟩
  obtain ⟨F, h1, h2, h3⟩ := h
  have hF : F = [] := AtF.cut _ h1 (fun q hq => (h3 q hq).1) (hv.1 hl)
  subst hF
  exact ⟨[], AtF.frame _ (fun q hq => by cases hq) h1, by simp, by simp⟩
 ·refine ⟨T, ?_, h.inG⟩
  unfold eU
  rw [if_neg fun h => hl h.2]
theorem New.one1 {v : V} {e0 : Sh} (h : New b e G (.slice e0) [v] u) : aJ v = true ∧ cellsOf v = some [v] := by
 obtain ⟨w, l, hw, _, _, h4⟩ := aC.1 h.at
 cases hw
 exact h4.one
theorem New.gc1 {H : List Ob} {v : V} (h : New H.length e (H ++ T) sh [v] u) : ∃ T', eU H (H ++ T) v = H ++ T' ∧ New H.length (H ++ T').length (H ++ T') sh [v] u := h.gc (by simp [gK])
theorem New.gcA {H : List Ob} (h : New H.length e (H ++ T) sh cs u) : ∃ T', eU H (H ++ T) (.agg cs) = H ++ T' ∧ New H.length (H ++ T').length (H ++ T') sh cs u := h.gc (by simp [dZ])
end
theorem dM {d : LD} {sz by_ : Nat} {z : List V} {G : List Ob} {id n m : Nat} {cs xs : List V} {x : V} (hz : z.length = sz) (h0 : 0 < sz) (hb0 : 0 < by_) (hb1 : by_ ≤ 1000000) (h : G[id]? = some (.mk true sz cs)) (hl : cs.length = n * sz)
  (hx : aI ⟨d, sz, by_, z⟩ G x = some (xs, m)) (hm : m ≠ 0) (ho : xs.all aJ = true) (hb : (n + m) * by_ ≤ aB) :
  aT ⟨d, sz, by_, z⟩ G (.slc (some (id, 0)) n) x = some (.slc (some (G.length, 0)) (n + m), G.set id .dead ++ [.mk true sz (cs ++ xs)]) := by
 have e0 : 0 < m * sz := Nat.mul_pos (by omega) h0
 have e1 : (n + m) * sz = n * sz + m * sz := Nat.add_mul _ _ _
 unfold aT
 rw [if_pos (by simp [fU, h0, hb0, hb1, hz]), hx]
 simp only [hm, if_false, ho, if_true, h]
 rw [if_neg (by omega), if_pos ⟨.inl (by omega), hb⟩, List.drop_zero]
theorem lg {d : LD} {sz by_ : Nat} {z : List V} {G : List Ob} {m : Nat} {xs : List V} {x : V} (hz : z.length = sz) (h0 : 0 < sz) (hb0 : 0 < by_) (hb1 : by_ ≤ 1000000)
  (hx : aI ⟨d, sz, by_, z⟩ G x = some (xs, m)) (hm : m ≠ 0) (ho : xs.all aJ = true) (hb : m * by_ ≤ aB) :
  aT ⟨d, sz, by_, z⟩ G (.slc none 0) x = some (.slc (some (G.length, 0)) m, G ++ [.mk true sz xs]) := by
 unfold aT
 rw [if_pos (by simp [fU, h0, hb0, hb1, hz]), hx]
 simp only [hm, if_false, ho, if_true]
 rw [if_pos hb]
theorem iQ {d : LD} {by_ : Nat} {z : List V} {G : List Ob} {es : Nat} {c : List V} (h0 : 0 < c.length) : aI ⟨d, c.length, by_, z⟩ (G ++ [.mk true es c]) (.slc (some (G.length, 0)) 1) = some (c, 1) := by
 have : ¬ c.length = 0 := by omega
 simp [aI, aQ, this]
def Lst {α : Type} (B G : List Ob) (sh : Sh) (f : α → U) (v : V) (l : List α) : Prop := (∃ T, G = B ++ T) ∧ ((v = .slc none 0 ∧ l = []) ∨ ∃ id cs, B.length ≤ id ∧ G[id]? = some (.mk true sh.size cs) ∧ v = .slc (some (id, 0)) l.length ∧
 cs.length = l.length * sh.size ∧ ∀ i x, l[i]? = some x → At (G.set id .dead) sh ((cs.drop (i * sh.size)).take sh.size) (f x))
section
variable {α : Type} {B G T : List Ob} {sh : Sh} {f : α → U} {v : V} {l : List α}
theorem Lst.nil : Lst B B sh f (.slc none 0) [] := ⟨⟨[], by simp⟩, .inl ⟨rfl, rfl⟩⟩
theorem Lst.init : Lst B (B ++ [.mk true sh.size []]) sh f (.slc (some (B.length, 0)) 0) [] := ⟨⟨_, rfl⟩, .inr ⟨B.length, [], Nat.le_refl _, by simp, rfl, by simp, fun i x h => by simp at h⟩⟩
theorem Lst.pre (h : Lst B G sh f v l) : ∃ T, G = B ++ T := h.1
theorem Lst.ext (h : Lst B G sh f v l) : Lst B (G ++ T) sh f v l := by
 obtain ⟨⟨S, hS⟩, h⟩ := h
 refine ⟨⟨S ++ T, by rw [hS, List.append_assoc]⟩, ?_⟩
 rcases h with h | ⟨id, cs, h1, h2, h3, h4, h5⟩
 ·exact .inl h
 ·have hid := (List.getElem?_eq_some_iff.1 h2).1
  exact .inr ⟨id, cs, h1, by rw [List.getElem?_append_left hid]; exact h2, h3, h4, fun i x hx => by rw [ku hid]; exact (h5 i x hx).ext⟩
theorem Lst.one (h : Lst B G sh f v l) : aJ v = true ∧ cellsOf v = some [v] := by
 obtain ⟨_, ⟨rfl, _⟩ | ⟨id, cs, _, _, rfl, _⟩⟩ := h <;> exact ⟨rfl, rfl⟩
theorem Lst.len (h : Lst B G sh f v l) {e s b : Nat} {z : List V} : lenV ⟨.slice e, s, b, z⟩ v = some (.int .i64 l.length) := by
 obtain ⟨_, ⟨rfl, rfl⟩ | ⟨id, cs, _, _, rfl, _⟩⟩ := h <;> rfl
theorem Lst.at (h : Lst B G sh f v l) (hl : l.length ≤ maxLen) : ASl G sh f v l := by
 obtain ⟨_, ⟨rfl, rfl⟩ | ⟨id, cs, h1, h2, rfl, h4, h5⟩⟩ := h
 ·exact aC.2 ⟨_, _, rfl, rfl, by simp, .inl ⟨rfl, rfl⟩⟩
 ·refine aC.2 ⟨_, _, rfl, rfl, by simpa using hl, .inr ⟨id, 0, true, cs, by simp, h2, by simp; omega, fun i x hx => ?_⟩⟩
  rw [List.getElem?_map] at hx
  obtain ⟨y, hy, rfl⟩ := Option.map_eq_some_iff.1 hx
  rw [Nat.zero_add]
  exact (h5 i y hy).undead
theorem vg {cs c : List V} {n s : Nat} (hl : cs.length = n * s) (hc : c.length = s) {P : Nat → List V → Prop} (h1 : ∀ i, i < n → P i ((cs.drop (i * s)).take s)) (h2 : P n c) : ∀ i, i < n + 1 → P i (((cs ++ c).drop (i * s)).take s) := by
 intro i hi
 by_cases e : i = n
 ·subst e
  rw [List.drop_append_of_le_length (by omega), List.drop_of_length_le (by omega), List.nil_append, List.take_of_length_le (by omega)]
  exact h2
 ·have h3 : i * s + s ≤ n * s := gW (by omega)
  rw [List.drop_append_of_le_length (by omega), List.take_append_of_le_length (by simp; omega)]
  exact h1 i (by omega)
theorem Lst.apart (h : Lst B G sh f v l) {q n : Nat} (hq : G.length ≤ q) : v ≠ .slc (some (q, 0)) n := by
 obtain ⟨_, ⟨rfl, _⟩ | ⟨id, cs, _, h2, rfl, _⟩⟩ := h
 ·simp
 ·have := (List.getElem?_eq_some_iff.1 h2).1
  simp
  omega
theorem Lst.push {d : LD} {sz by_ : Nat} {z : List V} (h : Lst B G sh f v l) {x : α} {c : List V} (hx : (∃ F, AtF (G ++ T) sh c (f x) F ∧ ∀ q ∈ F, ∀ n, v ≠ .slc (some (q, 0)) n) ∨ At B sh c (f x)) (hs : sz = sh.size) (hz : z.length = sz) (h0 : 0 < sz) (hb0 : 0 < by_) (hb1 : by_ ≤ 1000000) (hb : (l.length + 1) * by_ ≤ aB) :
  ∃ v' G', aT ⟨d, sz, by_, z⟩ (G ++ T ++ [.mk true sz c]) v (.slc (some ((G ++ T).length, 0)) 1) = some (v', G') ∧ Lst B G' sh f v' (l ++ [x]) ∧ c.length = sz ∧ c.all aJ = true ∧
   v' = .slc (some ((G ++ T).length + 1, 0)) (l.length + 1) ∧ (∀ q, q < (G ++ T).length → (∀ n, v ≠ .slc (some (q, 0)) n) → G'[q]? = (G ++ T)[q]?) ∧ (G ++ T).length + 2 = G'.length := by
 obtain ⟨S, hS⟩ := h.1
 have hat : At (G ++ T) sh c (f x) := by
  rcases hx with ⟨F, h1, _⟩ | hx
  ·exact AtF.at _ h1
  ·rw [hS, List.append_assoc]; exact hx.ext
 have hcl : c.length = sz := by rw [hs]; exact At.len _ hat
 have hco := At.ones _ hat
 subst hcl
 have hnew := iQ (d := d) (by_ := by_) (z := z) (G := G ++ T) (es := c.length) h0
 obtain ⟨_, ⟨rfl, rfl⟩ | ⟨id, cs, h1, h2, rfl, h4, h5⟩⟩ := h
 ·refine ⟨_, _, lg hz h0 hb0 hb1 hnew (by decide) hco (by simpa using hb), ⟨⟨_, by rw [hS, List.append_assoc, List.append_assoc, List.append_assoc]⟩, .inr ⟨_, c, ?_, get_last.trans (by rw [hs]), by simp, by simp [hs], fun i y hy => ?_⟩⟩, rfl, hco, by simp [Nat.add_assoc], fun q hq _ => ?_, by simp [Nat.add_assoc]⟩
  ·simp [hS]
  ·rw [iV]
   have : i = 0 := by
    have := (List.getElem?_eq_some_iff.1 hy).1
    simp at this; omega
   subst this
   cases hy
   rw [Nat.zero_mul, List.drop_zero, List.take_of_length_le (by omega)]
   exact hat.ext.ext
  ·rw [List.append_assoc, List.getElem?_append_left hq]
 ·have hid := (List.getElem?_eq_some_iff.1 h2).1
  have h2' : (G ++ T ++ [Ob.mk true c.length c])[id]? = some (.mk true c.length cs) := by rw [List.append_assoc, List.getElem?_append_left hid, h2, hs]
  refine ⟨_, _, dM hz h0 hb0 hb1 h2' (by rw [h4, hs]) hnew (by decide) hco hb, ⟨?_, .inr ⟨(G ++ T ++ [Ob.mk true c.length c]).length, cs ++ c, by simp [hS], ?_, by simp, by simp [h4, hs, Nat.add_mul], ?_⟩⟩, rfl, hco, by simp [Nat.add_assoc], fun q hq hn => ?_, by simp [Nat.add_assoc]⟩
  ·rw [hS, List.append_assoc, List.append_assoc, List.set_append_right _ _ h1, List.append_assoc]
   exact ⟨_, rfl⟩
  ·have : (G ++ T ++ [Ob.mk true c.length c]).length = ((G ++ T ++ [Ob.mk true c.length c]).set id .dead).length := List.length_set.symm
   rw [this, get_last, hs]
  ·have hlen : (G ++ T ++ [Ob.mk true c.length c]).length = ((G ++ T ++ [Ob.mk true c.length c]).set id .dead).length := List.length_set.symm
   have hG' : ((G ++ T ++ [Ob.mk true c.length c]).set id .dead ++ [Ob.mk true c.length (cs ++ c)]).set (G ++ T ++ [Ob.mk true c.length c]).length .dead = G.set id .dead ++ (T ++ [Ob.mk true c.length c] ++ [.dead]) := by
    rw [hlen, iV, List.append_assoc G, ku hid, List.append_assoc]
   rw [hG']
   have key := vg (n := l.length) (s := sh.size) (cs := cs) (c := c) (by rw [h4]) hs (P := fun i cc => ∀ y, (l ++ [x])[i]? = some y → At (G.set id .dead ++ (T ++ [Ob.mk true c.length c] ++ [.dead])) sh cc (f y)) (fun i hi y hy => by
     rw [List.getElem?_append_left hi] at hy
     exact (h5 i y hy).ext) (fun y hy => by
     simp at hy
     subst hy
     rcases hx with ⟨F, f1, f2⟩ | hx
     ·have := AtF.at _ (AtF.kill (id := id) (o := .dead) f1 fun hm => f2 id hm _ rfl)
      rw [ku hid] at this
      have := this.ext (T := [Ob.mk true c.length c] ++ [.dead])
      simpa [List.append_assoc] using this
     ·rw [hS, List.set_append_right _ _ h1, List.append_assoc]
      exact hx.ext)
   intro i y hy
   have hi : i < l.length + 1 := by
    have := (List.getElem?_eq_some_iff.1 hy).1
    simpa using this
   exact key i hi y hy
  ·have hne : q ≠ id := fun e => hn _ (by rw [e])
   rw [List.getElem?_append_left (by simp at hq ⊢; omega), List.getElem?_set_ne (fun e => hne e.symm), List.getElem?_append_left hq]
end
mutual
def Sh.flat : Sh → Bool
 | .slice _ => false
 | .st fs => Sh.flats fs
 | _ => true
def Sh.flats : List Sh → Bool
 | [] => true
 | f :: fs => f.flat && Sh.flats fs
end
section
variable {H H' : List Ob}
mutual
theorem At.flat : ∀ (sh : Sh) {cs : List V} {u : U}, sh.flat = true → At H sh cs u → AtF H' sh cs u []
 | .int k, _, _, _, h => zT.2 ⟨nY.1 h, rfl⟩
 | .bool, _, _, _, h => vV.2 ⟨uF.1 h, rfl⟩
 | .str, _, _, _, h => qK.2 ⟨ed.1 h, rfl⟩
 | .slice e, _, _, hf, _ => by simp [Sh.flat] at hf
 | .st fs, _, _, hf, h => by
  obtain ⟨us, h1, h2⟩ := kS.1 h
  exact uY.2 ⟨us, h1, Ats.flat fs (by simpa [Sh.flat] using hf) h2⟩
theorem Ats.flat : ∀ (fs : List Sh) {cs : List V} {us : List U}, Sh.flats fs = true → Ats H fs cs us → AtsF H' fs cs us []
 | [], _, _, _, h => by obtain ⟨rfl, rfl⟩ := fV.1 h; exact Bg.2 ⟨rfl, rfl, rfl⟩
 | f :: fs, _, _, hf, h => by
  obtain ⟨c1, c2, u, us', h1, h2, h3, h4⟩ := bn.1 h
  simp only [Sh.flats, Bool.and_eq_true] at hf
  exact jf.2 ⟨c1, c2, u, us', [], [], h1, h2, rfl, At.flat f hf.1 h3, Ats.flat fs hf.2 h4⟩
end
end
theorem yG {cells : List V} {off n s i : Nat} (h : off + n * s ≤ cells.length) (hi : i < n) : ((((cells.drop off).take (n * s)).drop (i * s)).take s) = (cells.drop (off + i * s)).take s := by
 have h1 : i * s + s ≤ n * s := gW hi
 apply List.ext_getElem?
 intro j
 by_cases hj : j < s
 ·rw [List.getElem?_take_of_lt hj, List.getElem?_take_of_lt hj, List.getElem?_drop, List.getElem?_take_of_lt (by omega), List.getElem?_drop, List.getElem?_drop]
  congr 1
  omega
 ·rw [List.getElem?_eq_none (by simp; omega), List.getElem?_eq_none (by simp; omega)]
theorem yK {cs : List V} {n s : Nat} (hl : cs.length = n * s) (h : ∀ i, i < n → ((cs.drop (i * s)).take s).all aJ = true) : cs.all aJ = true := by
 rw [List.all_eq_true]
 intro x hx
 obtain ⟨j, hj, rfl⟩ := List.getElem_of_mem hx
 have hs : 0 < s := by
  rcases Nat.eq_zero_or_pos s with h0 | h0
  ·subst h0; simp at hl; simp [hl] at hj
  ·exact h0
 have hd : j / s < n := Nat.div_lt_of_lt_mul (by rw [Nat.mul_comm]; omega)
 have h1 := h (j / s) hd
 rw [List.all_eq_true] at h1
 refine h1 _ (List.mem_iff_getElem?.2 ⟨j % s, ?_⟩)
 rw [List.getElem?_take_of_lt (Nat.mod_lt _ hs), List.getElem?_drop, show j / s * s + j % s = j from Nat.div_add_mod' j s, List.getElem?_eq_getElem hj]
section
variable {α : Type} {H T : List Ob} {sh : Sh} {f : α → U} {v : V} {l : List α}
theorem ASl.cells (h : ASl H sh f v l) (hs : sh.size ≠ 0) : ∃ p cs, v = .slc p l.length ∧ (∀ T, aQ (H ++ T) p (l.length * sh.size) = some cs) ∧ cs.length = l.length * sh.size ∧ cs.all aJ = true ∧ (p = none → l = []) ∧
  (∀ i x, l[i]? = some x → At H sh ((cs.drop (i * sh.size)).take sh.size) (f x)) := by
 rcases h.sl with ⟨rfl, hl⟩ | ⟨id, off, own, cells, rfl, h2, h3, h4⟩
 ·have : l = [] := by simpa using hl
  subst this
  exact ⟨none, [], rfl, fun T => by simp [aQ], by simp, rfl, fun _ => rfl, fun i x hx => by simp at hx⟩
 ·rw [List.length_map] at h3 ⊢
  have hch : ∀ i x, l[i]? = some x → At H sh ((((cells.drop off).take (l.length * sh.size)).drop (i * sh.size)).take sh.size) (f x) := fun i x hx => by
   rw [yG h3 (List.getElem?_eq_some_iff.1 hx).1]
   exact h4 i (f x) (by rw [List.getElem?_map, hx]; rfl)
  refine ⟨some (id, off), (cells.drop off).take (l.length * sh.size), rfl, fun T => ?_, by simp; omega, ?_, (fun h => by cases h), hch⟩
  ·by_cases h0 : l.length * sh.size = 0
   ·simp [aQ, h0]
   ·simp only [aQ, aW _ _ h2, if_neg h0]
    unfold dO
    rw [if_pos h3]
  ·exact yK (n := l.length) (s := sh.size) (by simp; omega) fun i hi => At.ones _ (hch i l[i] (List.getElem?_eq_getElem hi))
theorem gI {d : LD} {sz by_ : Nat} {z : List V} (h : ASl H sh f v l) (hf : sh.flat = true) (hs : sz = sh.size) (hz : z.length = sz) (h0 : 0 < sz) (hb0 : 0 < by_) (hb1 : by_ ≤ 1000000) (hb : l.length * by_ ≤ aB) :
  ∃ w T', aT ⟨d, sz, by_, z⟩ (H ++ [.mk true sz []]) (.slc (some (H.length, 0)) 0) v = some (w, H ++ T') ∧ New H.length (H ++ T').length (H ++ T') (.slice sh) [w] (.lst (l.map f)) := by
 obtain ⟨p, cs, rfl, hc, hl, ho, hp, hat⟩ := h.cells (by omega)
 have hbd := h.bound
 subst hs
 have hnew : aI ⟨d, sh.size, by_, z⟩ (H ++ [.mk true sh.size []]) (.slc p l.length) = some (cs, l.length) := by simp only [aI, hc]
 by_cases hm : l.length = 0
 ·have hl0 : l = [] := List.length_eq_zero_iff.1 hm
  subst hl0
  refine ⟨.slc (some (H.length, 0)) 0, [.mk true sh.size []], ?_, ⟨[H.length], eG.2 ⟨_, [], rfl, rfl, by simp, .inr ⟨H.length, 0, [], [], rfl, by simp, by simp, rfl, rfl, fun i x F hx => by simp at hx⟩⟩, by simp, by simp⟩⟩
  unfold aT
  rw [if_pos (by simp [fU, h0, hb0, hb1, hz]), hnew]
  simp
 ·have ha := dM (n := 0) (cs := []) (id := H.length) hz h0 hb0 hb1 (G := H ++ [.mk true sh.size []]) (by simp) (by simp) hnew hm ho (by simpa using hb)
  rw [Nat.zero_add, List.nil_append] at ha
  refine ⟨.slc (some (H.length + 1, 0)) l.length, [.dead, .mk true sh.size cs], by rw [ha, List.set_append_right _ _ (Nat.le_refl _), List.append_assoc]; simp, ⟨[H.length + 1], ?_, by simp, by simp⟩⟩
  refine eG.2 ⟨.slc (some (H.length + 1, 0)) l.length, l.map f, rfl, rfl, by simpa using hbd, .inr ⟨H.length + 1, 0, cs, List.replicate l.length [], by simp, ?_, by simp; omega, by simp, by simp, fun i x F hx hF => ?_⟩⟩
  ·rw [List.getElem?_append_right (by omega)]; simp
  ·rw [List.getElem?_map] at hx
   obtain ⟨y, hy, rfl⟩ := Option.map_eq_some_iff.1 hx
   have hi : i < l.length := (List.getElem?_eq_some_iff.1 hy).1
   rw [List.getElem?_replicate, if_pos hi] at hF
   cases hF
   rw [Nat.zero_add]
   exact At.flat _ hf (hat i y hy)
end
theorem dG (a : Str) : ¬ bT a a := by
 induction a with
 | nil => simp [bT, Op.bytesLess]
 | cons x xs ih => simpa [bT, Op.bytesLess] using ih
noncomputable def qZ (l : List Str) (x : Str) : List Str := l.takeWhile (fun y => dec (bT (norm y) (norm x))) ++ x :: l.dropWhile (fun y => dec (bT (norm y) (norm x)))
noncomputable def bV (l : List Str) : List Str := l.foldl qZ []
def kH (l : List Str) : Prop := (∀ (i : Nat) x, l[i]? = some x → aO x ∧ ∀ j y, j < i → l[j]? = some y → norm y ≠ norm x) ∧ l.length ≤ 4
theorem Hl (l : List Str) (x : Str) : (qZ l x).Perm (x :: l) := by
 unfold qZ
 have : l.takeWhile (fun y => dec (bT (norm y) (norm x))) ++ l.dropWhile (fun y => dec (bT (norm y) (norm x))) = l := List.takeWhile_append_dropWhile
 refine (List.perm_middle).trans ?_
 rw [this]
theorem ig : ∀ (l a : List Str), (l.foldl qZ a).Perm (a ++ l)
 | [], a => by simp
 | x :: l, a => by
  have h1 := ig l (qZ a x)
  simp only [List.foldl_cons]
  refine h1.trans ?_
  refine ((Hl a x).append_right l).trans ?_
  simpa using (List.perm_middle (l₁ := a) (a := x) (l₂ := l)).symm
theorem pX (l : List Str) : (bV l).Perm l := by
 have := ig l []
 rwa [List.nil_append] at this
theorem oC (l : List Str) : (bV l).length = l.length := (pX l).length_eq
theorem xM : bV [] = [] := rfl
noncomputable def bP (l : List PAttr) (n : Str) (vs : List Str) : List PAttr := l.filter (fun a => dec (bT a.name n)) ++ (if vs = [] then [] else [⟨n, vs⟩]) ++ l.filter (fun a => dec (bT n a.name))
noncomputable def pI (e : PEntry) (n : Str) (vs : List Str) : PEntry := ⟨e.dn, bP e.attrs n vs⟩
structure PEntryOut where
 entry : PEntry
 code : Int
def PEntryOut.u (o : PEntryOut) : U := .st [o.entry.u, .int o.code]
abbrev jg : Sh := .st [gz, .int .i64]
def jb (c : Int) : PEntryOut := ⟨⟨[], []⟩, c⟩
noncomputable def mQ (e : PEntry) (n : Str) (vs : List Str) : PEntryOut := if vs ≠ [] ∧ 8 ≤ e.attrs.length ∧ bi PAttr.name e.attrs n = none then jb 9 else ⟨pI e n (bV vs), 0⟩
noncomputable def bF (e : PEntry) (n : Str) (vs : List Str) : PEntryOut :=
 if 8000 < n.length ∨ 400 < vs.length then jb 2 else if dec (EntryOk e ∧ aG n ∧ kH vs) = true then mQ e n vs else jb 1
theorem dD {H : List Ob} {cs : List V} {o : PEntryOut} : At H jg cs o.u ↔ ∃ v1 v2, cs = [v1, v2, .int .i64 o.code] ∧ eu H v1 o.entry.dn ∧ bD H v2 o.entry.attrs ∧ (Lit.int .i64 o.code).wf = true := by
 constructor
 ·intro h
  obtain ⟨us, hu, h⟩ := kS.1 h
  cases hu
  obtain ⟨c1, c2, u1, us1, rfl, hu, h1, h⟩ := bn.1 h
  cases hu
  obtain ⟨c3, c4, u2, us2, rfl, hu, h2, h⟩ := bn.1 h
  cases hu
  obtain ⟨rfl, _⟩ := fV.1 h
  obtain ⟨v1, v2, rfl, a1, a2⟩ := jC.1 h1
  obtain ⟨n, rfl, hn, w⟩ := nY.1 h2
  cases hn
  exact ⟨v1, v2, rfl, a1, a2, w⟩
 ·rintro ⟨v1, v2, rfl, h1, h2, w⟩
  exact kS.2 ⟨_, rfl, bn.2 ⟨[v1, v2], _, _, _, rfl, rfl, jC.2 ⟨_, _, rfl, h1, h2⟩, bn.2 ⟨[_], _, _, _, rfl, rfl, nY.2 ⟨_, rfl, rfl, w⟩, fV.2 ⟨rfl, rfl⟩⟩⟩⟩
section
variable {α : Type} {H T : List Ob} {sh : Sh} {f : α → U} {v : V} {l : List α}
theorem ASl.sub (h : ASl H sh f v l) : (v = .slc none 0 ∧ l = []) ∨ ∃ id off own cells, v = .slc (some (id, off)) l.length ∧ H[id]? = some (.mk own sh.size cells) ∧ off + l.length * sh.size ≤ cells.length ∧
  ∀ lo hi, lo ≤ hi → hi ≤ l.length → ASl H sh f (.slc (some (id, off + lo * sh.size)) (hi - lo)) ((l.take hi).drop lo) := by
 have hb := h.bound
 rcases h.sl with ⟨rfl, hl⟩ | ⟨id, off, own, cells, rfl, h2, h3, h4⟩
 ·exact .inl ⟨rfl, by simpa using hl⟩
 ·rw [List.length_map] at h3 ⊢
  refine .inr ⟨id, off, own, cells, rfl, h2, h3, fun lo hi h5 h6 => ?_⟩
  have hlen : ((l.take hi).drop lo).length = hi - lo := by simp; omega
  have hm : lo * sh.size + (hi - lo) * sh.size ≤ l.length * sh.size := by rw [← Nat.add_mul]; exact Nat.mul_le_mul_right _ (by omega)
  refine aC.2 ⟨_, _, rfl, rfl, by simp; omega, .inr ⟨id, off + lo * sh.size, own, cells, by rw [List.length_map, hlen], h2, by rw [List.length_map, hlen]; omega, fun i x hx => ?_⟩⟩
  rw [List.getElem?_map, List.getElem?_drop] at hx
  have hi2 : lo + i < hi := by
   rcases Nat.lt_or_ge (lo + i) hi with hh | hh
   ·exact hh
   ·rw [List.getElem?_eq_none (by simp; omega)] at hx; cases hx
  rw [List.getElem?_take_of_lt hi2] at hx
  have := h4 (lo + i) x (by rw [List.getElem?_map]; exact hx)
  rw [Nat.add_mul] at this
  rwa [show off + lo * sh.size + i * sh.size = off + (lo * sh.size + i * sh.size) by omega]
end
theorem vC {α : Type} {p : α → Bool} : ∀ {l : List α} {k : Nat}, k ≤ l.length → (∀ j x, j < k → l[j]? = some x → p x = true) → (∀ x, l[k]? = some x → p x = false) → l.takeWhile p = l.take k ∧ l.dropWhile p = l.drop k
 | [], k, _, _, _ => by simp
 | x :: l, 0, _, _, h => by have := h x rfl; simp [this]
 | x :: l, k + 1, hk, h1, h2 => by
  have hx := h1 0 x (by omega) rfl
  have ih := vC (l := l) (k := k) (by simpa using hk) (fun j y hj hy => h1 (j + 1) y (by omega) (by simpa using hy)) (fun y hy => h2 y (by simpa using hy))
  simp [hx, ih.1, ih.2]
section
variable {H G : List Ob} {v : V} {cs : List V}
theorem Gs.low {B : List Ob} (h : Gs G B v cs) (hG : ∃ T, G = H ++ T) : Gs H B v cs := by
 obtain ⟨T, id, rfl, h1, h2, h3⟩ := h
 obtain ⟨S, rfl⟩ := hG
 exact ⟨S ++ T, id, by simp, by simp at h1; omega, h2, h3⟩
theorem Gs.grow (h : Gs H G v cs) (T : List Ob) : Gs H (G ++ T) v cs := by
 obtain ⟨S, id, rfl, h1, h2, h3⟩ := h
 exact ⟨S ++ T, id, by simp, h1, aW _ _ h2, h3⟩
theorem Gs.many (h : Gs H G v cs) {x : V} {xs : List V} {z : List V} {d : LD} {b : Nat} (hx : aI ⟨d, 1, b, z⟩ G x = some (xs, xs.length)) (ho : xs.all aJ = true) (hb : (cs.length + xs.length) * b ≤ aB) (hb0 : 0 < b) (hb1 : b ≤ 1000000) (hz : z.length = 1) :
  ∃ v' G', aT ⟨d, 1, b, z⟩ G v x = some (v', G') ∧ Gs H G' v' (cs ++ xs) := by
 obtain ⟨T, id, rfl, h1, h2, rfl⟩ := h
 by_cases hm : xs.length = 0
 ·have hx0 : xs = [] := List.length_eq_zero_iff.1 hm
  subst hx0
  refine ⟨.slc (some (id, 0)) cs.length, H ++ T, ?_, ⟨T, id, rfl, h1, by simpa using h2, by simp⟩⟩
  unfold aT
  rw [if_pos (by simp [fU, hb0, hb1, hz]), hx]
  simp
 ·refine ⟨_, _, dM (n := cs.length) hz (by decide) hb0 hb1 h2 (by simp) hx hm ho hb, ⟨T.set (id - H.length) .dead ++ [.mk true 1 (cs ++ xs)], (H ++ T).length, ?_, by simp, ?_, by simp⟩⟩
  ·rw [List.set_append_right _ _ h1, List.append_assoc]
  ·have hl : ((H ++ T).set id .dead).length = (H ++ T).length := List.length_set
   rw [← hl, get_last]
theorem Gs.new {l : List Str} (h : Gs H G v (l.map V.str)) (hl : l.length ≤ maxLen) (hs : ∀ s ∈ l, s.length ≤ maxLen) : New H.length G.length G (.slice .str) [v] (.lst (l.map qg)) := by
 obtain ⟨_, id, h1, h2⟩ := h.strs hl hs
 exact New.inG (e := id + 1) ⟨[id], h1, by simp, by simp; exact h2⟩
end
theorem AStrs.max {H : List Ob} {v : V} {l : List Str} (h : AStrs H v l) : ∀ s ∈ l, s.length ≤ maxLen := fun s hs => by
 obtain ⟨j, hj, rfl⟩ := List.getElem_of_mem hs
 obtain ⟨_, _, _, _, h⟩ := aU h (List.getElem?_eq_getElem hj)
 exact h
theorem lJ {H : List Ob} {v : V} {xs : List Str} (h : AStrs H v xs) {i : Nat} {s : Str} (hx : xs[i]? = some s) : ∃ id o,
  (∀ (e s b : Nat) (z : List V) (ty : Nat → LT) (k : IntKind), (ty e).size = 1 → dE ⟨.slice e, s, b, z⟩ ty (.val v) (.int k i) = some (.val (.ptr (some (id, o))))) ∧
  (∀ G : List Ob, (∃ T', G = H ++ T') → ∀ T : LT, T.one → ∀ r c, loadAt T ⟨r, c, G⟩ (.hp id o) = some (.str s)) ∧ s.length ≤ maxLen ∧ id < H.length := by
 obtain ⟨id, o, own, cells, e1, e2, e3, e4⟩ := ASl.idx h hx (by decide)
 obtain ⟨t, e4, ht, e5⟩ := ed.1 e4
 cases ht
 refine ⟨id, o, e1, ?_, e5, (List.getElem?_eq_some_iff.1 e2).1⟩
 rintro G ⟨T', rfl⟩
 exact bM (aW _ _ e2) (by simpa using dH e4 (j := 0) rfl)
theorem mr {H : List Ob} {v : V} {xs : List PAttr} (h : bD H v xs) {i : Nat} {x : PAttr} (hx : xs[i]? = some x) : ∃ id o w,
  (∀ (e s b : Nat) (z : List V) (ty : Nat → LT) (k : IntKind), (ty e).size = 2 → dE ⟨.slice e, s, b, z⟩ ty (.val v) (.int k i) = some (.val (.ptr (some (id, o))))) ∧
  (∀ G : List Ob, (∃ T', G = H ++ T') → (∀ T : LT, T.one → ∀ r c, loadAt T ⟨r, c, G⟩ (.hp id o) = some (.str x.name)) ∧ (∀ T : LT, T.one → ∀ r c, loadAt T ⟨r, c, G⟩ (.hp id (o + 1)) = some w) ∧
   (∀ T : LT, T.many 2 → ∀ r c, loadAt T ⟨r, c, G⟩ (.hp id o) = some (.agg [.str x.name, w]))) ∧ AStrs H w x.vals ∧ x.name.length ≤ maxLen ∧ id < H.length ∧ At H dK [.str x.name, w] x.u := by
 obtain ⟨id, o, own, cells, e1, e2, e3, e4⟩ := ASl.idx h hx (by decide)
 have e6 := e4
 obtain ⟨w, e4, e7, e5⟩ := jv.1 e4
 rw [e4] at e6
 refine ⟨id, o, w, e1, ?_, e5, e7, (List.getElem?_eq_some_iff.1 e2).1, e6⟩
 rintro G ⟨T', rfl⟩
 have e2' := aW (T := T') _ _ e2
 exact ⟨bM e2' (by simpa using dH e4 (j := 0) rfl), bM e2' (by simpa using dH e4 (j := 1) rfl), pF e2' e3 (by decide) e4⟩
theorem JO {n : Nat} {H A B : List Ob} (h : n ≤ H.length) : Keep n (H ++ A) (H ++ B) := fun id hid => by rw [List.getElem?_append_left (by omega), List.getElem?_append_left (by omega)]
def LstF {α : Type} (B G : List Ob) (sh : Sh) (f : α → U) (v : V) (l : List α) : Prop := (∃ T, G = B ++ T) ∧ ((v = .slc none 0 ∧ l = []) ∨ ∃ (id : Nat) (cs : List V) (Fs : List (List Nat)), B.length ≤ id ∧ G[id]? = some (.mk true sh.size cs) ∧ v = .slc (some (id, 0)) l.length ∧
 cs.length = l.length * sh.size ∧ Fs.length = l.length ∧ (∀ i x F, l[i]? = some x → Fs[i]? = some F → AtF G sh ((cs.drop (i * sh.size)).take sh.size) (f x) F) ∧ Fs.flatten.Nodup ∧ ∀ q ∈ Fs.flatten, B.length ≤ q ∧ q ≠ id ∧ q < G.length)
section
variable {α : Type} {B G T : List Ob} {sh : Sh} {f : α → U} {v : V} {l : List α}
theorem LstF.nil : LstF B B sh f (.slc none 0) [] := ⟨⟨[], by simp⟩, .inl ⟨rfl, rfl⟩⟩
theorem LstF.init : LstF B (B ++ [.mk true sh.size []]) sh f (.slc (some (B.length, 0)) 0) [] :=
 ⟨⟨_, rfl⟩, .inr ⟨B.length, [], [], Nat.le_refl _, by simp, rfl, by simp, rfl, fun i x F h => by simp at h, by simp, by simp⟩⟩
theorem LstF.pre (h : LstF B G sh f v l) : ∃ T, G = B ++ T := h.1
theorem LstF.ext (h : LstF B G sh f v l) : LstF B (G ++ T) sh f v l := by
 obtain ⟨⟨S, hS⟩, h⟩ := h
 refine ⟨⟨S ++ T, by rw [hS, List.append_assoc]⟩, ?_⟩
 rcases h with h | ⟨id, cs, Fs, h1, h2, h3, h4, h5, h6, h7, h8⟩
 ·exact .inl h
 ·exact .inr ⟨id, cs, Fs, h1, aW _ _ h2, h3, h4, h5, fun i x F hx hF => (h6 i x F hx hF).ext, h7, fun q hq => by have := h8 q hq; simp; omega⟩
theorem LstF.one (h : LstF B G sh f v l) : aJ v = true ∧ cellsOf v = some [v] := by
 obtain ⟨_, ⟨rfl, _⟩ | ⟨id, cs, Fs, _, _, rfl, _⟩⟩ := h <;> exact ⟨rfl, rfl⟩
theorem LstF.len (h : LstF B G sh f v l) {e s b : Nat} {z : List V} : lenV ⟨.slice e, s, b, z⟩ v = some (.int .i64 l.length) := by
 obtain ⟨_, ⟨rfl, rfl⟩ | ⟨id, cs, Fs, _, _, rfl, _⟩⟩ := h <;> rfl
theorem LstF.new (h : LstF B G sh f v l) (hl : l.length ≤ maxLen) : New B.length G.length G (.slice sh) [v] (.lst (l.map f)) := by
 obtain ⟨_, ⟨rfl, rfl⟩ | ⟨id, cs, Fs, h1, h2, rfl, h4, h5, h6, h7, h8⟩⟩ := h
 ·exact New.nil
 ·refine ⟨id :: Fs.flatten, eG.2 ⟨_, _, rfl, rfl, by simpa using hl, .inr ⟨id, 0, cs, Fs, by simp, h2, by simp; omega, by simpa using h5, rfl, fun i x F hx hF => ?_⟩⟩, ?_, fun q hq => ?_⟩
  ·rw [List.getElem?_map] at hx
   obtain ⟨y, hy, rfl⟩ := Option.map_eq_some_iff.1 hx
   rw [Nat.zero_add]
   exact h6 i y F hy hF
  ·exact List.nodup_cons.2 ⟨fun hm => (h8 id hm).2.1 rfl, h7⟩
  ·rcases List.mem_cons.1 hq with rfl | hq
   ·exact ⟨h1, (List.getElem?_eq_some_iff.1 h2).1⟩
   ·have := h8 q hq; omega
theorem LstF.at (h : LstF B G sh f v l) (hl : l.length ≤ maxLen) : ASl G sh f v l := (h.new hl).at
theorem LstF.push {d : LD} {sz by_ e : Nat} {z : List V} (h : LstF B G sh f v l) {x : α} {c : List V} (hx : New G.length e (G ++ T) sh c (f x)) (hs : sz = sh.size) (hz : z.length = sz) (h0 : 0 < sz) (hb0 : 0 < by_) (hb1 : by_ ≤ 1000000) (hb : (l.length + 1) * by_ ≤ aB) :
  ∃ v' G', aT ⟨d, sz, by_, z⟩ (G ++ T ++ [.mk true sz c]) v (.slc (some ((G ++ T).length, 0)) 1) = some (v', G') ∧ LstF B G' sh f v' (l ++ [x]) ∧ c.length = sz ∧ c.all aJ = true := by
 obtain ⟨S, hS⟩ := h.1
 obtain ⟨F, f1, f2, f3⟩ := hx
 have hat : At (G ++ T) sh c (f x) := AtF.at _ f1
 have hcl : c.length = sz := by rw [hs]; exact At.len _ hat
 have hco := At.ones _ hat
 subst hcl
 have hnew := iQ (d := d) (by_ := by_) (z := z) (G := G ++ T) (es := c.length) h0
 have hFl : ∀ q ∈ F, q < (G ++ T).length := AtF.mem _ f1
 obtain ⟨_, ⟨rfl, rfl⟩ | ⟨id, cs, Fs, h1, h2, rfl, h4, h5, h6, h7, h8⟩⟩ := h
 ·refine ⟨_, _, lg hz h0 hb0 hb1 hnew (by decide) hco (by simpa using hb), ⟨⟨_, by rw [hS, List.append_assoc, List.append_assoc, List.append_assoc]⟩, .inr ⟨_, c, [F], ?_, get_last.trans (by rw [hs]), by simp, by simp [hs], by simp, fun i y K hy hK => ?_, by simpa using f2, fun q hq => ?_⟩⟩, rfl, hco⟩
  ·simp [hS]
  ·have : i = 0 := by
    have := (List.getElem?_eq_some_iff.1 hy).1
    simp at this; omega
   subst this
   cases hy
   cases hK
   rw [Nat.zero_mul, List.drop_zero, List.take_of_length_le (by omega)]
   exact f1.ext.ext
  ·simp at hq
   have e1 := hFl q hq
   have e2 := f3 q hq
   simp at e1
   simp [hS] at e2 e1 ⊢
   omega
 ·have hid := (List.getElem?_eq_some_iff.1 h2).1
  have h2' : (G ++ T ++ [Ob.mk true c.length c])[id]? = some (.mk true c.length cs) := by rw [List.append_assoc, aW _ _ h2, hs]
  have hlen : (G ++ T ++ [Ob.mk true c.length c]).length = ((G ++ T ++ [Ob.mk true c.length c]).set id .dead).length := List.length_set.symm
  have hfr : ∀ q, q ≠ id → q < (G ++ T ++ [Ob.mk true c.length c]).length → ((G ++ T ++ [Ob.mk true c.length c]).set id .dead ++ [Ob.mk true c.length (cs ++ c)])[q]? = (G ++ T ++ [Ob.mk true c.length c])[q]? := fun q hq hql => by
   rw [List.getElem?_append_left (by rw [← hlen]; exact hql), List.getElem?_set_ne (fun e => hq e.symm)]
  refine ⟨_, _, dM hz h0 hb0 hb1 h2' (by rw [h4, hs]) hnew (by decide) hco hb, ⟨?_, .inr ⟨(G ++ T ++ [Ob.mk true c.length c]).length, cs ++ c, Fs ++ [F], by simp [hS], ?_, by simp, by simp [h4, hs, Nat.add_mul], by simp [h5], fun i y K hy hK => ?_, ?_, ?_⟩⟩, rfl, hco⟩
  ·rw [hS, List.append_assoc, List.append_assoc, List.set_append_right _ _ h1, List.append_assoc]
   exact ⟨_, rfl⟩
  ·rw [hlen, get_last, hs]
  ·have key := vg (n := l.length) (s := sh.size) (cs := cs) (c := c) (by rw [h4]) hs (P := fun i cc => ∀ y K, (l ++ [x])[i]? = some y → (Fs ++ [F])[i]? = some K → AtF ((G ++ T ++ [Ob.mk true c.length c]).set id .dead ++ [Ob.mk true c.length (cs ++ c)]) sh cc (f y) K) (fun i hi y K hy hK => by
     rw [List.getElem?_append_left hi] at hy
     rw [List.getElem?_append_left (by omega)] at hK
     refine AtF.frame _ (fun q hq => ?_) (((h6 i y K hy hK).ext (T := T)).ext (T := [Ob.mk true c.length c]))
     have h9 := h8 q (List.mem_flatten.2 ⟨K, List.mem_of_getElem? hK, hq⟩)
     exact hfr q h9.2.1 (by simp; omega)) (fun y K hy hK => by
     simp at hy
     subst hy
     rw [List.getElem?_append_right (by omega), h5, Nat.sub_self] at hK
     cases hK
     refine AtF.frame _ (fun q hq => ?_) (f1.ext (T := [Ob.mk true c.length c]))
     have e1 := hFl q hq
     have e2 := f3 q hq
     exact hfr q (by omega) (by simp at e1 ⊢; omega))
   have hi : i < l.length + 1 := by
    have := (List.getElem?_eq_some_iff.1 hy).1
    simpa using this
   exact key i hi y K hy hK
  ·rw [List.flatten_append, List.nodup_append]
   refine ⟨h7, by simpa using f2, fun a ha b hb hab => ?_⟩
   subst hab
   simp at hb
   have e1 := h8 a ha
   have e2 := f3 a hb
   omega
  ·intro q hq
   rw [List.flatten_append] at hq
   rcases List.mem_append.1 hq with hq | hq
   ·have := h8 q hq
    simp
    omega
   ·simp at hq
    have e1 := hFl q hq
    have e2 := f3 q hq
    simp [hS] at e1 e2 ⊢
    omega
end
theorem lV {sh0 : Sh} {c0 : List V} {u0 : U} {F : List Nat} {G G' : List Ob} {v v' : V} {m : Nat} (hx : AtF G sh0 c0 u0 F) (hw : ∀ q ∈ F, ∀ n, v ≠ .slc (some (q, 0)) n) (hv' : v' = .slc (some (G.length + 1, 0)) m)
  (hfr : ∀ q, q < G.length → (∀ n, v ≠ .slc (some (q, 0)) n) → G'[q]? = G[q]?) : AtF G' sh0 c0 u0 F ∧ ∀ q ∈ F, ∀ n, v' ≠ .slc (some (q, 0)) n := by
 have hl := AtF.mem _ hx
 refine ⟨AtF.frame _ (fun q hq => hfr q (hl q hq) (hw q hq)) hx, fun q hq n => ?_⟩
 rw [hv']
 have := hl q hq
 simp
 omega
theorem Lst.notlow {α : Type} {B G H : List Ob} {sh : Sh} {f : α → U} {v : V} {l : List α} (h : Lst B G sh f v l) (hv : v ≠ .slc none 0) (hB : H.length ≤ B.length) : ¬ dZ H v := by
 obtain ⟨_, ⟨rfl, _⟩ | ⟨id, cs, h1, _, rfl, _⟩⟩ := h
 ·exact absurd rfl hv
 ·rintro ⟨own, es, cells, h⟩
  have := (List.getElem?_eq_some_iff.1 h).1
  omega
theorem gJ {H G : List Ob} {r : V} (h : ¬ dZ H r) : eU H G r = G := by
 unfold eU
 rw [if_neg fun h' => h h'.2]
section
variable {α : Type} {G : List Ob} {sh : Sh} {f : α → U} {v : V} {l : List α} {F : List Nat}
theorem Ej {D : List V} {s i j : Nat} (h : j * s + s ≤ i * s) : ((D.take (i * s)).drop (j * s)).take s = (D.drop (j * s)).take s := by
 apply List.ext_getElem?
 intro q
 by_cases hq : q < s
 ·rw [List.getElem?_take_of_lt hq, List.getElem?_take_of_lt hq, List.getElem?_drop, List.getElem?_take_of_lt (by omega), List.getElem?_drop]
 ·rw [List.getElem?_eq_none (by simp; omega), List.getElem?_eq_none (by simp; omega)]
end
section
variable {α : Type} {G : List Ob} {sh : Sh} {f : α → U} {v : V} {l : List α} {F : List Nat}
end
section
variable {α : Type} {G : List Ob} {sh : Sh} {f : α → U} {v : V} {l : List α} {F : List Nat}
end
def Rw (s : Nat) (B G : List Ob) (v : V) (n : Nat) (cs : List V) : Prop :=
 (∃ T, G = B ++ T) ∧ cs.length = n * s ∧ ((v = .slc none 0 ∧ n = 0) ∨ ∃ id, v = .slc (some (id, 0)) n ∧ B.length ≤ id ∧ G[id]? = some (.mk true s cs))
section
variable {s n m : Nat} {B G : List Ob} {v : V} {cs xs : List V}
theorem Rw.nil : Rw s B B (.slc none 0) 0 [] := ⟨⟨[], by simp⟩, by simp, .inl ⟨rfl, rfl⟩⟩
theorem Rw.init (hB : ∃ T, G = B ++ T) : Rw s B (G ++ [.mk true s []]) (.slc (some (G.length, 0)) 0) 0 [] := by
 obtain ⟨T, rfl⟩ := hB
 exact ⟨⟨T ++ [.mk true s []], by simp⟩, by simp, .inr ⟨(B ++ T).length, rfl, by simp, get_last⟩⟩
theorem Rw.pre (h : Rw s B G v n cs) : ∃ T, G = B ++ T := h.1
theorem Rw.ext {T : List Ob} (h : Rw s B G v n cs) : Rw s B (G ++ T) v n cs := by
 obtain ⟨⟨S, rfl⟩, h2, h3⟩ := h
 exact ⟨⟨S ++ T, by simp⟩, h2, h3.imp id fun ⟨id, q1, q2, q3⟩ => ⟨id, q1, q2, aW _ _ q3⟩⟩
theorem Rw.one (h : Rw s B G v n cs) : aJ v = true ∧ cellsOf v = some [v] := by
 rcases h.2.2 with ⟨rfl, _⟩ | ⟨id, rfl, _⟩ <;> exact ⟨rfl, rfl⟩
theorem Rw.many (h : Rw s B G v n cs) {d : LD} {by_ : Nat} {z : List V} {x : V} (hx : aI ⟨d, s, by_, z⟩ G x = some (xs, m)) (hm : xs.length = m * s) (ho : xs.all aJ = true)
  (hz : z.length = s) (h0 : 0 < s) (hb0 : 0 < by_) (hb1 : by_ ≤ 1000000) (hb : (n + m) * by_ ≤ aB) :
  ∃ v' G', aT ⟨d, s, by_, z⟩ G v x = some (v', G') ∧ Rw s B G' v' (n + m) (cs ++ xs) := by
 by_cases hm0 : m = 0
 ·subst hm0
  have hx0 : xs = [] := List.length_eq_zero_iff.1 (by omega)
  subst hx0
  refine ⟨v, G, ?_, by simpa using h⟩
  unfold aT
  rw [if_pos (by simp [fU, h0, hb0, hb1, hz]), hx]
  simp only [if_true]
  rcases h.2.2 with ⟨rfl, _⟩ | ⟨id, rfl, _⟩ <;> rfl
 obtain ⟨⟨T, rfl⟩, h2, h3⟩ := h
 rcases h3 with ⟨rfl, rfl⟩ | ⟨id, rfl, q2, q3⟩
 ·have hc0 : cs = [] := List.length_eq_zero_iff.1 (by omega)
  subst hc0
  refine ⟨_, _, lg hz h0 hb0 hb1 hx hm0 ho (by simpa using hb), ⟨T ++ [.mk true s xs], by simp⟩, by simp [hm], .inr ⟨(B ++ T).length, by simp, by simp, ?_⟩⟩
  rw [List.nil_append]; exact get_last
 ·refine ⟨_, _, dM hz h0 hb0 hb1 q3 h2 hx hm0 ho hb, ⟨T.set (id - B.length) .dead ++ [.mk true s (cs ++ xs)], ?_⟩, by simp [h2, hm, Nat.add_mul], .inr ⟨(B ++ T).length, rfl, by simp, ?_⟩⟩
  ·rw [List.set_append_right _ _ q2, List.append_assoc]
  ·have hl : ((B ++ T).set id .dead).length = (B ++ T).length := List.length_set
   rw [← hl, get_last]
end
def RowsOk (B : List Ob) (sh : Sh) (cs : List V) (us : List U) (Fs : List (List Nat)) : Prop :=
 cs.length = us.length * sh.size ∧ Fs.length = us.length ∧ ∀ i x F, us[i]? = some x → Fs[i]? = some F → AtF B sh ((cs.drop (i * sh.size)).take sh.size) x F
section
variable {B G : List Ob} {sh : Sh} {cs cs' : List V} {us us' : List U} {Fs Fs' : List (List Nat)} {v : V}
theorem RowsOk.nil : RowsOk B sh [] [] [] := ⟨by simp, rfl, fun i x F h => by cases h⟩
theorem RowsOk.one {c : List V} {x : U} {F : List Nat} (h : AtF B sh c x F) : RowsOk B sh c [x] [F] := by
 have hl : c.length = sh.size := At.len _ (AtF.at _ h)
 refine ⟨by simp [hl], rfl, fun i y K hy hK => ?_⟩
 cases i with
 | zero => cases hy; cases hK; rw [Nat.zero_mul, List.drop_zero, List.take_of_length_le (by omega)]; exact h
 | succ i => cases hy
theorem RowsOk.take (h : RowsOk B sh cs us Fs) {k : Nat} (hk : k ≤ us.length) : RowsOk B sh (cs.take (k * sh.size)) (us.take k) (Fs.take k) := by
 obtain ⟨h1, h2, h3⟩ := h
 have hm : k * sh.size ≤ us.length * sh.size := Nat.mul_le_mul_right _ hk
 refine ⟨by simp [Nat.min_eq_left hk]; omega, by simp; omega, fun i x F hx hF => ?_⟩
 have hi : i < k := by have := (List.getElem?_eq_some_iff.1 hx).1; simp at this; omega
 rw [List.getElem?_take_of_lt hi] at hx hF
 have hs : i * sh.size + sh.size ≤ k * sh.size := gW hi
 have := h3 i x F hx hF
 rw [Ej hs]
 exact this
theorem RowsOk.drop (h : RowsOk B sh cs us Fs) {k : Nat} (hk : k ≤ us.length) : RowsOk B sh (cs.drop (k * sh.size)) (us.drop k) (Fs.drop k) := by
 obtain ⟨h1, h2, h3⟩ := h
 refine ⟨by simp [h1, Nat.sub_mul], by simp; omega, fun i x F hx hF => ?_⟩
 rw [List.getElem?_drop] at hx hF
 have := h3 (k + i) x F hx hF
 rw [List.drop_drop, ← Nat.add_mul]
 exact this
theorem RowsOk.append (h : RowsOk B sh cs us Fs) (h' : RowsOk B sh cs' us' Fs') : RowsOk B sh (cs ++ cs') (us ++ us') (Fs ++ Fs') := by
 obtain ⟨h1, h2, h3⟩ := h
 obtain ⟨k1, k2, k3⟩ := h'
 refine ⟨by simp [h1, k1, Nat.add_mul], by simp [h2, k2], fun i x F hx hF => ?_⟩
 by_cases hi : i < us.length
 ·rw [List.getElem?_append_left hi] at hx
  rw [List.getElem?_append_left (by omega)] at hF
  have hs : i * sh.size + sh.size ≤ us.length * sh.size := gW hi
  rw [List.drop_append_of_le_length (by omega), List.take_append_of_le_length (by simp; omega)]
  exact h3 i x F hx hF
 ·obtain ⟨t, rfl⟩ : ∃ t, i = us.length + t := ⟨i - us.length, by omega⟩
  rw [List.getElem?_append_right (by omega)] at hx hF
  rw [show us.length + t - us.length = t by omega] at hx
  rw [show us.length + t - Fs.length = t by omega] at hF
  have e : (us.length + t) * sh.size = cs.length + t * sh.size := by rw [Nat.add_mul, h1]
  rw [e, List.drop_append, List.drop_eq_nil_of_le (by omega), List.nil_append, Nat.add_sub_cancel_left]
  exact k3 t x F hx hF
theorem RowsOk.ones (h : RowsOk B sh cs us Fs) : cs.all aJ = true := by
 refine yK (n := us.length) (s := sh.size) h.1 fun j hj => ?_
 have hF : j < Fs.length := by rw [h.2.1]; exact hj
 exact At.ones _ (AtF.at _ (h.2.2 j us[j] Fs[j] (List.getElem?_eq_getElem hj) (List.getElem?_eq_getElem hF)))
theorem RowsOk.mem (h : RowsOk B sh cs us Fs) : ∀ q ∈ Fs.flatten, q < B.length := fun q hq => by
 obtain ⟨F, hF, hq⟩ := List.mem_flatten.1 hq
 obtain ⟨i, hi, rfl⟩ := List.getElem_of_mem hF
 have hi' : i < us.length := by rw [← h.2.1]; exact hi
 exact AtF.mem _ (h.2.2 i us[i] Fs[i] (List.getElem?_eq_getElem hi') (List.getElem?_eq_getElem hi)) q hq
theorem RowsOk.frame (h : RowsOk B sh cs us Fs) (hG : ∀ q ∈ Fs.flatten, G[q]? = B[q]?) : RowsOk G sh cs us Fs :=
 ⟨h.1, h.2.1, fun i x F hx hF => AtF.frame _ (fun q hq => hG q (List.mem_flatten.2 ⟨F, List.mem_of_getElem? hF, hq⟩)) (h.2.2 i x F hx hF)⟩
theorem AtF.rows {F : List Nat} (h : AtF B (.slice sh) [v] (.lst us) F) (hn : F.Nodup) : ∃ p cs Fs, v = .slc p us.length ∧ RowsOk B sh cs us Fs ∧ Fs.flatten.Nodup ∧ (∀ q ∈ Fs.flatten, q ∈ F) ∧
  ((p = none ∧ us = []) ∨ ∃ id off cells, p = some (id, off) ∧ B[id]? = some (.mk true sh.size cells) ∧ id ∈ F ∧ id ∉ Fs.flatten ∧
   ∀ (d : LD) (by_ : Nat) (z : List V) (G : List Ob) (lo hi : Nat), G[id]? = B[id]? → lo ≤ hi → hi ≤ us.length →
    aI ⟨d, sh.size, by_, z⟩ G (.slc (some (id, off + lo * sh.size)) (hi - lo)) = some ((cs.drop (lo * sh.size)).take ((hi - lo) * sh.size), hi - lo)) := by
 obtain ⟨w, us', hw, hus, hlen, h⟩ := eG.1 h
 cases hw
 cases hus
 rcases h with ⟨rfl, rfl, rfl⟩ | ⟨id, off, cells, Fs, rfl, h2, h3, h4, rfl, h6⟩
 ·exact ⟨none, [], [], rfl, RowsOk.nil, by simp, by simp, .inl ⟨rfl, rfl⟩⟩
 ·obtain ⟨hn1, hn2⟩ := List.nodup_cons.1 hn
  have hcl : ((cells.drop off).take (us.length * sh.size)).length = us.length * sh.size := by simp; omega
  refine ⟨some (id, off), (cells.drop off).take (us.length * sh.size), Fs, rfl, ⟨hcl, h4, fun i x F hx hF => ?_⟩, hn2, fun q hq => List.mem_cons_of_mem _ hq, .inr ⟨id, off, cells, rfl, h2, List.mem_cons_self, hn1, fun d by_ z G lo hi hG hlo hhi => ?_⟩⟩
  ·rw [yG h3 (List.getElem?_eq_some_iff.1 hx).1]
   exact h6 i x F hx hF
  ·have e1 : lo * sh.size + (hi - lo) * sh.size = hi * sh.size := by rw [← Nat.add_mul]; congr 1; omega
   have e2 : hi * sh.size ≤ us.length * sh.size := Nat.mul_le_mul_right _ hhi
   have e3 : (((cells.drop off).take (us.length * sh.size)).drop (lo * sh.size)).take ((hi - lo) * sh.size) = (cells.drop (off + lo * sh.size)).take ((hi - lo) * sh.size) := by
    rw [List.drop_take, List.take_take, List.drop_drop, Nat.min_eq_left (by omega)]
   rw [e3]
   simp only [aI, aQ, hG, h2]
   by_cases h0 : (hi - lo) * sh.size = 0
   ·rw [if_pos h0, h0, List.take_zero]
   ·rw [if_neg h0]
    unfold dO
    rw [if_pos (by omega)]
end
section
variable {H S X : List Ob} {l : List Nat} {k : Nat} {o : Ob}
theorem lH : dP l H.length (H ++ S) = H ++ dP l 0 S := by
 apply List.ext_getElem?
 intro i
 rw [fP]
 by_cases hi : i < H.length
 ·rw [List.getElem?_append_left hi, List.getElem?_append_left hi]
  cases H[i]? with
  | none => rfl
  | some o => rw [Option.map_some, if_neg (fun hc => absurd hc.1 (by omega))]
 ·rw [List.getElem?_append_right (by omega), List.getElem?_append_right (by omega), fP]
  have : (H.length ≤ i ∧ l.contains (i - H.length) = true) ↔ (0 ≤ i - H.length ∧ l.contains (i - H.length - 0) = true) := by simp; omega
  simp only [this]
theorem lU : fK l H.length (H ++ S) (H ++ X) = H ++ fK l 0 S X := by
 apply List.ext_getElem?
 intro i
 rw [fB]
 by_cases hi : i < H.length
 ·rw [List.getElem?_append_left hi, List.getElem?_append_left hi]
  cases H[i]? with
  | none => rfl
  | some o => rw [Option.map_some, if_neg (fun hc => absurd hc.1 (by omega))]
 ·rw [List.getElem?_append_right (by omega), List.getElem?_append_right (by omega), fB]
  have : (H.length ≤ i ∧ l.contains (i - H.length) = true) ↔ (0 ≤ i - H.length ∧ l.contains (i - H.length - 0) = true) := by simp; omega
  simp only [this, List.getD_eq_getElem?_getD]
  rw [List.getElem?_append_right (by omega)]
theorem iy : (H ++ S).set (H.length + k) o = H ++ S.set k o := by
 rw [List.set_append_right _ _ (by omega), Nat.add_sub_cancel_left]
theorem lZ : (H ++ S).set H.length o = H ++ S.set 0 o := by
 rw [List.set_append_right _ _ (by omega), Nat.sub_self]
theorem dw : (H ++ S)[H.length + k]? = S[k]? := by
 rw [List.getElem?_append_right (by omega), Nat.add_sub_cancel_left]
end
end Go.Lite
end
section
namespace Go.Lite
open Go
variable {H T : List Ob}
theorem qL {p : Option (Nat × Nat)} {n : Nat} (h : dZ H (.slc p n)) : dZ (H ++ T) (.slc p n) := by
 cases p with
 | none => trivial
 | some q =>
  obtain ⟨id, off⟩ := q
  obtain ⟨own, es, cells, h⟩ := h
  exact ⟨own, es, cells, aW _ _ h⟩
theorem ASl.shape {α : Type} {sh : Sh} {f : α → U} {v : V} {l : List α} (h : ASl H sh f v l) : ∃ p, v = .slc p l.length := by
 rcases h.sub with ⟨rfl, rfl⟩ | ⟨id, off, own, cells, rfl, _⟩ <;> exact ⟨_, rfl⟩
end Go.Lite
end
section
namespace Go.Lite
open Go
section
variable {B G : List Ob} {sh : Sh} {cs xs : List V} {us : List U} {Fs : List (List Nat)} {v : V} {s n m : Nat}
end
def bI (H : List Ob) (id : Nat) (v : V) (a m z : Int) : List Ob := H.set id (.mk true 4 [v, .int .i64 a, .int .u64 m, .int .i64 z])
section
variable {H T : List Ob} {id : Nat} {v : V} {a m z a' m' z' : Int}
theorem kN : (bI H id v a m z).length = H.length := by simp [bI]
theorem dS (h : id < H.length) : (bI H id v a m z)[id]? = some (.mk true 4 [v, .int .i64 a, .int .u64 m, .int .i64 z]) := List.getElem?_set_self h
theorem lh {q : Nat} (h : q ≠ id) : (bI H id v a m z)[q]? = H[q]? := List.getElem?_set_ne fun e => h e.symm
theorem A7 (h : id < H.length) : bI H id v a m z ++ T = bI (H ++ T) id v a m z := by
 unfold bI; rw [ku h]
theorem vU : (bI H id v a m z).set id (.mk true 4 [v, .int .i64 a', .int .u64 m', .int .i64 z']) = bI H id v a' m' z' := by
 unfold bI; rw [List.set_set]
end
def Jv : Sh → Bool
 | .st (.str :: _) => true
 | _ => false
mutual
def okS : Sh → Bool
 | .slice e => (e.size != 4 || Jv e) && okS e
 | .st fs => J4 fs
 | _ => true
def J4 : List Sh → Bool
 | [] => true
 | f :: fs => okS f && J4 fs
end
section
variable {H : List Ob} {id : Nat} {v : V} {a m z a' m' z' : Int}
mutual
theorem At.src (hid : id < H.length) (hv : ∃ p n, v = .slc p n) : ∀ (sh : Sh) {cs : List V} {u : U}, okS sh = true → At (bI H id v a m z) sh cs u → At (bI H id v a' m' z') sh cs u
 | .int k, _, _, _, h => by simpa only [At] using h
 | .bool, _, _, _, h => by simpa only [At] using h
 | .str, _, _, _, h => by simpa only [At] using h
 | .slice e, _, _, ho, h => by
  simp only [okS, Bool.and_eq_true, Bool.or_eq_true, bne_iff_ne, ne_eq] at ho
  simp only [At] at h ⊢
  obtain ⟨w, l, h1, h2, h3, h4⟩ := h
  refine ⟨w, l, h1, h2, h3, ?_⟩
  rcases h4 with h4 | ⟨i, off, own, cells, h5, h6, h7, h8⟩
  ·exact .inl h4
  ·by_cases hi : i = id
   ·subst hi
    rw [dS hid] at h6
    simp only [Option.some.injEq, Ob.mk.injEq] at h6
    obtain ⟨rfl, h6, rfl⟩ := h6
    have hs := ho.1.resolve_left fun hn => hn h6.symm
    refine .inr ⟨i, off, true, [v, .int .i64 a', .int .u64 m', .int .i64 z'], h5, by rw [dS hid, h6], by simpa using h7, fun j x hx => ?_⟩
    exfalso
    have hj := (List.getElem?_eq_some_iff.1 hx).1
    rw [← h6] at h7 h8
    simp only [List.length_cons, List.length_nil] at h7
    have hl : l.length = 1 := by omega
    have ho0 : off = 0 := by omega
    have hj0 : j = 0 := by omega
    subst ho0 hj0
    have := h8 0 x hx
    obtain ⟨p, n, rfl⟩ := hv
    match e, hs, this with
    | .st (.str :: fs), _, this =>
     obtain ⟨us, _, h9⟩ := kS.1 this
     obtain ⟨c1, c2, u1, us1, hc, _, h10, _⟩ := bn.1 h9
     obtain ⟨s, rfl, _⟩ := ed.1 h10
     simp at hc
   ·refine .inr ⟨i, off, own, cells, h5, by rw [lh hi] at h6 ⊢; exact h6, h7, fun j x hx => At.src hid hv e ho.2 (h8 j x hx)⟩
 | .st fs, _, _, ho, h => by
  simp only [okS] at ho
  simp only [At] at h ⊢
  obtain ⟨us, h1, h2⟩ := h
  exact ⟨us, h1, Ats.src hid hv fs ho h2⟩
theorem Ats.src (hid : id < H.length) (hv : ∃ p n, v = .slc p n) : ∀ (fs : List Sh) {cs : List V} {us : List U}, J4 fs = true → Ats (bI H id v a m z) fs cs us → Ats (bI H id v a' m' z') fs cs us
 | [], _, _, _, h => by simpa only [Ats] using h
 | f :: fs, _, _, ho, h => by
  simp only [J4, Bool.and_eq_true] at ho
  simp only [Ats] at h ⊢
  obtain ⟨c1, c2, u, us', h1, h2, h3, h4⟩ := h
  exact ⟨c1, c2, u, us', h1, h2, At.src hid hv f ho.1 h3, Ats.src hid hv fs ho.2 h4⟩
end
theorem At.srcApp {T : List Ob} (hid : id < H.length) (hv : ∃ p n, v = .slc p n) {sh : Sh} {cs : List V} {u : U} (ho : okS sh = true) (h : At (bI H id v a m z) sh cs u) : At (bI (H ++ T) id v a' m' z') sh cs u := by
 have := At.ext (T := T) (At.src (a' := a') (m' := m') (z' := z') hid hv sh ho h)
 rwa [A7 hid] at this
structure SrcOk (H : List Ob) (id : Nat) (v : V) (n : Nat) (a m z : Int) : Prop where
 lt : id < H.length
 bytes : ∃ us : List U, us.length = n ∧ At (bI H id v a m z) (.slice (.int .u8)) [v] (.lst us)
 at0 : 0 ≤ a
 at1 : a ≤ n
 m0 : 0 ≤ m
 m1 : m < 18446744073709551616
 z0 : 0 ≤ z
 z1 : z ≤ 12
theorem SrcOk.slc {n : Nat} (h : SrcOk H id v n a m z) : ∃ p k, v = .slc p k := by
 obtain ⟨us, _, hb⟩ := h.bytes
 obtain ⟨w, l, e, _, _, hs⟩ := aC.1 hb
 cases e
 rcases hs with ⟨rfl, _⟩ | ⟨i, off, own, cells, rfl, _⟩ <;> exact ⟨_, _, rfl⟩
theorem SrcOk.to {n : Nat} (h : SrcOk H id v n a m z) (h0 : 0 ≤ a') (h1 : a' ≤ n) (h2 : 0 ≤ m') (h3 : m' < 18446744073709551616) : SrcOk H id v n a' m' z := by
 obtain ⟨us, hl, hb⟩ := h.bytes
 exact ⟨h.lt, ⟨us, hl, At.src h.lt h.slc _ (by simp [okS, Sh.size]) hb⟩, h0, h1, h2, h3, h.z0, h.z1⟩
theorem SrcOk.app {n : Nat} {T : List Ob} (h : SrcOk H id v n a m z) : SrcOk (H ++ T) id v n a m z := by
 obtain ⟨us, hl, hb⟩ := h.bytes
 exact ⟨by have := h.lt; simp; omega, ⟨us, hl, At.srcApp h.lt h.slc (by simp [okS, Sh.size]) hb⟩, h.at0, h.at1, h.m0, h.m1, h.z0, h.z1⟩
def Drew (H : List Ob) (id : Nat) (v : V) (n : Nat) (z : Int) (H' : List Ob) : Prop := ∃ T a m, H' = bI (H ++ T) id v a m z ∧ SrcOk (H ++ T) id v n a m z
theorem Drew.up {n : Nat} {H' : List Ob} (hs : SrcOk H id v n a m z) (h : Drew H id v n z H') {sh : Sh} {cs : List V} {u : U} (ho : okS sh = true) (hat : At (bI H id v a m z) sh cs u) : At H' sh cs u := by
 obtain ⟨T, a', m', rfl, _⟩ := h
 exact At.srcApp hs.lt hs.slc ho hat
theorem Drew.trans {n : Nat} {H1 H2 : List Ob} (h : Drew H id v n z H1) (k : ∀ T a m, H1 = bI (H ++ T) id v a m z → SrcOk (H ++ T) id v n a m z → Drew (H ++ T) id v n z H2) : Drew H id v n z H2 := by
 obtain ⟨T, a1, m1, e, hs⟩ := h
 obtain ⟨T', a2, m2, rfl, hs'⟩ := k T a1 m1 e hs
 exact ⟨T ++ T', a2, m2, by rw [List.append_assoc], by rw [← List.append_assoc]; exact hs'⟩
theorem Drew.gc {n : Nat} {H' : List Ob} {r : V} (hs : SrcOk H id v n a m z) (h : Drew H id v n z H') : Drew H id v n z (eU (bI H id v a m z) H' r) := by
 unfold eU
 split
 ·exact ⟨[], a, m, by simp, by simpa using hs⟩
 ·exact h
theorem Drew.refl {n : Nat} (hs : SrcOk H id v n a m z) : Drew H id v n z (bI H id v a m z) := ⟨[], a, m, by simp, by simpa using hs⟩
end
theorem wrap_u64 (x : Int) : 0 ≤ IntKind.u64.wrap x ∧ IntKind.u64.wrap x < 18446744073709551616 := by
 simp only [IntKind.wrap, IntKind.bits, IntKind.signed]
 simp
 omega
end Go.Lite
end
section
namespace Go.Proofs.Try1
open Go Go.Lite
theorem Ih {G G' : List Ob} {r : V} (h : G'.length = G.length) : eU G G' r = G' := by
 unfold eU
 split
 ·rename_i hx
  obtain ⟨⟨T, rfl⟩, _⟩ := hx
  have : T = [] := by
   have : (G ++ T).length = G.length := h
   simp at this
   exact this
  rw [this, List.append_nil]
 ·rfl
section
variable {H : List Ob} {id n : Nat} {v : V} {a m z : Int}
theorem yj (hid : id < H.length) (a m : Int) : (∀ T : LT, T.one → ∀ r c, loadAt T ⟨r, c, bI H id v a m z⟩ (.hp id 0) = some v) ∧ (∀ T : LT, T.one → ∀ r c, loadAt T ⟨r, c, bI H id v a m z⟩ (.hp id 1) = some (.int .i64 a)) ∧
  (∀ T : LT, T.one → ∀ r c, loadAt T ⟨r, c, bI H id v a m z⟩ (.hp id 2) = some (.int .u64 m)) ∧ (∀ T : LT, T.one → ∀ r c, loadAt T ⟨r, c, bI H id v a m z⟩ (.hp id 3) = some (.int .i64 z)) :=
 ⟨bM (dS hid) rfl, bM (dS hid) rfl, bM (dS hid) rfl, bM (dS hid) rfl⟩
theorem CG (hid : id < H.length) (a m : Int) : (∀ a' : Int, ∀ T : LT, T.one → ∀ r c, storeAt T ⟨r, c, bI H id v a m z⟩ (.hp id 1) (.int .i64 a') = some ⟨r, c, bI H id v a' m z⟩) ∧
  (∀ m' : Int, ∀ T : LT, T.one → ∀ r c, storeAt T ⟨r, c, bI H id v a m z⟩ (.hp id 2) (.int .u64 m') = some ⟨r, c, bI H id v a m' z⟩) ∧ (∀ z' : Int, ∀ T : LT, T.one → ∀ r c, storeAt T ⟨r, c, bI H id v a m z⟩ (.hp id 3) (.int .i64 z') = some ⟨r, c, bI H id v a m z'⟩) := by
 refine ⟨fun a' T hT r c => ?_, fun a' T hT r c => ?_, fun a' T hT r c => ?_⟩
 ·rw [store1 (dS hid) (by simp) rfl rfl T hT r c]; simp [vU]
 ·rw [store1 (dS hid) (by simp) rfl rfl T hT r c]; simp [vU]
 ·rw [store1 (dS hid) (by simp) rfl rfl T hT r c]; simp [vU]
theorem wV {a' m' : Int} {r : V} : eU (bI H id v a m z) (bI H id v a' m' z) r = bI H id v a' m' z := Ih (by simp [kN])
theorem Ig (hs : SrcOk H id v n a m z) (h : a < n) : ∃ idb o, ∃ b : Int, (∀ (e s b : Nat) (z : List V) (ty : Nat → LT) (k : IntKind), (ty e).size = 1 → dE ⟨.slice e, s, b, z⟩ ty (.val v) (.int k a) = some (.val (.ptr (some (idb, o))))) ∧
  (∀ T : LT, T.one → ∀ r c, loadAt T ⟨r, c, bI H id v a m z⟩ (.hp idb o) = some (.int .u8 b)) := by
 obtain ⟨us, hl, hb⟩ := hs.bytes
 have h0 := hs.at0
 obtain ⟨i, rfl⟩ : ∃ i : Nat, a = i := ⟨a.toNat, by omega⟩
 have hi : i < us.length := by omega
 have hA : ASl (bI H id v i m z) (.int .u8) (fun u => u) v us := by unfold ASl; simpa using hb
 obtain ⟨idb, o, own, cells, e1, e2, e3, e4⟩ := ASl.idx hA (List.getElem?_eq_getElem hi) (by decide)
 obtain ⟨b, e4, _, e5⟩ := nY.1 e4
 exact ⟨idb, o, b, e1, bM e2 (by simpa using dH e4 (j := 0) rfl)⟩
theorem FH (hs : SrcOk H id v n a m z) {e s b : Nat} {zz : List V} : lenV ⟨.slice e, s, b, zz⟩ v = some (.int .i64 n) := by
 obtain ⟨us, hl, hb⟩ := hs.bytes
 have hA : ASl (bI H id v a m z) (.int .u8) (fun u => u) v us := by unfold ASl; simpa using hb
 rw [← hl]; exact hA.len
theorem Ho (hs : SrcOk H id v n a m z) : n ≤ maxLen := by
 obtain ⟨us, hl, hb⟩ := hs.bytes
 have hA : ASl (bI H id v a m z) (.int .u8) (fun u => u) v us := by unfold ASl; simpa using hb
 rw [← hl]; exact hA.bound
theorem Ud (hs : SrcOk H id v n a m z) {most : Int} (hm : most ≤ 4611686018427387904) :
  ∃ r a' m', callW C 79 [.ptr (some (id, 0)), .int .i64 most] (bI H id v a m z) = some (.int .i64 r, bI H id v a' m' z) ∧ 0 ≤ r ∧ (1 < most → r < most) ∧ (most ≤ 1 → r = 0) ∧ SrcOk H id v n a' m' z := by
 suffices hg : Ret C 79 [.ptr (some (id, 0)), .int .i64 most] (bI H id v a m z) fun q H' => ∃ r a' m', q = .int .i64 r ∧ H' = bI H id v a' m' z ∧ 0 ≤ r ∧ (1 < most → r < most) ∧ (most ≤ 1 → r = 0) ∧ SrcOk H id v n a' m' z by
  obtain ⟨q, H', hc, r, a', m', rfl, rfl, hr⟩ := hg
  exact ⟨r, a', m', hc, hr⟩
 rw [Uj]
 have hid := hs.lt
 by_cases g1 : most ≤ 1
 ·simp [-rF, zK, Tryz.f79, g1, wV]
  have : ∃ r a' m', V.int .i64 0 = .int .i64 r ∧ bI H id v a m z = bI H id v a' m' z ∧ 0 ≤ r ∧ (1 < most → r < most) ∧ (most ≤ 1 → r = 0) ∧ SrcOk H id v n a' m' z := ⟨0, a, m, rfl, rfl, by omega, by omega, fun _ => rfl, hs⟩
  simpa [g1] using this
 obtain ⟨lv, _, _, _⟩ := yj (v := v) (z := z) hid a m
 have ls := fun a m => yj (v := v) (z := z) hid a m
 have ss := fun a m => CG (v := v) (z := z) hid a m
 have la := fun a m => (ls a m).2.1
 have lm := fun a m => (ls a m).2.2.1
 have l0 := fun a m => (ls a m).1
 have sa := fun a m => (ss a m).1
 have sm := fun a m => (ss a m).2.1
 have hmw : IntKind.u64.wrap most = most := by
  simp only [IntKind.wrap, IntKind.bits, IntKind.signed]
  simp
  omega
 have hm0 : ¬ most = 0 := by omega
 have fin : ∀ x : Int, 0 ≤ x → 0 ≤ IntKind.i64.wrap (x.tmod most) ∧ IntKind.i64.wrap (x.tmod most) < most := fun x hx => by
  have h1 : 0 ≤ x.tmod most := Int.tmod_nonneg _ hx
  have h2 : x.tmod most < most := Int.tmod_lt_of_pos _ (by omega)
  rw [wrap_i64 (by omega) (by omega)]
  exact ⟨h1, h2⟩
 have hbd := Ho hs
 unfold maxLen at hbd
 by_cases g2 : a < n
 ·obtain ⟨idb, o, b, e1, e2⟩ := Ig hs g2
  have h0 := hs.at0
  have hw1 : IntKind.i64.wrap (a + 1) = a + 1 := wrap_i64 (by omega) (by omega)
  simp [-rF, zK, Tryz.f79, g1, la, lm, l0, FH hs, g2, e1, e2, sa, sm, hw1, hmw, hm0, wV, CU, uC, jG, iO, lI, ae, af, List.lookup]
  exact ⟨_, _, rfl, (fin _ (wrap_u64 _).1).1, fun _ => (fin _ (wrap_u64 _).1).2, hs.to (by omega) (by omega) (wrap_u64 _).1 (wrap_u64 _).2⟩
 ·simp [-rF, zK, Tryz.f79, g1, la, lm, l0, FH hs, g2, sa, sm, hmw, hm0, wV, CU, uC, jG, iO, lI, ae, af, List.lookup]
  exact ⟨_, _, rfl, (fin _ (wrap_u64 _).1).1, fun _ => (fin _ (wrap_u64 _).1).2, hs.to hs.at0 hs.at1 (wrap_u64 _).1 (wrap_u64 _).2⟩
theorem OE (hs : SrcOk H id v n a m z) {most : Int} (hm : most ≤ 4611686018427387904) :
  ∃ b a' m', callW C 81 [.ptr (some (id, 0)), .int .i64 most] (bI H id v a m z) = some (.bool b, bI H id v a' m' z) ∧ SrcOk H id v n a' m' z := by
 suffices hg : Ret C 81 [.ptr (some (id, 0)), .int .i64 most] (bI H id v a m z) fun q H' => ∃ b a' m', q = .bool b ∧ H' = bI H id v a' m' z ∧ SrcOk H id v n a' m' z by
  obtain ⟨q, H', hc, r, a', m', rfl, rfl, hr⟩ := hg
  exact ⟨r, a', m', hc, hr⟩
 rw [Uy]
 obtain ⟨r, a', m', c1, _, _, _, h2⟩ := Ud hs hm
 simp [-lW, IV, Tryz.f81, c1, wV]
 exact ⟨(Classical.em _).symm, _, _, rfl, h2⟩
theorem LZ (hs : SrcOk H id v n a m z) {w : V} {l : List Str} (hl : AStrs (bI H id v a m z) w l) (h0 : 0 < l.length) (h1 : l.length ≤ 1000) :
  ∃ s a' m', callW C 91 [.ptr (some (id, 0)), w] (bI H id v a m z) = some (.str s, bI H id v a' m' z) ∧ s ∈ l ∧ SrcOk H id v n a' m' z := by
 suffices hg : Ret C 91 [.ptr (some (id, 0)), w] (bI H id v a m z) fun q H' => ∃ s a' m', q = .str s ∧ H' = bI H id v a' m' z ∧ s ∈ l ∧ SrcOk H id v n a' m' z by
  obtain ⟨q, H', hc, r, a', m', rfl, rfl, hr⟩ := hg
  exact ⟨r, a', m', hc, hr⟩
 rw [Ux]
 obtain ⟨r, a', m', c1, g0, g1, g2, h2⟩ := Ud hs (most := l.length) (by omega)
 have hrl : r < l.length := by
  by_cases h : (1 : Int) < l.length
  ·exact g1 h
  ·have := g2 (by omega)
   omega
 obtain ⟨i, rfl⟩ : ∃ i : Nat, r = i := ⟨r.toNat, by omega⟩
 have hi : i < l.length := by omega
 have hl2 : AStrs (bI H id v a' m' z) w l := At.src hs.lt hs.slc _ (by simp [okS, Sh.size]) hl
 obtain ⟨idb, o, e1, l0, _⟩ := aU hl2 (List.getElem?_eq_getElem hi)
 simp [-uz, Ip, Tryz.f91, hl.len, c1, e1, l0, wV]
 have : ∃ s a2 m2, V.str l[i] = .str s ∧ bI H id v a' m' z = bI H id v a2 m2 z ∧ s ∈ l ∧ SrcOk H id v n a2 m2 z := ⟨_, a', m', rfl, rfl, List.getElem_mem hi, h2⟩
 simpa using this
end
end Go.Proofs.Try1
end
