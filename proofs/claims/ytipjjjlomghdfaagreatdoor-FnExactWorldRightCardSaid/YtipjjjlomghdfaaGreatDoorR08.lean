/- Part 08 of the proof of a law: the interpreter, its soundness, and what functions of the program compute over it. Conditions: none but those that each theorem names. -/
import Derived.Test.YtipjjjlomghdfaaGreatDoorR07
import Derived.Test.YtipjjjlomghdfaaGreatDoorR06

set_option linter.all false
set_option maxRecDepth 20000
set_option maxHeartbeats 40000000
section
namespace Go.Lite
open Go
abbrev shRdn : Sh := .st [.str, .str]
abbrev shAttr : Sh := .st [.str, .slice .str]
abbrev shEntry : Sh := .st [.slice shRdn, .slice shAttr]
abbrev shClass : Sh := .st [.str, .slice .str, .slice .str, .slice .str]
structure PRdn where
 attr : Str
 value : Str
structure PAttr where
 name : Str
 vals : List Str
structure PEntry where
 dn : List PRdn
 attrs : List PAttr
structure PClass where
 name : Str
 must : List Str
 may : List Str
 single : List Str
abbrev strU (s : Str) : U := .str s
def PRdn.u (r : PRdn) : U := .st [.str r.attr, .str r.value]
def PAttr.u (a : PAttr) : U := .st [.str a.name, .lst (a.vals.map strU)]
def PEntry.u (e : PEntry) : U := .st [.lst (e.dn.map PRdn.u), .lst (e.attrs.map PAttr.u)]
def PClass.u (c : PClass) : U := .st [.str c.name, .lst (c.must.map strU), .lst (c.may.map strU), .lst (c.single.map strU)]
section
variable (H : List Ob)
def ASl {α : Type} (sh : Sh) (f : α → U) (v : V) (l : List α) : Prop := At H (.slice sh) [v] (.lst (l.map f))
abbrev AStrs (v : V) (l : List Str) : Prop := ASl H .str strU v l
abbrev ARdns (v : V) (l : List PRdn) : Prop := ASl H shRdn PRdn.u v l
abbrev AAttrs (v : V) (l : List PAttr) : Prop := ASl H shAttr PAttr.u v l
abbrev AClasses (v : V) (l : List PClass) : Prop := ASl H shClass PClass.u v l
end
section
variable {H H' T : List Ob} {v : V} {α : Type} {sh : Sh} {f : α → U} {l : List α}
theorem ASl.at (h : ASl H sh f v l) : At H (.slice sh) [v] (.lst (l.map f)) := h
theorem ASl.sl (h : ASl H sh f v l) : Sl H sh.size (At H sh) v (l.map f) := by
 obtain ⟨w, m, hw, hm, _, h⟩ := At_slice.1 h.at
 cases hw
 cases hm
 exact h
theorem ASl.bound (h : ASl H sh f v l) : l.length ≤ maxLen := by
 obtain ⟨w, m, hw, hm, h, _⟩ := At_slice.1 h.at
 cases hm
 simpa using h
theorem ASl.len (h : ASl H sh f v l) {e s b : Nat} {z : List V} : lenV ⟨.slice e, s, b, z⟩ v = some (.int .i64 l.length) := by
 have := h.sl.len (e := e) (s := s) (b := b) (z := z)
 simpa using this
theorem ASl.one (h : ASl H sh f v l) : isOne v = true ∧ cellsOf v = some [v] := h.sl.one
theorem ASl.ext (h : ASl H sh f v l) : ASl (H ++ T) sh f v l := At.ext h
theorem ASl.up (h : ASl H sh f v l) (hH : ∀ (id : Nat) o, H[id]? = some o → H'[id]? = some o) : ASl H' sh f v l := At.up hH _ h
theorem ASl.idx (h : ASl H sh f v l) {i : Nat} {x : α} (hx : l[i]? = some x) (hs : sh.size ≠ 0) : ∃ id o own cells,
  (∀ (e s b : Nat) (z : List V) (ty : Nat → LT) (k : IntKind), (ty e).size = sh.size → indexR ⟨.slice e, s, b, z⟩ ty (.val v) (.int k i) = some (.val (.ptr (some (id, o))))) ∧
  H[id]? = some (.mk own sh.size cells) ∧ o + sh.size ≤ cells.length ∧ At H sh ((cells.drop o).take sh.size) (f x) :=
 h.sl.idx (by rw [List.getElem?_map, hx]; rfl) hs
theorem Sl.typed (hf : ∀ cs u, At H sh cs u → ∃ x : α, u = f x) {us : List U} {n : Nat} (h : Sl H n (At H sh) v us) : ∃ l : List α, us = l.map f := by
 have h2 : ∀ u ∈ us, ∃ x : α, u = f x := by
  intro u hu
  rcases h with ⟨_, rfl⟩ | ⟨id, off, own, cells, _, _, _, h4⟩
  ·cases hu
  ·obtain ⟨i, hi, rfl⟩ := List.getElem_of_mem hu
   exact hf _ _ (h4 i _ (List.getElem?_eq_getElem hi))
 clear h
 induction us with
 | nil => exact ⟨[], rfl⟩
 | cons u us ih =>
  obtain ⟨x, rfl⟩ := h2 u List.mem_cons_self
  obtain ⟨l, rfl⟩ := ih fun w hw => h2 w (List.mem_cons_of_mem _ hw)
  exact ⟨x :: l, rfl⟩
theorem ASl.typed (hf : ∀ cs u, At H sh cs u → ∃ x : α, u = f x) {cs : List V} {u : U} (h : At H (.slice sh) cs u) : ∃ v l, cs = [v] ∧ u = .lst (l.map f) ∧ ASl H sh f v l := by
 have h0 := h
 obtain ⟨v, us, rfl, rfl, _, hs⟩ := At_slice.1 h
 obtain ⟨l, rfl⟩ := Sl.typed hf hs
 exact ⟨v, l, rfl, rfl, h0⟩
theorem strs_typed {cs : List V} {u : U} (h : At H (.slice .str) cs u) : ∃ v l, cs = [v] ∧ u = .lst (l.map strU) ∧ AStrs H v l :=
 ASl.typed (fun cs u h => by obtain ⟨s, _, rfl, _⟩ := At_str.1 h; exact ⟨s, rfl⟩) h
theorem rdn_at {cs : List V} {r : PRdn} : At H shRdn cs r.u ↔ cs = [.str r.attr, .str r.value] ∧ r.attr.length ≤ maxLen ∧ r.value.length ≤ maxLen := by
 constructor
 ·intro h
  obtain ⟨us, hu, h⟩ := At_st.1 h
  cases hu
  obtain ⟨c1, c2, u1, us1, rfl, hu, h1, h⟩ := Ats_cons.1 h
  cases hu
  obtain ⟨c3, c4, u2, us2, rfl, hu, h2, h⟩ := Ats_cons.1 h
  cases hu
  obtain ⟨rfl, _⟩ := Ats_nil.1 h
  obtain ⟨s, rfl, hs, w1⟩ := At_str.1 h1
  cases hs
  obtain ⟨s, rfl, hs, w2⟩ := At_str.1 h2
  cases hs
  exact ⟨rfl, w1, w2⟩
 ·rintro ⟨rfl, h1, h2⟩
  exact At_st.2 ⟨_, rfl, Ats_cons.2 ⟨[_], _, _, _, rfl, rfl, At_str.2 ⟨_, rfl, rfl, h1⟩, Ats_cons.2 ⟨[_], _, _, _, rfl, rfl, At_str.2 ⟨_, rfl, rfl, h2⟩, Ats_nil.2 ⟨rfl, rfl⟩⟩⟩⟩
theorem rdn_typed {cs : List V} {u : U} (h : At H shRdn cs u) : ∃ r : PRdn, u = r.u := by
 replace h := At_st.1 h
 obtain ⟨us, rfl, h⟩ := h
 obtain ⟨c1, c2, u1, us1, rfl, rfl, h1, h⟩ := Ats_cons.1 h
 obtain ⟨c3, c4, u2, us2, rfl, rfl, h2, h⟩ := Ats_cons.1 h
 obtain ⟨rfl, rfl⟩ := Ats_nil.1 h
 obtain ⟨s, rfl, rfl, w1⟩ := At_str.1 h1
 obtain ⟨t, rfl, rfl, w2⟩ := At_str.1 h2
 exact ⟨⟨s, t⟩, rfl⟩
theorem attr_at {cs : List V} {a : PAttr} : At H shAttr cs a.u ↔ ∃ v, cs = [.str a.name, v] ∧ a.name.length ≤ maxLen ∧ AStrs H v a.vals := by
 constructor
 ·intro h
  obtain ⟨us, hu, h⟩ := At_st.1 h
  cases hu
  obtain ⟨c1, c2, u1, us1, rfl, hu, h1, h⟩ := Ats_cons.1 h
  cases hu
  obtain ⟨c3, c4, u2, us2, rfl, hu, h2, h⟩ := Ats_cons.1 h
  cases hu
  obtain ⟨rfl, _⟩ := Ats_nil.1 h
  obtain ⟨s, rfl, hs, w1⟩ := At_str.1 h1
  cases hs
  obtain ⟨v, _, rfl, _⟩ := At_slice.1 h2
  exact ⟨v, rfl, w1, h2⟩
 ·rintro ⟨v, rfl, h1, h2⟩
  exact At_st.2 ⟨_, rfl, Ats_cons.2 ⟨[_], _, _, _, rfl, rfl, At_str.2 ⟨_, rfl, rfl, h1⟩, Ats_cons.2 ⟨[_], _, _, _, rfl, rfl, h2, Ats_nil.2 ⟨rfl, rfl⟩⟩⟩⟩
theorem attr_typed {cs : List V} {u : U} (h : At H shAttr cs u) : ∃ r : PAttr, u = r.u := by
 replace h := At_st.1 h
 obtain ⟨us, rfl, h⟩ := h
 obtain ⟨c1, c2, u1, us1, rfl, rfl, h1, h⟩ := Ats_cons.1 h
 obtain ⟨c3, c4, u2, us2, rfl, rfl, h2, h⟩ := Ats_cons.1 h
 obtain ⟨rfl, rfl⟩ := Ats_nil.1 h
 obtain ⟨s, rfl, rfl, w1⟩ := At_str.1 h1
 obtain ⟨v, l, rfl, rfl, _⟩ := strs_typed h2
 exact ⟨⟨s, l⟩, rfl⟩
theorem class_at {cs : List V} {c : PClass} : At H shClass cs c.u ↔ ∃ v1 v2 v3, cs = [.str c.name, v1, v2, v3] ∧ c.name.length ≤ maxLen ∧ AStrs H v1 c.must ∧ AStrs H v2 c.may ∧ AStrs H v3 c.single := by
 constructor
 ·intro h
  obtain ⟨us, hu, h⟩ := At_st.1 h
  cases hu
  obtain ⟨c1, c2, u1, us1, rfl, hu, h1, h⟩ := Ats_cons.1 h
  cases hu
  obtain ⟨c3, c4, u2, us2, rfl, hu, h2, h⟩ := Ats_cons.1 h
  cases hu
  obtain ⟨c5, c6, u3, us3, rfl, hu, h3, h⟩ := Ats_cons.1 h
  cases hu
  obtain ⟨c7, c8, u4, us4, rfl, hu, h4, h⟩ := Ats_cons.1 h
  cases hu
  obtain ⟨rfl, _⟩ := Ats_nil.1 h
  obtain ⟨s, rfl, hs, w1⟩ := At_str.1 h1
  cases hs
  obtain ⟨v1, _, rfl, _⟩ := At_slice.1 h2
  obtain ⟨v2, _, rfl, _⟩ := At_slice.1 h3
  obtain ⟨v3, _, rfl, _⟩ := At_slice.1 h4
  exact ⟨v1, v2, v3, rfl, w1, h2, h3, h4⟩
 ·rintro ⟨v1, v2, v3, rfl, h1, h2, h3, h4⟩
  exact At_st.2 ⟨_, rfl, Ats_cons.2 ⟨[_], _, _, _, rfl, rfl, At_str.2 ⟨_, rfl, rfl, h1⟩, Ats_cons.2 ⟨[_], _, _, _, rfl, rfl, h2, Ats_cons.2 ⟨[_], _, _, _, rfl, rfl, h3, Ats_cons.2 ⟨[_], _, _, _, rfl, rfl, h4, Ats_nil.2 ⟨rfl, rfl⟩⟩⟩⟩⟩⟩
theorem class_typed {cs : List V} {u : U} (h : At H shClass cs u) : ∃ r : PClass, u = r.u := by
 replace h := At_st.1 h
 obtain ⟨us, rfl, h⟩ := h
 obtain ⟨c1, c2, u1, us1, rfl, rfl, h1, h⟩ := Ats_cons.1 h
 obtain ⟨c3, c4, u2, us2, rfl, rfl, h2, h⟩ := Ats_cons.1 h
 obtain ⟨c5, c6, u3, us3, rfl, rfl, h3, h⟩ := Ats_cons.1 h
 obtain ⟨c7, c8, u4, us4, rfl, rfl, h4, h⟩ := Ats_cons.1 h
 obtain ⟨rfl, rfl⟩ := Ats_nil.1 h
 obtain ⟨s, rfl, rfl, w1⟩ := At_str.1 h1
 obtain ⟨v, l, rfl, rfl, _⟩ := strs_typed h2
 obtain ⟨v', l', rfl, rfl, _⟩ := strs_typed h3
 obtain ⟨v'', l'', rfl, rfl, _⟩ := strs_typed h4
 exact ⟨⟨s, l, l', l''⟩, rfl⟩
theorem entry_at {cs : List V} {e : PEntry} : At H shEntry cs e.u ↔ ∃ v1 v2, cs = [v1, v2] ∧ ARdns H v1 e.dn ∧ AAttrs H v2 e.attrs := by
 constructor
 ·intro h
  obtain ⟨us, hu, h⟩ := At_st.1 h
  cases hu
  obtain ⟨c1, c2, u1, us1, rfl, hu, h1, h⟩ := Ats_cons.1 h
  cases hu
  obtain ⟨c3, c4, u2, us2, rfl, hu, h2, h⟩ := Ats_cons.1 h
  cases hu
  obtain ⟨rfl, _⟩ := Ats_nil.1 h
  obtain ⟨v1, _, rfl, _⟩ := At_slice.1 h1
  obtain ⟨v2, _, rfl, _⟩ := At_slice.1 h2
  exact ⟨v1, v2, rfl, h1, h2⟩
 ·rintro ⟨v1, v2, rfl, h1, h2⟩
  exact At_st.2 ⟨_, rfl, Ats_cons.2 ⟨[_], _, _, _, rfl, rfl, h1, Ats_cons.2 ⟨[_], _, _, _, rfl, rfl, h2, Ats_nil.2 ⟨rfl, rfl⟩⟩⟩⟩
theorem entry_typed {cs : List V} {u : U} (h : At H shEntry cs u) : ∃ r : PEntry, u = r.u := by
 replace h := At_st.1 h
 obtain ⟨us, rfl, h⟩ := h
 obtain ⟨c1, c2, u1, us1, rfl, rfl, h1, h⟩ := Ats_cons.1 h
 obtain ⟨c3, c4, u2, us2, rfl, rfl, h2, h⟩ := Ats_cons.1 h
 obtain ⟨rfl, rfl⟩ := Ats_nil.1 h
 obtain ⟨v, l, rfl, rfl, _⟩ := ASl.typed (fun _ _ => rdn_typed) h1
 obtain ⟨v', l', rfl, rfl, _⟩ := ASl.typed (fun _ _ => attr_typed) h2
 exact ⟨⟨l, l'⟩, rfl⟩
theorem strs_idx {xs : List Str} (h : AStrs H v xs) {i : Nat} {s : Str} (hx : xs[i]? = some s) : ∃ id o,
  (∀ (e s b : Nat) (z : List V) (ty : Nat → LT) (k : IntKind), (ty e).size = 1 → indexR ⟨.slice e, s, b, z⟩ ty (.val v) (.int k i) = some (.val (.ptr (some (id, o))))) ∧
  (∀ T : LT, T.one → ∀ r c, loadAt T ⟨r, c, H⟩ (.hp id o) = some (.str s)) ∧ s.length ≤ maxLen := by
 obtain ⟨id, o, own, cells, e1, e2, e3, e4⟩ := ASl.idx h hx (by decide)
 obtain ⟨t, e4, ht, e5⟩ := At_str.1 e4
 cases ht
 exact ⟨id, o, e1, load1 e2 (by simpa using cells_get e4 (j := 0) rfl), e5⟩
theorem rdns_idx {xs : List PRdn} (h : ARdns H v xs) {i : Nat} {x : PRdn} (hx : xs[i]? = some x) : ∃ id o,
  (∀ (e s b : Nat) (z : List V) (ty : Nat → LT) (k : IntKind), (ty e).size = 2 → indexR ⟨.slice e, s, b, z⟩ ty (.val v) (.int k i) = some (.val (.ptr (some (id, o))))) ∧
  (∀ T : LT, T.one → ∀ r c, loadAt T ⟨r, c, H⟩ (.hp id o) = some (.str x.attr)) ∧ (∀ T : LT, T.one → ∀ r c, loadAt T ⟨r, c, H⟩ (.hp id (o + 1)) = some (.str x.value)) ∧
  (∀ T : LT, T.many 2 → ∀ r c, loadAt T ⟨r, c, H⟩ (.hp id o) = some (.agg [.str x.attr, .str x.value])) ∧ At H shRdn [.str x.attr, .str x.value] x.u := by
 obtain ⟨id, o, own, cells, e1, e2, e3, e4⟩ := ASl.idx h hx (by decide)
 have e6 := e4
 obtain ⟨e4, e5⟩ := rdn_at.1 e4
 rw [e4] at e6
 exact ⟨id, o, e1, load1 e2 (by simpa using cells_get e4 (j := 0) rfl), load1 e2 (by simpa using cells_get e4 (j := 1) rfl), loadN e2 e3 (by decide) e4, e6⟩
theorem attrs_idx {xs : List PAttr} (h : AAttrs H v xs) {i : Nat} {x : PAttr} (hx : xs[i]? = some x) : ∃ id o w,
  (∀ (e s b : Nat) (z : List V) (ty : Nat → LT) (k : IntKind), (ty e).size = 2 → indexR ⟨.slice e, s, b, z⟩ ty (.val v) (.int k i) = some (.val (.ptr (some (id, o))))) ∧
  (∀ T : LT, T.one → ∀ r c, loadAt T ⟨r, c, H⟩ (.hp id o) = some (.str x.name)) ∧ (∀ T : LT, T.one → ∀ r c, loadAt T ⟨r, c, H⟩ (.hp id (o + 1)) = some w) ∧
  (∀ T : LT, T.many 2 → ∀ r c, loadAt T ⟨r, c, H⟩ (.hp id o) = some (.agg [.str x.name, w])) ∧ AStrs H w x.vals ∧ At H shAttr [.str x.name, w] x.u ∧ x.name.length ≤ maxLen := by
 obtain ⟨id, o, own, cells, e1, e2, e3, e4⟩ := ASl.idx h hx (by decide)
 have e6 := e4
 obtain ⟨w, e4, e7, e5⟩ := attr_at.1 e4
 rw [e4] at e6
 exact ⟨id, o, w, e1, load1 e2 (by simpa using cells_get e4 (j := 0) rfl), load1 e2 (by simpa using cells_get e4 (j := 1) rfl), loadN e2 e3 (by decide) e4, e5, e6, e7⟩
theorem classes_idx {xs : List PClass} (h : AClasses H v xs) {i : Nat} {x : PClass} (hx : xs[i]? = some x) : ∃ id o w1 w2 w3,
  (∀ (e s b : Nat) (z : List V) (ty : Nat → LT) (k : IntKind), (ty e).size = 4 → indexR ⟨.slice e, s, b, z⟩ ty (.val v) (.int k i) = some (.val (.ptr (some (id, o))))) ∧
  (∀ T : LT, T.one → ∀ r c, loadAt T ⟨r, c, H⟩ (.hp id o) = some (.str x.name)) ∧
  (∀ T : LT, T.many 4 → ∀ r c, loadAt T ⟨r, c, H⟩ (.hp id o) = some (.agg [.str x.name, w1, w2, w3])) ∧ AStrs H w1 x.must ∧ AStrs H w2 x.may ∧ AStrs H w3 x.single ∧ At H shClass [.str x.name, w1, w2, w3] x.u ∧ x.name.length ≤ maxLen := by
 obtain ⟨id, o, own, cells, e1, e2, e3, e4⟩ := ASl.idx h hx (by decide)
 have e6 := e4
 obtain ⟨w1, w2, w3, e4, e7, e8, e9, e5⟩ := class_at.1 e4
 rw [e4] at e6
 exact ⟨id, o, w1, w2, w3, e1, load1 e2 (by simpa using cells_get e4 (j := 0) rfl), loadN e2 e3 (by decide) e4, e8, e9, e5, e6, e7⟩
theorem classes_idxT {xs : List PClass} (h : AClasses H v xs) {i : Nat} {x : PClass} (hx : xs[i]? = some x) : ∃ id o w1 w2 w3,
  (∀ (e s b : Nat) (z : List V) (ty : Nat → LT) (k : IntKind), (ty e).size = 4 → indexR ⟨.slice e, s, b, z⟩ ty (.val v) (.int k i) = some (.val (.ptr (some (id, o))))) ∧
  (∀ T' : List Ob, ∀ T : LT, T.many 4 → ∀ r c, loadAt T ⟨r, c, H ++ T'⟩ (.hp id o) = some (.agg [.str x.name, w1, w2, w3])) ∧ AStrs H w1 x.must ∧ AStrs H w2 x.may ∧ AStrs H w3 x.single := by
 obtain ⟨id, o, own, cells, e1, e2, e3, e4⟩ := ASl.idx h hx (by decide)
 obtain ⟨w1, w2, w3, e4, e7, e8, e9, e5⟩ := class_at.1 e4
 exact ⟨id, o, w1, w2, w3, e1, fun T' => loadN (up_append _ _ e2) e3 (by decide) e4, e8, e9, e5⟩
end
def LtS (a b : Str) : Prop := Op.bytesLess a b = true
def PrevLt {α : Type} (key : α → Str) (l : List α) (j : Nat) (x : α) : Prop := ∀ y, 0 < j → l[j - 1]? = some y → LtS (key y) (key x)
def DnOk (l : List PRdn) : Prop := (∀ (j : Nat) x, l[j]? = some x → NameOk x.attr ∧ ValueOk x.value) ∧ l.length ≤ 6
def NamesOk (l : List Str) : Prop := ∀ (j : Nat) x, l[j]? = some x → NameOk x ∧ PrevLt (fun x => x) l j x
def ValuesOk (l : List Str) : Prop := (∀ (j : Nat) x, l[j]? = some x → ValueOk x ∧ PrevLt norm l j x) ∧ 1 ≤ l.length ∧ l.length ≤ 4
def AttrsOk (l : List PAttr) : Prop := (∀ (j : Nat) x, l[j]? = some x → NameOk x.name ∧ PrevLt PAttr.name l j x ∧ ValuesOk x.vals) ∧ l.length ≤ 8
def EntryOk (e : PEntry) : Prop := 0 < e.dn.length ∧ DnOk e.dn ∧ AttrsOk e.attrs
def classT : Str := [99, 108, 97, 115, 115]
structure ClassOk (c : PClass) : Prop where
 name : NameOk c.name
 l1 : c.must.length ≤ 10
 l2 : c.may.length ≤ 10
 l3 : c.single.length ≤ 10
 n1 : NamesOk c.must
 n2 : NamesOk c.may
 n3 : NamesOk c.single
 apart : ∀ t ∈ c.must, t ∉ c.may
 known : ∀ t ∈ c.single, t ∈ c.may ∨ t ∈ c.must
 noMust : classT ∉ c.must
 noMay : classT ∉ c.may
def SchemaOk (l : List PClass) : Prop := (∀ (j : Nat) x, l[j]? = some x → ClassOk x ∧ PrevLt PClass.name l j x) ∧ l.length ≤ 6
theorem at_step {α : Type} {l : List α} {i : Nat} {P : Nat → α → Prop} (h : ∀ j x, j < i → l[j]? = some x → P j x) {c : α} (hc : l[i]? = some c) (hp : P i c) : ∀ j x, j < i + 1 → l[j]? = some x → P j x := by
 intro j x hj hx
 by_cases hji : j = i
 ·subst hji; rw [hc] at hx; cases hx; exact hp
 ·exact h j x (by omega) hx
theorem at_all {α : Type} {l : List α} {P : Nat → α → Prop} (h : ∀ j x, j < l.length → l[j]? = some x → P j x) : ∀ j x, l[j]? = some x → P j x :=
 fun j x hx => h j x (List.getElem?_eq_some_iff.1 hx).1 hx
def FirstAt {α : Type} (key : α → Str) (l : List α) (n : Str) (r : Int) : Prop :=
 (∃ (k : Nat) (a : α), l[k]? = some a ∧ key a = n ∧ (∀ j b, j < k → l[j]? = some b → key b ≠ n) ∧ r = k) ∨ ((∀ (j : Nat) b, l[j]? = some b → key b ≠ n) ∧ r = -1)
def firstOf {α : Type} (key : α → Str) (l : List α) (n : Str) : Option α := l.find? fun a => key a == n
theorem FirstAt.pos {α : Type} {key : α → Str} {l : List α} {n : Str} {r : Int} (h : FirstAt key l n r) : (∃ (k : Nat) (a : α), l[k]? = some a ∧ r = k ∧ firstOf key l n = some a) ∨ (r = -1 ∧ firstOf key l n = none) := by
 rcases h with ⟨k, a, h1, h2, h3, rfl⟩ | ⟨h1, rfl⟩
 ·refine .inl ⟨k, a, h1, rfl, ?_⟩
  unfold firstOf
  rw [List.find?_eq_some_iff_getElem]
  obtain ⟨hk, h1⟩ := List.getElem?_eq_some_iff.1 h1
  refine ⟨by simp [h2], k, hk, h1, fun j hj => ?_⟩
  have := h3 j l[j] hj (List.getElem?_eq_getElem _)
  simp [this]
 ·refine .inr ⟨rfl, ?_⟩
  unfold firstOf
  rw [List.find?_eq_none]
  intro x hx
  obtain ⟨j, hj, rfl⟩ := List.getElem_of_mem hx
  simpa using h1 j _ (List.getElem?_eq_getElem hj)
def valsOf (l : List PAttr) (n : Str) : List Str := match firstOf PAttr.name l n with
 | some a => a.vals
 | none => []
noncomputable def mineOf (l : List PClass) (az : List PAttr) : Option PClass := match valsOf az classT with
 | [v] => firstOf PClass.name l (norm v)
 | _ => none
noncomputable def lacks (c : PClass) (az : List PAttr) : List Str := c.must.filter fun t => (firstOf PAttr.name az t).isNone
def Gs (H G : List Ob) (v : V) (cs : List V) : Prop := ∃ T id, G = H ++ T ∧ H.length ≤ id ∧ G[id]? = some (.mk true 1 cs) ∧ v = .slc (some (id, 0)) cs.length
theorem Gs.init {H : List Ob} : Gs H (H ++ [.mk true 1 []]) (.slc (some (H.length, 0)) 0) [] := ⟨_, H.length, rfl, Nat.le_refl _, by simp, rfl⟩
section
variable {H G : List Ob} {v : V} {cs : List V}
theorem Gs.push (h : Gs H G v cs) {x : V} {z : List V} {d : LD} {b : Nat} (hx : isOne x = true) (hb : (cs.length + 1) * b ≤ maxMade) (hb0 : 0 < b) (hb1 : b ≤ 1000000) (hz : z.length = 1) : ∃ v' G', appendV ⟨d, 1, b, z⟩ (G ++ [.mk true 1 [x]]) v (.slc (some (G.length, 0)) 1) = some (v', G') ∧ Gs H G' v' (cs ++ [x]) := by
 obtain ⟨T, id, rfl, h1, h2, rfl⟩ := h
 have hid : id < (H ++ T).length := (List.getElem?_eq_some_iff.1 h2).1
 have hid' : id < H.length + T.length := by simpa using hid
 have hg : (H ++ T ++ [Ob.mk true 1 [x]])[id]? = some (.mk true 1 cs) := by rw [List.getElem?_append_left hid]; exact h2
 have hnew : newCells ⟨d, 1, b, z⟩ (H ++ T ++ [Ob.mk true 1 [x]]) (.slc (some ((H ++ T).length, 0)) 1) = some ([x], 1) := by
  simp only [newCells, Nat.mul_one, slcCells, get_last]
  rfl
 refine ⟨.slc (some ((H ++ T ++ [Ob.mk true 1 [x]]).length, 0)) (cs.length + 1), (H ++ T ++ [Ob.mk true 1 [x]]).set id .dead ++ [.mk true 1 (cs ++ [x])], ?_, ?_⟩
 ·unfold appendV
  rw [if_pos (by simp [growOk, hz, hb0, hb1]), hnew]
  simp only [Nat.one_ne_zero, if_false, List.all_cons, List.all_nil, hx, Bool.and_true, if_true, hg]
  have e1 : ¬ (0 + (cs.length + 1) * 1 ≤ cs.length) := by omega
  have e2 : (0 + cs.length * 1 = cs.length ∨ cs.length = 0 ∧ cs.length ≤ 0) ∧ (cs.length + 1) * b ≤ maxMade := ⟨.inl (by simp), hb⟩
  rw [if_neg e1, if_pos e2, List.drop_zero]
 ·refine ⟨T.set (id - H.length) .dead ++ [.mk true 1 [x]] ++ [.mk true 1 (cs ++ [x])], (H ++ T ++ [Ob.mk true 1 [x]]).length, ?_, by simp only [List.length_append]; omega, ?_, by simp⟩
  ·rw [List.append_assoc H T, List.set_append_right _ _ h1, List.set_append_left _ _ (by omega)]
   simp
  ·have hl : ((H ++ T ++ [Ob.mk true 1 [x]]).set id .dead).length = (H ++ T ++ [Ob.mk true 1 [x]]).length := List.length_set
   rw [← hl, get_last]
theorem Gs.ext (h : Gs H G v cs) : ∃ T, G = H ++ T := by
 obtain ⟨T, id, h, _⟩ := h
 exact ⟨T, h⟩
theorem Gs.gc (h : Gs H G v cs) : gcH H G v = G := by
 obtain ⟨T, id, rfl, h1, h2, rfl⟩ := h
 unfold gcH
 rw [if_neg]
 rintro ⟨_, own, es, cells, h⟩
 have := (List.getElem?_eq_some_iff.1 h).1
 omega
theorem Gs.one (h : Gs H G v cs) : isOne v = true ∧ cellsOf v = some [v] := by
 obtain ⟨T, id, rfl, h1, h2, rfl⟩ := h
 exact ⟨rfl, rfl⟩
theorem Gs.strs {l : List Str} (h : Gs H G v (l.map V.str)) (hl : l.length ≤ maxLen) (hs : ∀ s ∈ l, s.length ≤ maxLen) : AStrs G v l ∧ ∃ id, AtF G (.slice .str) [v] (.lst (l.map strU)) [id] ∧ H.length ≤ id := by
 obtain ⟨T, id, rfl, h1, h2, rfl⟩ := h
 have hF : AtF (H ++ T) (.slice .str) [.slc (some (id, 0)) (l.map V.str).length] (.lst (l.map strU)) [id] := by
  refine AtF_slice.2 ⟨_, _, rfl, rfl, by simpa using hl, .inr ⟨id, 0, l.map V.str, List.replicate l.length [], by simp, h2, by simp, by simp, by simp, fun i x G hx hG => ?_⟩⟩
  rw [List.getElem?_map] at hx
  obtain ⟨s, hs', rfl⟩ := Option.map_eq_some_iff.1 hx
  have hi : i < l.length := (List.getElem?_eq_some_iff.1 hs').1
  rw [List.getElem?_replicate, if_pos hi] at hG
  cases hG
  refine AtF_str.2 ⟨⟨s, ?_, rfl, hs s (List.mem_of_getElem? hs')⟩, rfl⟩
  rw [Sh.size_str, Nat.zero_add, Nat.mul_one, List.drop_eq_getElem_cons (by simpa using hi)]
  obtain ⟨_, rfl⟩ := List.getElem?_eq_some_iff.1 hs'
  simp
 exact ⟨AtF.at _ hF, id, hF, h1⟩
end
abbrev shTree : Sh := .st [.slice shClass, .slice shEntry]
structure PTree where
 schema : List PClass
 entries : List PEntry
def PTree.u (t : PTree) : U := .st [.lst (t.schema.map PClass.u), .lst (t.entries.map PEntry.u)]
abbrev AEntries (H : List Ob) (v : V) (l : List PEntry) : Prop := ASl H shEntry PEntry.u v l
section
variable {H H' T : List Ob} {v : V}
theorem tree_at {cs : List V} {t : PTree} : At H shTree cs t.u ↔ ∃ v1 v2, cs = [v1, v2] ∧ AClasses H v1 t.schema ∧ AEntries H v2 t.entries := by
 constructor
 ·intro h
  obtain ⟨us, hu, h⟩ := At_st.1 h
  cases hu
  obtain ⟨c1, c2, u1, us1, rfl, hu, h1, h⟩ := Ats_cons.1 h
  cases hu
  obtain ⟨c3, c4, u2, us2, rfl, hu, h2, h⟩ := Ats_cons.1 h
  cases hu
  obtain ⟨rfl, _⟩ := Ats_nil.1 h
  obtain ⟨v1, _, rfl, _⟩ := At_slice.1 h1
  obtain ⟨v2, _, rfl, _⟩ := At_slice.1 h2
  exact ⟨v1, v2, rfl, h1, h2⟩
 ·rintro ⟨v1, v2, rfl, h1, h2⟩
  exact At_st.2 ⟨_, rfl, Ats_cons.2 ⟨[_], _, _, _, rfl, rfl, h1, Ats_cons.2 ⟨[_], _, _, _, rfl, rfl, h2, Ats_nil.2 ⟨rfl, rfl⟩⟩⟩⟩
theorem tree_typed {cs : List V} {u : U} (h : At H shTree cs u) : ∃ r : PTree, u = r.u := by
 replace h := At_st.1 h
 obtain ⟨us, rfl, h⟩ := h
 obtain ⟨c1, c2, u1, us1, rfl, rfl, h1, h⟩ := Ats_cons.1 h
 obtain ⟨c3, c4, u2, us2, rfl, rfl, h2, h⟩ := Ats_cons.1 h
 obtain ⟨rfl, rfl⟩ := Ats_nil.1 h
 obtain ⟨v, l, rfl, rfl, _⟩ := ASl.typed (fun _ _ => class_typed) h1
 obtain ⟨v', l', rfl, rfl, _⟩ := ASl.typed (fun _ _ => entry_typed) h2
 exact ⟨⟨l, l'⟩, rfl⟩
theorem entries_idx {xs : List PEntry} (h : AEntries H v xs) {i : Nat} {x : PEntry} (hx : xs[i]? = some x) : ∃ id o w1 w2,
  (∀ (e s b : Nat) (z : List V) (ty : Nat → LT) (k : IntKind), (ty e).size = 2 → indexR ⟨.slice e, s, b, z⟩ ty (.val v) (.int k i) = some (.val (.ptr (some (id, o))))) ∧
  (∀ T : LT, T.one → ∀ r c, loadAt T ⟨r, c, H⟩ (.hp id o) = some w1) ∧ (∀ T : LT, T.one → ∀ r c, loadAt T ⟨r, c, H⟩ (.hp id (o + 1)) = some w2) ∧
  (∀ T : LT, T.many 2 → ∀ r c, loadAt T ⟨r, c, H⟩ (.hp id o) = some (.agg [w1, w2])) ∧ ARdns H w1 x.dn ∧ AAttrs H w2 x.attrs ∧ At H shEntry [w1, w2] x.u := by
 obtain ⟨id, o, own, cells, e1, e2, e3, e4⟩ := ASl.idx h hx (by decide)
 have e6 := e4
 obtain ⟨w1, w2, e4, e7, e8⟩ := entry_at.1 e4
 rw [e4] at e6
 exact ⟨id, o, w1, w2, e1, load1 e2 (by simpa using cells_get e4 (j := 0) rfl), load1 e2 (by simpa using cells_get e4 (j := 1) rfl), loadN e2 e3 (by decide) e4, e7, e8, e6⟩
end
noncomputable def keyD (dn : List PRdn) : Str := keyL (dn.map fun r => (r.attr, r.value))
def HasOk (as' : List PAttr) (name n : Str) : Prop := n ≠ [] ∧ ∃ v ∈ valsOf as' name, norm v = n
def AttrFits (c : PClass) (a : PAttr) : Prop := (a.name = classT ∨ a.name ∈ c.must ∨ a.name ∈ c.may) ∧ ¬ (1 < a.vals.length ∧ a.name ∈ c.single)
def FitsOk (l : List PClass) (e : PEntry) : Prop := ∃ c, mineOf l e.attrs = some c ∧ lacks c e.attrs = [] ∧ (∀ a ∈ e.attrs, AttrFits c a) ∧ ∃ r, e.dn[0]? = some r ∧ HasOk e.attrs r.attr (norm r.value)
def ParentOk (es : List PEntry) (dn : List PRdn) : Prop := dn.length ≤ 1 ∨ ∃ y ∈ es, keyD y.dn = keyD dn.tail
def EntriesOk (s : List PClass) (es : List PEntry) : Prop := es.length ≤ 20 ∧ ∀ (j : Nat) x, es[j]? = some x → EntryOk x ∧ FitsOk s x ∧ PrevLt (fun e => keyD e.dn) es j x
def TreeOk (t : PTree) : Prop := SchemaOk t.schema ∧ EntriesOk t.schema t.entries ∧ ∀ x ∈ t.entries, ParentOk t.entries x.dn
abbrev rdnPair (r : PRdn) : Str × Str := (r.attr, r.value)
theorem pairsOf_eq : ∀ (l : List PRdn) (cs : List V), cs.length = l.length * 2 → (∀ (i : Nat) x, l[i]? = some x → cs[i * 2]? = some (.str x.attr) ∧ cs[i * 2 + 1]? = some (.str x.value)) → pairsOf cs = some (l.map rdnPair)
 | [], cs, hl, _ => by
  have : cs = [] := List.length_eq_zero_iff.1 (by simpa using hl)
  subst this
  rfl
 | x :: l, cs, hl, h => by
  match cs, hl, h with
  | a :: b :: cs, hl, h =>
   obtain ⟨h1, h2⟩ := h 0 x rfl
   simp at h1 h2
   subst h1 h2
   have ih := pairsOf_eq l cs (by simp at hl; omega) (fun i y hy => by
    have := h (i + 1) y (by simpa using hy)
    rw [show (i + 1) * 2 = i * 2 + 1 + 1 by omega] at this
    simpa using this)
   simp [pairsOf, ih]
  | [], hl, _ => simp at hl
  | [a], hl, _ => simp at hl; omega
theorem dkPrim_eq {H : List Ob} {v : V} {l : List PRdn} (h : ARdns H v l) (hl : l.length ≤ 1048576) (hs : ∀ x ∈ l, x.attr.length ≤ 1048576 ∧ x.value.length ≤ 1048576) : dkPrim [v] H = some (.str (keyD l), H) := by
 rcases h.sl with ⟨rfl, h0⟩ | ⟨id, off, own, cells, rfl, h2, h3, h4⟩
 ·have : l = [] := by simpa using h0
  subst this
  rfl
 ·rw [List.length_map] at h3 ⊢
  have hsz : shRdn.size = 2 := rfl
  rw [hsz] at h2 h3 h4
  by_cases h0 : l.length = 0
  ·have : l = [] := List.length_eq_zero_iff.1 h0
   subst this
   rfl
  ·have hp : pairsOf ((cells.drop off).take (l.length * 2)) = some (l.map rdnPair) := by
    refine pairsOf_eq l _ (by simp; omega) fun i x hx => ?_
    have hi : i < l.length := (List.getElem?_eq_some_iff.1 hx).1
    have h5 := h4 i x.u (by rw [List.getElem?_map, hx]; rfl)
    obtain ⟨h5, _⟩ := rdn_at.1 h5
    have g0 := cells_get h5 (j := 0) rfl
    have g1 := cells_get h5 (j := 1) rfl
    rw [List.getElem?_take_of_lt (by omega), List.getElem?_take_of_lt (by omega), List.getElem?_drop, List.getElem?_drop]
    refine ⟨?_, ?_⟩
    ·rw [← g0]; congr 1
    ·rw [← g1]; congr 1
   have hf : fitsL (l.map rdnPair) = true := by
    simp only [fitsL, List.all_map, List.all_eq_true, Function.comp, Bool.and_eq_true, decide_eq_true_eq]
    exact fun x hx => hs x hx
   simp only [dkPrim, if_neg h0, if_pos hl, h2, if_pos h3, hp]
   rw [if_pos ⟨hf, by simp⟩]
   rfl
noncomputable def kacc (l : List PRdn) (k : Nat) : Str := ((l.drop k).reverse.map rdnPair).foldl keyStep []
theorem kacc_end {l : List PRdn} : kacc l l.length = [] := by simp [kacc]
theorem kacc_zero {l : List PRdn} : kacc l 0 = keyD l := by
 show ((l.drop 0).reverse.map rdnPair).foldl keyStep [] = (l.map fun r => (r.attr, r.value)).reverse.foldl keyStep []
 rw [List.drop_zero, List.map_reverse]
theorem kacc_step {l : List PRdn} {k : Nat} {x : PRdn} (h : l[k]? = some x) : kacc l k = keyStep (kacc l (k + 1)) (rdnPair x) := by
 obtain ⟨hk, rfl⟩ := List.getElem?_eq_some_iff.1 h
 unfold kacc
 rw [List.drop_eq_getElem_cons hk]
 simp only [List.reverse_cons, List.map_append, List.foldl_append, List.map_cons, List.map_nil, List.foldl_cons, List.foldl_nil]
theorem kfold_len : ∀ (l : List (Str × Str)) (s : Str), (∀ p ∈ l, p.1.length ≤ 20) → (l.foldl keyStep s).length ≤ s.length + l.length * 122
 | [], s, _ => by simp
 | p :: l, s, h => by
  have ih := kfold_len l (keyStep s p) fun q hq => h q (List.mem_cons_of_mem _ hq)
  have h1 := h p List.mem_cons_self
  have h2 := norm_len (t := p.2)
  have h3 : (keyStep s p).length ≤ s.length + 122 := by simp only [keyStep, List.length_append, List.length_cons]; omega
  simp only [List.foldl_cons, List.length_cons]
  omega
theorem kacc_len {l : List PRdn} (hd : DnOk l) (k : Nat) : (kacc l k).length ≤ 1000 := by
 have h := kfold_len ((l.drop k).reverse.map rdnPair) [] (fun p hp => by
  obtain ⟨x, hx, rfl⟩ := List.mem_map.1 hp
  have hx := List.mem_of_mem_drop (List.mem_reverse.1 hx)
  obtain ⟨j, hj, rfl⟩ := List.getElem_of_mem hx
  exact (hd.1 j _ (List.getElem?_eq_getElem hj)).1.2.1)
 have := hd.2
 simp only [List.length_map, List.length_reverse, List.length_drop, List.length_nil] at h
 unfold kacc
 omega
theorem DnOk.small {l : List PRdn} (hd : DnOk l) : l.length ≤ 1048576 ∧ ∀ x ∈ l, x.attr.length ≤ 1048576 ∧ x.value.length ≤ 1048576 := by
 refine ⟨by have := hd.2; omega, fun x hx => ?_⟩
 obtain ⟨j, hj, rfl⟩ := List.getElem_of_mem hx
 obtain ⟨h1, h2⟩ := hd.1 j _ (List.getElem?_eq_getElem hj)
 have := h1.2.1
 have := h2.2.1
 omega
theorem DnOk.tail {l : List PRdn} (hd : DnOk l) : DnOk l.tail := by
 refine ⟨fun j x hx => hd.1 (j + 1) x (by rw [List.getElem?_tail] at hx; exact hx), ?_⟩
 have := hd.2
 simp
 omega
theorem rdns_tail {H : List Ob} {v : V} {l : List PRdn} (h : ARdns H v l) (h1 : 1 ≤ l.length) : ∃ id off own cells, v = .slc (some (id, off)) l.length ∧ H[id]? = some (.mk own 2 cells) ∧ ARdns H (.slc (some (id, off + 2)) (l.length - 1)) l.tail := by
 have hb := h.bound
 rcases h.sl with ⟨rfl, h0⟩ | ⟨id, off, own, cells, rfl, h2, h3, h4⟩
 ·have : l = [] := by simpa using h0
  subst this
  simp at h1
 ·rw [List.length_map] at h3 ⊢
  refine ⟨id, off, own, cells, rfl, h2, ?_⟩
  have hsz : shRdn.size = 2 := rfl
  rw [hsz] at h2 h3 h4
  refine At_slice.2 ⟨_, _, rfl, rfl, by simp; omega, .inr ⟨id, off + 2, own, cells, by simp, h2, ?_, fun i x hx => ?_⟩⟩
  ·rw [hsz, List.length_map, List.length_tail]; omega
  ·have := h4 (i + 1) x (by rw [List.getElem?_map] at hx ⊢; rw [List.getElem?_tail] at hx; exact hx)
   rw [hsz, show off + 2 + i * 2 = off + (i + 1) * 2 by omega]
   exact this
section
variable {H H' T : List Ob}
theorem Sl.mapL {α : Type} {es : Nat} {R R' : List V → α → Prop} {v : V} {xs : List α} (h : Sl H es R v xs) (hH : ∀ (id : Nat) own es cells, H[id]? = some (.mk own es cells) → H'[id]? = some (.mk own es cells)) (hR : ∀ cs x, R cs x → R' cs x) : Sl H' es R' v xs := by
 rcases h with h | ⟨id, off, own, cells, h1, h2, h3, h4⟩
 ·exact .inl h
 ·exact .inr ⟨id, off, own, cells, h1, hH _ _ _ _ h2, h3, fun i x hx => hR _ _ (h4 i x hx)⟩
mutual
theorem At.upL (hH : ∀ (id : Nat) own es cells, H[id]? = some (.mk own es cells) → H'[id]? = some (.mk own es cells)) : ∀ (sh : Sh) {cs : List V} {u : U}, At H sh cs u → At H' sh cs u
 | .int k, _, _, h => h
 | .bool, _, _, h => h
 | .str, _, _, h => h
 | .slice e, _, _, h => by
  simp only [At] at h ⊢
  obtain ⟨v, l, h1, h2, h3, h4⟩ := h
  exact ⟨v, l, h1, h2, h3, h4.mapL hH fun _ _ h => At.upL hH e h⟩
 | .st fs, _, _, h => by
  simp only [At] at h ⊢
  obtain ⟨us, h1, h2⟩ := h
  exact ⟨us, h1, Ats.upL hH fs h2⟩
theorem Ats.upL (hH : ∀ (id : Nat) own es cells, H[id]? = some (.mk own es cells) → H'[id]? = some (.mk own es cells)) : ∀ (fs : List Sh) {cs : List V} {us : List U}, Ats H fs cs us → Ats H' fs cs us
 | [], _, _, h => h
 | f :: fs, _, _, h => by
  simp only [Ats] at h ⊢
  obtain ⟨c1, c2, u, us', h1, h2, h3, h4⟩ := h
  exact ⟨c1, c2, u, us', h1, h2, At.upL hH f h3, Ats.upL hH fs h4⟩
end
theorem At.undead {id : Nat} {sh : Sh} {cs : List V} {u : U} (h : At (H.set id .dead) sh cs u) : At H sh cs u := by
 refine At.upL (fun q own es cells hq => ?_) sh h
 by_cases e : id = q
 ·subst e
  by_cases hl : id < H.length
  ·rw [List.getElem?_set_self hl] at hq; cases hq
  ·rw [List.getElem?_eq_none (by simp; omega)] at hq; cases hq
 ·rwa [List.getElem?_set_ne e] at hq
theorem AtF.kill {id : Nat} {sh : Sh} {cs : List V} {u : U} {F : List Nat} (h : AtF H sh cs u F) (hF : id ∉ F) {o : Ob} : AtF (H.set id o) sh cs u F :=
 h.frame sh fun q hq => List.getElem?_set_ne fun e => hF (by rw [e]; exact hq)
theorem set_app {id : Nat} {o : Ob} (h : id < H.length) : (H ++ T).set id o = H.set id o ++ T := List.set_append_left _ _ h
end
def New (b e : Nat) (G : List Ob) (sh : Sh) (cs : List V) (u : U) : Prop := ∃ F, AtF G sh cs u F ∧ F.Nodup ∧ ∀ q ∈ F, b ≤ q ∧ q < e
def News (b e : Nat) (G : List Ob) (fs : List Sh) (cs : List V) (us : List U) : Prop := ∃ F, AtsF G fs cs us F ∧ F.Nodup ∧ ∀ q ∈ F, b ≤ q ∧ q < e
section
variable {b e b' e' : Nat} {G G' T : List Ob} {sh : Sh} {fs : List Sh} {cs c1 c2 : List V} {u : U} {us : List U}
theorem New.at (h : New b e G sh cs u) : At G sh cs u := h.elim fun _ h => AtF.at _ h.1
theorem New.ext (h : New b e G sh cs u) : New b e (G ++ T) sh cs u := h.imp fun _ h => ⟨h.1.ext, h.2⟩
theorem New.wide (h : New b e G sh cs u) (hb : b' ≤ b) (he : e ≤ e') : New b' e' G sh cs u := h.imp fun _ h => ⟨h.1, h.2.1, fun q hq => ⟨Nat.le_trans hb (h.2.2 q hq).1, Nat.lt_of_lt_of_le (h.2.2 q hq).2 he⟩⟩
theorem New.frame (h : New b e G sh cs u) (hG : ∀ q, b ≤ q → q < e → G'[q]? = G[q]?) : New b e G' sh cs u := h.imp fun _ h => ⟨h.1.frame _ fun q hq => hG q (h.2.2 q hq).1 (h.2.2 q hq).2, h.2⟩
theorem New.inG (h : New b e G sh cs u) : New b G.length G sh cs u := h.imp fun _ h => ⟨h.1, h.2.1, fun q hq => ⟨(h.2.2 q hq).1, AtF.mem _ h.1 q hq⟩⟩
theorem New.kill (h : New b e G sh cs u) {id : Nat} (hid : id < b ∨ e ≤ id) {o : Ob} : New b e (G.set id o) sh cs u := h.frame fun q h1 h2 => List.getElem?_set_ne (by omega)
theorem New.str {s : Str} (h : s.length ≤ maxLen) : New b e G .str [.str s] (.str s) := ⟨[], AtF_str.2 ⟨⟨s, rfl, rfl, h⟩, rfl⟩, by simp, by simp⟩
theorem New.int {k : IntKind} {n : Int} (h : (Lit.int k n).wf = true) : New b e G (.int k) [.int k n] (.int n) := ⟨[], AtF_int.2 ⟨⟨n, rfl, rfl, h⟩, rfl⟩, by simp, by simp⟩
theorem New.bool {t : Bool} : New b e G .bool [.bool t] (.bool t) := ⟨[], AtF_bool.2 ⟨⟨t, rfl, rfl⟩, rfl⟩, by simp, by simp⟩
theorem New.nil : New b e G (.slice sh) [.slc none 0] (.lst []) := ⟨[], AtF_slice.2 ⟨_, _, rfl, rfl, by simp, .inl ⟨rfl, rfl, rfl⟩⟩, by simp, by simp⟩
theorem News.nil : News b e G [] [] [] := ⟨[], AtsF_nil.2 ⟨rfl, rfl, rfl⟩, by simp, by simp⟩
theorem News.ext (h : News b e G fs cs us) : News b e (G ++ T) fs cs us := by
 obtain ⟨F, h1, h2⟩ := h
 exact ⟨F, AtsF.frame _ (fun q hq => List.getElem?_append_left (AtsF.mem _ h1 q hq)) h1, h2⟩
theorem News.frame (h : News b e G fs cs us) (hG : ∀ q, b ≤ q → q < e → G'[q]? = G[q]?) : News b e G' fs cs us := h.imp fun _ h => ⟨h.1.frame _ fun q hq => hG q (h.2.2 q hq).1 (h.2.2 q hq).2, h.2⟩
theorem New.st (h : News b e G fs cs us) : New b e G (.st fs) cs (.st us) := h.imp fun _ h => ⟨AtF_st.2 ⟨_, rfl, h.1⟩, h.2⟩
theorem News.cons {m : Nat} (h : New b m G sh c1 u) (hs : News m e G fs c2 us) (h1 : b ≤ m) (h2 : m ≤ e) : News b e G (sh :: fs) (c1 ++ c2) (u :: us) := by
 obtain ⟨F, f1, f2, f3⟩ := h
 obtain ⟨K, k1, k2, k3⟩ := hs
 refine ⟨F ++ K, AtsF_cons.2 ⟨c1, c2, u, us, F, K, rfl, rfl, rfl, f1, k1⟩, List.nodup_append.2 ⟨f2, k2, fun x hx y hy e => ?_⟩, fun q hq => ?_⟩
 ·subst e; have := f3 x hx; have := k3 x hy; omega
 ·rcases List.mem_append.1 hq with hq | hq
  ·have := f3 q hq; omega
  ·have := k3 q hq; omega
theorem News.cons0 (h : AtF G sh c1 u []) (hs : News b e G fs c2 us) : News b e G (sh :: fs) (c1 ++ c2) (u :: us) := by
 obtain ⟨K, k1, k2⟩ := hs
 exact ⟨K, AtsF_cons.2 ⟨c1, c2, u, us, [], K, rfl, rfl, rfl, h, k1⟩, k2⟩
theorem News.str {s : Str} (hl : s.length ≤ maxLen) (hs : News b e G fs c2 us) : News b e G (.str :: fs) (.str s :: c2) (.str s :: us) := News.cons0 (c1 := [.str s]) (AtF_str.2 ⟨⟨s, rfl, rfl, hl⟩, rfl⟩) hs
theorem News.int {k : IntKind} {n : Int} (hn : (Lit.int k n).wf = true) (hs : News b e G fs c2 us) : News b e G (.int k :: fs) (.int k n :: c2) (.int n :: us) := News.cons0 (c1 := [.int k n]) (AtF_int.2 ⟨⟨n, rfl, rfl, hn⟩, rfl⟩) hs
theorem News.bool {t : Bool} (hs : News b e G fs c2 us) : News b e G (.bool :: fs) (.bool t :: c2) (.bool t :: us) := News.cons0 (c1 := [.bool t]) (AtF_bool.2 ⟨⟨t, rfl, rfl⟩, rfl⟩) hs
theorem News.nilS {e' : Sh} (hs : News b e G fs c2 us) : News b e G (.slice e' :: fs) (.slc none 0 :: c2) (.lst [] :: us) := News.cons0 (c1 := [.slc none 0]) (AtF_slice.2 ⟨_, _, rfl, rfl, by simp, .inl ⟨rfl, rfl, rfl⟩⟩) hs
theorem News.one (h : New b e G sh cs u) (h1 : b ≤ e) : News b e G [sh] cs [u] := by
 have := News.cons h (News.nil (b := e) (e := e) (G := G)) h1 (Nat.le_refl _)
 simpa using this
theorem New.gc {H : List Ob} {v : V} (hv : lowV H v ↔ lowVs H cs) (h : New H.length e (H ++ T) sh cs u) : ∃ T', gcH H (H ++ T) v = H ++ T' ∧ New H.length (H ++ T').length (H ++ T') sh cs u := by
 by_cases hl : lowV H v
 ·refine ⟨[], by rw [gcH_low hl, List.append_nil], ?_⟩
  obtain ⟨F, h1, h2, h3⟩ := h
  have hF : F = [] := AtF.cut _ h1 (fun q hq => (h3 q hq).1) (hv.1 hl)
  subst hF
  exact ⟨[], AtF.frame _ (fun q hq => by cases hq) h1, by simp, by simp⟩
 ·refine ⟨T, ?_, h.inG⟩
  unfold gcH
  rw [if_neg fun h => hl h.2]
theorem New.one1 {v : V} {e0 : Sh} (h : New b e G (.slice e0) [v] u) : isOne v = true ∧ cellsOf v = some [v] := by
 obtain ⟨w, l, hw, _, _, h4⟩ := At_slice.1 h.at
 cases hw
 exact h4.one
theorem New.gcA {H : List Ob} (h : New H.length e (H ++ T) sh cs u) : ∃ T', gcH H (H ++ T) (.agg cs) = H ++ T' ∧ New H.length (H ++ T').length (H ++ T') sh cs u := h.gc (by simp [lowV])
end
theorem appendV_row {d : LD} {sz by_ : Nat} {z : List V} {G : List Ob} {id n m : Nat} {cs xs : List V} {x : V} (hz : z.length = sz) (h0 : 0 < sz) (hb0 : 0 < by_) (hb1 : by_ ≤ 1000000) (h : G[id]? = some (.mk true sz cs)) (hl : cs.length = n * sz)
  (hx : newCells ⟨d, sz, by_, z⟩ G x = some (xs, m)) (hm : m ≠ 0) (ho : xs.all isOne = true) (hb : (n + m) * by_ ≤ maxMade) :
  appendV ⟨d, sz, by_, z⟩ G (.slc (some (id, 0)) n) x = some (.slc (some (G.length, 0)) (n + m), G.set id .dead ++ [.mk true sz (cs ++ xs)]) := by
 have e0 : 0 < m * sz := Nat.mul_pos (by omega) h0
 have e1 : (n + m) * sz = n * sz + m * sz := Nat.add_mul _ _ _
 unfold appendV
 rw [if_pos (by simp [growOk, h0, hb0, hb1, hz]), hx]
 simp only [hm, if_false, ho, if_true, h]
 rw [if_neg (by omega), if_pos ⟨.inl (by omega), hb⟩, List.drop_zero]
theorem appendV_nil {d : LD} {sz by_ : Nat} {z : List V} {G : List Ob} {m : Nat} {xs : List V} {x : V} (hz : z.length = sz) (h0 : 0 < sz) (hb0 : 0 < by_) (hb1 : by_ ≤ 1000000)
  (hx : newCells ⟨d, sz, by_, z⟩ G x = some (xs, m)) (hm : m ≠ 0) (ho : xs.all isOne = true) (hb : m * by_ ≤ maxMade) :
  appendV ⟨d, sz, by_, z⟩ G (.slc none 0) x = some (.slc (some (G.length, 0)) m, G ++ [.mk true sz xs]) := by
 unfold appendV
 rw [if_pos (by simp [growOk, h0, hb0, hb1, hz]), hx]
 simp only [hm, if_false, ho, if_true]
 rw [if_pos hb]
theorem newCells_tmp {d : LD} {by_ : Nat} {z : List V} {G : List Ob} {es : Nat} {c : List V} (h0 : 0 < c.length) : newCells ⟨d, c.length, by_, z⟩ (G ++ [.mk true es c]) (.slc (some (G.length, 0)) 1) = some (c, 1) := by
 have : ¬ c.length = 0 := by omega
 simp [newCells, slcCells, this]
def Lst {α : Type} (B G : List Ob) (sh : Sh) (f : α → U) (v : V) (l : List α) : Prop := (∃ T, G = B ++ T) ∧ ((v = .slc none 0 ∧ l = []) ∨ ∃ id cs, B.length ≤ id ∧ G[id]? = some (.mk true sh.size cs) ∧ v = .slc (some (id, 0)) l.length ∧
 cs.length = l.length * sh.size ∧ ∀ i x, l[i]? = some x → At (G.set id .dead) sh ((cs.drop (i * sh.size)).take sh.size) (f x))
section
variable {α : Type} {B G T : List Ob} {sh : Sh} {f : α → U} {v : V} {l : List α}
theorem Lst.nil : Lst B B sh f (.slc none 0) [] := ⟨⟨[], by simp⟩, .inl ⟨rfl, rfl⟩⟩
theorem Lst.init : Lst B (B ++ [.mk true sh.size []]) sh f (.slc (some (B.length, 0)) 0) [] := ⟨⟨_, rfl⟩, .inr ⟨B.length, [], Nat.le_refl _, by simp, rfl, by simp, fun i x h => by simp at h⟩⟩
theorem Lst.pre (h : Lst B G sh f v l) : ∃ T, G = B ++ T := h.1
theorem Lst.ext (h : Lst B G sh f v l) : Lst B (G ++ T) sh f v l := by
 obtain ⟨⟨S, hS⟩, h⟩ := h
 refine ⟨⟨S ++ T, by rw [hS, List.append_assoc]⟩, ?_⟩
 rcases h with h | ⟨id, cs, h1, h2, h3, h4, h5⟩
 ·exact .inl h
 ·have hid := (List.getElem?_eq_some_iff.1 h2).1
  exact .inr ⟨id, cs, h1, by rw [List.getElem?_append_left hid]; exact h2, h3, h4, fun i x hx => by rw [set_app hid]; exact (h5 i x hx).ext⟩
theorem Lst.one (h : Lst B G sh f v l) : isOne v = true ∧ cellsOf v = some [v] := by
 obtain ⟨_, ⟨rfl, _⟩ | ⟨id, cs, _, _, rfl, _⟩⟩ := h <;> exact ⟨rfl, rfl⟩
theorem Lst.len (h : Lst B G sh f v l) {e s b : Nat} {z : List V} : lenV ⟨.slice e, s, b, z⟩ v = some (.int .i64 l.length) := by
 obtain ⟨_, ⟨rfl, rfl⟩ | ⟨id, cs, _, _, rfl, _⟩⟩ := h <;> rfl
theorem Lst.at (h : Lst B G sh f v l) (hl : l.length ≤ maxLen) : ASl G sh f v l := by
 obtain ⟨_, ⟨rfl, rfl⟩ | ⟨id, cs, h1, h2, rfl, h4, h5⟩⟩ := h
 ·exact At_slice.2 ⟨_, _, rfl, rfl, by simp, .inl ⟨rfl, rfl⟩⟩
 ·refine At_slice.2 ⟨_, _, rfl, rfl, by simpa using hl, .inr ⟨id, 0, true, cs, by simp, h2, by simp; omega, fun i x hx => ?_⟩⟩
  rw [List.getElem?_map] at hx
  obtain ⟨y, hy, rfl⟩ := Option.map_eq_some_iff.1 hx
  rw [Nat.zero_add]
  exact (h5 i y hy).undead
theorem row_snoc {cs c : List V} {n s : Nat} (hl : cs.length = n * s) (hc : c.length = s) {P : Nat → List V → Prop} (h1 : ∀ i, i < n → P i ((cs.drop (i * s)).take s)) (h2 : P n c) : ∀ i, i < n + 1 → P i (((cs ++ c).drop (i * s)).take s) := by
 intro i hi
 by_cases e : i = n
 ·subst e
  rw [List.drop_append_of_le_length (by omega), List.drop_of_length_le (by omega), List.nil_append, List.take_of_length_le (by omega)]
  exact h2
 ·have h3 : i * s + s ≤ n * s := mul_step (by omega)
  rw [List.drop_append_of_le_length (by omega), List.take_append_of_le_length (by simp; omega)]
  exact h1 i (by omega)
theorem Lst.apart (h : Lst B G sh f v l) {q n : Nat} (hq : G.length ≤ q) : v ≠ .slc (some (q, 0)) n := by
 obtain ⟨_, ⟨rfl, _⟩ | ⟨id, cs, _, h2, rfl, _⟩⟩ := h
 ·simp
 ·have := (List.getElem?_eq_some_iff.1 h2).1
  simp
  omega
theorem Lst.push {d : LD} {sz by_ : Nat} {z : List V} (h : Lst B G sh f v l) {x : α} {c : List V} (hx : (∃ F, AtF (G ++ T) sh c (f x) F ∧ ∀ q ∈ F, ∀ n, v ≠ .slc (some (q, 0)) n) ∨ At B sh c (f x)) (hs : sz = sh.size) (hz : z.length = sz) (h0 : 0 < sz) (hb0 : 0 < by_) (hb1 : by_ ≤ 1000000) (hb : (l.length + 1) * by_ ≤ maxMade) :
  ∃ v' G', appendV ⟨d, sz, by_, z⟩ (G ++ T ++ [.mk true sz c]) v (.slc (some ((G ++ T).length, 0)) 1) = some (v', G') ∧ Lst B G' sh f v' (l ++ [x]) ∧ c.length = sz ∧ c.all isOne = true ∧
   v' = .slc (some ((G ++ T).length + 1, 0)) (l.length + 1) ∧ (∀ q, q < (G ++ T).length → (∀ n, v ≠ .slc (some (q, 0)) n) → G'[q]? = (G ++ T)[q]?) ∧ (G ++ T).length + 2 = G'.length := by
 obtain ⟨S, hS⟩ := h.1
 have hat : At (G ++ T) sh c (f x) := by
  rcases hx with ⟨F, h1, _⟩ | hx
  ·exact AtF.at _ h1
  ·rw [hS, List.append_assoc]; exact hx.ext
 have hcl : c.length = sz := by rw [hs]; exact At.len _ hat
 have hco := At.ones _ hat
 subst hcl
 have hnew := newCells_tmp (d := d) (by_ := by_) (z := z) (G := G ++ T) (es := c.length) h0
 obtain ⟨_, ⟨rfl, rfl⟩ | ⟨id, cs, h1, h2, rfl, h4, h5⟩⟩ := h
 ·refine ⟨_, _, appendV_nil hz h0 hb0 hb1 hnew (by decide) hco (by simpa using hb), ⟨⟨_, by rw [hS, List.append_assoc, List.append_assoc, List.append_assoc]⟩, .inr ⟨_, c, ?_, get_last.trans (by rw [hs]), by simp, by simp [hs], fun i y hy => ?_⟩⟩, rfl, hco, by simp [Nat.add_assoc], fun q hq _ => ?_, by simp [Nat.add_assoc]⟩
  ·simp [hS]
  ·rw [set_last]
   have : i = 0 := by
    have := (List.getElem?_eq_some_iff.1 hy).1
    simp at this; omega
   subst this
   cases hy
   rw [Nat.zero_mul, List.drop_zero, List.take_of_length_le (by omega)]
   exact hat.ext.ext
  ·rw [List.append_assoc, List.getElem?_append_left hq]
 ·have hid := (List.getElem?_eq_some_iff.1 h2).1
  have h2' : (G ++ T ++ [Ob.mk true c.length c])[id]? = some (.mk true c.length cs) := by rw [List.append_assoc, List.getElem?_append_left hid, h2, hs]
  refine ⟨_, _, appendV_row hz h0 hb0 hb1 h2' (by rw [h4, hs]) hnew (by decide) hco hb, ⟨?_, .inr ⟨(G ++ T ++ [Ob.mk true c.length c]).length, cs ++ c, by simp [hS], ?_, by simp, by simp [h4, hs, Nat.add_mul], ?_⟩⟩, rfl, hco, by simp [Nat.add_assoc], fun q hq hn => ?_, by simp [Nat.add_assoc]⟩
  ·rw [hS, List.append_assoc, List.append_assoc, List.set_append_right _ _ h1, List.append_assoc]
   exact ⟨_, rfl⟩
  ·have : (G ++ T ++ [Ob.mk true c.length c]).length = ((G ++ T ++ [Ob.mk true c.length c]).set id .dead).length := List.length_set.symm
   rw [this, get_last, hs]
  ·have hlen : (G ++ T ++ [Ob.mk true c.length c]).length = ((G ++ T ++ [Ob.mk true c.length c]).set id .dead).length := List.length_set.symm
   have hG' : ((G ++ T ++ [Ob.mk true c.length c]).set id .dead ++ [Ob.mk true c.length (cs ++ c)]).set (G ++ T ++ [Ob.mk true c.length c]).length .dead = G.set id .dead ++ (T ++ [Ob.mk true c.length c] ++ [.dead]) := by
    rw [hlen, set_last, List.append_assoc G, set_app hid, List.append_assoc]
   rw [hG']
   have key := row_snoc (n := l.length) (s := sh.size) (cs := cs) (c := c) (by rw [h4]) hs (P := fun i cc => ∀ y, (l ++ [x])[i]? = some y → At (G.set id .dead ++ (T ++ [Ob.mk true c.length c] ++ [.dead])) sh cc (f y)) (fun i hi y hy => by
     rw [List.getElem?_append_left hi] at hy
     exact (h5 i y hy).ext) (fun y hy => by
     simp at hy
     subst hy
     rcases hx with ⟨F, f1, f2⟩ | hx
     ·have := AtF.at _ (AtF.kill (id := id) (o := .dead) f1 fun hm => f2 id hm _ rfl)
      rw [set_app hid] at this
      have := this.ext (T := [Ob.mk true c.length c] ++ [.dead])
      simpa [List.append_assoc] using this
     ·rw [hS, List.set_append_right _ _ h1, List.append_assoc]
      exact hx.ext)
   intro i y hy
   have hi : i < l.length + 1 := by
    have := (List.getElem?_eq_some_iff.1 hy).1
    simpa using this
   exact key i hi y hy
  ·have hne : q ≠ id := fun e => hn _ (by rw [e])
   rw [List.getElem?_append_left (by simp at hq ⊢; omega), List.getElem?_set_ne (fun e => hne e.symm), List.getElem?_append_left hq]
end
section
variable {H H' : List Ob}
end
theorem row_chunk {cells : List V} {off n s i : Nat} (h : off + n * s ≤ cells.length) (hi : i < n) : ((((cells.drop off).take (n * s)).drop (i * s)).take s) = (cells.drop (off + i * s)).take s := by
 have h1 : i * s + s ≤ n * s := mul_step hi
 apply List.ext_getElem?
 intro j
 by_cases hj : j < s
 ·rw [List.getElem?_take_of_lt hj, List.getElem?_take_of_lt hj, List.getElem?_drop, List.getElem?_take_of_lt (by omega), List.getElem?_drop, List.getElem?_drop]
  congr 1
  omega
 ·rw [List.getElem?_eq_none (by simp; omega), List.getElem?_eq_none (by simp; omega)]
theorem rows_ones {cs : List V} {n s : Nat} (hl : cs.length = n * s) (h : ∀ i, i < n → ((cs.drop (i * s)).take s).all isOne = true) : cs.all isOne = true := by
 rw [List.all_eq_true]
 intro x hx
 obtain ⟨j, hj, rfl⟩ := List.getElem_of_mem hx
 have hs : 0 < s := by
  rcases Nat.eq_zero_or_pos s with h0 | h0
  ·subst h0; simp at hl; simp [hl] at hj
  ·exact h0
 have hd : j / s < n := Nat.div_lt_of_lt_mul (by rw [Nat.mul_comm]; omega)
 have h1 := h (j / s) hd
 rw [List.all_eq_true] at h1
 refine h1 _ (List.mem_iff_getElem?.2 ⟨j % s, ?_⟩)
 rw [List.getElem?_take_of_lt (Nat.mod_lt _ hs), List.getElem?_drop, show j / s * s + j % s = j from Nat.div_add_mod' j s, List.getElem?_eq_getElem hj]
section
variable {α : Type} {H T : List Ob} {sh : Sh} {f : α → U} {v : V} {l : List α}
theorem ASl.cells (h : ASl H sh f v l) (hs : sh.size ≠ 0) : ∃ p cs, v = .slc p l.length ∧ (∀ T, slcCells (H ++ T) p (l.length * sh.size) = some cs) ∧ cs.length = l.length * sh.size ∧ cs.all isOne = true ∧ (p = none → l = []) ∧
  (∀ i x, l[i]? = some x → At H sh ((cs.drop (i * sh.size)).take sh.size) (f x)) := by
 rcases h.sl with ⟨rfl, hl⟩ | ⟨id, off, own, cells, rfl, h2, h3, h4⟩
 ·have : l = [] := by simpa using hl
  subst this
  exact ⟨none, [], rfl, fun T => by simp [slcCells], by simp, rfl, fun _ => rfl, fun i x hx => by simp at hx⟩
 ·rw [List.length_map] at h3 ⊢
  have hch : ∀ i x, l[i]? = some x → At H sh ((((cells.drop off).take (l.length * sh.size)).drop (i * sh.size)).take sh.size) (f x) := fun i x hx => by
   rw [row_chunk h3 (List.getElem?_eq_some_iff.1 hx).1]
   exact h4 i (f x) (by rw [List.getElem?_map, hx]; rfl)
  refine ⟨some (id, off), (cells.drop off).take (l.length * sh.size), rfl, fun T => ?_, by simp; omega, ?_, (fun h => by cases h), hch⟩
  ·by_cases h0 : l.length * sh.size = 0
   ·simp [slcCells, h0]
   ·simp only [slcCells, up_append _ _ h2, if_neg h0]
    unfold rdCells
    rw [if_pos h3]
  ·exact rows_ones (n := l.length) (s := sh.size) (by simp; omega) fun i hi => At.ones _ (hch i l[i] (List.getElem?_eq_getElem hi))
end
structure PEntryOut where
 entry : PEntry
 code : Int
def PEntryOut.u (o : PEntryOut) : U := .st [o.entry.u, .int o.code]
abbrev shEntryOut : Sh := .st [shEntry, .int .i64]
theorem entryOut_at {H : List Ob} {cs : List V} {o : PEntryOut} : At H shEntryOut cs o.u ↔ ∃ v1 v2, cs = [v1, v2, .int .i64 o.code] ∧ ARdns H v1 o.entry.dn ∧ AAttrs H v2 o.entry.attrs ∧ (Lit.int .i64 o.code).wf = true := by
 constructor
 ·intro h
  obtain ⟨us, hu, h⟩ := At_st.1 h
  cases hu
  obtain ⟨c1, c2, u1, us1, rfl, hu, h1, h⟩ := Ats_cons.1 h
  cases hu
  obtain ⟨c3, c4, u2, us2, rfl, hu, h2, h⟩ := Ats_cons.1 h
  cases hu
  obtain ⟨rfl, _⟩ := Ats_nil.1 h
  obtain ⟨v1, v2, rfl, a1, a2⟩ := entry_at.1 h1
  obtain ⟨n, rfl, hn, w⟩ := At_int.1 h2
  cases hn
  exact ⟨v1, v2, rfl, a1, a2, w⟩
 ·rintro ⟨v1, v2, rfl, h1, h2, w⟩
  exact At_st.2 ⟨_, rfl, Ats_cons.2 ⟨[v1, v2], _, _, _, rfl, rfl, entry_at.2 ⟨_, _, rfl, h1, h2⟩, Ats_cons.2 ⟨[_], _, _, _, rfl, rfl, At_int.2 ⟨_, rfl, rfl, w⟩, Ats_nil.2 ⟨rfl, rfl⟩⟩⟩⟩
section
variable {α : Type} {H T : List Ob} {sh : Sh} {f : α → U} {v : V} {l : List α}
theorem ASl.sub (h : ASl H sh f v l) : (v = .slc none 0 ∧ l = []) ∨ ∃ id off own cells, v = .slc (some (id, off)) l.length ∧ H[id]? = some (.mk own sh.size cells) ∧ off + l.length * sh.size ≤ cells.length ∧
  ∀ lo hi, lo ≤ hi → hi ≤ l.length → ASl H sh f (.slc (some (id, off + lo * sh.size)) (hi - lo)) ((l.take hi).drop lo) := by
 have hb := h.bound
 rcases h.sl with ⟨rfl, hl⟩ | ⟨id, off, own, cells, rfl, h2, h3, h4⟩
 ·exact .inl ⟨rfl, by simpa using hl⟩
 ·rw [List.length_map] at h3 ⊢
  refine .inr ⟨id, off, own, cells, rfl, h2, h3, fun lo hi h5 h6 => ?_⟩
  have hlen : ((l.take hi).drop lo).length = hi - lo := by simp; omega
  have hm : lo * sh.size + (hi - lo) * sh.size ≤ l.length * sh.size := by rw [← Nat.add_mul]; exact Nat.mul_le_mul_right _ (by omega)
  refine At_slice.2 ⟨_, _, rfl, rfl, by simp; omega, .inr ⟨id, off + lo * sh.size, own, cells, by rw [List.length_map, hlen], h2, by rw [List.length_map, hlen]; omega, fun i x hx => ?_⟩⟩
  rw [List.getElem?_map, List.getElem?_drop] at hx
  have hi2 : lo + i < hi := by
   rcases Nat.lt_or_ge (lo + i) hi with hh | hh
   ·exact hh
   ·rw [List.getElem?_eq_none (by simp; omega)] at hx; cases hx
  rw [List.getElem?_take_of_lt hi2] at hx
  have := h4 (lo + i) x (by rw [List.getElem?_map]; exact hx)
  rw [Nat.add_mul] at this
  rwa [show off + lo * sh.size + i * sh.size = off + (lo * sh.size + i * sh.size) by omega]
end
section
variable {H G : List Ob} {v : V} {cs : List V}
theorem Gs.low {B : List Ob} (h : Gs G B v cs) (hG : ∃ T, G = H ++ T) : Gs H B v cs := by
 obtain ⟨T, id, rfl, h1, h2, h3⟩ := h
 obtain ⟨S, rfl⟩ := hG
 exact ⟨S ++ T, id, by simp, by simp at h1; omega, h2, h3⟩
theorem Gs.grow (h : Gs H G v cs) (T : List Ob) : Gs H (G ++ T) v cs := by
 obtain ⟨S, id, rfl, h1, h2, h3⟩ := h
 exact ⟨S ++ T, id, by simp, h1, up_append _ _ h2, h3⟩
theorem Gs.many (h : Gs H G v cs) {x : V} {xs : List V} {z : List V} {d : LD} {b : Nat} (hx : newCells ⟨d, 1, b, z⟩ G x = some (xs, xs.length)) (ho : xs.all isOne = true) (hb : (cs.length + xs.length) * b ≤ maxMade) (hb0 : 0 < b) (hb1 : b ≤ 1000000) (hz : z.length = 1) :
  ∃ v' G', appendV ⟨d, 1, b, z⟩ G v x = some (v', G') ∧ Gs H G' v' (cs ++ xs) := by
 obtain ⟨T, id, rfl, h1, h2, rfl⟩ := h
 by_cases hm : xs.length = 0
 ·have hx0 : xs = [] := List.length_eq_zero_iff.1 hm
  subst hx0
  refine ⟨.slc (some (id, 0)) cs.length, H ++ T, ?_, ⟨T, id, rfl, h1, by simpa using h2, by simp⟩⟩
  unfold appendV
  rw [if_pos (by simp [growOk, hb0, hb1, hz]), hx]
  simp
 ·refine ⟨_, _, appendV_row (n := cs.length) hz (by decide) hb0 hb1 h2 (by simp) hx hm ho hb, ⟨T.set (id - H.length) .dead ++ [.mk true 1 (cs ++ xs)], (H ++ T).length, ?_, by simp, ?_, by simp⟩⟩
  ·rw [List.set_append_right _ _ h1, List.append_assoc]
  ·have hl : ((H ++ T).set id .dead).length = (H ++ T).length := List.length_set
   rw [← hl, get_last]
theorem Gs.new {l : List Str} (h : Gs H G v (l.map V.str)) (hl : l.length ≤ maxLen) (hs : ∀ s ∈ l, s.length ≤ maxLen) : New H.length G.length G (.slice .str) [v] (.lst (l.map strU)) := by
 obtain ⟨_, id, h1, h2⟩ := h.strs hl hs
 exact New.inG (e := id + 1) ⟨[id], h1, by simp, by simp; exact h2⟩
end
theorem AStrs.max {H : List Ob} {v : V} {l : List Str} (h : AStrs H v l) : ∀ s ∈ l, s.length ≤ maxLen := fun s hs => by
 obtain ⟨j, hj, rfl⟩ := List.getElem_of_mem hs
 obtain ⟨_, _, _, _, h⟩ := strs_idx h (List.getElem?_eq_getElem hj)
 exact h
def LstF {α : Type} (B G : List Ob) (sh : Sh) (f : α → U) (v : V) (l : List α) : Prop := (∃ T, G = B ++ T) ∧ ((v = .slc none 0 ∧ l = []) ∨ ∃ (id : Nat) (cs : List V) (Fs : List (List Nat)), B.length ≤ id ∧ G[id]? = some (.mk true sh.size cs) ∧ v = .slc (some (id, 0)) l.length ∧
 cs.length = l.length * sh.size ∧ Fs.length = l.length ∧ (∀ i x F, l[i]? = some x → Fs[i]? = some F → AtF G sh ((cs.drop (i * sh.size)).take sh.size) (f x) F) ∧ Fs.flatten.Nodup ∧ ∀ q ∈ Fs.flatten, B.length ≤ q ∧ q ≠ id ∧ q < G.length)
section
variable {α : Type} {B G T : List Ob} {sh : Sh} {f : α → U} {v : V} {l : List α}
theorem LstF.nil : LstF B B sh f (.slc none 0) [] := ⟨⟨[], by simp⟩, .inl ⟨rfl, rfl⟩⟩
theorem LstF.init : LstF B (B ++ [.mk true sh.size []]) sh f (.slc (some (B.length, 0)) 0) [] :=
 ⟨⟨_, rfl⟩, .inr ⟨B.length, [], [], Nat.le_refl _, by simp, rfl, by simp, rfl, fun i x F h => by simp at h, by simp, by simp⟩⟩
theorem LstF.pre (h : LstF B G sh f v l) : ∃ T, G = B ++ T := h.1
theorem LstF.ext (h : LstF B G sh f v l) : LstF B (G ++ T) sh f v l := by
 obtain ⟨⟨S, hS⟩, h⟩ := h
 refine ⟨⟨S ++ T, by rw [hS, List.append_assoc]⟩, ?_⟩
 rcases h with h | ⟨id, cs, Fs, h1, h2, h3, h4, h5, h6, h7, h8⟩
 ·exact .inl h
 ·exact .inr ⟨id, cs, Fs, h1, up_append _ _ h2, h3, h4, h5, fun i x F hx hF => (h6 i x F hx hF).ext, h7, fun q hq => by have := h8 q hq; simp; omega⟩
theorem LstF.one (h : LstF B G sh f v l) : isOne v = true ∧ cellsOf v = some [v] := by
 obtain ⟨_, ⟨rfl, _⟩ | ⟨id, cs, Fs, _, _, rfl, _⟩⟩ := h <;> exact ⟨rfl, rfl⟩
theorem LstF.len (h : LstF B G sh f v l) {e s b : Nat} {z : List V} : lenV ⟨.slice e, s, b, z⟩ v = some (.int .i64 l.length) := by
 obtain ⟨_, ⟨rfl, rfl⟩ | ⟨id, cs, Fs, _, _, rfl, _⟩⟩ := h <;> rfl
theorem LstF.new (h : LstF B G sh f v l) (hl : l.length ≤ maxLen) : New B.length G.length G (.slice sh) [v] (.lst (l.map f)) := by
 obtain ⟨_, ⟨rfl, rfl⟩ | ⟨id, cs, Fs, h1, h2, rfl, h4, h5, h6, h7, h8⟩⟩ := h
 ·exact New.nil
 ·refine ⟨id :: Fs.flatten, AtF_slice.2 ⟨_, _, rfl, rfl, by simpa using hl, .inr ⟨id, 0, cs, Fs, by simp, h2, by simp; omega, by simpa using h5, rfl, fun i x F hx hF => ?_⟩⟩, ?_, fun q hq => ?_⟩
  ·rw [List.getElem?_map] at hx
   obtain ⟨y, hy, rfl⟩ := Option.map_eq_some_iff.1 hx
   rw [Nat.zero_add]
   exact h6 i y F hy hF
  ·exact List.nodup_cons.2 ⟨fun hm => (h8 id hm).2.1 rfl, h7⟩
  ·rcases List.mem_cons.1 hq with rfl | hq
   ·exact ⟨h1, (List.getElem?_eq_some_iff.1 h2).1⟩
   ·have := h8 q hq; omega
theorem LstF.at (h : LstF B G sh f v l) (hl : l.length ≤ maxLen) : ASl G sh f v l := (h.new hl).at
theorem LstF.push {d : LD} {sz by_ e : Nat} {z : List V} (h : LstF B G sh f v l) {x : α} {c : List V} (hx : New G.length e (G ++ T) sh c (f x)) (hs : sz = sh.size) (hz : z.length = sz) (h0 : 0 < sz) (hb0 : 0 < by_) (hb1 : by_ ≤ 1000000) (hb : (l.length + 1) * by_ ≤ maxMade) :
  ∃ v' G', appendV ⟨d, sz, by_, z⟩ (G ++ T ++ [.mk true sz c]) v (.slc (some ((G ++ T).length, 0)) 1) = some (v', G') ∧ LstF B G' sh f v' (l ++ [x]) ∧ c.length = sz ∧ c.all isOne = true := by
 obtain ⟨S, hS⟩ := h.1
 obtain ⟨F, f1, f2, f3⟩ := hx
 have hat : At (G ++ T) sh c (f x) := AtF.at _ f1
 have hcl : c.length = sz := by rw [hs]; exact At.len _ hat
 have hco := At.ones _ hat
 subst hcl
 have hnew := newCells_tmp (d := d) (by_ := by_) (z := z) (G := G ++ T) (es := c.length) h0
 have hFl : ∀ q ∈ F, q < (G ++ T).length := AtF.mem _ f1
 obtain ⟨_, ⟨rfl, rfl⟩ | ⟨id, cs, Fs, h1, h2, rfl, h4, h5, h6, h7, h8⟩⟩ := h
 ·refine ⟨_, _, appendV_nil hz h0 hb0 hb1 hnew (by decide) hco (by simpa using hb), ⟨⟨_, by rw [hS, List.append_assoc, List.append_assoc, List.append_assoc]⟩, .inr ⟨_, c, [F], ?_, get_last.trans (by rw [hs]), by simp, by simp [hs], by simp, fun i y K hy hK => ?_, by simpa using f2, fun q hq => ?_⟩⟩, rfl, hco⟩
  ·simp [hS]
  ·have : i = 0 := by
    have := (List.getElem?_eq_some_iff.1 hy).1
    simp at this; omega
   subst this
   cases hy
   cases hK
   rw [Nat.zero_mul, List.drop_zero, List.take_of_length_le (by omega)]
   exact f1.ext.ext
  ·simp at hq
   have e1 := hFl q hq
   have e2 := f3 q hq
   simp at e1
   simp [hS] at e2 e1 ⊢
   omega
 ·have hid := (List.getElem?_eq_some_iff.1 h2).1
  have h2' : (G ++ T ++ [Ob.mk true c.length c])[id]? = some (.mk true c.length cs) := by rw [List.append_assoc, up_append _ _ h2, hs]
  have hlen : (G ++ T ++ [Ob.mk true c.length c]).length = ((G ++ T ++ [Ob.mk true c.length c]).set id .dead).length := List.length_set.symm
  have hfr : ∀ q, q ≠ id → q < (G ++ T ++ [Ob.mk true c.length c]).length → ((G ++ T ++ [Ob.mk true c.length c]).set id .dead ++ [Ob.mk true c.length (cs ++ c)])[q]? = (G ++ T ++ [Ob.mk true c.length c])[q]? := fun q hq hql => by
   rw [List.getElem?_append_left (by rw [← hlen]; exact hql), List.getElem?_set_ne (fun e => hq e.symm)]
  refine ⟨_, _, appendV_row hz h0 hb0 hb1 h2' (by rw [h4, hs]) hnew (by decide) hco hb, ⟨?_, .inr ⟨(G ++ T ++ [Ob.mk true c.length c]).length, cs ++ c, Fs ++ [F], by simp [hS], ?_, by simp, by simp [h4, hs, Nat.add_mul], by simp [h5], fun i y K hy hK => ?_, ?_, ?_⟩⟩, rfl, hco⟩
  ·rw [hS, List.append_assoc, List.append_assoc, List.set_append_right _ _ h1, List.append_assoc]
   exact ⟨_, rfl⟩
  ·rw [hlen, get_last, hs]
  ·have key := row_snoc (n := l.length) (s := sh.size) (cs := cs) (c := c) (by rw [h4]) hs (P := fun i cc => ∀ y K, (l ++ [x])[i]? = some y → (Fs ++ [F])[i]? = some K → AtF ((G ++ T ++ [Ob.mk true c.length c]).set id .dead ++ [Ob.mk true c.length (cs ++ c)]) sh cc (f y) K) (fun i hi y K hy hK => by
     rw [List.getElem?_append_left hi] at hy
     rw [List.getElem?_append_left (by omega)] at hK
     refine AtF.frame _ (fun q hq => ?_) (((h6 i y K hy hK).ext (T := T)).ext (T := [Ob.mk true c.length c]))
     have h9 := h8 q (List.mem_flatten.2 ⟨K, List.mem_of_getElem? hK, hq⟩)
     exact hfr q h9.2.1 (by simp; omega)) (fun y K hy hK => by
     simp at hy
     subst hy
     rw [List.getElem?_append_right (by omega), h5, Nat.sub_self] at hK
     cases hK
     refine AtF.frame _ (fun q hq => ?_) (f1.ext (T := [Ob.mk true c.length c]))
     have e1 := hFl q hq
     have e2 := f3 q hq
     exact hfr q (by omega) (by simp at e1 ⊢; omega))
   have hi : i < l.length + 1 := by
    have := (List.getElem?_eq_some_iff.1 hy).1
    simpa using this
   exact key i hi y K hy hK
  ·rw [List.flatten_append, List.nodup_append]
   refine ⟨h7, by simpa using f2, fun a ha b hb hab => ?_⟩
   subst hab
   simp at hb
   have e1 := h8 a ha
   have e2 := f3 a hb
   omega
  ·intro q hq
   rw [List.flatten_append] at hq
   rcases List.mem_append.1 hq with hq | hq
   ·have := h8 q hq
    simp
    omega
   ·simp at hq
    have e1 := hFl q hq
    have e2 := f3 q hq
    simp [hS] at e1 e2 ⊢
    omega
end
abbrev shNode : Sh := .st [.int .i64, .str, .str, .int .i64]
structure PNode where
 op : Int
 attr : Str
 value : Str
 many : Int
def PNode.u (n : PNode) : U := .st [.int n.op, .str n.attr, .str n.value, .int n.many]
abbrev PNode.cs (n : PNode) : List V := [.int .i64 n.op, .str n.attr, .str n.value, .int .i64 n.many]
abbrev ANodes (H : List Ob) (v : V) (l : List PNode) : Prop := ASl H shNode PNode.u v l
section
variable {H : List Ob} {v : V}
theorem node_at {cs : List V} {n : PNode} : At H shNode cs n.u ↔ cs = n.cs ∧ (Lit.int .i64 n.op).wf = true ∧ n.attr.length ≤ maxLen ∧ n.value.length ≤ maxLen ∧ (Lit.int .i64 n.many).wf = true := by
 constructor
 ·intro h
  obtain ⟨us, hu, h⟩ := At_st.1 h
  cases hu
  obtain ⟨c1, c2, u1, us1, rfl, hu, h1, h⟩ := Ats_cons.1 h
  cases hu
  obtain ⟨c3, c4, u2, us2, rfl, hu, h2, h⟩ := Ats_cons.1 h
  cases hu
  obtain ⟨c5, c6, u3, us3, rfl, hu, h3, h⟩ := Ats_cons.1 h
  cases hu
  obtain ⟨c7, c8, u4, us4, rfl, hu, h4, h⟩ := Ats_cons.1 h
  cases hu
  obtain ⟨rfl, _⟩ := Ats_nil.1 h
  obtain ⟨s, rfl, hs, w1⟩ := At_int.1 h1
  cases hs
  obtain ⟨s, rfl, hs, w2⟩ := At_str.1 h2
  cases hs
  obtain ⟨s, rfl, hs, w3⟩ := At_str.1 h3
  cases hs
  obtain ⟨s, rfl, hs, w4⟩ := At_int.1 h4
  cases hs
  exact ⟨rfl, w1, w2, w3, w4⟩
 ·rintro ⟨rfl, h1, h2, h3, h4⟩
  exact At_st.2 ⟨_, rfl, Ats_cons.2 ⟨[_], _, _, _, rfl, rfl, At_int.2 ⟨_, rfl, rfl, h1⟩, Ats_cons.2 ⟨[_], _, _, _, rfl, rfl, At_str.2 ⟨_, rfl, rfl, h2⟩, Ats_cons.2 ⟨[_], _, _, _, rfl, rfl, At_str.2 ⟨_, rfl, rfl, h3⟩, Ats_cons.2 ⟨[_], _, _, _, rfl, rfl, At_int.2 ⟨_, rfl, rfl, h4⟩, Ats_nil.2 ⟨rfl, rfl⟩⟩⟩⟩⟩⟩
theorem node_typed {cs : List V} {u : U} (h : At H shNode cs u) : ∃ n : PNode, u = n.u := by
 replace h := At_st.1 h
 obtain ⟨us, rfl, h⟩ := h
 obtain ⟨c1, c2, u1, us1, rfl, rfl, h1, h⟩ := Ats_cons.1 h
 obtain ⟨c3, c4, u2, us2, rfl, rfl, h2, h⟩ := Ats_cons.1 h
 obtain ⟨c5, c6, u3, us3, rfl, rfl, h3, h⟩ := Ats_cons.1 h
 obtain ⟨c7, c8, u4, us4, rfl, rfl, h4, h⟩ := Ats_cons.1 h
 obtain ⟨rfl, rfl⟩ := Ats_nil.1 h
 obtain ⟨s1, rfl, rfl, w1⟩ := At_int.1 h1
 obtain ⟨s2, rfl, rfl, w2⟩ := At_str.1 h2
 obtain ⟨s3, rfl, rfl, w3⟩ := At_str.1 h3
 obtain ⟨s4, rfl, rfl, w4⟩ := At_int.1 h4
 exact ⟨⟨s1, s2, s3, s4⟩, rfl⟩
theorem nodes_idx {xs : List PNode} (h : ANodes H v xs) {i : Nat} {x : PNode} (hx : xs[i]? = some x) : ∃ id o,
  (∀ (e s b : Nat) (z : List V) (ty : Nat → LT) (k : IntKind), (ty e).size = 4 → indexR ⟨.slice e, s, b, z⟩ ty (.val v) (.int k i) = some (.val (.ptr (some (id, o))))) ∧
  (∀ T' : List Ob, ∀ T : LT, T.one → ∀ r c, loadAt T ⟨r, c, H ++ T'⟩ (.hp id o) = some (.int .i64 x.op) ∧ loadAt T ⟨r, c, H ++ T'⟩ (.hp id (o + 1)) = some (.str x.attr) ∧ loadAt T ⟨r, c, H ++ T'⟩ (.hp id (o + 2)) = some (.str x.value) ∧ loadAt T ⟨r, c, H ++ T'⟩ (.hp id (o + 3)) = some (.int .i64 x.many)) ∧
  (∀ T' : List Ob, ∀ T : LT, T.many 4 → ∀ r c, loadAt T ⟨r, c, H ++ T'⟩ (.hp id o) = some (.agg x.cs)) ∧ x.attr.length ≤ maxLen ∧ x.value.length ≤ maxLen ∧ (Lit.int .i64 x.op).wf = true ∧ (Lit.int .i64 x.many).wf = true := by
 obtain ⟨id, o, own, cells, e1, e2, e3, e4⟩ := ASl.idx h hx (by decide)
 obtain ⟨e4, e5, e6, e7, e8⟩ := node_at.1 e4
 refine ⟨id, o, e1, fun T' T hT r c => ?_, fun T' => loadN (up_append _ _ e2) e3 (by decide) e4, e6, e7, e5, e8⟩
 have e2' := up_append (T := T') _ _ e2
 exact ⟨load1 e2' (by simpa using cells_get e4 (j := 0) rfl) T hT r c, load1 e2' (by simpa using cells_get e4 (j := 1) rfl) T hT r c, load1 e2' (by simpa using cells_get e4 (j := 2) rfl) T hT r c, load1 e2' (by simpa using cells_get e4 (j := 3) rfl) T hT r c⟩
theorem ASl.drop {α : Type} {sh : Sh} {f : α → U} {l : List α} (h : ASl H sh f v l) {k : Nat} (hk : k ≤ l.length) (h0 : 0 < l.length) :
  ∃ id off own cells, v = .slc (some (id, off)) l.length ∧ H[id]? = some (.mk own sh.size cells) ∧ ASl H sh f (.slc (some (id, off + k * sh.size)) (l.length - k)) (l.drop k) := by
 have hb := h.bound
 rcases h.sl with ⟨rfl, h1⟩ | ⟨id, off, own, cells, rfl, h2, h3, h4⟩
 ·have : l = [] := by simpa using h1
  subst this
  simp at h0
 ·rw [List.length_map] at h3 ⊢
  refine ⟨id, off, own, cells, rfl, h2, ?_⟩
  refine At_slice.2 ⟨_, _, rfl, rfl, by simp; omega, .inr ⟨id, off + k * sh.size, own, cells, by simp, h2, ?_, fun i x hx => ?_⟩⟩
  ·rw [List.length_map, List.length_drop, Nat.add_assoc, ← Nat.add_mul]
   rw [show k + (l.length - k) = l.length by omega]
   exact h3
  ·have := h4 (k + i) x (by rw [List.getElem?_map] at hx ⊢; rw [List.getElem?_drop] at hx; exact hx)
   rw [Nat.add_assoc, ← Nat.add_mul]
   exact this
end
def PNode.Inner (n : PNode) : Prop := n.op = 1 ∨ n.op = 2 ∨ n.op = 3
def NodeOk (n : PNode) : Prop := (n.Inner ∧ n.attr = [] ∧ n.value = [] ∧ 1 ≤ n.many ∧ n.many ≤ 20 ∧ (n.op = 3 → n.many = 1)) ∨ (n.op = 5 ∧ NameOk n.attr ∧ n.value = [] ∧ n.many = 0) ∨ ((n.op = 4 ∨ n.op = 6 ∨ n.op = 7 ∨ n.op = 8) ∧ NameOk n.attr ∧ ValueOk n.value ∧ n.many = 0)
theorem NodeOk.many_le {n : PNode} (h : NodeOk n) : 0 ≤ n.many ∧ n.many ≤ 20 := by
 rcases h with ⟨_, _, _, h1, h2, _⟩ | ⟨_, _, _, h⟩ | ⟨_, _, _, h⟩ <;> omega
def frep (g : Nat → Option (Nat × Nat)) : Nat → Nat × Nat → Option (Nat × Nat)
 | 0, p => some p
 | k + 1, p => match g p.1 with
  | none => none
  | some q => frep g k (q.1, max p.2 q.2)
noncomputable def fdep (f : List PNode) : Nat → Nat → Option (Nat × Nat)
 | 0, _ => none
 | d + 1, i => match f[i]? with
  | none => none
  | some n => if dec (NodeOk n) = true then (frep (fdep f d) n.many.toNat (i + 1, 0)).map fun p => (p.1, p.2 + 1) else none
def FilterOk (f : List PNode) : Prop := f.length ≤ 20 ∧ ∃ x, fdep f 5 0 = some (f.length, x)
theorem frep_some {g : Nat → Option (Nat × Nat)} {L d : Nat} (hg : ∀ i q, g i = some q → i < q.1 ∧ q.1 ≤ L ∧ q.2 ≤ d) : ∀ k p q, frep g k p = some q → p.1 ≤ L → p.2 ≤ d → p.1 + k ≤ q.1 ∧ q.1 ≤ L ∧ p.2 ≤ q.2 ∧ q.2 ≤ d
 | 0, p, q, h, h1, h2 => by cases h; exact ⟨Nat.le_refl _, h1, Nat.le_refl _, h2⟩
 | k + 1, p, q, h, h1, h2 => by
  unfold frep at h
  cases hq : g p.1 with
  | none => rw [hq] at h; cases h
  | some r =>
   rw [hq] at h
   obtain ⟨e1, e2, e3⟩ := hg _ _ hq
   obtain ⟨f1, f2, f3, f4⟩ := frep_some hg k _ q h e2 (by simp only; omega)
   simp only at f1 f3
   exact ⟨by omega, f2, by omega, f4⟩
theorem fdep_some {f : List PNode} : ∀ d i q, fdep f d i = some q → i < q.1 ∧ q.1 ≤ f.length ∧ 1 ≤ q.2 ∧ q.2 ≤ d
 | 0, i, q, h => by cases h
 | d + 1, i, q, h => by
  unfold fdep at h
  cases hn : f[i]? with
  | none => rw [hn] at h; cases h
  | some n =>
   rw [hn] at h
   simp only at h
   split at h
   ·cases hr : frep (fdep f d) n.many.toNat (i + 1, 0) with
    | none => rw [hr] at h; cases h
    | some r =>
     rw [hr] at h
     cases h
     have hi := (List.getElem?_eq_some_iff.1 hn).1
     obtain ⟨e1, e2, e3, e4⟩ := frep_some (L := f.length) (d := d) (fun i q h => ⟨(fdep_some d i q h).1, (fdep_some d i q h).2.1, (fdep_some d i q h).2.2.2⟩) _ _ _ hr (by simp only; omega) (Nat.zero_le _)
     simp only at e1
     simp only
     omega
   ·cases h
theorem frep_mono {g g' : Nat → Option (Nat × Nat)} {d' : Nat} (hg : ∀ i q, g i = some q → q.2 ≤ d' → g' i = some q) : ∀ k p q, frep g k p = some q → q.2 ≤ d' → frep g' k p = some q ∧ p.2 ≤ q.2
 | 0, p, q, h, h1 => by cases h; exact ⟨rfl, Nat.le_refl _⟩
 | k + 1, p, q, h, h1 => by
  unfold frep at h ⊢
  cases hq : g p.1 with
  | none => rw [hq] at h; cases h
  | some r =>
   rw [hq] at h
   obtain ⟨e1, e2⟩ := frep_mono hg k _ q h h1
   simp only at e2
   rw [hg _ _ hq (by omega)]
   exact ⟨e1, by omega⟩
theorem fdep_mono {f : List PNode} : ∀ d d' i q, fdep f d i = some q → q.2 ≤ d' → fdep f d' i = some q
 | 0, d', i, q, h, h1 => by cases h
 | d + 1, d', i, q, h, h1 => by
  have h0 := fdep_some _ _ _ h
  unfold fdep at h
  cases hn : f[i]? with
  | none => rw [hn] at h; cases h
  | some n =>
   rw [hn] at h
   simp only at h
   split at h
   ·rename_i hok
    cases hr : frep (fdep f d) n.many.toNat (i + 1, 0) with
    | none => rw [hr] at h; cases h
    | some r =>
     rw [hr] at h
     cases h
     cases d' with
     | zero => simp only at h0 h1; omega
     | succ d' =>
      unfold fdep
      rw [hn]
      simp only [hok, if_true]
      rw [(frep_mono (d' := d') (fun i q h h1 => fdep_mono d d' i q h h1) _ _ _ hr (by simp only at h1; omega)).1]
      rfl
   ·cases h
theorem filter_ok {f : List PNode} : FilterOk f ↔ f.length ≤ 20 ∧ ∃ x, fdep f 20 0 = some (f.length, x) ∧ x ≤ 5 := by
 constructor
 ·rintro ⟨h, x, hx⟩
  have h1 := fdep_some _ _ _ hx
  exact ⟨h, x, fdep_mono 5 20 0 _ hx (by simp only at h1 ⊢; omega), h1.2.2.2⟩
 ·rintro ⟨h, x, hx, h5⟩
  exact ⟨h, x, fdep_mono _ _ _ _ hx h5⟩
abbrev shPart : Sh := .st [.int .i64, .str, .int .i64]
structure PPart where
 op : Int
 text : Str
 n : Int
def PPart.u (n : PPart) : U := .st [.int n.op, .str n.text, .int n.n]
abbrev PPart.cs (n : PPart) : List V := [.int .i64 n.op, .str n.text, .int .i64 n.n]
abbrev AParts (H : List Ob) (v : V) (l : List PPart) : Prop := ASl H shPart PPart.u v l
section
variable {H : List Ob} {v : V}
theorem part_at {cs : List V} {n : PPart} : At H shPart cs n.u ↔ cs = n.cs ∧ (Lit.int .i64 n.op).wf = true ∧ n.text.length ≤ maxLen ∧ (Lit.int .i64 n.n).wf = true := by
 constructor
 ·intro h
  obtain ⟨us, hu, h⟩ := At_st.1 h
  cases hu
  obtain ⟨c1, c2, u1, us1, rfl, hu, h1, h⟩ := Ats_cons.1 h
  cases hu
  obtain ⟨c3, c4, u2, us2, rfl, hu, h2, h⟩ := Ats_cons.1 h
  cases hu
  obtain ⟨c5, c6, u3, us3, rfl, hu, h3, h⟩ := Ats_cons.1 h
  cases hu
  obtain ⟨rfl, _⟩ := Ats_nil.1 h
  obtain ⟨s, rfl, hs, w1⟩ := At_int.1 h1
  cases hs
  obtain ⟨s, rfl, hs, w2⟩ := At_str.1 h2
  cases hs
  obtain ⟨s, rfl, hs, w3⟩ := At_int.1 h3
  cases hs
  exact ⟨rfl, w1, w2, w3⟩
 ·rintro ⟨rfl, h1, h2, h3⟩
  exact At_st.2 ⟨_, rfl, Ats_cons.2 ⟨[_], _, _, _, rfl, rfl, At_int.2 ⟨_, rfl, rfl, h1⟩, Ats_cons.2 ⟨[_], _, _, _, rfl, rfl, At_str.2 ⟨_, rfl, rfl, h2⟩, Ats_cons.2 ⟨[_], _, _, _, rfl, rfl, At_int.2 ⟨_, rfl, rfl, h3⟩, Ats_nil.2 ⟨rfl, rfl⟩⟩⟩⟩⟩
theorem part_typed {cs : List V} {u : U} (h : At H shPart cs u) : ∃ n : PPart, u = n.u := by
 replace h := At_st.1 h
 obtain ⟨us, rfl, h⟩ := h
 obtain ⟨c1, c2, u1, us1, rfl, rfl, h1, h⟩ := Ats_cons.1 h
 obtain ⟨c3, c4, u2, us2, rfl, rfl, h2, h⟩ := Ats_cons.1 h
 obtain ⟨c5, c6, u3, us3, rfl, rfl, h3, h⟩ := Ats_cons.1 h
 obtain ⟨rfl, rfl⟩ := Ats_nil.1 h
 obtain ⟨s1, rfl, rfl, w1⟩ := At_int.1 h1
 obtain ⟨s2, rfl, rfl, w2⟩ := At_str.1 h2
 obtain ⟨s3, rfl, rfl, w3⟩ := At_int.1 h3
 exact ⟨⟨s1, s2, s3⟩, rfl⟩
theorem parts_idx {xs : List PPart} (h : AParts H v xs) {i : Nat} {x : PPart} (hx : xs[i]? = some x) : ∃ id o,
  (∀ (e s b : Nat) (z : List V) (ty : Nat → LT) (k : IntKind), (ty e).size = 3 → indexR ⟨.slice e, s, b, z⟩ ty (.val v) (.int k i) = some (.val (.ptr (some (id, o))))) ∧
  (∀ T' : List Ob, ∀ T : LT, T.one → ∀ r c, loadAt T ⟨r, c, H ++ T'⟩ (.hp id o) = some (.int .i64 x.op) ∧ loadAt T ⟨r, c, H ++ T'⟩ (.hp id (o + 1)) = some (.str x.text) ∧ loadAt T ⟨r, c, H ++ T'⟩ (.hp id (o + 2)) = some (.int .i64 x.n)) ∧
  (∀ T' : List Ob, ∀ T : LT, T.many 3 → ∀ r c, loadAt T ⟨r, c, H ++ T'⟩ (.hp id o) = some (.agg x.cs)) ∧ x.text.length ≤ maxLen ∧ (Lit.int .i64 x.op).wf = true ∧ (Lit.int .i64 x.n).wf = true := by
 obtain ⟨id, o, own, cells, e1, e2, e3, e4⟩ := ASl.idx h hx (by decide)
 obtain ⟨e4, e5, e6, e7⟩ := part_at.1 e4
 refine ⟨id, o, e1, fun T' T hT r c => ?_, fun T' => loadN (up_append _ _ e2) e3 (by decide) e4, e6, e5, e7⟩
 have e2' := up_append (T := T') _ _ e2
 exact ⟨load1 e2' (by simpa using cells_get e4 (j := 0) rfl) T hT r c, load1 e2' (by simpa using cells_get e4 (j := 1) rfl) T hT r c, load1 e2' (by simpa using cells_get e4 (j := 2) rfl) T hT r c⟩
end
def PPart.many (p : PPart) : Nat := if p.op = 3 ∨ p.op = 4 ∨ p.op = 7 then 1 else if p.op = 5 ∨ p.op = 6 then 2 else 0
def PartOk (p : PPart) : Prop := 1 ≤ p.op ∧ p.op ≤ 7 ∧ (p.op ≠ 7 → p.n = 0) ∧ 0 ≤ p.n ∧ p.n ≤ 40 ∧ (p.op = 1 → p.text.length ≤ 40 ∧ Plain p.text) ∧ (p.op = 2 → NameOk p.text) ∧ (3 ≤ p.op → p.text = [])
noncomputable def xdep (f : List PPart) : Nat → Nat → Option (Nat × Nat)
 | 0, _ => none
 | d + 1, i => match f[i]? with
  | none => none
  | some n => if dec (PartOk n) = true then (frep (xdep f d) n.many (i + 1, 0)).map fun p => (p.1, p.2 + 1) else none
def ExprOk (f : List PPart) : Prop := f.length ≤ 12 ∧ ∃ x, xdep f 5 0 = some (f.length, x)
theorem xdep_some {f : List PPart} : ∀ d i q, xdep f d i = some q → i < q.1 ∧ q.1 ≤ f.length ∧ 1 ≤ q.2 ∧ q.2 ≤ d
 | 0, i, q, h => by cases h
 | d + 1, i, q, h => by
  unfold xdep at h
  cases hn : f[i]? with
  | none => rw [hn] at h; cases h
  | some n =>
   rw [hn] at h
   simp only at h
   split at h
   ·cases hr : frep (xdep f d) n.many (i + 1, 0) with
    | none => rw [hr] at h; cases h
    | some r =>
     rw [hr] at h
     cases h
     have hi := (List.getElem?_eq_some_iff.1 hn).1
     obtain ⟨e1, e2, e3, e4⟩ := frep_some (L := f.length) (d := d) (fun i q h => ⟨(xdep_some d i q h).1, (xdep_some d i q h).2.1, (xdep_some d i q h).2.2.2⟩) _ _ _ hr (by simp only; omega) (Nat.zero_le _)
     simp only at e1
     simp only
     omega
   ·cases h
theorem xdep_mono {f : List PPart} : ∀ d d' i q, xdep f d i = some q → q.2 ≤ d' → xdep f d' i = some q
 | 0, d', i, q, h, h1 => by cases h
 | d + 1, d', i, q, h, h1 => by
  have h0 := xdep_some _ _ _ h
  unfold xdep at h
  cases hn : f[i]? with
  | none => rw [hn] at h; cases h
  | some n =>
   rw [hn] at h
   simp only at h
   split at h
   ·rename_i hok
    cases hr : frep (xdep f d) n.many (i + 1, 0) with
    | none => rw [hr] at h; cases h
    | some r =>
     rw [hr] at h
     cases h
     cases d' with
     | zero => simp only at h0 h1; omega
     | succ d' =>
      unfold xdep
      rw [hn]
      simp only [hok, if_true]
      rw [(frep_mono (d' := d') (fun i q h h1 => xdep_mono d d' i q h h1) _ _ _ hr (by simp only at h1; omega)).1]
      rfl
   ·cases h
theorem expr_ok {f : List PPart} : ExprOk f ↔ f.length ≤ 12 ∧ ∃ x, xdep f 12 0 = some (f.length, x) ∧ x ≤ 5 := by
 constructor
 ·rintro ⟨h, x, hx⟩
  have h1 := xdep_some _ _ _ hx
  exact ⟨h, x, xdep_mono 5 12 0 _ hx (by simp only at h1 ⊢; omega), h1.2.2.2⟩
 ·rintro ⟨h, x, hx, h5⟩
  exact ⟨h, x, xdep_mono _ _ _ _ hx h5⟩
theorem wf_nat {n : Nat} (h : n ≤ 100000000) : (Lit.int .i64 (n : Int)).wf = true := by
 have e1 : IntKind.i64.min = -9223372036854775808 := by decide
 have e2 : IntKind.i64.max = 9223372036854775807 := by decide
 simp [Lit.wf, e1, e2]
 omega
abbrev shFlow : Sh := .st [.slice shRdn, .slice shNode, .slice shPart, .slice shPart, .slice shPart, .bool]
structure PFlow where
 base : List PRdn
 filter : List PNode
 login : List PPart
 mail : List PPart
 phone : List PPart
 back : Bool
def PFlow.u (f : PFlow) : U := .st [.lst (f.base.map PRdn.u), .lst (f.filter.map PNode.u), .lst (f.login.map PPart.u), .lst (f.mail.map PPart.u), .lst (f.phone.map PPart.u), .bool f.back]
section
variable {H : List Ob}
theorem flow_at {cs : List V} {f : PFlow} : At H shFlow cs f.u ↔ ∃ vb vf vl vm vp, cs = [vb, vf, vl, vm, vp, .bool f.back] ∧ ARdns H vb f.base ∧ ANodes H vf f.filter ∧ AParts H vl f.login ∧ AParts H vm f.mail ∧ AParts H vp f.phone := by
 constructor
 ·intro h
  obtain ⟨us, hu, h⟩ := At_st.1 h
  cases hu
  obtain ⟨c1, c2, u1, us1, rfl, hu, h1, h⟩ := Ats_cons.1 h
  cases hu
  obtain ⟨c3, c4, u2, us2, rfl, hu, h2, h⟩ := Ats_cons.1 h
  cases hu
  obtain ⟨c5, c6, u3, us3, rfl, hu, h3, h⟩ := Ats_cons.1 h
  cases hu
  obtain ⟨c7, c8, u4, us4, rfl, hu, h4, h⟩ := Ats_cons.1 h
  cases hu
  obtain ⟨c9, c10, u5, us5, rfl, hu, h5, h⟩ := Ats_cons.1 h
  cases hu
  obtain ⟨c11, c12, u6, us6, rfl, hu, h6, h⟩ := Ats_cons.1 h
  cases hu
  obtain ⟨rfl, _⟩ := Ats_nil.1 h
  obtain ⟨v1, _, rfl, _⟩ := At_slice.1 h1
  obtain ⟨v2, _, rfl, _⟩ := At_slice.1 h2
  obtain ⟨v3, _, rfl, _⟩ := At_slice.1 h3
  obtain ⟨v4, _, rfl, _⟩ := At_slice.1 h4
  obtain ⟨v5, _, rfl, _⟩ := At_slice.1 h5
  obtain ⟨t, rfl, hb⟩ := At_bool.1 h6
  cases hb
  exact ⟨v1, v2, v3, v4, v5, rfl, h1, h2, h3, h4, h5⟩
 ·rintro ⟨v1, v2, v3, v4, v5, rfl, h1, h2, h3, h4, h5⟩
  exact At_st.2 ⟨_, rfl, Ats_cons.2 ⟨[_], _, _, _, rfl, rfl, h1, Ats_cons.2 ⟨[_], _, _, _, rfl, rfl, h2, Ats_cons.2 ⟨[_], _, _, _, rfl, rfl, h3, Ats_cons.2 ⟨[_], _, _, _, rfl, rfl, h4, Ats_cons.2 ⟨[_], _, _, _, rfl, rfl, h5, Ats_cons.2 ⟨[_], _, _, _, rfl, rfl, At_bool.2 ⟨_, rfl, rfl⟩, Ats_nil.2 ⟨rfl, rfl⟩⟩⟩⟩⟩⟩⟩⟩
theorem flow_typed {cs : List V} {u : U} (h : At H shFlow cs u) : ∃ f : PFlow, u = f.u := by
 replace h := At_st.1 h
 obtain ⟨us, rfl, h⟩ := h
 obtain ⟨c1, c2, u1, us1, rfl, rfl, h1, h⟩ := Ats_cons.1 h
 obtain ⟨c3, c4, u2, us2, rfl, rfl, h2, h⟩ := Ats_cons.1 h
 obtain ⟨c5, c6, u3, us3, rfl, rfl, h3, h⟩ := Ats_cons.1 h
 obtain ⟨c7, c8, u4, us4, rfl, rfl, h4, h⟩ := Ats_cons.1 h
 obtain ⟨c9, c10, u5, us5, rfl, rfl, h5, h⟩ := Ats_cons.1 h
 obtain ⟨c11, c12, u6, us6, rfl, rfl, h6, h⟩ := Ats_cons.1 h
 obtain ⟨rfl, rfl⟩ := Ats_nil.1 h
 obtain ⟨v1, l1, rfl, rfl, _⟩ := ASl.typed (fun _ _ => rdn_typed) h1
 obtain ⟨v2, l2, rfl, rfl, _⟩ := ASl.typed (fun _ _ => node_typed) h2
 obtain ⟨v3, l3, rfl, rfl, _⟩ := ASl.typed (fun _ _ => part_typed) h3
 obtain ⟨v4, l4, rfl, rfl, _⟩ := ASl.typed (fun _ _ => part_typed) h4
 obtain ⟨v5, l5, rfl, rfl, _⟩ := ASl.typed (fun _ _ => part_typed) h5
 obtain ⟨t, rfl, rfl⟩ := At_bool.1 h6
 exact ⟨⟨l1, l2, l3, l4, l5, t⟩, rfl⟩
end
structure PMod where
 kind : Int
 attr : Str
 vals : List Str
def PMod.u (m : PMod) : U := .st [.int m.kind, .str m.attr, .lst (m.vals.map strU)]
section
variable {H : List Ob} {v : V}
end
end Go.Lite
end
