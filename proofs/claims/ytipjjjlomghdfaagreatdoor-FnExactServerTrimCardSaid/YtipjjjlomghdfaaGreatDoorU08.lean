/- Part 08 of the proof of a law: the interpreter, its soundness, and what functions of the program compute over it. Conditions: none but those that each theorem names. -/
import Derived.Test.YtipjjjlomghdfaaGreatDoorU07
import Derived.Test.YtipjjjlomghdfaaGreatDoorU06

set_option linter.all false
set_option maxRecDepth 20000
set_option maxHeartbeats 40000000
section
namespace Go.Lite
open Go
def LtS (a b : Str) : Prop := Op.bytesLess a b = true
def PrevLt {α : Type} (key : α → Str) (l : List α) (j : Nat) (x : α) : Prop := ∀ y, 0 < j → l[j - 1]? = some y → LtS (key y) (key x)
def DnOk (l : List PRdn) : Prop := (∀ (j : Nat) x, l[j]? = some x → NameOk x.attr ∧ ValueOk x.value) ∧ l.length ≤ 6
def NamesOk (l : List Str) : Prop := ∀ (j : Nat) x, l[j]? = some x → NameOk x ∧ PrevLt (fun x => x) l j x
def ValuesOk (l : List Str) : Prop := (∀ (j : Nat) x, l[j]? = some x → ValueOk x ∧ PrevLt norm l j x) ∧ 1 ≤ l.length ∧ l.length ≤ 4
def AttrsOk (l : List PAttr) : Prop := (∀ (j : Nat) x, l[j]? = some x → NameOk x.name ∧ PrevLt PAttr.name l j x ∧ ValuesOk x.vals) ∧ l.length ≤ 8
def EntryOk (e : PEntry) : Prop := 0 < e.dn.length ∧ DnOk e.dn ∧ AttrsOk e.attrs
def classT : Str := [99, 108, 97, 115, 115]
structure ClassOk (c : PClass) : Prop where
 name : NameOk c.name
 l1 : c.must.length ≤ 10
 l2 : c.may.length ≤ 10
 l3 : c.single.length ≤ 10
 n1 : NamesOk c.must
 n2 : NamesOk c.may
 n3 : NamesOk c.single
 apart : ∀ t ∈ c.must, t ∉ c.may
 known : ∀ t ∈ c.single, t ∈ c.may ∨ t ∈ c.must
 noMust : classT ∉ c.must
 noMay : classT ∉ c.may
def SchemaOk (l : List PClass) : Prop := (∀ (j : Nat) x, l[j]? = some x → ClassOk x ∧ PrevLt PClass.name l j x) ∧ l.length ≤ 6
theorem at_step {α : Type} {l : List α} {i : Nat} {P : Nat → α → Prop} (h : ∀ j x, j < i → l[j]? = some x → P j x) {c : α} (hc : l[i]? = some c) (hp : P i c) : ∀ j x, j < i + 1 → l[j]? = some x → P j x := by
 intro j x hj hx
 by_cases hji : j = i
 ·subst hji; rw [hc] at hx; cases hx; exact hp
 ·exact h j x (by omega) hx
theorem at_all {α : Type} {l : List α} {P : Nat → α → Prop} (h : ∀ j x, j < l.length → l[j]? = some x → P j x) : ∀ j x, l[j]? = some x → P j x :=
 fun j x hx => h j x (List.getElem?_eq_some_iff.1 hx).1 hx
def FirstAt {α : Type} (key : α → Str) (l : List α) (n : Str) (r : Int) : Prop :=
 (∃ (k : Nat) (a : α), l[k]? = some a ∧ key a = n ∧ (∀ j b, j < k → l[j]? = some b → key b ≠ n) ∧ r = k) ∨ ((∀ (j : Nat) b, l[j]? = some b → key b ≠ n) ∧ r = -1)
def firstOf {α : Type} (key : α → Str) (l : List α) (n : Str) : Option α := l.find? fun a => key a == n
theorem FirstAt.pos {α : Type} {key : α → Str} {l : List α} {n : Str} {r : Int} (h : FirstAt key l n r) : (∃ (k : Nat) (a : α), l[k]? = some a ∧ r = k ∧ firstOf key l n = some a) ∨ (r = -1 ∧ firstOf key l n = none) := by
 rcases h with ⟨k, a, h1, h2, h3, rfl⟩ | ⟨h1, rfl⟩
 ·refine .inl ⟨k, a, h1, rfl, ?_⟩
  unfold firstOf
  rw [List.find?_eq_some_iff_getElem]
  obtain ⟨hk, h1⟩ := List.getElem?_eq_some_iff.1 h1
  refine ⟨by simp [h2], k, hk, h1, fun j hj => ?_⟩
  have := h3 j l[j] hj (List.getElem?_eq_getElem _)
  simp [this]
 ·refine .inr ⟨rfl, ?_⟩
  unfold firstOf
  rw [List.find?_eq_none]
  intro x hx
  obtain ⟨j, hj, rfl⟩ := List.getElem_of_mem hx
  simpa using h1 j _ (List.getElem?_eq_getElem hj)
def valsOf (l : List PAttr) (n : Str) : List Str := match firstOf PAttr.name l n with
 | some a => a.vals
 | none => []
noncomputable def mineOf (l : List PClass) (az : List PAttr) : Option PClass := match valsOf az classT with
 | [v] => firstOf PClass.name l (norm v)
 | _ => none
noncomputable def lacks (c : PClass) (az : List PAttr) : List Str := c.must.filter fun t => (firstOf PAttr.name az t).isNone
def Gs (H G : List Ob) (v : V) (cs : List V) : Prop := ∃ T id, G = H ++ T ∧ H.length ≤ id ∧ G[id]? = some (.mk true 1 cs) ∧ v = .slc (some (id, 0)) cs.length
theorem Gs.init {H : List Ob} : Gs H (H ++ [.mk true 1 []]) (.slc (some (H.length, 0)) 0) [] := ⟨_, H.length, rfl, Nat.le_refl _, by simp, rfl⟩
section
variable {H G : List Ob} {v : V} {cs : List V}
theorem Gs.push (h : Gs H G v cs) {x : V} {z : List V} {d : LD} {b : Nat} (hx : isOne x = true) (hb : (cs.length + 1) * b ≤ maxMade) (hb0 : 0 < b) (hb1 : b ≤ 1000000) (hz : z.length = 1) : ∃ v' G', appendV ⟨d, 1, b, z⟩ (G ++ [.mk true 1 [x]]) v (.slc (some (G.length, 0)) 1) = some (v', G') ∧ Gs H G' v' (cs ++ [x]) := by
 obtain ⟨T, id, rfl, h1, h2, rfl⟩ := h
 have hid : id < (H ++ T).length := (List.getElem?_eq_some_iff.1 h2).1
 have hid' : id < H.length + T.length := by simpa using hid
 have hg : (H ++ T ++ [Ob.mk true 1 [x]])[id]? = some (.mk true 1 cs) := by rw [List.getElem?_append_left hid]; exact h2
 have hnew : newCells ⟨d, 1, b, z⟩ (H ++ T ++ [Ob.mk true 1 [x]]) (.slc (some ((H ++ T).length, 0)) 1) = some ([x], 1) := by
  simp only [newCells, Nat.mul_one, slcCells, get_last]
  rfl
 refine ⟨.slc (some ((H ++ T ++ [Ob.mk true 1 [x]]).length, 0)) (cs.length + 1), (H ++ T ++ [Ob.mk true 1 [x]]).set id .dead ++ [.mk true 1 (cs ++ [x])], ?_, ?_⟩
 ·unfold appendV
  rw [if_pos (by simp [growOk, hz, hb0, hb1]), hnew]
  simp only [Nat.one_ne_zero, if_false, List.all_cons, List.all_nil, hx, Bool.and_true, if_true, hg]
  have e1 : ¬ (0 + (cs.length + 1) * 1 ≤ cs.length) := by omega
  have e2 : (0 + cs.length * 1 = cs.length ∨ cs.length = 0 ∧ cs.length ≤ 0) ∧ (cs.length + 1) * b ≤ maxMade := ⟨.inl (by simp), hb⟩
  rw [if_neg e1, if_pos e2, List.drop_zero]
 ·refine ⟨T.set (id - H.length) .dead ++ [.mk true 1 [x]] ++ [.mk true 1 (cs ++ [x])], (H ++ T ++ [Ob.mk true 1 [x]]).length, ?_, by simp only [List.length_append]; omega, ?_, by simp⟩
  ·rw [List.append_assoc H T, List.set_append_right _ _ h1, List.set_append_left _ _ (by omega)]
   simp
  ·have hl : ((H ++ T ++ [Ob.mk true 1 [x]]).set id .dead).length = (H ++ T ++ [Ob.mk true 1 [x]]).length := List.length_set
   rw [← hl, get_last]
theorem Gs.ext (h : Gs H G v cs) : ∃ T, G = H ++ T := by
 obtain ⟨T, id, h, _⟩ := h
 exact ⟨T, h⟩
theorem Gs.gc (h : Gs H G v cs) : gcH H G v = G := by
 obtain ⟨T, id, rfl, h1, h2, rfl⟩ := h
 unfold gcH
 rw [if_neg]
 rintro ⟨_, own, es, cells, h⟩
 have := (List.getElem?_eq_some_iff.1 h).1
 omega
theorem Gs.one (h : Gs H G v cs) : isOne v = true ∧ cellsOf v = some [v] := by
 obtain ⟨T, id, rfl, h1, h2, rfl⟩ := h
 exact ⟨rfl, rfl⟩
theorem Gs.strs {l : List Str} (h : Gs H G v (l.map V.str)) (hl : l.length ≤ maxLen) (hs : ∀ s ∈ l, s.length ≤ maxLen) : AStrs G v l ∧ ∃ id, AtF G (.slice .str) [v] (.lst (l.map strU)) [id] ∧ H.length ≤ id := by
 obtain ⟨T, id, rfl, h1, h2, rfl⟩ := h
 have hF : AtF (H ++ T) (.slice .str) [.slc (some (id, 0)) (l.map V.str).length] (.lst (l.map strU)) [id] := by
  refine AtF_slice.2 ⟨_, _, rfl, rfl, by simpa using hl, .inr ⟨id, 0, l.map V.str, List.replicate l.length [], by simp, h2, by simp, by simp, by simp, fun i x G hx hG => ?_⟩⟩
  rw [List.getElem?_map] at hx
  obtain ⟨s, hs', rfl⟩ := Option.map_eq_some_iff.1 hx
  have hi : i < l.length := (List.getElem?_eq_some_iff.1 hs').1
  rw [List.getElem?_replicate, if_pos hi] at hG
  cases hG
  refine AtF_str.2 ⟨⟨s, ?_, rfl, hs s (List.mem_of_getElem? hs')⟩, rfl⟩
  rw [Sh.size_str, Nat.zero_add, Nat.mul_one, List.drop_eq_getElem_cons (by simpa using hi)]
  obtain ⟨_, rfl⟩ := List.getElem?_eq_some_iff.1 hs'
  simp
 exact ⟨AtF.at _ hF, id, hF, h1⟩
end
abbrev shTree : Sh := .st [.slice shClass, .slice shEntry]
structure PTree where
 schema : List PClass
 entries : List PEntry
def PTree.u (t : PTree) : U := .st [.lst (t.schema.map PClass.u), .lst (t.entries.map PEntry.u)]
abbrev AEntries (H : List Ob) (v : V) (l : List PEntry) : Prop := ASl H shEntry PEntry.u v l
section
variable {H H' T : List Ob} {v : V}
theorem tree_at {cs : List V} {t : PTree} : At H shTree cs t.u ↔ ∃ v1 v2, cs = [v1, v2] ∧ AClasses H v1 t.schema ∧ AEntries H v2 t.entries := by
 constructor
 ·intro h
  obtain ⟨us, hu, h⟩ := At_st.1 h
  cases hu
  obtain ⟨c1, c2, u1, us1, rfl, hu, h1, h⟩ := Ats_cons.1 h
  cases hu
  obtain ⟨c3, c4, u2, us2, rfl, hu, h2, h⟩ := Ats_cons.1 h
  cases hu
  obtain ⟨rfl, _⟩ := Ats_nil.1 h
  obtain ⟨v1, _, rfl, _⟩ := At_slice.1 h1
  obtain ⟨v2, _, rfl, _⟩ := At_slice.1 h2
  exact ⟨v1, v2, rfl, h1, h2⟩
 ·rintro ⟨v1, v2, rfl, h1, h2⟩
  exact At_st.2 ⟨_, rfl, Ats_cons.2 ⟨[_], _, _, _, rfl, rfl, h1, Ats_cons.2 ⟨[_], _, _, _, rfl, rfl, h2, Ats_nil.2 ⟨rfl, rfl⟩⟩⟩⟩
theorem tree_typed {cs : List V} {u : U} (h : At H shTree cs u) : ∃ r : PTree, u = r.u := by
 replace h := At_st.1 h
 obtain ⟨us, rfl, h⟩ := h
 obtain ⟨c1, c2, u1, us1, rfl, rfl, h1, h⟩ := Ats_cons.1 h
 obtain ⟨c3, c4, u2, us2, rfl, rfl, h2, h⟩ := Ats_cons.1 h
 obtain ⟨rfl, rfl⟩ := Ats_nil.1 h
 obtain ⟨v, l, rfl, rfl, _⟩ := ASl.typed (fun _ _ => class_typed) h1
 obtain ⟨v', l', rfl, rfl, _⟩ := ASl.typed (fun _ _ => entry_typed) h2
 exact ⟨⟨l, l'⟩, rfl⟩
theorem entries_idx {xs : List PEntry} (h : AEntries H v xs) {i : Nat} {x : PEntry} (hx : xs[i]? = some x) : ∃ id o w1 w2,
  (∀ (e s b : Nat) (z : List V) (ty : Nat → LT) (k : IntKind), (ty e).size = 2 → indexR ⟨.slice e, s, b, z⟩ ty (.val v) (.int k i) = some (.val (.ptr (some (id, o))))) ∧
  (∀ T : LT, T.one → ∀ r c, loadAt T ⟨r, c, H⟩ (.hp id o) = some w1) ∧ (∀ T : LT, T.one → ∀ r c, loadAt T ⟨r, c, H⟩ (.hp id (o + 1)) = some w2) ∧
  (∀ T : LT, T.many 2 → ∀ r c, loadAt T ⟨r, c, H⟩ (.hp id o) = some (.agg [w1, w2])) ∧ ARdns H w1 x.dn ∧ AAttrs H w2 x.attrs ∧ At H shEntry [w1, w2] x.u := by
 obtain ⟨id, o, own, cells, e1, e2, e3, e4⟩ := ASl.idx h hx (by decide)
 have e6 := e4
 obtain ⟨w1, w2, e4, e7, e8⟩ := entry_at.1 e4
 rw [e4] at e6
 exact ⟨id, o, w1, w2, e1, load1 e2 (by simpa using cells_get e4 (j := 0) rfl), load1 e2 (by simpa using cells_get e4 (j := 1) rfl), loadN e2 e3 (by decide) e4, e7, e8, e6⟩
end
noncomputable def keyD (dn : List PRdn) : Str := keyL (dn.map fun r => (r.attr, r.value))
def HasOk (as' : List PAttr) (name n : Str) : Prop := n ≠ [] ∧ ∃ v ∈ valsOf as' name, norm v = n
def AttrFits (c : PClass) (a : PAttr) : Prop := (a.name = classT ∨ a.name ∈ c.must ∨ a.name ∈ c.may) ∧ ¬ (1 < a.vals.length ∧ a.name ∈ c.single)
def FitsOk (l : List PClass) (e : PEntry) : Prop := ∃ c, mineOf l e.attrs = some c ∧ lacks c e.attrs = [] ∧ (∀ a ∈ e.attrs, AttrFits c a) ∧ ∃ r, e.dn[0]? = some r ∧ HasOk e.attrs r.attr (norm r.value)
def ParentOk (es : List PEntry) (dn : List PRdn) : Prop := dn.length ≤ 1 ∨ ∃ y ∈ es, keyD y.dn = keyD dn.tail
def EntriesOk (s : List PClass) (es : List PEntry) : Prop := es.length ≤ 20 ∧ ∀ (j : Nat) x, es[j]? = some x → EntryOk x ∧ FitsOk s x ∧ PrevLt (fun e => keyD e.dn) es j x
def TreeOk (t : PTree) : Prop := SchemaOk t.schema ∧ EntriesOk t.schema t.entries ∧ ∀ x ∈ t.entries, ParentOk t.entries x.dn
abbrev rdnPair (r : PRdn) : Str × Str := (r.attr, r.value)
theorem pairsOf_eq : ∀ (l : List PRdn) (cs : List V), cs.length = l.length * 2 → (∀ (i : Nat) x, l[i]? = some x → cs[i * 2]? = some (.str x.attr) ∧ cs[i * 2 + 1]? = some (.str x.value)) → pairsOf cs = some (l.map rdnPair)
 | [], cs, hl, _ => by
  have : cs = [] := List.length_eq_zero_iff.1 (by simpa using hl)
  subst this
  rfl
 | x :: l, cs, hl, h => by
  match cs, hl, h with
  | a :: b :: cs, hl, h =>
   obtain ⟨h1, h2⟩ := h 0 x rfl
   simp at h1 h2
   subst h1 h2
   have ih := pairsOf_eq l cs (by simp at hl; omega) (fun i y hy => by
    have := h (i + 1) y (by simpa using hy)
    rw [show (i + 1) * 2 = i * 2 + 1 + 1 by omega] at this
    simpa using this)
   simp [pairsOf, ih]
  | [], hl, _ => simp at hl
  | [a], hl, _ => simp at hl; omega
theorem dkPrim_eq {H : List Ob} {v : V} {l : List PRdn} (h : ARdns H v l) (hl : l.length ≤ 1048576) (hs : ∀ x ∈ l, x.attr.length ≤ 1048576 ∧ x.value.length ≤ 1048576) : dkPrim [v] H = some (.str (keyD l), H) := by
 rcases h.sl with ⟨rfl, h0⟩ | ⟨id, off, own, cells, rfl, h2, h3, h4⟩
 ·have : l = [] := by simpa using h0
  subst this
  rfl
 ·rw [List.length_map] at h3 ⊢
  have hsz : shRdn.size = 2 := rfl
  rw [hsz] at h2 h3 h4
  by_cases h0 : l.length = 0
  ·have : l = [] := List.length_eq_zero_iff.1 h0
   subst this
   rfl
  ·have hp : pairsOf ((cells.drop off).take (l.length * 2)) = some (l.map rdnPair) := by
    refine pairsOf_eq l _ (by simp; omega) fun i x hx => ?_
    have hi : i < l.length := (List.getElem?_eq_some_iff.1 hx).1
    have h5 := h4 i x.u (by rw [List.getElem?_map, hx]; rfl)
    obtain ⟨h5, _⟩ := rdn_at.1 h5
    have g0 := cells_get h5 (j := 0) rfl
    have g1 := cells_get h5 (j := 1) rfl
    rw [List.getElem?_take_of_lt (by omega), List.getElem?_take_of_lt (by omega), List.getElem?_drop, List.getElem?_drop]
    refine ⟨?_, ?_⟩
    ·rw [← g0]; congr 1
    ·rw [← g1]; congr 1
   have hf : fitsL (l.map rdnPair) = true := by
    simp only [fitsL, List.all_map, List.all_eq_true, Function.comp, Bool.and_eq_true, decide_eq_true_eq]
    exact fun x hx => hs x hx
   simp only [dkPrim, if_neg h0, if_pos hl, h2, if_pos h3, hp]
   rw [if_pos ⟨hf, by simp⟩]
   rfl
noncomputable def kacc (l : List PRdn) (k : Nat) : Str := ((l.drop k).reverse.map rdnPair).foldl keyStep []
theorem kacc_end {l : List PRdn} : kacc l l.length = [] := by simp [kacc]
theorem kacc_zero {l : List PRdn} : kacc l 0 = keyD l := by
 show ((l.drop 0).reverse.map rdnPair).foldl keyStep [] = (l.map fun r => (r.attr, r.value)).reverse.foldl keyStep []
 rw [List.drop_zero, List.map_reverse]
theorem kacc_step {l : List PRdn} {k : Nat} {x : PRdn} (h : l[k]? = some x) : kacc l k = keyStep (kacc l (k + 1)) (rdnPair x) := by
 obtain ⟨hk, rfl⟩ := List.getElem?_eq_some_iff.1 h
 unfold kacc
 rw [List.drop_eq_getElem_cons hk]
 simp only [List.reverse_cons, List.map_append, List.foldl_append, List.map_cons, List.map_nil, List.foldl_cons, List.foldl_nil]
theorem kfold_len : ∀ (l : List (Str × Str)) (s : Str), (∀ p ∈ l, p.1.length ≤ 20) → (l.foldl keyStep s).length ≤ s.length + l.length * 122
 | [], s, _ => by simp
 | p :: l, s, h => by
  have ih := kfold_len l (keyStep s p) fun q hq => h q (List.mem_cons_of_mem _ hq)
  have h1 := h p List.mem_cons_self
  have h2 := norm_len (t := p.2)
  have h3 : (keyStep s p).length ≤ s.length + 122 := by simp only [keyStep, List.length_append, List.length_cons]; omega
  simp only [List.foldl_cons, List.length_cons]
  omega
theorem kacc_len {l : List PRdn} (hd : DnOk l) (k : Nat) : (kacc l k).length ≤ 1000 := by
 have h := kfold_len ((l.drop k).reverse.map rdnPair) [] (fun p hp => by
  obtain ⟨x, hx, rfl⟩ := List.mem_map.1 hp
  have hx := List.mem_of_mem_drop (List.mem_reverse.1 hx)
  obtain ⟨j, hj, rfl⟩ := List.getElem_of_mem hx
  exact (hd.1 j _ (List.getElem?_eq_getElem hj)).1.2.1)
 have := hd.2
 simp only [List.length_map, List.length_reverse, List.length_drop, List.length_nil] at h
 unfold kacc
 omega
theorem DnOk.small {l : List PRdn} (hd : DnOk l) : l.length ≤ 1048576 ∧ ∀ x ∈ l, x.attr.length ≤ 1048576 ∧ x.value.length ≤ 1048576 := by
 refine ⟨by have := hd.2; omega, fun x hx => ?_⟩
 obtain ⟨j, hj, rfl⟩ := List.getElem_of_mem hx
 obtain ⟨h1, h2⟩ := hd.1 j _ (List.getElem?_eq_getElem hj)
 have := h1.2.1
 have := h2.2.1
 omega
theorem DnOk.tail {l : List PRdn} (hd : DnOk l) : DnOk l.tail := by
 refine ⟨fun j x hx => hd.1 (j + 1) x (by rw [List.getElem?_tail] at hx; exact hx), ?_⟩
 have := hd.2
 simp
 omega
theorem rdns_tail {H : List Ob} {v : V} {l : List PRdn} (h : ARdns H v l) (h1 : 1 ≤ l.length) : ∃ id off own cells, v = .slc (some (id, off)) l.length ∧ H[id]? = some (.mk own 2 cells) ∧ ARdns H (.slc (some (id, off + 2)) (l.length - 1)) l.tail := by
 have hb := h.bound
 rcases h.sl with ⟨rfl, h0⟩ | ⟨id, off, own, cells, rfl, h2, h3, h4⟩
 ·have : l = [] := by simpa using h0
  subst this
  simp at h1
 ·rw [List.length_map] at h3 ⊢
  refine ⟨id, off, own, cells, rfl, h2, ?_⟩
  have hsz : shRdn.size = 2 := rfl
  rw [hsz] at h2 h3 h4
  refine At_slice.2 ⟨_, _, rfl, rfl, by simp; omega, .inr ⟨id, off + 2, own, cells, by simp, h2, ?_, fun i x hx => ?_⟩⟩
  ·rw [hsz, List.length_map, List.length_tail]; omega
  ·have := h4 (i + 1) x (by rw [List.getElem?_map] at hx ⊢; rw [List.getElem?_tail] at hx; exact hx)
   rw [hsz, show off + 2 + i * 2 = off + (i + 1) * 2 by omega]
   exact this
section
variable {H H' T : List Ob}
theorem Sl.mapL {α : Type} {es : Nat} {R R' : List V → α → Prop} {v : V} {xs : List α} (h : Sl H es R v xs) (hH : ∀ (id : Nat) own es cells, H[id]? = some (.mk own es cells) → H'[id]? = some (.mk own es cells)) (hR : ∀ cs x, R cs x → R' cs x) : Sl H' es R' v xs := by
 rcases h with h | ⟨id, off, own, cells, h1, h2, h3, h4⟩
 ·exact .inl h
 ·exact .inr ⟨id, off, own, cells, h1, hH _ _ _ _ h2, h3, fun i x hx => hR _ _ (h4 i x hx)⟩
mutual
theorem At.upL (hH : ∀ (id : Nat) own es cells, H[id]? = some (.mk own es cells) → H'[id]? = some (.mk own es cells)) : ∀ (sh : Sh) {cs : List V} {u : U}, At H sh cs u → At H' sh cs u
 | .int k, _, _, h => h
 | .bool, _, _, h => h
 | .str, _, _, h => h
 | .slice e, _, _, h => by
  simp only [At] at h ⊢
  obtain ⟨v, l, h1, h2, h3, h4⟩ := h
  exact ⟨v, l, h1, h2, h3, h4.mapL hH fun _ _ h => At.upL hH e h⟩
 | .st fs, _, _, h => by
  simp only [At] at h ⊢
  obtain ⟨us, h1, h2⟩ := h
  exact ⟨us, h1, Ats.upL hH fs h2⟩
theorem Ats.upL (hH : ∀ (id : Nat) own es cells, H[id]? = some (.mk own es cells) → H'[id]? = some (.mk own es cells)) : ∀ (fs : List Sh) {cs : List V} {us : List U}, Ats H fs cs us → Ats H' fs cs us
 | [], _, _, h => h
 | f :: fs, _, _, h => by
  simp only [Ats] at h ⊢
  obtain ⟨c1, c2, u, us', h1, h2, h3, h4⟩ := h
  exact ⟨c1, c2, u, us', h1, h2, At.upL hH f h3, Ats.upL hH fs h4⟩
end
theorem At.undead {id : Nat} {sh : Sh} {cs : List V} {u : U} (h : At (H.set id .dead) sh cs u) : At H sh cs u := by
 refine At.upL (fun q own es cells hq => ?_) sh h
 by_cases e : id = q
 ·subst e
  by_cases hl : id < H.length
  ·rw [List.getElem?_set_self hl] at hq; cases hq
  ·rw [List.getElem?_eq_none (by simp; omega)] at hq; cases hq
 ·rwa [List.getElem?_set_ne e] at hq
theorem AtF.kill {id : Nat} {sh : Sh} {cs : List V} {u : U} {F : List Nat} (h : AtF H sh cs u F) (hF : id ∉ F) {o : Ob} : AtF (H.set id o) sh cs u F :=
 h.frame sh fun q hq => List.getElem?_set_ne fun e => hF (by rw [e]; exact hq)
theorem set_app {id : Nat} {o : Ob} (h : id < H.length) : (H ++ T).set id o = H.set id o ++ T := List.set_append_left _ _ h
end
def New (b e : Nat) (G : List Ob) (sh : Sh) (cs : List V) (u : U) : Prop := ∃ F, AtF G sh cs u F ∧ F.Nodup ∧ ∀ q ∈ F, b ≤ q ∧ q < e
def News (b e : Nat) (G : List Ob) (fs : List Sh) (cs : List V) (us : List U) : Prop := ∃ F, AtsF G fs cs us F ∧ F.Nodup ∧ ∀ q ∈ F, b ≤ q ∧ q < e
section
variable {b e b' e' : Nat} {G G' T : List Ob} {sh : Sh} {fs : List Sh} {cs c1 c2 : List V} {u : U} {us : List U}
theorem New.at (h : New b e G sh cs u) : At G sh cs u := h.elim fun _ h => AtF.at _ h.1
theorem New.ext (h : New b e G sh cs u) : New b e (G ++ T) sh cs u := h.imp fun _ h => ⟨h.1.ext, h.2⟩
theorem New.wide (h : New b e G sh cs u) (hb : b' ≤ b) (he : e ≤ e') : New b' e' G sh cs u := h.imp fun _ h => ⟨h.1, h.2.1, fun q hq => ⟨Nat.le_trans hb (h.2.2 q hq).1, Nat.lt_of_lt_of_le (h.2.2 q hq).2 he⟩⟩
theorem New.frame (h : New b e G sh cs u) (hG : ∀ q, b ≤ q → q < e → G'[q]? = G[q]?) : New b e G' sh cs u := h.imp fun _ h => ⟨h.1.frame _ fun q hq => hG q (h.2.2 q hq).1 (h.2.2 q hq).2, h.2⟩
theorem New.inG (h : New b e G sh cs u) : New b G.length G sh cs u := h.imp fun _ h => ⟨h.1, h.2.1, fun q hq => ⟨(h.2.2 q hq).1, AtF.mem _ h.1 q hq⟩⟩
theorem New.kill (h : New b e G sh cs u) {id : Nat} (hid : id < b ∨ e ≤ id) {o : Ob} : New b e (G.set id o) sh cs u := h.frame fun q h1 h2 => List.getElem?_set_ne (by omega)
theorem New.str {s : Str} (h : s.length ≤ maxLen) : New b e G .str [.str s] (.str s) := ⟨[], AtF_str.2 ⟨⟨s, rfl, rfl, h⟩, rfl⟩, by simp, by simp⟩
theorem New.int {k : IntKind} {n : Int} (h : (Lit.int k n).wf = true) : New b e G (.int k) [.int k n] (.int n) := ⟨[], AtF_int.2 ⟨⟨n, rfl, rfl, h⟩, rfl⟩, by simp, by simp⟩
theorem New.bool {t : Bool} : New b e G .bool [.bool t] (.bool t) := ⟨[], AtF_bool.2 ⟨⟨t, rfl, rfl⟩, rfl⟩, by simp, by simp⟩
theorem New.nil : New b e G (.slice sh) [.slc none 0] (.lst []) := ⟨[], AtF_slice.2 ⟨_, _, rfl, rfl, by simp, .inl ⟨rfl, rfl, rfl⟩⟩, by simp, by simp⟩
theorem News.nil : News b e G [] [] [] := ⟨[], AtsF_nil.2 ⟨rfl, rfl, rfl⟩, by simp, by simp⟩
theorem News.ext (h : News b e G fs cs us) : News b e (G ++ T) fs cs us := by
 obtain ⟨F, h1, h2⟩ := h
 exact ⟨F, AtsF.frame _ (fun q hq => List.getElem?_append_left (AtsF.mem _ h1 q hq)) h1, h2⟩
theorem News.frame (h : News b e G fs cs us) (hG : ∀ q, b ≤ q → q < e → G'[q]? = G[q]?) : News b e G' fs cs us := h.imp fun _ h => ⟨h.1.frame _ fun q hq => hG q (h.2.2 q hq).1 (h.2.2 q hq).2, h.2⟩
theorem New.st (h : News b e G fs cs us) : New b e G (.st fs) cs (.st us) := h.imp fun _ h => ⟨AtF_st.2 ⟨_, rfl, h.1⟩, h.2⟩
theorem News.cons {m : Nat} (h : New b m G sh c1 u) (hs : News m e G fs c2 us) (h1 : b ≤ m) (h2 : m ≤ e) : News b e G (sh :: fs) (c1 ++ c2) (u :: us) := by
 obtain ⟨F, f1, f2, f3⟩ := h
 obtain ⟨K, k1, k2, k3⟩ := hs
 refine ⟨F ++ K, AtsF_cons.2 ⟨c1, c2, u, us, F, K, rfl, rfl, rfl, f1, k1⟩, List.nodup_append.2 ⟨f2, k2, fun x hx y hy e => ?_⟩, fun q hq => ?_⟩
 ·subst e; have := f3 x hx; have := k3 x hy; omega
 ·rcases List.mem_append.1 hq with hq | hq
  ·have := f3 q hq; omega
  ·have := k3 q hq; omega
theorem News.cons0 (h : AtF G sh c1 u []) (hs : News b e G fs c2 us) : News b e G (sh :: fs) (c1 ++ c2) (u :: us) := by
 obtain ⟨K, k1, k2⟩ := hs
 exact ⟨K, AtsF_cons.2 ⟨c1, c2, u, us, [], K, rfl, rfl, rfl, h, k1⟩, k2⟩
theorem News.str {s : Str} (hl : s.length ≤ maxLen) (hs : News b e G fs c2 us) : News b e G (.str :: fs) (.str s :: c2) (.str s :: us) := News.cons0 (c1 := [.str s]) (AtF_str.2 ⟨⟨s, rfl, rfl, hl⟩, rfl⟩) hs
theorem News.int {k : IntKind} {n : Int} (hn : (Lit.int k n).wf = true) (hs : News b e G fs c2 us) : News b e G (.int k :: fs) (.int k n :: c2) (.int n :: us) := News.cons0 (c1 := [.int k n]) (AtF_int.2 ⟨⟨n, rfl, rfl, hn⟩, rfl⟩) hs
theorem News.bool {t : Bool} (hs : News b e G fs c2 us) : News b e G (.bool :: fs) (.bool t :: c2) (.bool t :: us) := News.cons0 (c1 := [.bool t]) (AtF_bool.2 ⟨⟨t, rfl, rfl⟩, rfl⟩) hs
theorem News.nilS {e' : Sh} (hs : News b e G fs c2 us) : News b e G (.slice e' :: fs) (.slc none 0 :: c2) (.lst [] :: us) := News.cons0 (c1 := [.slc none 0]) (AtF_slice.2 ⟨_, _, rfl, rfl, by simp, .inl ⟨rfl, rfl, rfl⟩⟩) hs
theorem News.one (h : New b e G sh cs u) (h1 : b ≤ e) : News b e G [sh] cs [u] := by
 have := News.cons h (News.nil (b := e) (e := e) (G := G)) h1 (Nat.le_refl _)
 simpa using this
theorem New.gc {H : List Ob} {v : V} (hv : lowV H v ↔ lowVs H cs) (h : New H.length e (H ++ T) sh cs u) : ∃ T', gcH H (H ++ T) v = H ++ T' ∧ New H.length (H ++ T').length (H ++ T') sh cs u := by
 by_cases hl : lowV H v
 ·refine ⟨[], by rw [gcH_low hl, List.append_nil], ?_⟩
  obtain ⟨F, h1, h2, h3⟩ := h
  have hF : F = [] := AtF.cut _ h1 (fun q hq => (h3 q hq).1) (hv.1 hl)
  subst hF
  exact ⟨[], AtF.frame _ (fun q hq => by cases hq) h1, by simp, by simp⟩
 ·refine ⟨T, ?_, h.inG⟩
  unfold gcH
  rw [if_neg fun h => hl h.2]
theorem New.one1 {v : V} {e0 : Sh} (h : New b e G (.slice e0) [v] u) : isOne v = true ∧ cellsOf v = some [v] := by
 obtain ⟨w, l, hw, _, _, h4⟩ := At_slice.1 h.at
 cases hw
 exact h4.one
theorem New.gc1 {H : List Ob} {v : V} (h : New H.length e (H ++ T) sh [v] u) : ∃ T', gcH H (H ++ T) v = H ++ T' ∧ New H.length (H ++ T').length (H ++ T') sh [v] u := h.gc (by simp [lowVs])
theorem New.gcA {H : List Ob} (h : New H.length e (H ++ T) sh cs u) : ∃ T', gcH H (H ++ T) (.agg cs) = H ++ T' ∧ New H.length (H ++ T').length (H ++ T') sh cs u := h.gc (by simp [lowV])
end
theorem appendV_row {d : LD} {sz by_ : Nat} {z : List V} {G : List Ob} {id n m : Nat} {cs xs : List V} {x : V} (hz : z.length = sz) (h0 : 0 < sz) (hb0 : 0 < by_) (hb1 : by_ ≤ 1000000) (h : G[id]? = some (.mk true sz cs)) (hl : cs.length = n * sz)
  (hx : newCells ⟨d, sz, by_, z⟩ G x = some (xs, m)) (hm : m ≠ 0) (ho : xs.all isOne = true) (hb : (n + m) * by_ ≤ maxMade) :
  appendV ⟨d, sz, by_, z⟩ G (.slc (some (id, 0)) n) x = some (.slc (some (G.length, 0)) (n + m), G.set id .dead ++ [.mk true sz (cs ++ xs)]) := by
 have e0 : 0 < m * sz := Nat.mul_pos (by omega) h0
 have e1 : (n + m) * sz = n * sz + m * sz := Nat.add_mul _ _ _
 unfold appendV
 rw [if_pos (by simp [growOk, h0, hb0, hb1, hz]), hx]
 simp only [hm, if_false, ho, if_true, h]
 rw [if_neg (by omega), if_pos ⟨.inl (by omega), hb⟩, List.drop_zero]
theorem appendV_nil {d : LD} {sz by_ : Nat} {z : List V} {G : List Ob} {m : Nat} {xs : List V} {x : V} (hz : z.length = sz) (h0 : 0 < sz) (hb0 : 0 < by_) (hb1 : by_ ≤ 1000000)
  (hx : newCells ⟨d, sz, by_, z⟩ G x = some (xs, m)) (hm : m ≠ 0) (ho : xs.all isOne = true) (hb : m * by_ ≤ maxMade) :
  appendV ⟨d, sz, by_, z⟩ G (.slc none 0) x = some (.slc (some (G.length, 0)) m, G ++ [.mk true sz xs]) := by
 unfold appendV
 rw [if_pos (by simp [growOk, h0, hb0, hb1, hz]), hx]
 simp only [hm, if_false, ho, if_true]
 rw [if_pos hb]
theorem newCells_tmp {d : LD} {by_ : Nat} {z : List V} {G : List Ob} {es : Nat} {c : List V} (h0 : 0 < c.length) : newCells ⟨d, c.length, by_, z⟩ (G ++ [.mk true es c]) (.slc (some (G.length, 0)) 1) = some (c, 1) := by
 have : ¬ c.length = 0 := by omega
 simp [newCells, slcCells, this]
def Lst {α : Type} (B G : List Ob) (sh : Sh) (f : α → U) (v : V) (l : List α) : Prop := (∃ T, G = B ++ T) ∧ ((v = .slc none 0 ∧ l = []) ∨ ∃ id cs, B.length ≤ id ∧ G[id]? = some (.mk true sh.size cs) ∧ v = .slc (some (id, 0)) l.length ∧
 cs.length = l.length * sh.size ∧ ∀ i x, l[i]? = some x → At (G.set id .dead) sh ((cs.drop (i * sh.size)).take sh.size) (f x))
section
variable {α : Type} {B G T : List Ob} {sh : Sh} {f : α → U} {v : V} {l : List α}
theorem Lst.nil : Lst B B sh f (.slc none 0) [] := ⟨⟨[], by simp⟩, .inl ⟨rfl, rfl⟩⟩
theorem Lst.init : Lst B (B ++ [.mk true sh.size []]) sh f (.slc (some (B.length, 0)) 0) [] := ⟨⟨_, rfl⟩, .inr ⟨B.length, [], Nat.le_refl _, by simp, rfl, by simp, fun i x h => by simp at h⟩⟩
theorem Lst.pre (h : Lst B G sh f v l) : ∃ T, G = B ++ T := h.1
theorem Lst.ext (h : Lst B G sh f v l) : Lst B (G ++ T) sh f v l := by
 obtain ⟨⟨S, hS⟩, h⟩ := h
 refine ⟨⟨S ++ T, by rw [hS, List.append_assoc]⟩, ?_⟩
 rcases h with h | ⟨id, cs, h1, h2, h3, h4, h5⟩
 ·exact .inl h
 ·have hid := (List.getElem?_eq_some_iff.1 h2).1
  exact .inr ⟨id, cs, h1, by rw [List.getElem?_append_left hid]; exact h2, h3, h4, fun i x hx => by rw [set_app hid]; exact (h5 i x hx).ext⟩
theorem Lst.one (h : Lst B G sh f v l) : isOne v = true ∧ cellsOf v = some [v] := by
 obtain ⟨_, ⟨rfl, _⟩ | ⟨id, cs, _, _, rfl, _⟩⟩ := h <;> exact ⟨rfl, rfl⟩
theorem Lst.len (h : Lst B G sh f v l) {e s b : Nat} {z : List V} : lenV ⟨.slice e, s, b, z⟩ v = some (.int .i64 l.length) := by
 obtain ⟨_, ⟨rfl, rfl⟩ | ⟨id, cs, _, _, rfl, _⟩⟩ := h <;> rfl
theorem Lst.at (h : Lst B G sh f v l) (hl : l.length ≤ maxLen) : ASl G sh f v l := by
 obtain ⟨_, ⟨rfl, rfl⟩ | ⟨id, cs, h1, h2, rfl, h4, h5⟩⟩ := h
 ·exact At_slice.2 ⟨_, _, rfl, rfl, by simp, .inl ⟨rfl, rfl⟩⟩
 ·refine At_slice.2 ⟨_, _, rfl, rfl, by simpa using hl, .inr ⟨id, 0, true, cs, by simp, h2, by simp; omega, fun i x hx => ?_⟩⟩
  rw [List.getElem?_map] at hx
  obtain ⟨y, hy, rfl⟩ := Option.map_eq_some_iff.1 hx
  rw [Nat.zero_add]
  exact (h5 i y hy).undead
theorem row_snoc {cs c : List V} {n s : Nat} (hl : cs.length = n * s) (hc : c.length = s) {P : Nat → List V → Prop} (h1 : ∀ i, i < n → P i ((cs.drop (i * s)).take s)) (h2 : P n c) : ∀ i, i < n + 1 → P i (((cs ++ c).drop (i * s)).take s) := by
 intro i hi
 by_cases e : i = n
 ·subst e
  rw [List.drop_append_of_le_length (by omega), List.drop_of_length_le (by omega), List.nil_append, List.take_of_length_le (by omega)]
  exact h2
 ·have h3 : i * s + s ≤ n * s := mul_step (by omega)
  rw [List.drop_append_of_le_length (by omega), List.take_append_of_le_length (by simp; omega)]
  exact h1 i (by omega)
theorem Lst.apart (h : Lst B G sh f v l) {q n : Nat} (hq : G.length ≤ q) : v ≠ .slc (some (q, 0)) n := by
 obtain ⟨_, ⟨rfl, _⟩ | ⟨id, cs, _, h2, rfl, _⟩⟩ := h
 ·simp
 ·have := (List.getElem?_eq_some_iff.1 h2).1
  simp
  omega
theorem Lst.push {d : LD} {sz by_ : Nat} {z : List V} (h : Lst B G sh f v l) {x : α} {c : List V} (hx : (∃ F, AtF (G ++ T) sh c (f x) F ∧ ∀ q ∈ F, ∀ n, v ≠ .slc (some (q, 0)) n) ∨ At B sh c (f x)) (hs : sz = sh.size) (hz : z.length = sz) (h0 : 0 < sz) (hb0 : 0 < by_) (hb1 : by_ ≤ 1000000) (hb : (l.length + 1) * by_ ≤ maxMade) :
  ∃ v' G', appendV ⟨d, sz, by_, z⟩ (G ++ T ++ [.mk true sz c]) v (.slc (some ((G ++ T).length, 0)) 1) = some (v', G') ∧ Lst B G' sh f v' (l ++ [x]) ∧ c.length = sz ∧ c.all isOne = true ∧
   v' = .slc (some ((G ++ T).length + 1, 0)) (l.length + 1) ∧ (∀ q, q < (G ++ T).length → (∀ n, v ≠ .slc (some (q, 0)) n) → G'[q]? = (G ++ T)[q]?) ∧ (G ++ T).length + 2 = G'.length := by
 obtain ⟨S, hS⟩ := h.1
 have hat : At (G ++ T) sh c (f x) := by
  rcases hx with ⟨F, h1, _⟩ | hx
  ·exact AtF.at _ h1
  ·rw [hS, List.append_assoc]; exact hx.ext
 have hcl : c.length = sz := by rw [hs]; exact At.len _ hat
 have hco := At.ones _ hat
 subst hcl
 have hnew := newCells_tmp (d := d) (by_ := by_) (z := z) (G := G ++ T) (es := c.length) h0
 obtain ⟨_, ⟨rfl, rfl⟩ | ⟨id, cs, h1, h2, rfl, h4, h5⟩⟩ := h
 ·refine ⟨_, _, appendV_nil hz h0 hb0 hb1 hnew (by decide) hco (by simpa using hb), ⟨⟨_, by rw [hS, List.append_assoc, List.append_assoc, List.append_assoc]⟩, .inr ⟨_, c, ?_, get_last.trans (by rw [hs]), by simp, by simp [hs], fun i y hy => ?_⟩⟩, rfl, hco, by simp [Nat.add_assoc], fun q hq _ => ?_, by simp [Nat.add_assoc]⟩
  ·simp [hS]
  ·rw [set_last]
   have : i = 0 := by
    have := (List.getElem?_eq_some_iff.1 hy).1
    simp at this; omega
   subst this
   cases hy
   rw [Nat.zero_mul, List.drop_zero, List.take_of_length_le (by omega)]
   exact hat.ext.ext
  ·rw [List.append_assoc, List.getElem?_append_left hq]
 ·have hid := (List.getElem?_eq_some_iff.1 h2).1
  have h2' : (G ++ T ++ [Ob.mk true c.length c])[id]? = some (.mk true c.length cs) := by rw [List.append_assoc, List.getElem?_append_left hid, h2, hs]
  refine ⟨_, _, appendV_row hz h0 hb0 hb1 h2' (by rw [h4, hs]) hnew (by decide) hco hb, ⟨?_, .inr ⟨(G ++ T ++ [Ob.mk true c.length c]).length, cs ++ c, by simp [hS], ?_, by simp, by simp [h4, hs, Nat.add_mul], ?_⟩⟩, rfl, hco, by simp [Nat.add_assoc], fun q hq hn => ?_, by simp [Nat.add_assoc]⟩
  ·rw [hS, List.append_assoc, List.append_assoc, List.set_append_right _ _ h1, List.append_assoc]
   exact ⟨_, rfl⟩
  ·have : (G ++ T ++ [Ob.mk true c.length c]).length = ((G ++ T ++ [Ob.mk true c.length c]).set id .dead).length := List.length_set.symm
   rw [this, get_last, hs]
  ·have hlen : (G ++ T ++ [Ob.mk true c.length c]).length = ((G ++ T ++ [Ob.mk true c.length c]).set id .dead).length := List.length_set.symm
   have hG' : ((G ++ T ++ [Ob.mk true c.length c]).set id .dead ++ [Ob.mk true c.length (cs ++ c)]).set (G ++ T ++ [Ob.mk true c.length c]).length .dead = G.set id .dead ++ (T ++ [Ob.mk true c.length c] ++ [.dead]) := by
    rw [hlen, set_last, List.append_assoc G, set_app hid, List.append_assoc]
   rw [hG']
   have key := row_snoc (n := l.length) (s := sh.size) (cs := cs) (c := c) (by rw [h4]) hs (P := fun i cc => ∀ y, (l ++ [x])[i]? = some y → At (G.set id .dead ++ (T ++ [Ob.mk true c.length c] ++ [.dead])) sh cc (f y)) (fun i hi y hy => by
     rw [List.getElem?_append_left hi] at hy
     exact (h5 i y hy).ext) (fun y hy => by
     simp at hy
     subst hy
     rcases hx with ⟨F, f1, f2⟩ | hx
     ·have := AtF.at _ (AtF.kill (id := id) (o := .dead) f1 fun hm => f2 id hm _ rfl)
      rw [set_app hid] at this
      have := this.ext (T := [Ob.mk true c.length c] ++ [.dead])
      simpa [List.append_assoc] using this
     ·rw [hS, List.set_append_right _ _ h1, List.append_assoc]
      exact hx.ext)
   intro i y hy
   have hi : i < l.length + 1 := by
    have := (List.getElem?_eq_some_iff.1 hy).1
    simpa using this
   exact key i hi y hy
  ·have hne : q ≠ id := fun e => hn _ (by rw [e])
   rw [List.getElem?_append_left (by simp at hq ⊢; omega), List.getElem?_set_ne (fun e => hne e.symm), List.getElem?_append_left hq]
end
mutual
def Sh.flat : Sh → Bool
 | .slice _ => false
 | .st fs => Sh.flats fs
 | _ => true
def Sh.flats : List Sh → Bool
 | [] => true
 | f :: fs => f.flat && Sh.flats fs
end
section
variable {H H' : List Ob}
mutual
theorem At.flat : ∀ (sh : Sh) {cs : List V} {u : U}, sh.flat = true → At H sh cs u → AtF H' sh cs u []
 | .int k, _, _, _, h => AtF_int.2 ⟨At_int.1 h, rfl⟩
 | .bool, _, _, _, h => AtF_bool.2 ⟨At_bool.1 h, rfl⟩
 | .str, _, _, _, h => AtF_str.2 ⟨At_str.1 h, rfl⟩
 | .slice e, _, _, hf, _ => by simp [Sh.flat] at hf
 | .st fs, _, _, hf, h => by
  obtain ⟨us, h1, h2⟩ := At_st.1 h
  exact AtF_st.2 ⟨us, h1, Ats.flat fs (by simpa [Sh.flat] using hf) h2⟩
theorem Ats.flat : ∀ (fs : List Sh) {cs : List V} {us : List U}, Sh.flats fs = true → Ats H fs cs us → AtsF H' fs cs us []
 | [], _, _, _, h => by obtain ⟨rfl, rfl⟩ := Ats_nil.1 h; exact AtsF_nil.2 ⟨rfl, rfl, rfl⟩
 | f :: fs, _, _, hf, h => by
  obtain ⟨c1, c2, u, us', h1, h2, h3, h4⟩ := Ats_cons.1 h
  simp only [Sh.flats, Bool.and_eq_true] at hf
  exact AtsF_cons.2 ⟨c1, c2, u, us', [], [], h1, h2, rfl, At.flat f hf.1 h3, Ats.flat fs hf.2 h4⟩
end
end
theorem row_chunk {cells : List V} {off n s i : Nat} (h : off + n * s ≤ cells.length) (hi : i < n) : ((((cells.drop off).take (n * s)).drop (i * s)).take s) = (cells.drop (off + i * s)).take s := by
 have h1 : i * s + s ≤ n * s := mul_step hi
 apply List.ext_getElem?
 intro j
 by_cases hj : j < s
 ·rw [List.getElem?_take_of_lt hj, List.getElem?_take_of_lt hj, List.getElem?_drop, List.getElem?_take_of_lt (by omega), List.getElem?_drop, List.getElem?_drop]
  congr 1
  omega
 ·rw [List.getElem?_eq_none (by simp; omega), List.getElem?_eq_none (by simp; omega)]
theorem rows_ones {cs : List V} {n s : Nat} (hl : cs.length = n * s) (h : ∀ i, i < n → ((cs.drop (i * s)).take s).all isOne = true) : cs.all isOne = true := by
 rw [List.all_eq_true]
 intro x hx
 obtain ⟨j, hj, rfl⟩ := List.getElem_of_mem hx
 have hs : 0 < s := by
  rcases Nat.eq_zero_or_pos s with h0 | h0
  ·subst h0; simp at hl; simp [hl] at hj
  ·exact h0
 have hd : j / s < n := Nat.div_lt_of_lt_mul (by rw [Nat.mul_comm]; omega)
 have h1 := h (j / s) hd
 rw [List.all_eq_true] at h1
 refine h1 _ (List.mem_iff_getElem?.2 ⟨j % s, ?_⟩)
 rw [List.getElem?_take_of_lt (Nat.mod_lt _ hs), List.getElem?_drop, show j / s * s + j % s = j from Nat.div_add_mod' j s, List.getElem?_eq_getElem hj]
section
variable {α : Type} {H T : List Ob} {sh : Sh} {f : α → U} {v : V} {l : List α}
theorem ASl.cells (h : ASl H sh f v l) (hs : sh.size ≠ 0) : ∃ p cs, v = .slc p l.length ∧ (∀ T, slcCells (H ++ T) p (l.length * sh.size) = some cs) ∧ cs.length = l.length * sh.size ∧ cs.all isOne = true ∧ (p = none → l = []) ∧
  (∀ i x, l[i]? = some x → At H sh ((cs.drop (i * sh.size)).take sh.size) (f x)) := by
 rcases h.sl with ⟨rfl, hl⟩ | ⟨id, off, own, cells, rfl, h2, h3, h4⟩
 ·have : l = [] := by simpa using hl
  subst this
  exact ⟨none, [], rfl, fun T => by simp [slcCells], by simp, rfl, fun _ => rfl, fun i x hx => by simp at hx⟩
 ·rw [List.length_map] at h3 ⊢
  have hch : ∀ i x, l[i]? = some x → At H sh ((((cells.drop off).take (l.length * sh.size)).drop (i * sh.size)).take sh.size) (f x) := fun i x hx => by
   rw [row_chunk h3 (List.getElem?_eq_some_iff.1 hx).1]
   exact h4 i (f x) (by rw [List.getElem?_map, hx]; rfl)
  refine ⟨some (id, off), (cells.drop off).take (l.length * sh.size), rfl, fun T => ?_, by simp; omega, ?_, (fun h => by cases h), hch⟩
  ·by_cases h0 : l.length * sh.size = 0
   ·simp [slcCells, h0]
   ·simp only [slcCells, up_append _ _ h2, if_neg h0]
    unfold rdCells
    rw [if_pos h3]
  ·exact rows_ones (n := l.length) (s := sh.size) (by simp; omega) fun i hi => At.ones _ (hch i l[i] (List.getElem?_eq_getElem hi))
theorem append_clone {d : LD} {sz by_ : Nat} {z : List V} (h : ASl H sh f v l) (hf : sh.flat = true) (hs : sz = sh.size) (hz : z.length = sz) (h0 : 0 < sz) (hb0 : 0 < by_) (hb1 : by_ ≤ 1000000) (hb : l.length * by_ ≤ maxMade) :
  ∃ w T', appendV ⟨d, sz, by_, z⟩ (H ++ [.mk true sz []]) (.slc (some (H.length, 0)) 0) v = some (w, H ++ T') ∧ New H.length (H ++ T').length (H ++ T') (.slice sh) [w] (.lst (l.map f)) := by
 obtain ⟨p, cs, rfl, hc, hl, ho, hp, hat⟩ := h.cells (by omega)
 have hbd := h.bound
 subst hs
 have hnew : newCells ⟨d, sh.size, by_, z⟩ (H ++ [.mk true sh.size []]) (.slc p l.length) = some (cs, l.length) := by simp only [newCells, hc]
 by_cases hm : l.length = 0
 ·have hl0 : l = [] := List.length_eq_zero_iff.1 hm
  subst hl0
  refine ⟨.slc (some (H.length, 0)) 0, [.mk true sh.size []], ?_, ⟨[H.length], AtF_slice.2 ⟨_, [], rfl, rfl, by simp, .inr ⟨H.length, 0, [], [], rfl, by simp, by simp, rfl, rfl, fun i x F hx => by simp at hx⟩⟩, by simp, by simp⟩⟩
  unfold appendV
  rw [if_pos (by simp [growOk, h0, hb0, hb1, hz]), hnew]
  simp
 ·have ha := appendV_row (n := 0) (cs := []) (id := H.length) hz h0 hb0 hb1 (G := H ++ [.mk true sh.size []]) (by simp) (by simp) hnew hm ho (by simpa using hb)
  rw [Nat.zero_add, List.nil_append] at ha
  refine ⟨.slc (some (H.length + 1, 0)) l.length, [.dead, .mk true sh.size cs], by rw [ha, List.set_append_right _ _ (Nat.le_refl _), List.append_assoc]; simp, ⟨[H.length + 1], ?_, by simp, by simp⟩⟩
  refine AtF_slice.2 ⟨.slc (some (H.length + 1, 0)) l.length, l.map f, rfl, rfl, by simpa using hbd, .inr ⟨H.length + 1, 0, cs, List.replicate l.length [], by simp, ?_, by simp; omega, by simp, by simp, fun i x F hx hF => ?_⟩⟩
  ·rw [List.getElem?_append_right (by omega)]; simp
  ·rw [List.getElem?_map] at hx
   obtain ⟨y, hy, rfl⟩ := Option.map_eq_some_iff.1 hx
   have hi : i < l.length := (List.getElem?_eq_some_iff.1 hy).1
   rw [List.getElem?_replicate, if_pos hi] at hF
   cases hF
   rw [Nat.zero_add]
   exact At.flat _ hf (hat i y hy)
end
structure PEntryOut where
 entry : PEntry
 code : Int
def PEntryOut.u (o : PEntryOut) : U := .st [o.entry.u, .int o.code]
abbrev shEntryOut : Sh := .st [shEntry, .int .i64]
def illE (c : Int) : PEntryOut := ⟨⟨[], []⟩, c⟩
theorem entryOut_at {H : List Ob} {cs : List V} {o : PEntryOut} : At H shEntryOut cs o.u ↔ ∃ v1 v2, cs = [v1, v2, .int .i64 o.code] ∧ ARdns H v1 o.entry.dn ∧ AAttrs H v2 o.entry.attrs ∧ (Lit.int .i64 o.code).wf = true := by
 constructor
 ·intro h
  obtain ⟨us, hu, h⟩ := At_st.1 h
  cases hu
  obtain ⟨c1, c2, u1, us1, rfl, hu, h1, h⟩ := Ats_cons.1 h
  cases hu
  obtain ⟨c3, c4, u2, us2, rfl, hu, h2, h⟩ := Ats_cons.1 h
  cases hu
  obtain ⟨rfl, _⟩ := Ats_nil.1 h
  obtain ⟨v1, v2, rfl, a1, a2⟩ := entry_at.1 h1
  obtain ⟨n, rfl, hn, w⟩ := At_int.1 h2
  cases hn
  exact ⟨v1, v2, rfl, a1, a2, w⟩
 ·rintro ⟨v1, v2, rfl, h1, h2, w⟩
  exact At_st.2 ⟨_, rfl, Ats_cons.2 ⟨[v1, v2], _, _, _, rfl, rfl, entry_at.2 ⟨_, _, rfl, h1, h2⟩, Ats_cons.2 ⟨[_], _, _, _, rfl, rfl, At_int.2 ⟨_, rfl, rfl, w⟩, Ats_nil.2 ⟨rfl, rfl⟩⟩⟩⟩
section
variable {α : Type} {H T : List Ob} {sh : Sh} {f : α → U} {v : V} {l : List α}
theorem ASl.sub (h : ASl H sh f v l) : (v = .slc none 0 ∧ l = []) ∨ ∃ id off own cells, v = .slc (some (id, off)) l.length ∧ H[id]? = some (.mk own sh.size cells) ∧ off + l.length * sh.size ≤ cells.length ∧
  ∀ lo hi, lo ≤ hi → hi ≤ l.length → ASl H sh f (.slc (some (id, off + lo * sh.size)) (hi - lo)) ((l.take hi).drop lo) := by
 have hb := h.bound
 rcases h.sl with ⟨rfl, hl⟩ | ⟨id, off, own, cells, rfl, h2, h3, h4⟩
 ·exact .inl ⟨rfl, by simpa using hl⟩
 ·rw [List.length_map] at h3 ⊢
  refine .inr ⟨id, off, own, cells, rfl, h2, h3, fun lo hi h5 h6 => ?_⟩
  have hlen : ((l.take hi).drop lo).length = hi - lo := by simp; omega
  have hm : lo * sh.size + (hi - lo) * sh.size ≤ l.length * sh.size := by rw [← Nat.add_mul]; exact Nat.mul_le_mul_right _ (by omega)
  refine At_slice.2 ⟨_, _, rfl, rfl, by simp; omega, .inr ⟨id, off + lo * sh.size, own, cells, by rw [List.length_map, hlen], h2, by rw [List.length_map, hlen]; omega, fun i x hx => ?_⟩⟩
  rw [List.getElem?_map, List.getElem?_drop] at hx
  have hi2 : lo + i < hi := by
   rcases Nat.lt_or_ge (lo + i) hi with hh | hh
   ·exact hh
   ·rw [List.getElem?_eq_none (by simp; omega)] at hx; cases hx
  rw [List.getElem?_take_of_lt hi2] at hx
  have := h4 (lo + i) x (by rw [List.getElem?_map]; exact hx)
  rw [Nat.add_mul] at this
  rwa [show off + lo * sh.size + i * sh.size = off + (lo * sh.size + i * sh.size) by omega]
end
section
variable {H G : List Ob} {v : V} {cs : List V}
theorem Gs.low {B : List Ob} (h : Gs G B v cs) (hG : ∃ T, G = H ++ T) : Gs H B v cs := by
 obtain ⟨T, id, rfl, h1, h2, h3⟩ := h
 obtain ⟨S, rfl⟩ := hG
 exact ⟨S ++ T, id, by simp, by simp at h1; omega, h2, h3⟩
theorem Gs.grow (h : Gs H G v cs) (T : List Ob) : Gs H (G ++ T) v cs := by
 obtain ⟨S, id, rfl, h1, h2, h3⟩ := h
 exact ⟨S ++ T, id, by simp, h1, up_append _ _ h2, h3⟩
theorem Gs.many (h : Gs H G v cs) {x : V} {xs : List V} {z : List V} {d : LD} {b : Nat} (hx : newCells ⟨d, 1, b, z⟩ G x = some (xs, xs.length)) (ho : xs.all isOne = true) (hb : (cs.length + xs.length) * b ≤ maxMade) (hb0 : 0 < b) (hb1 : b ≤ 1000000) (hz : z.length = 1) :
  ∃ v' G', appendV ⟨d, 1, b, z⟩ G v x = some (v', G') ∧ Gs H G' v' (cs ++ xs) := by
 obtain ⟨T, id, rfl, h1, h2, rfl⟩ := h
 by_cases hm : xs.length = 0
 ·have hx0 : xs = [] := List.length_eq_zero_iff.1 hm
  subst hx0
  refine ⟨.slc (some (id, 0)) cs.length, H ++ T, ?_, ⟨T, id, rfl, h1, by simpa using h2, by simp⟩⟩
  unfold appendV
  rw [if_pos (by simp [growOk, hb0, hb1, hz]), hx]
  simp
 ·refine ⟨_, _, appendV_row (n := cs.length) hz (by decide) hb0 hb1 h2 (by simp) hx hm ho hb, ⟨T.set (id - H.length) .dead ++ [.mk true 1 (cs ++ xs)], (H ++ T).length, ?_, by simp, ?_, by simp⟩⟩
  ·rw [List.set_append_right _ _ h1, List.append_assoc]
  ·have hl : ((H ++ T).set id .dead).length = (H ++ T).length := List.length_set
   rw [← hl, get_last]
theorem Gs.new {l : List Str} (h : Gs H G v (l.map V.str)) (hl : l.length ≤ maxLen) (hs : ∀ s ∈ l, s.length ≤ maxLen) : New H.length G.length G (.slice .str) [v] (.lst (l.map strU)) := by
 obtain ⟨_, id, h1, h2⟩ := h.strs hl hs
 exact New.inG (e := id + 1) ⟨[id], h1, by simp, by simp; exact h2⟩
end
theorem AStrs.max {H : List Ob} {v : V} {l : List Str} (h : AStrs H v l) : ∀ s ∈ l, s.length ≤ maxLen := fun s hs => by
 obtain ⟨j, hj, rfl⟩ := List.getElem_of_mem hs
 obtain ⟨_, _, _, _, h⟩ := strs_idx h (List.getElem?_eq_getElem hj)
 exact h
theorem attrs_idxT {H : List Ob} {v : V} {xs : List PAttr} (h : AAttrs H v xs) {i : Nat} {x : PAttr} (hx : xs[i]? = some x) : ∃ id o w,
  (∀ (e s b : Nat) (z : List V) (ty : Nat → LT) (k : IntKind), (ty e).size = 2 → indexR ⟨.slice e, s, b, z⟩ ty (.val v) (.int k i) = some (.val (.ptr (some (id, o))))) ∧
  (∀ G : List Ob, (∃ T', G = H ++ T') → (∀ T : LT, T.one → ∀ r c, loadAt T ⟨r, c, G⟩ (.hp id o) = some (.str x.name)) ∧ (∀ T : LT, T.one → ∀ r c, loadAt T ⟨r, c, G⟩ (.hp id (o + 1)) = some w) ∧
   (∀ T : LT, T.many 2 → ∀ r c, loadAt T ⟨r, c, G⟩ (.hp id o) = some (.agg [.str x.name, w]))) ∧ AStrs H w x.vals ∧ x.name.length ≤ maxLen ∧ id < H.length ∧ At H shAttr [.str x.name, w] x.u := by
 obtain ⟨id, o, own, cells, e1, e2, e3, e4⟩ := ASl.idx h hx (by decide)
 have e6 := e4
 obtain ⟨w, e4, e7, e5⟩ := attr_at.1 e4
 rw [e4] at e6
 refine ⟨id, o, w, e1, ?_, e5, e7, (List.getElem?_eq_some_iff.1 e2).1, e6⟩
 rintro G ⟨T', rfl⟩
 have e2' := up_append (T := T') _ _ e2
 exact ⟨load1 e2' (by simpa using cells_get e4 (j := 0) rfl), load1 e2' (by simpa using cells_get e4 (j := 1) rfl), loadN e2' e3 (by decide) e4⟩
theorem Keep_ext {n : Nat} {H A B : List Ob} (h : n ≤ H.length) : Keep n (H ++ A) (H ++ B) := fun id hid => by rw [List.getElem?_append_left (by omega), List.getElem?_append_left (by omega)]
def LstF {α : Type} (B G : List Ob) (sh : Sh) (f : α → U) (v : V) (l : List α) : Prop := (∃ T, G = B ++ T) ∧ ((v = .slc none 0 ∧ l = []) ∨ ∃ (id : Nat) (cs : List V) (Fs : List (List Nat)), B.length ≤ id ∧ G[id]? = some (.mk true sh.size cs) ∧ v = .slc (some (id, 0)) l.length ∧
 cs.length = l.length * sh.size ∧ Fs.length = l.length ∧ (∀ i x F, l[i]? = some x → Fs[i]? = some F → AtF G sh ((cs.drop (i * sh.size)).take sh.size) (f x) F) ∧ Fs.flatten.Nodup ∧ ∀ q ∈ Fs.flatten, B.length ≤ q ∧ q ≠ id ∧ q < G.length)
section
variable {α : Type} {B G T : List Ob} {sh : Sh} {f : α → U} {v : V} {l : List α}
theorem LstF.nil : LstF B B sh f (.slc none 0) [] := ⟨⟨[], by simp⟩, .inl ⟨rfl, rfl⟩⟩
theorem LstF.init : LstF B (B ++ [.mk true sh.size []]) sh f (.slc (some (B.length, 0)) 0) [] :=
 ⟨⟨_, rfl⟩, .inr ⟨B.length, [], [], Nat.le_refl _, by simp, rfl, by simp, rfl, fun i x F h => by simp at h, by simp, by simp⟩⟩
theorem LstF.pre (h : LstF B G sh f v l) : ∃ T, G = B ++ T := h.1
theorem LstF.ext (h : LstF B G sh f v l) : LstF B (G ++ T) sh f v l := by
 obtain ⟨⟨S, hS⟩, h⟩ := h
 refine ⟨⟨S ++ T, by rw [hS, List.append_assoc]⟩, ?_⟩
 rcases h with h | ⟨id, cs, Fs, h1, h2, h3, h4, h5, h6, h7, h8⟩
 ·exact .inl h
 ·exact .inr ⟨id, cs, Fs, h1, up_append _ _ h2, h3, h4, h5, fun i x F hx hF => (h6 i x F hx hF).ext, h7, fun q hq => by have := h8 q hq; simp; omega⟩
theorem LstF.one (h : LstF B G sh f v l) : isOne v = true ∧ cellsOf v = some [v] := by
 obtain ⟨_, ⟨rfl, _⟩ | ⟨id, cs, Fs, _, _, rfl, _⟩⟩ := h <;> exact ⟨rfl, rfl⟩
theorem LstF.len (h : LstF B G sh f v l) {e s b : Nat} {z : List V} : lenV ⟨.slice e, s, b, z⟩ v = some (.int .i64 l.length) := by
 obtain ⟨_, ⟨rfl, rfl⟩ | ⟨id, cs, Fs, _, _, rfl, _⟩⟩ := h <;> rfl
theorem LstF.new (h : LstF B G sh f v l) (hl : l.length ≤ maxLen) : New B.length G.length G (.slice sh) [v] (.lst (l.map f)) := by
 obtain ⟨_, ⟨rfl, rfl⟩ | ⟨id, cs, Fs, h1, h2, rfl, h4, h5, h6, h7, h8⟩⟩ := h
 ·exact New.nil
 ·refine ⟨id :: Fs.flatten, AtF_slice.2 ⟨_, _, rfl, rfl, by simpa using hl, .inr ⟨id, 0, cs, Fs, by simp, h2, by simp; omega, by simpa using h5, rfl, fun i x F hx hF => ?_⟩⟩, ?_, fun q hq => ?_⟩
  ·rw [List.getElem?_map] at hx
   obtain ⟨y, hy, rfl⟩ := Option.map_eq_some_iff.1 hx
   rw [Nat.zero_add]
   exact h6 i y F hy hF
  ·exact List.nodup_cons.2 ⟨fun hm => (h8 id hm).2.1 rfl, h7⟩
  ·rcases List.mem_cons.1 hq with rfl | hq
   ·exact ⟨h1, (List.getElem?_eq_some_iff.1 h2).1⟩
   ·have := h8 q hq; omega
theorem LstF.at (h : LstF B G sh f v l) (hl : l.length ≤ maxLen) : ASl G sh f v l := (h.new hl).at
theorem LstF.push {d : LD} {sz by_ e : Nat} {z : List V} (h : LstF B G sh f v l) {x : α} {c : List V} (hx : New G.length e (G ++ T) sh c (f x)) (hs : sz = sh.size) (hz : z.length = sz) (h0 : 0 < sz) (hb0 : 0 < by_) (hb1 : by_ ≤ 1000000) (hb : (l.length + 1) * by_ ≤ maxMade) :
  ∃ v' G', appendV ⟨d, sz, by_, z⟩ (G ++ T ++ [.mk true sz c]) v (.slc (some ((G ++ T).length, 0)) 1) = some (v', G') ∧ LstF B G' sh f v' (l ++ [x]) ∧ c.length = sz ∧ c.all isOne = true := by
 obtain ⟨S, hS⟩ := h.1
 obtain ⟨F, f1, f2, f3⟩ := hx
 have hat : At (G ++ T) sh c (f x) := AtF.at _ f1
 have hcl : c.length = sz := by rw [hs]; exact At.len _ hat
 have hco := At.ones _ hat
 subst hcl
 have hnew := newCells_tmp (d := d) (by_ := by_) (z := z) (G := G ++ T) (es := c.length) h0
 have hFl : ∀ q ∈ F, q < (G ++ T).length := AtF.mem _ f1
 obtain ⟨_, ⟨rfl, rfl⟩ | ⟨id, cs, Fs, h1, h2, rfl, h4, h5, h6, h7, h8⟩⟩ := h
 ·refine ⟨_, _, appendV_nil hz h0 hb0 hb1 hnew (by decide) hco (by simpa using hb), ⟨⟨_, by rw [hS, List.append_assoc, List.append_assoc, List.append_assoc]⟩, .inr ⟨_, c, [F], ?_, get_last.trans (by rw [hs]), by simp, by simp [hs], by simp, fun i y K hy hK => ?_, by simpa using f2, fun q hq => ?_⟩⟩, rfl, hco⟩
  ·simp [hS]
  ·have : i = 0 := by
    have := (List.getElem?_eq_some_iff.1 hy).1
    simp at this; omega
   subst this
   cases hy
   cases hK
   rw [Nat.zero_mul, List.drop_zero, List.take_of_length_le (by omega)]
   exact f1.ext.ext
  ·simp at hq
   have e1 := hFl q hq
   have e2 := f3 q hq
   simp at e1
   simp [hS] at e2 e1 ⊢
   omega
 ·have hid := (List.getElem?_eq_some_iff.1 h2).1
  have h2' : (G ++ T ++ [Ob.mk true c.length c])[id]? = some (.mk true c.length cs) := by rw [List.append_assoc, up_append _ _ h2, hs]
  have hlen : (G ++ T ++ [Ob.mk true c.length c]).length = ((G ++ T ++ [Ob.mk true c.length c]).set id .dead).length := List.length_set.symm
  have hfr : ∀ q, q ≠ id → q < (G ++ T ++ [Ob.mk true c.length c]).length → ((G ++ T ++ [Ob.mk true c.length c]).set id .dead ++ [Ob.mk true c.length (cs ++ c)])[q]? = (G ++ T ++ [Ob.mk true c.length c])[q]? := fun q hq hql => by
   rw [List.getElem?_append_left (by rw [← hlen]; exact hql), List.getElem?_set_ne (fun e => hq e.symm)]
  refine ⟨_, _, appendV_row hz h0 hb0 hb1 h2' (by rw [h4, hs]) hnew (by decide) hco hb, ⟨?_, .inr ⟨(G ++ T ++ [Ob.mk true c.length c]).length, cs ++ c, Fs ++ [F], by simp [hS], ?_, by simp, by simp [h4, hs, Nat.add_mul], by simp [h5], fun i y K hy hK => ?_, ?_, ?_⟩⟩, rfl, hco⟩
  ·rw [hS, List.append_assoc, List.append_assoc, List.set_append_right _ _ h1, List.append_assoc]
   exact ⟨_, rfl⟩
  ·rw [hlen, get_last, hs]
  ·have key := row_snoc (n := l.length) (s := sh.size) (cs := cs) (c := c) (by rw [h4]) hs (P := fun i cc => ∀ y K, (l ++ [x])[i]? = some y → (Fs ++ [F])[i]? = some K → AtF ((G ++ T ++ [Ob.mk true c.length c]).set id .dead ++ [Ob.mk true c.length (cs ++ c)]) sh cc (f y) K) (fun i hi y K hy hK => by
     rw [List.getElem?_append_left hi] at hy
     rw [List.getElem?_append_left (by omega)] at hK
     refine AtF.frame _ (fun q hq => ?_) (((h6 i y K hy hK).ext (T := T)).ext (T := [Ob.mk true c.length c]))
     have h9 := h8 q (List.mem_flatten.2 ⟨K, List.mem_of_getElem? hK, hq⟩)
     exact hfr q h9.2.1 (by simp; omega)) (fun y K hy hK => by
     simp at hy
     subst hy
     rw [List.getElem?_append_right (by omega), h5, Nat.sub_self] at hK
     cases hK
     refine AtF.frame _ (fun q hq => ?_) (f1.ext (T := [Ob.mk true c.length c]))
     have e1 := hFl q hq
     have e2 := f3 q hq
     exact hfr q (by omega) (by simp at e1 ⊢; omega))
   have hi : i < l.length + 1 := by
    have := (List.getElem?_eq_some_iff.1 hy).1
    simpa using this
   exact key i hi y K hy hK
  ·rw [List.flatten_append, List.nodup_append]
   refine ⟨h7, by simpa using f2, fun a ha b hb hab => ?_⟩
   subst hab
   simp at hb
   have e1 := h8 a ha
   have e2 := f3 a hb
   omega
  ·intro q hq
   rw [List.flatten_append] at hq
   rcases List.mem_append.1 hq with hq | hq
   ·have := h8 q hq
    simp
    omega
   ·simp at hq
    have e1 := hFl q hq
    have e2 := f3 q hq
    simp [hS] at e1 e2 ⊢
    omega
end
theorem gcH_not {H G : List Ob} {r : V} (h : ¬ lowV H r) : gcH H G r = G := by
 unfold gcH
 rw [if_neg fun h' => h h'.2]
abbrev shNode : Sh := .st [.int .i64, .str, .str, .int .i64]
structure PNode where
 op : Int
 attr : Str
 value : Str
 many : Int
def PNode.u (n : PNode) : U := .st [.int n.op, .str n.attr, .str n.value, .int n.many]
abbrev PNode.cs (n : PNode) : List V := [.int .i64 n.op, .str n.attr, .str n.value, .int .i64 n.many]
abbrev ANodes (H : List Ob) (v : V) (l : List PNode) : Prop := ASl H shNode PNode.u v l
section
variable {H : List Ob} {v : V}
theorem ASl.drop {α : Type} {sh : Sh} {f : α → U} {l : List α} (h : ASl H sh f v l) {k : Nat} (hk : k ≤ l.length) (h0 : 0 < l.length) :
  ∃ id off own cells, v = .slc (some (id, off)) l.length ∧ H[id]? = some (.mk own sh.size cells) ∧ ASl H sh f (.slc (some (id, off + k * sh.size)) (l.length - k)) (l.drop k) := by
 have hb := h.bound
 rcases h.sl with ⟨rfl, h1⟩ | ⟨id, off, own, cells, rfl, h2, h3, h4⟩
 ·have : l = [] := by simpa using h1
  subst this
  simp at h0
 ·rw [List.length_map] at h3 ⊢
  refine ⟨id, off, own, cells, rfl, h2, ?_⟩
  refine At_slice.2 ⟨_, _, rfl, rfl, by simp; omega, .inr ⟨id, off + k * sh.size, own, cells, by simp, h2, ?_, fun i x hx => ?_⟩⟩
  ·rw [List.length_map, List.length_drop, Nat.add_assoc, ← Nat.add_mul]
   rw [show k + (l.length - k) = l.length by omega]
   exact h3
  ·have := h4 (k + i) x (by rw [List.getElem?_map] at hx ⊢; rw [List.getElem?_drop] at hx; exact hx)
   rw [Nat.add_assoc, ← Nat.add_mul]
   exact this
end
abbrev shPart : Sh := .st [.int .i64, .str, .int .i64]
structure PPart where
 op : Int
 text : Str
 n : Int
def PPart.u (n : PPart) : U := .st [.int n.op, .str n.text, .int n.n]
abbrev PPart.cs (n : PPart) : List V := [.int .i64 n.op, .str n.text, .int .i64 n.n]
abbrev AParts (H : List Ob) (v : V) (l : List PPart) : Prop := ASl H shPart PPart.u v l
section
variable {H : List Ob} {v : V}
end
def PPart.many (p : PPart) : Nat := if p.op = 3 ∨ p.op = 4 ∨ p.op = 7 then 1 else if p.op = 5 ∨ p.op = 6 then 2 else 0
theorem wf_nat {n : Nat} (h : n ≤ 100000000) : (Lit.int .i64 (n : Int)).wf = true := by
 have e1 : IntKind.i64.min = -9223372036854775808 := by decide
 have e2 : IntKind.i64.max = 9223372036854775807 := by decide
 simp [Lit.wf, e1, e2]
 omega
structure PFlow where
 base : List PRdn
 filter : List PNode
 login : List PPart
 mail : List PPart
 phone : List PPart
 back : Bool
def PFlow.u (f : PFlow) : U := .st [.lst (f.base.map PRdn.u), .lst (f.filter.map PNode.u), .lst (f.login.map PPart.u), .lst (f.mail.map PPart.u), .lst (f.phone.map PPart.u), .bool f.back]
section
variable {H : List Ob}
end
structure PMod where
 kind : Int
 attr : Str
 vals : List Str
def PMod.u (m : PMod) : U := .st [.int m.kind, .str m.attr, .lst (m.vals.map strU)]
section
variable {H : List Ob} {v : V}
end
end Go.Lite
end
section
namespace Go.Proofs.Try1
open Go Go.Lite
theorem DW : dB 124 shRdn := by
 intro H cs u left h hleft
 replace h := At_st.1 h
 obtain ⟨us, rfl, h⟩ := h
 replace h := Ats_cons.1 h
 obtain ⟨c0, d0, u0, rr0, rfl, rfl, h0, h⟩ := h
 replace h := Ats_cons.1 h
 obtain ⟨c1, d1, u1, rr1, rfl, rfl, h1, h⟩ := h
 replace h := Ats_nil.1 h
 obtain ⟨rfl, rfl⟩ := h
 replace h0 := At_str.1 h0
 obtain ⟨s0, rfl, rfl, w0⟩ := h0
 replace h1 := At_str.1 h1
 obtain ⟨s1, rfl, rfl, w1⟩ := h1
 by_cases g0 : s0.length ≤ left
 rotate_left
 ·have q0 : IntKind.i64.wrap (((left : Nat) : Int) - s0.length) = ((left : Nat) : Int) - s0.length := wrap_i64 (by have : s0.length ≤ 9223372036854775807 := w0; omega) (by omega)
  have p0 : ((left : Nat) : Int) - s0.length < 0 := by omega
  have hT : ¬ wt (U.st [(.str s0), (.str s1)]) ≤ left := by first | (simp only [wt_st, wts_cons, wts_nil, wt_str, wt_int, wt_bool]; omega) | (simp only [wt_st, wts_cons, wts_nil, wt_str, wt_int, wt_bool] at *; omega)
  rw [if_neg hT]
  apply Ret.eq
  rw [wR]
  simp [gW, Tryz.f124, valC, q0, p0]
 have q0 : IntKind.i64.wrap (((left : Nat) : Int) - s0.length) = ((left - s0.length : Nat) : Int) := by rw [wrap_i64 (by omega) (by omega)]; omega
 have p0 : ¬ (((left - s0.length : Nat) : Int) < 0) := by omega
 by_cases g1 : s1.length ≤ left - s0.length
 rotate_left
 ·have q1 : IntKind.i64.wrap (((left - s0.length : Nat) : Int) - s1.length) = ((left - s0.length : Nat) : Int) - s1.length := wrap_i64 (by have : s1.length ≤ 9223372036854775807 := w1; omega) (by omega)
  have p1 : ((left - s0.length : Nat) : Int) - s1.length < 0 := by omega
  have hT : ¬ wt (U.st [(.str s0), (.str s1)]) ≤ left := by first | (simp only [wt_st, wts_cons, wts_nil, wt_str, wt_int, wt_bool]; omega) | (simp only [wt_st, wts_cons, wts_nil, wt_str, wt_int, wt_bool] at *; omega)
  rw [if_neg hT]
  apply Ret.eq
  rw [wR]
  simp [gW, Tryz.f124, valC, q0, p0, q1, p1]
 have q1 : IntKind.i64.wrap (((left - s0.length : Nat) : Int) - s1.length) = ((left - s0.length - s1.length : Nat) : Int) := by rw [wrap_i64 (by omega) (by omega)]; omega
 have p1 : ¬ (((left - s0.length - s1.length : Nat) : Int) < 0) := by omega
 have hT : wt (U.st [(.str s0), (.str s1)]) ≤ left := by first | (simp only [wt_st, wts_cons, wts_nil, wt_str, wt_int, wt_bool]; omega) | (simp only [wt_st, wts_cons, wts_nil, wt_str, wt_int, wt_bool] at *; omega)
 have hE : left - wt (U.st [(.str s0), (.str s1)]) = left - s0.length - s1.length := by first | (simp only [wt_st, wts_cons, wts_nil, wt_str, wt_int, wt_bool]; omega) | (simp only [wt_st, wts_cons, wts_nil, wt_str, wt_int, wt_bool] at *; omega)
 rw [if_pos hT, hE]
 apply Ret.eq
 rw [wR]
 simp [gW, Tryz.f124, valC, q0, p0, q1, p1]
theorem rD : dB 53 (.slice shRdn) :=
 jU (f := 53) (g := 124) (tS := 47) (tE := 180) (F := Tryz.f53) (op_ren (c := je) (by kernel_rfl) QN) rfl FT (by rw [kC]; rfl) (by rw [kC]; rfl) (by rw [kC]; decide) DW
theorem AB : dB 282 shAttr := by
 intro H cs u left h hleft
 replace h := At_st.1 h
 obtain ⟨us, rfl, h⟩ := h
 replace h := Ats_cons.1 h
 obtain ⟨c0, d0, u0, rr0, rfl, rfl, h0, h⟩ := h
 replace h := Ats_cons.1 h
 obtain ⟨c1, d1, u1, rr1, rfl, rfl, h1, h⟩ := h
 replace h := Ats_nil.1 h
 obtain ⟨rfl, rfl⟩ := h
 replace h0 := At_str.1 h0
 obtain ⟨s0, rfl, rfl, w0⟩ := h0
 have k1 := h1
 replace h1 := At_slice.1 h1
 obtain ⟨v1, l1, rfl, rfl, w1, hv1⟩ := h1
 have o1 := hv1.one
 by_cases g0 : s0.length ≤ left
 rotate_left
 ·have q0 : IntKind.i64.wrap (((left : Nat) : Int) - s0.length) = ((left : Nat) : Int) - s0.length := wrap_i64 (by have : s0.length ≤ 9223372036854775807 := w0; omega) (by omega)
  have p0 : ((left : Nat) : Int) - s0.length < 0 := by omega
  have hT : ¬ wt (U.st [(.str s0), (.lst l1)]) ≤ left := by first | (simp only [wt_st, wts_cons, wts_nil, wt_str, wt_int, wt_bool]; omega) | (simp only [wt_st, wts_cons, wts_nil, wt_str, wt_int, wt_bool] at *; omega)
  rw [if_neg hT]
  apply Ret.eq
  rw [wM]
  simp [iL, Tryz.f282, valC, q0, p0, o1]
 have q0 : IntKind.i64.wrap (((left : Nat) : Int) - s0.length) = ((left - s0.length : Nat) : Int) := by rw [wrap_i64 (by omega) (by omega)]; omega
 have p0 : ¬ (((left - s0.length : Nat) : Int) < 0) := by omega
 have q1 := bF H _ _ (left - s0.length) k1 (by omega)
 simp only [valC, List.headD_cons, List.append_nil, List.cons_append, List.nil_append] at q1
 by_cases g1 : wt (.lst l1) ≤ left - s0.length
 rotate_left
 ·rw [if_neg g1] at q1
  have hT : ¬ wt (U.st [(.str s0), (.lst l1)]) ≤ left := by first | (simp only [wt_st, wts_cons, wts_nil, wt_str, wt_int, wt_bool]; omega) | (simp only [wt_st, wts_cons, wts_nil, wt_str, wt_int, wt_bool] at *; omega)
  rw [if_neg hT]
  apply Ret.eq
  rw [wM]
  simp [iL, Tryz.f282, valC, q0, p0, q1, o1]
 rw [if_pos g1] at q1
 have p1 : ¬ (((left - s0.length - wt (.lst l1) : Nat) : Int) < 0) := by omega
 have hT : wt (U.st [(.str s0), (.lst l1)]) ≤ left := by first | (simp only [wt_st, wts_cons, wts_nil, wt_str, wt_int, wt_bool]; omega) | (simp only [wt_st, wts_cons, wts_nil, wt_str, wt_int, wt_bool] at *; omega)
 have hE : left - wt (U.st [(.str s0), (.lst l1)]) = left - s0.length - wt (.lst l1) := by first | (simp only [wt_st, wts_cons, wts_nil, wt_str, wt_int, wt_bool]; omega) | (simp only [wt_st, wts_cons, wts_nil, wt_str, wt_int, wt_bool] at *; omega)
 rw [if_pos hT, hE]
 apply Ret.eq
 rw [wM]
 simp [iL, Tryz.f282, valC, q0, p0, q1, p1, o1]
theorem wW : dB 216 (.slice shAttr) :=
 jU (f := 216) (g := 282) (tS := 191) (tE := 323) (F := Tryz.f216) (op_ren (c := qC) (by kernel_rfl) EE) rfl CE (by rw [jS]; rfl) (by rw [jS]; rfl) (by rw [jS]; decide) AB
theorem mi : dB 128 shEntry := by
 intro H cs u left h hleft
 replace h := At_st.1 h
 obtain ⟨us, rfl, h⟩ := h
 replace h := Ats_cons.1 h
 obtain ⟨c0, d0, u0, rr0, rfl, rfl, h0, h⟩ := h
 replace h := Ats_cons.1 h
 obtain ⟨c1, d1, u1, rr1, rfl, rfl, h1, h⟩ := h
 replace h := Ats_nil.1 h
 obtain ⟨rfl, rfl⟩ := h
 have k0 := h0
 replace h0 := At_slice.1 h0
 obtain ⟨v0, l0, rfl, rfl, w0, hv0⟩ := h0
 have o0 := hv0.one
 have k1 := h1
 replace h1 := At_slice.1 h1
 obtain ⟨v1, l1, rfl, rfl, w1, hv1⟩ := h1
 have o1 := hv1.one
 have q0 := rD H _ _ (left) k0 (by omega)
 simp only [valC, List.headD_cons, List.append_nil, List.cons_append, List.nil_append] at q0
 by_cases g0 : wt (.lst l0) ≤ left
 rotate_left
 ·rw [if_neg g0] at q0
  have hT : ¬ wt (U.st [(.lst l0), (.lst l1)]) ≤ left := by first | (simp only [wt_st, wts_cons, wts_nil, wt_str, wt_int, wt_bool]; omega) | (simp only [wt_st, wts_cons, wts_nil, wt_str, wt_int, wt_bool] at *; omega)
  rw [if_neg hT]
  apply Ret.eq
  rw [yS]
  simp [iG, Tryz.f128, valC, q0, o0, o1]
 rw [if_pos g0] at q0
 have p0 : ¬ (((left - wt (.lst l0) : Nat) : Int) < 0) := by omega
 have q1 := wW H _ _ (left - wt (.lst l0)) k1 (by omega)
 simp only [valC, List.headD_cons, List.append_nil, List.cons_append, List.nil_append] at q1
 by_cases g1 : wt (.lst l1) ≤ left - wt (.lst l0)
 rotate_left
 ·rw [if_neg g1] at q1
  have hT : ¬ wt (U.st [(.lst l0), (.lst l1)]) ≤ left := by first | (simp only [wt_st, wts_cons, wts_nil, wt_str, wt_int, wt_bool]; omega) | (simp only [wt_st, wts_cons, wts_nil, wt_str, wt_int, wt_bool] at *; omega)
  rw [if_neg hT]
  apply Ret.eq
  rw [yS]
  simp [iG, Tryz.f128, valC, q0, p0, q1, o0, o1]
 rw [if_pos g1] at q1
 have p1 : ¬ (((left - wt (.lst l0) - wt (.lst l1) : Nat) : Int) < 0) := by omega
 have hT : wt (U.st [(.lst l0), (.lst l1)]) ≤ left := by first | (simp only [wt_st, wts_cons, wts_nil, wt_str, wt_int, wt_bool]; omega) | (simp only [wt_st, wts_cons, wts_nil, wt_str, wt_int, wt_bool] at *; omega)
 have hE : left - wt (U.st [(.lst l0), (.lst l1)]) = left - wt (.lst l0) - wt (.lst l1) := by first | (simp only [wt_st, wts_cons, wts_nil, wt_str, wt_int, wt_bool]; omega) | (simp only [wt_st, wts_cons, wts_nil, wt_str, wt_int, wt_bool] at *; omega)
 rw [if_pos hT, hE]
 apply Ret.eq
 rw [yS]
 simp [iG, Tryz.f128, valC, q0, p0, q1, p1, o0, o1]
theorem vz : dB 57 (.slice shEntry) :=
 jU (f := 57) (g := 128) (tS := 23) (tE := 193) (F := Tryz.f57) (op_ren (c := yg) (by kernel_rfl) O5) rfl Ee (by rw [jM]; rfl) (by rw [jM]; rfl) (by rw [jM]; decide) mi
theorem xO : dB 127 shClass := by
 intro H cs u left h hleft
 replace h := At_st.1 h
 obtain ⟨us, rfl, h⟩ := h
 replace h := Ats_cons.1 h
 obtain ⟨c0, d0, u0, rr0, rfl, rfl, h0, h⟩ := h
 replace h := Ats_cons.1 h
 obtain ⟨c1, d1, u1, rr1, rfl, rfl, h1, h⟩ := h
 replace h := Ats_cons.1 h
 obtain ⟨c2, d2, u2, rr2, rfl, rfl, h2, h⟩ := h
 replace h := Ats_cons.1 h
 obtain ⟨c3, d3, u3, rr3, rfl, rfl, h3, h⟩ := h
 replace h := Ats_nil.1 h
 obtain ⟨rfl, rfl⟩ := h
 replace h0 := At_str.1 h0
 obtain ⟨s0, rfl, rfl, w0⟩ := h0
 have k1 := h1
 replace h1 := At_slice.1 h1
 obtain ⟨v1, l1, rfl, rfl, w1, hv1⟩ := h1
 have o1 := hv1.one
 have k2 := h2
 replace h2 := At_slice.1 h2
 obtain ⟨v2, l2, rfl, rfl, w2, hv2⟩ := h2
 have o2 := hv2.one
 have k3 := h3
 replace h3 := At_slice.1 h3
 obtain ⟨v3, l3, rfl, rfl, w3, hv3⟩ := h3
 have o3 := hv3.one
 by_cases g0 : s0.length ≤ left
 rotate_left
 ·have q0 : IntKind.i64.wrap (((left : Nat) : Int) - s0.length) = ((left : Nat) : Int) - s0.length := wrap_i64 (by have : s0.length ≤ 9223372036854775807 := w0; omega) (by omega)
  have p0 : ((left : Nat) : Int) - s0.length < 0 := by omega
  have hT : ¬ wt (U.st [(.str s0), (.lst l1), (.lst l2), (.lst l3)]) ≤ left := by first | (simp only [wt_st, wts_cons, wts_nil, wt_str, wt_int, wt_bool]; omega) | (simp only [wt_st, wts_cons, wts_nil, wt_str, wt_int, wt_bool] at *; omega)
  rw [if_neg hT]
  apply Ret.eq
  rw [mJ]
  simp [dM, Tryz.f127, valC, q0, p0, o1, o2, o3]
 have q0 : IntKind.i64.wrap (((left : Nat) : Int) - s0.length) = ((left - s0.length : Nat) : Int) := by rw [wrap_i64 (by omega) (by omega)]; omega
 have p0 : ¬ (((left - s0.length : Nat) : Int) < 0) := by omega
 have q1 := bF H _ _ (left - s0.length) k1 (by omega)
 simp only [valC, List.headD_cons, List.append_nil, List.cons_append, List.nil_append] at q1
 by_cases g1 : wt (.lst l1) ≤ left - s0.length
 rotate_left
 ·rw [if_neg g1] at q1
  have hT : ¬ wt (U.st [(.str s0), (.lst l1), (.lst l2), (.lst l3)]) ≤ left := by first | (simp only [wt_st, wts_cons, wts_nil, wt_str, wt_int, wt_bool]; omega) | (simp only [wt_st, wts_cons, wts_nil, wt_str, wt_int, wt_bool] at *; omega)
  rw [if_neg hT]
  apply Ret.eq
  rw [mJ]
  simp [dM, Tryz.f127, valC, q0, p0, q1, o1, o2, o3]
 rw [if_pos g1] at q1
 have p1 : ¬ (((left - s0.length - wt (.lst l1) : Nat) : Int) < 0) := by omega
 have q2 := bF H _ _ (left - s0.length - wt (.lst l1)) k2 (by omega)
 simp only [valC, List.headD_cons, List.append_nil, List.cons_append, List.nil_append] at q2
 by_cases g2 : wt (.lst l2) ≤ left - s0.length - wt (.lst l1)
 rotate_left
 ·rw [if_neg g2] at q2
  have hT : ¬ wt (U.st [(.str s0), (.lst l1), (.lst l2), (.lst l3)]) ≤ left := by first | (simp only [wt_st, wts_cons, wts_nil, wt_str, wt_int, wt_bool]; omega) | (simp only [wt_st, wts_cons, wts_nil, wt_str, wt_int, wt_bool] at *; omega)
  rw [if_neg hT]
  apply Ret.eq
  rw [mJ]
  simp [dM, Tryz.f127, valC, q0, p0, q1, p1, q2, o1, o2, o3]
 rw [if_pos g2] at q2
 have p2 : ¬ (((left - s0.length - wt (.lst l1) - wt (.lst l2) : Nat) : Int) < 0) := by omega
 have q3 := bF H _ _ (left - s0.length - wt (.lst l1) - wt (.lst l2)) k3 (by omega)
 simp only [valC, List.headD_cons, List.append_nil, List.cons_append, List.nil_append] at q3
 by_cases g3 : wt (.lst l3) ≤ left - s0.length - wt (.lst l1) - wt (.lst l2)
 rotate_left
 ·rw [if_neg g3] at q3
  have hT : ¬ wt (U.st [(.str s0), (.lst l1), (.lst l2), (.lst l3)]) ≤ left := by first | (simp only [wt_st, wts_cons, wts_nil, wt_str, wt_int, wt_bool]; omega) | (simp only [wt_st, wts_cons, wts_nil, wt_str, wt_int, wt_bool] at *; omega)
  rw [if_neg hT]
  apply Ret.eq
  rw [mJ]
  simp [dM, Tryz.f127, valC, q0, p0, q1, p1, q2, p2, q3, o1, o2, o3]
 rw [if_pos g3] at q3
 have p3 : ¬ (((left - s0.length - wt (.lst l1) - wt (.lst l2) - wt (.lst l3) : Nat) : Int) < 0) := by omega
 have hT : wt (U.st [(.str s0), (.lst l1), (.lst l2), (.lst l3)]) ≤ left := by first | (simp only [wt_st, wts_cons, wts_nil, wt_str, wt_int, wt_bool]; omega) | (simp only [wt_st, wts_cons, wts_nil, wt_str, wt_int, wt_bool] at *; omega)
 have hE : left - wt (U.st [(.str s0), (.lst l1), (.lst l2), (.lst l3)]) = left - s0.length - wt (.lst l1) - wt (.lst l2) - wt (.lst l3) := by first | (simp only [wt_st, wts_cons, wts_nil, wt_str, wt_int, wt_bool]; omega) | (simp only [wt_st, wts_cons, wts_nil, wt_str, wt_int, wt_bool] at *; omega)
 rw [if_pos hT, hE]
 apply Ret.eq
 rw [mJ]
 simp [dM, Tryz.f127, valC, q0, p0, q1, p1, q2, p2, q3, p3, o1, o2, o3]
theorem vX : dB 56 (.slice shClass) :=
 jU (f := 56) (g := 127) (tS := 22) (tE := 189) (F := Tryz.f56) (op_ren (c := xP) (by kernel_rfl) OG) rfl IE (by rw [ku]; rfl) (by rw [ku]; rfl) (by rw [ku]; decide) xO
theorem zU : dB 14 shTree := by
 intro H cs u left h hleft
 replace h := At_st.1 h
 obtain ⟨us, rfl, h⟩ := h
 replace h := Ats_cons.1 h
 obtain ⟨c0, d0, u0, rr0, rfl, rfl, h0, h⟩ := h
 replace h := Ats_cons.1 h
 obtain ⟨c1, d1, u1, rr1, rfl, rfl, h1, h⟩ := h
 replace h := Ats_nil.1 h
 obtain ⟨rfl, rfl⟩ := h
 have k0 := h0
 replace h0 := At_slice.1 h0
 obtain ⟨v0, l0, rfl, rfl, w0, hv0⟩ := h0
 have o0 := hv0.one
 have k1 := h1
 replace h1 := At_slice.1 h1
 obtain ⟨v1, l1, rfl, rfl, w1, hv1⟩ := h1
 have o1 := hv1.one
 have q0 := vX H _ _ (left) k0 (by omega)
 simp only [valC, List.headD_cons, List.append_nil, List.cons_append, List.nil_append] at q0
 by_cases g0 : wt (.lst l0) ≤ left
 rotate_left
 ·rw [if_neg g0] at q0
  have hT : ¬ wt (U.st [(.lst l0), (.lst l1)]) ≤ left := by first | (simp only [wt_st, wts_cons, wts_nil, wt_str, wt_int, wt_bool]; omega) | (simp only [wt_st, wts_cons, wts_nil, wt_str, wt_int, wt_bool] at *; omega)
  rw [if_neg hT]
  apply Ret.eq
  rw [DF]
  simp [lU, Tryz.f14, valC, q0, o0, o1]
 rw [if_pos g0] at q0
 have p0 : ¬ (((left - wt (.lst l0) : Nat) : Int) < 0) := by omega
 have q1 := vz H _ _ (left - wt (.lst l0)) k1 (by omega)
 simp only [valC, List.headD_cons, List.append_nil, List.cons_append, List.nil_append] at q1
 by_cases g1 : wt (.lst l1) ≤ left - wt (.lst l0)
 rotate_left
 ·rw [if_neg g1] at q1
  have hT : ¬ wt (U.st [(.lst l0), (.lst l1)]) ≤ left := by first | (simp only [wt_st, wts_cons, wts_nil, wt_str, wt_int, wt_bool]; omega) | (simp only [wt_st, wts_cons, wts_nil, wt_str, wt_int, wt_bool] at *; omega)
  rw [if_neg hT]
  apply Ret.eq
  rw [DF]
  simp [lU, Tryz.f14, valC, q0, p0, q1, o0, o1]
 rw [if_pos g1] at q1
 have p1 : ¬ (((left - wt (.lst l0) - wt (.lst l1) : Nat) : Int) < 0) := by omega
 have hT : wt (U.st [(.lst l0), (.lst l1)]) ≤ left := by first | (simp only [wt_st, wts_cons, wts_nil, wt_str, wt_int, wt_bool]; omega) | (simp only [wt_st, wts_cons, wts_nil, wt_str, wt_int, wt_bool] at *; omega)
 have hE : left - wt (U.st [(.lst l0), (.lst l1)]) = left - wt (.lst l0) - wt (.lst l1) := by first | (simp only [wt_st, wts_cons, wts_nil, wt_str, wt_int, wt_bool]; omega) | (simp only [wt_st, wts_cons, wts_nil, wt_str, wt_int, wt_bool] at *; omega)
 rw [if_pos hT, hE]
 apply Ret.eq
 rw [DF]
 simp [lU, Tryz.f14, valC, q0, p0, q1, p1, o0, o1]
def bQ (f : Nat) (sh : Sh) : Prop := ∀ (H : List Ob) (cs ds : List V) (u w : U), At H sh cs u → At H sh ds w →
 ∃ b : Bool, (b = true ↔ u = w) ∧ callW C f [valC sh cs, valC sh ds] H = some (.bool b, H)
theorem Ret.bool {f : Nat} {a : List V} {H : List Ob} {p : Prop} (h : Ret C f a H fun r H' => ∃ b : Bool, (b = true ↔ p) ∧ r = .bool b ∧ H' = H) : ∃ b : Bool, (b = true ↔ p) ∧ callW C f a H = some (.bool b, H) := by
 obtain ⟨r, H', hc, b, hb, rfl, rfl⟩ := h
 exact ⟨b, hb, hc⟩
theorem take_snoc {α : Type} {l m : List α} {i : Nat} {x : α} (h : l.take i = m.take i) (hx : l[i]? = some x) (hy : m[i]? = some x) : l.take (i + 1) = m.take (i + 1) := by
 rw [List.take_add_one, List.take_add_one, h, hx, hy]
theorem xy {α : Type} {l m : List α} {i : Nat} {x y : α} (hx : l[i]? = some x) (hy : m[i]? = some y) (h : ¬ x = y) : ¬ l = m := by
 rintro rfl
 rw [hx] at hy
 exact h (Option.some.inj hy)
theorem bC : bQ 214 (.slice .str) := by
 intro H cs ds u w h h'
 obtain ⟨v, l, rfl, rfl, hlen, hv⟩ := At_slice.1 h
 obtain ⟨v', l', rfl, rfl, hlen', hv'⟩ := At_slice.1 h'
 apply Ret.bool
 rw [FW]
 have hl64 : l.length ≤ 9223372036854775807 := hlen
 by_cases hl : l.length = l'.length
 ·simp [kY, Tryz.f214, valC, hv.len, hv'.len, hl]
  refine WP_loop (fun k σ => ∃ (i : Nat) (r : Nat → R), i + k = l.length ∧ σ = ⟨r, 0, H⟩ ∧ r 0 = .val v ∧ r 1 = .val v' ∧ r 5 = .val (.int .i64 i) ∧ l.take i = l'.take i) ?_ l.length _ ⟨0, _, by simp, rfl, by simp, by simp, by simp, by simp⟩
  rintro k σ ⟨i, r, hik, rfl, r0, r1, r5, heq⟩
  cases k with
  | zero =>
   have hi : i = l'.length := by omega
   subst hi
   have : l = l' := by rwa [← hl, List.take_length, hl, List.take_length] at heq
   simp [r0, r1, r5, hv.len, hl, this]
  | succ k =>
   have hi : i < l.length := by omega
   have hi' : i < l'.length := by omega
   obtain ⟨x, hx⟩ : ∃ x, l[i]? = some x := ⟨l[i], by simp [hi]⟩
   obtain ⟨y, hy⟩ : ∃ y, l'[i]? = some y := ⟨l'[i], by simp [hi']⟩
   obtain ⟨eid, o, own, cells, e1, e2, e3, s, e4, rfl, e5⟩ := hv.idx hx (by decide)
   obtain ⟨eid', o', own', cells', f1, f2, f3, s', f4, rfl, f5⟩ := hv'.idx hy (by decide)
   simp only [Sh.size_str] at e1 f1
   have c0 : cells[o]? = some (.str s) := by simpa using cells_get e4 (j := 0) rfl
   have d0 : cells'[o']? = some (.str s') := by simpa using cells_get f4 (j := 0) rfl
   have ld := load1 e2 c0
   have ld' := load1 f2 d0
   have hw1 : IntKind.i64.wrap ((i : Int) + 1) = ((i + 1 : Nat) : Int) := by rw [wrap_i64 (by omega) (by omega)]; omega
   by_cases hxy : s = s'
   ·subst hxy
    simp [r0, r1, r5, hi', hv.len, hl, e1, f1, ld, ld', hw1, regionL_none]
    exact ⟨k, by omega, i + 1, by omega, by omega, take_snoc heq hx hy⟩
   ·have hne : ¬ l = l' := xy hx hy (by intro e; cases e; exact hxy rfl)
    simp [r0, r1, r5, hi', hv.len, hl, e1, f1, ld, ld', hw1, regionL_none, hxy, hne]
 ·have hne : ¬ l = l' := fun e => hl (by rw [e])
  have hl' : ¬ (l.length : Int) = l'.length := by omega
  simp [kY, Tryz.f214, valC, hv.len, hv'.len, hl', hne, hl]
theorem jL {f g tS tE : Nat} {zs : List V} {fs : List Sh} {F : Func} (hop : ∀ {a : List V} {H : List Ob} {R : V → List Ob → Prop}, Ret C f a H R ↔ WP C f (ren [(56, tS), (202, tE)] [(153, g)] jq) ⟨initRegs a, 0, H⟩ (finQ C F H R))
  (hF : F.results = #[.tmp 4]) (hO : C.ord f 6 = none) (hS : C.ty tS = ⟨.slice tE, 1, 24, zs⟩) (hE : (C.ty tE).size = (Sh.st fs).size) (hE2 : (C.ty tE).isAgg = true) (hE0 : (C.ty tE).size ≠ 0) (hg : bQ g (.st fs)) : bQ f (.slice (.st fs)) := by
 intro H cs ds u w h h'
 obtain ⟨v, l, rfl, rfl, hlen, hv⟩ := At_slice.1 h
 obtain ⟨v', l', rfl, rfl, hlen', hv'⟩ := At_slice.1 h'
 apply Ret.bool
 rw [hop]
 have hl64 : l.length ≤ 9223372036854775807 := hlen
 by_cases hl : l.length = l'.length
 ·simp [jq, Tryz.f68, ren, renO, renP, renX, sub, valC, hS, hv.len, hv'.len, hl]
  refine WP_loop (fun k σ => ∃ (i : Nat) (r : Nat → R), i + k = l.length ∧ σ = ⟨r, 0, H⟩ ∧ r 0 = .val v ∧ r 1 = .val v' ∧ r 5 = .val (.int .i64 i) ∧ l.take i = l'.take i) ?_ l.length _ ⟨0, _, by simp, rfl, by simp, by simp, by simp, by simp⟩
  rintro k σ ⟨i, r, hik, rfl, r0, r1, r5, heq⟩
  cases k with
  | zero =>
   have hi : i = l'.length := by omega
   subst hi
   have : l = l' := by rwa [← hl, List.take_length, hl, List.take_length] at heq
   simp [r0, r1, r5, hS, hv.len, hl, this, hF]
  | succ k =>
   have hi : i < l.length := by omega
   have hi' : i < l'.length := by omega
   obtain ⟨x, hx⟩ : ∃ x, l[i]? = some x := ⟨l[i], by simp [hi]⟩
   obtain ⟨y, hy⟩ : ∃ y, l'[i]? = some y := ⟨l'[i], by simp [hi']⟩
   obtain ⟨eid, o, own, cells, e1, e2, e3, e4⟩ := hv.idx hx (by rw [← hE]; exact hE0)
   obtain ⟨eid', o', own', cells', f1, f2, f3, f4⟩ := hv'.idx hy (by rw [← hE]; exact hE0)
   have e1 := fun (k : IntKind) => e1 tE 1 24 zs C.ty k hE
   have f1 := fun (k : IntKind) => f1 tE 1 24 zs C.ty k hE
   have ld := load_agg (T := C.ty tE) e2 (by rw [hE]; exact e3) rfl hE0 hE2
   have ld' := load_agg (T := C.ty tE) f2 (by rw [hE]; exact f3) rfl hE0 hE2
   rw [hE] at ld ld'
   have hw1 : IntKind.i64.wrap ((i : Int) + 1) = ((i + 1 : Nat) : Int) := by rw [wrap_i64 (by omega) (by omega)]; omega
   obtain ⟨b, hb, hc⟩ := hg H _ _ x y e4 f4
   simp only [valC, Sh.size_st] at hc
   by_cases hxy : x = y
   ·have := hb.2 hxy
    subst this hxy
    simp [r0, r1, r5, hi', hS, hv.len, hl, e1, f1, ld, ld', hw1, regionL_none hO, hc]
    exact ⟨k, by omega, i + 1, by omega, by omega, take_snoc heq hx hy⟩
   ·have hne : ¬ l = l' := xy hx hy hxy
    have : b = false := by cases b with
     | false => rfl
     | true => exact absurd (hb.1 rfl) hxy
    subst this
    simp [r0, r1, r5, hi', hS, hv.len, hl, e1, f1, ld, ld', hw1, regionL_none hO, hc, hne, hF]
 ·have hne : ¬ l = l' := fun e => hl (by rw [e])
  have hl' : ¬ (l.length : Int) = l'.length := by omega
  simp [jq, Tryz.f68, ren, renO, renP, renX, sub, valC, hS, hv.len, hv'.len, hl', hne, hl, hF]
theorem Dk : bQ 153 shRdn := by
 intro H cs ds u w h h'
 replace h := At_st.1 h
 obtain ⟨usa, rfl, h⟩ := h
 replace h := Ats_cons.1 h
 obtain ⟨ca0, da0, ua0, rra0, rfl, rfl, ha0, h⟩ := h
 replace h := Ats_cons.1 h
 obtain ⟨ca1, da1, ua1, rra1, rfl, rfl, ha1, h⟩ := h
 replace h := Ats_nil.1 h
 obtain ⟨rfl, rfl⟩ := h
 replace ha0 := At_str.1 ha0
 obtain ⟨sa0, rfl, rfl, wa0⟩ := ha0
 replace ha1 := At_str.1 ha1
 obtain ⟨sa1, rfl, rfl, wa1⟩ := ha1
 replace h' := At_st.1 h'
 obtain ⟨usb, rfl, h'⟩ := h'
 replace h' := Ats_cons.1 h'
 obtain ⟨cb0, db0, ub0, rrb0, rfl, rfl, hb0, h'⟩ := h'
 replace h' := Ats_cons.1 h'
 obtain ⟨cb1, db1, ub1, rrb1, rfl, rfl, hb1, h'⟩ := h'
 replace h' := Ats_nil.1 h'
 obtain ⟨rfl, rfl⟩ := h'
 replace hb0 := At_str.1 hb0
 obtain ⟨sb0, rfl, rfl, wb0⟩ := hb0
 replace hb1 := At_str.1 hb1
 obtain ⟨sb1, rfl, rfl, wb1⟩ := hb1
 by_cases e0 : sa0 = sb0
 rotate_left
 ·refine ⟨false, by simp [e0], ?_⟩
  apply Ret.eq
  rw [xK]
  simp [iP, Tryz.f153, valC, e0]
 subst e0
 by_cases e1 : sa1 = sb1
 rotate_left
 ·refine ⟨false, by simp [e1], ?_⟩
  apply Ret.eq
  rw [xK]
  simp [iP, Tryz.f153, valC, e1]
 subst e1
 refine ⟨true, by simp only [], ?_⟩
 apply Ret.eq
 rw [xK]
 simp [iP, Tryz.f153, valC]
theorem rZ : bQ 68 (.slice shRdn) :=
 jL (f := 68) (g := 153) (tS := 56) (tE := 202) (F := Tryz.f68) (op_ren (c := jq) (by kernel_rfl) Pv) rfl Ah DJ (by rw [mg]; rfl) (by rw [mg]; rfl) (by rw [mg]; decide) Dk
theorem Aq : bQ 304 shAttr := by
 intro H cs ds u w h h'
 replace h := At_st.1 h
 obtain ⟨usa, rfl, h⟩ := h
 replace h := Ats_cons.1 h
 obtain ⟨ca0, da0, ua0, rra0, rfl, rfl, ha0, h⟩ := h
 replace h := Ats_cons.1 h
 obtain ⟨ca1, da1, ua1, rra1, rfl, rfl, ha1, h⟩ := h
 replace h := Ats_nil.1 h
 obtain ⟨rfl, rfl⟩ := h
 replace ha0 := At_str.1 ha0
 obtain ⟨sa0, rfl, rfl, wa0⟩ := ha0
 have ka1 := ha1
 replace ha1 := At_slice.1 ha1
 obtain ⟨va1, la1, rfl, rfl, wa1, hva1⟩ := ha1
 have oa1 := hva1.one
 replace h' := At_st.1 h'
 obtain ⟨usb, rfl, h'⟩ := h'
 replace h' := Ats_cons.1 h'
 obtain ⟨cb0, db0, ub0, rrb0, rfl, rfl, hb0, h'⟩ := h'
 replace h' := Ats_cons.1 h'
 obtain ⟨cb1, db1, ub1, rrb1, rfl, rfl, hb1, h'⟩ := h'
 replace h' := Ats_nil.1 h'
 obtain ⟨rfl, rfl⟩ := h'
 replace hb0 := At_str.1 hb0
 obtain ⟨sb0, rfl, rfl, wb0⟩ := hb0
 have kb1 := hb1
 replace hb1 := At_slice.1 hb1
 obtain ⟨vb1, lb1, rfl, rfl, wb1, hvb1⟩ := hb1
 have ob1 := hvb1.one
 by_cases e0 : sa0 = sb0
 rotate_left
 ·refine ⟨false, by simp [e0], ?_⟩
  apply Ret.eq
  rw [zx]
  simp [iF, Tryz.f304, valC, e0, oa1, ob1]
 subst e0
 obtain ⟨t1, e1, q1⟩ := bC H _ _ _ _ ka1 kb1
 simp only [valC, List.headD_cons, List.append_nil, List.cons_append, List.nil_append] at q1
 cases t1 with
 | false =>
  have e1 : ¬ (.lst la1) = (U.lst lb1) := fun h => by simpa using e1.2 h
  refine ⟨false, by simp only [U.st.injEq, List.cons.injEq, e1, and_false, false_and, Bool.false_eq_true], ?_⟩
  apply Ret.eq
  rw [zx]
  simp [iF, Tryz.f304, valC, q1, oa1, ob1]
 | true =>
 have e1 := e1.1 rfl
 refine ⟨true, by simp only [e1], ?_⟩
 apply Ret.eq
 rw [zx]
 simp [iF, Tryz.f304, valC, q1, oa1, ob1]
theorem y7 : bQ 241 (.slice shAttr) :=
 jL (f := 241) (g := 304) (tS := 153) (tE := 249) (F := Tryz.f241) (op_ren (c := rU) (by kernel_rfl) Hg) rfl yc BO (by rw [rX]; rfl) (by rw [rX]; rfl) (by rw [rX]; decide) Aq
theorem ny : bQ 157 shEntry := by
 intro H cs ds u w h h'
 replace h := At_st.1 h
 obtain ⟨usa, rfl, h⟩ := h
 replace h := Ats_cons.1 h
 obtain ⟨ca0, da0, ua0, rra0, rfl, rfl, ha0, h⟩ := h
 replace h := Ats_cons.1 h
 obtain ⟨ca1, da1, ua1, rra1, rfl, rfl, ha1, h⟩ := h
 replace h := Ats_nil.1 h
 obtain ⟨rfl, rfl⟩ := h
 have ka0 := ha0
 replace ha0 := At_slice.1 ha0
 obtain ⟨va0, la0, rfl, rfl, wa0, hva0⟩ := ha0
 have oa0 := hva0.one
 have ka1 := ha1
 replace ha1 := At_slice.1 ha1
 obtain ⟨va1, la1, rfl, rfl, wa1, hva1⟩ := ha1
 have oa1 := hva1.one
 replace h' := At_st.1 h'
 obtain ⟨usb, rfl, h'⟩ := h'
 replace h' := Ats_cons.1 h'
 obtain ⟨cb0, db0, ub0, rrb0, rfl, rfl, hb0, h'⟩ := h'
 replace h' := Ats_cons.1 h'
 obtain ⟨cb1, db1, ub1, rrb1, rfl, rfl, hb1, h'⟩ := h'
 replace h' := Ats_nil.1 h'
 obtain ⟨rfl, rfl⟩ := h'
 have kb0 := hb0
 replace hb0 := At_slice.1 hb0
 obtain ⟨vb0, lb0, rfl, rfl, wb0, hvb0⟩ := hb0
 have ob0 := hvb0.one
 have kb1 := hb1
 replace hb1 := At_slice.1 hb1
 obtain ⟨vb1, lb1, rfl, rfl, wb1, hvb1⟩ := hb1
 have ob1 := hvb1.one
 obtain ⟨t0, e0, q0⟩ := rZ H _ _ _ _ ka0 kb0
 simp only [valC, List.headD_cons, List.append_nil, List.cons_append, List.nil_append] at q0
 cases t0 with
 | false =>
  have e0 : ¬ (.lst la0) = (U.lst lb0) := fun h => by simpa using e0.2 h
  refine ⟨false, by simp only [U.st.injEq, List.cons.injEq, e0, and_false, false_and, Bool.false_eq_true], ?_⟩
  apply Ret.eq
  rw [yF]
  simp [iI, Tryz.f157, valC, q0, oa0, oa1, ob0, ob1]
 | true =>
 have e0 := e0.1 rfl
 obtain ⟨t1, e1, q1⟩ := y7 H _ _ _ _ ka1 kb1
 simp only [valC, List.headD_cons, List.append_nil, List.cons_append, List.nil_append] at q1
 cases t1 with
 | false =>
  have e1 : ¬ (.lst la1) = (U.lst lb1) := fun h => by simpa using e1.2 h
  refine ⟨false, by simp only [U.st.injEq, List.cons.injEq, e1, and_false, false_and, Bool.false_eq_true], ?_⟩
  apply Ret.eq
  rw [yF]
  simp [iI, Tryz.f157, valC, q0, q1, oa0, oa1, ob0, ob1]
 | true =>
 have e1 := e1.1 rfl
 refine ⟨true, by simp only [e0, e1], ?_⟩
 apply Ret.eq
 rw [yF]
 simp [iI, Tryz.f157, valC, q0, q1, oa0, oa1, ob0, ob1]
theorem jT : bQ 72 (.slice shEntry) :=
 jL (f := 72) (g := 157) (tS := 35) (tE := 155) (F := Tryz.f72) (op_ren (c := yO) (by kernel_rfl) O1) rfl zH EZ (by rw [qA]; rfl) (by rw [qA]; rfl) (by rw [qA]; decide) ny
theorem yl : bQ 156 shClass := by
 intro H cs ds u w h h'
 replace h := At_st.1 h
 obtain ⟨usa, rfl, h⟩ := h
 replace h := Ats_cons.1 h
 obtain ⟨ca0, da0, ua0, rra0, rfl, rfl, ha0, h⟩ := h
 replace h := Ats_cons.1 h
 obtain ⟨ca1, da1, ua1, rra1, rfl, rfl, ha1, h⟩ := h
 replace h := Ats_cons.1 h
 obtain ⟨ca2, da2, ua2, rra2, rfl, rfl, ha2, h⟩ := h
 replace h := Ats_cons.1 h
 obtain ⟨ca3, da3, ua3, rra3, rfl, rfl, ha3, h⟩ := h
 replace h := Ats_nil.1 h
 obtain ⟨rfl, rfl⟩ := h
 replace ha0 := At_str.1 ha0
 obtain ⟨sa0, rfl, rfl, wa0⟩ := ha0
 have ka1 := ha1
 replace ha1 := At_slice.1 ha1
 obtain ⟨va1, la1, rfl, rfl, wa1, hva1⟩ := ha1
 have oa1 := hva1.one
 have ka2 := ha2
 replace ha2 := At_slice.1 ha2
 obtain ⟨va2, la2, rfl, rfl, wa2, hva2⟩ := ha2
 have oa2 := hva2.one
 have ka3 := ha3
 replace ha3 := At_slice.1 ha3
 obtain ⟨va3, la3, rfl, rfl, wa3, hva3⟩ := ha3
 have oa3 := hva3.one
 replace h' := At_st.1 h'
 obtain ⟨usb, rfl, h'⟩ := h'
 replace h' := Ats_cons.1 h'
 obtain ⟨cb0, db0, ub0, rrb0, rfl, rfl, hb0, h'⟩ := h'
 replace h' := Ats_cons.1 h'
 obtain ⟨cb1, db1, ub1, rrb1, rfl, rfl, hb1, h'⟩ := h'
 replace h' := Ats_cons.1 h'
 obtain ⟨cb2, db2, ub2, rrb2, rfl, rfl, hb2, h'⟩ := h'
 replace h' := Ats_cons.1 h'
 obtain ⟨cb3, db3, ub3, rrb3, rfl, rfl, hb3, h'⟩ := h'
 replace h' := Ats_nil.1 h'
 obtain ⟨rfl, rfl⟩ := h'
 replace hb0 := At_str.1 hb0
 obtain ⟨sb0, rfl, rfl, wb0⟩ := hb0
 have kb1 := hb1
 replace hb1 := At_slice.1 hb1
 obtain ⟨vb1, lb1, rfl, rfl, wb1, hvb1⟩ := hb1
 have ob1 := hvb1.one
 have kb2 := hb2
 replace hb2 := At_slice.1 hb2
 obtain ⟨vb2, lb2, rfl, rfl, wb2, hvb2⟩ := hb2
 have ob2 := hvb2.one
 have kb3 := hb3
 replace hb3 := At_slice.1 hb3
 obtain ⟨vb3, lb3, rfl, rfl, wb3, hvb3⟩ := hb3
 have ob3 := hvb3.one
 by_cases e0 : sa0 = sb0
 rotate_left
 ·refine ⟨false, by simp [e0], ?_⟩
  apply Ret.eq
  rw [oh]
  simp [dS, Tryz.f156, valC, e0, oa1, oa2, oa3, ob1, ob2, ob3]
 subst e0
 obtain ⟨t1, e1, q1⟩ := bC H _ _ _ _ ka1 kb1
 simp only [valC, List.headD_cons, List.append_nil, List.cons_append, List.nil_append] at q1
 cases t1 with
 | false =>
  have e1 : ¬ (.lst la1) = (U.lst lb1) := fun h => by simpa using e1.2 h
  refine ⟨false, by simp only [U.st.injEq, List.cons.injEq, e1, and_false, false_and, Bool.false_eq_true], ?_⟩
  apply Ret.eq
  rw [oh]
  simp [dS, Tryz.f156, valC, q1, oa1, oa2, oa3, ob1, ob2, ob3]
 | true =>
 have e1 := e1.1 rfl
 obtain ⟨t2, e2, q2⟩ := bC H _ _ _ _ ka2 kb2
 simp only [valC, List.headD_cons, List.append_nil, List.cons_append, List.nil_append] at q2
 cases t2 with
 | false =>
  have e2 : ¬ (.lst la2) = (U.lst lb2) := fun h => by simpa using e2.2 h
  refine ⟨false, by simp only [U.st.injEq, List.cons.injEq, e2, and_false, false_and, Bool.false_eq_true], ?_⟩
  apply Ret.eq
  rw [oh]
  simp [dS, Tryz.f156, valC, q1, q2, oa1, oa2, oa3, ob1, ob2, ob3]
 | true =>
 have e2 := e2.1 rfl
 obtain ⟨t3, e3, q3⟩ := bC H _ _ _ _ ka3 kb3
 simp only [valC, List.headD_cons, List.append_nil, List.cons_append, List.nil_append] at q3
 cases t3 with
 | false =>
  have e3 : ¬ (.lst la3) = (U.lst lb3) := fun h => by simpa using e3.2 h
  refine ⟨false, by simp only [U.st.injEq, List.cons.injEq, e3, and_false, false_and, Bool.false_eq_true], ?_⟩
  apply Ret.eq
  rw [oh]
  simp [dS, Tryz.f156, valC, q1, q2, q3, oa1, oa2, oa3, ob1, ob2, ob3]
 | true =>
 have e3 := e3.1 rfl
 refine ⟨true, by simp only [e1, e2, e3], ?_⟩
 apply Ret.eq
 rw [oh]
 simp [dS, Tryz.f156, valC, q1, q2, q3, oa1, oa2, oa3, ob1, ob2, ob3]
theorem ww : bQ 71 (.slice shClass) :=
 jL (f := 71) (g := 156) (tS := 34) (tE := 208) (F := Tryz.f71) (op_ren (c := yT) (by kernel_rfl) PY) rfl AL IA (by rw [sD]; rfl) (by rw [sD]; rfl) (by rw [sD]; decide) yl
theorem AQ : bQ 21 shTree := by
 intro H cs ds u w h h'
 replace h := At_st.1 h
 obtain ⟨usa, rfl, h⟩ := h
 replace h := Ats_cons.1 h
 obtain ⟨ca0, da0, ua0, rra0, rfl, rfl, ha0, h⟩ := h
 replace h := Ats_cons.1 h
 obtain ⟨ca1, da1, ua1, rra1, rfl, rfl, ha1, h⟩ := h
 replace h := Ats_nil.1 h
 obtain ⟨rfl, rfl⟩ := h
 have ka0 := ha0
 replace ha0 := At_slice.1 ha0
 obtain ⟨va0, la0, rfl, rfl, wa0, hva0⟩ := ha0
 have oa0 := hva0.one
 have ka1 := ha1
 replace ha1 := At_slice.1 ha1
 obtain ⟨va1, la1, rfl, rfl, wa1, hva1⟩ := ha1
 have oa1 := hva1.one
 replace h' := At_st.1 h'
 obtain ⟨usb, rfl, h'⟩ := h'
 replace h' := Ats_cons.1 h'
 obtain ⟨cb0, db0, ub0, rrb0, rfl, rfl, hb0, h'⟩ := h'
 replace h' := Ats_cons.1 h'
 obtain ⟨cb1, db1, ub1, rrb1, rfl, rfl, hb1, h'⟩ := h'
 replace h' := Ats_nil.1 h'
 obtain ⟨rfl, rfl⟩ := h'
 have kb0 := hb0
 replace hb0 := At_slice.1 hb0
 obtain ⟨vb0, lb0, rfl, rfl, wb0, hvb0⟩ := hb0
 have ob0 := hvb0.one
 have kb1 := hb1
 replace hb1 := At_slice.1 hb1
 obtain ⟨vb1, lb1, rfl, rfl, wb1, hvb1⟩ := hb1
 have ob1 := hvb1.one
 obtain ⟨t0, e0, q0⟩ := ww H _ _ _ _ ka0 kb0
 simp only [valC, List.headD_cons, List.append_nil, List.cons_append, List.nil_append] at q0
 cases t0 with
 | false =>
  have e0 : ¬ (.lst la0) = (U.lst lb0) := fun h => by simpa using e0.2 h
  refine ⟨false, by simp only [U.st.injEq, List.cons.injEq, e0, and_false, false_and, Bool.false_eq_true], ?_⟩
  apply Ret.eq
  rw [D5]
  simp [lY, Tryz.f21, valC, q0, oa0, oa1, ob0, ob1]
 | true =>
 have e0 := e0.1 rfl
 obtain ⟨t1, e1, q1⟩ := jT H _ _ _ _ ka1 kb1
 simp only [valC, List.headD_cons, List.append_nil, List.cons_append, List.nil_append] at q1
 cases t1 with
 | false =>
  have e1 : ¬ (.lst la1) = (U.lst lb1) := fun h => by simpa using e1.2 h
  refine ⟨false, by simp only [U.st.injEq, List.cons.injEq, e1, and_false, false_and, Bool.false_eq_true], ?_⟩
  apply Ret.eq
  rw [D5]
  simp [lY, Tryz.f21, valC, q0, q1, oa0, oa1, ob0, ob1]
 | true =>
 have e1 := e1.1 rfl
 refine ⟨true, by simp only [e0, e1], ?_⟩
 apply Ret.eq
 rw [D5]
 simp [lY, Tryz.f21, valC, q0, q1, oa0, oa1, ob0, ob1]
end Go.Proofs.Try1
end
