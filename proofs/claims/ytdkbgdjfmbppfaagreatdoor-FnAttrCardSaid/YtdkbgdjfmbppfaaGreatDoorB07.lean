/- Part 07 of the proof of a law: the interpreter, its soundness, and what functions of the program compute over it. Conditions: none but those that each theorem names. -/
import Derived.Test.YtdkbgdjfmbppfaaGreatDoorB06
import Derived.Lib.Bytealg

set_option linter.all false
set_option maxRecDepth 20000
set_option maxHeartbeats 40000000
section
namespace Go.Lite
open Go
def bG (a b : Str) : Prop := Op.bytesLess a b = true
def dR {α : Type} (key : α → Str) (l : List α) (j : Nat) (x : α) : Prop := ∀ y, 0 < j → l[j - 1]? = some y → bG (key y) (key x)
def DnOk (l : List PRdn) : Prop := (∀ (j : Nat) x, l[j]? = some x → aF x.attr ∧ aA x.value) ∧ l.length ≤ 6
def yH (l : List Str) : Prop := ∀ (j : Nat) x, l[j]? = some x → aF x ∧ dR (fun x => x) l j x
def bu (l : List Str) : Prop := (∀ (j : Nat) x, l[j]? = some x → aA x ∧ dR norm l j x) ∧ 1 ≤ l.length ∧ l.length ≤ 4
def fH (l : List PAttr) : Prop := (∀ (j : Nat) x, l[j]? = some x → aF x.name ∧ dR PAttr.name l j x ∧ bu x.vals) ∧ l.length ≤ 8
def EntryOk (e : PEntry) : Prop := 0 < e.dn.length ∧ DnOk e.dn ∧ fH e.attrs
def zn : Str := [99, 108, 97, 115, 115]
structure ClassOk (c : PClass) : Prop where
 name : aF c.name
 l1 : c.must.length ≤ 10
 l2 : c.may.length ≤ 10
 l3 : c.single.length ≤ 10
 n1 : yH c.must
 n2 : yH c.may
 n3 : yH c.single
 apart : ∀ t ∈ c.must, t ∉ c.may
 known : ∀ t ∈ c.single, t ∈ c.may ∨ t ∈ c.must
 noMust : zn ∉ c.must
 noMay : zn ∉ c.may
def IW (l : List PClass) : Prop := (∀ (j : Nat) x, l[j]? = some x → ClassOk x ∧ dR PClass.name l j x) ∧ l.length ≤ 6
theorem ig {α : Type} {l : List α} {i : Nat} {P : Nat → α → Prop} (h : ∀ j x, j < i → l[j]? = some x → P j x) {c : α} (hc : l[i]? = some c) (hp : P i c) : ∀ j x, j < i + 1 → l[j]? = some x → P j x := by
 intro j x hj hx
 by_cases hji : j = i
 ·subst hji; rw [hc] at hx; cases hx; exact hp
 ·exact h j x (by omega) hx
theorem kG {α : Type} {l : List α} {P : Nat → α → Prop} (h : ∀ j x, j < l.length → l[j]? = some x → P j x) : ∀ j x, l[j]? = some x → P j x :=
 fun j x hx => h j x (List.getElem?_eq_some_iff.1 hx).1 hx
def FirstAt {α : Type} (key : α → Str) (l : List α) (n : Str) (r : Int) : Prop :=
 (∃ (k : Nat) (a : α), l[k]? = some a ∧ key a = n ∧ (∀ j b, j < k → l[j]? = some b → key b ≠ n) ∧ r = k) ∨ ((∀ (j : Nat) b, l[j]? = some b → key b ≠ n) ∧ r = -1)
def bT {α : Type} (key : α → Str) (l : List α) (n : Str) : Option α := l.find? fun a => key a == n
theorem FirstAt.pos {α : Type} {key : α → Str} {l : List α} {n : Str} {r : Int} (h : FirstAt key l n r) : (∃ (k : Nat) (a : α), l[k]? = some a ∧ r = k ∧ bT key l n = some a) ∨ (r = -1 ∧ bT key l n = none) := by
 rcases h with ⟨k, a, h1, h2, h3, rfl⟩ | ⟨h1, rfl⟩
 ·refine .inl ⟨k, a, h1, rfl, ?_⟩
  unfold bT
  rw [List.find?_eq_some_iff_getElem]
  obtain ⟨hk, h1⟩ := List.getElem?_eq_some_iff.1 h1
  refine ⟨by simp [h2], k, hk, h1, fun j hj => ?_⟩
  have := h3 j l[j] hj (List.getElem?_eq_getElem _)
  simp [this]
 ·refine .inr ⟨rfl, ?_⟩
  unfold bT
  rw [List.find?_eq_none]
  intro x hx
  obtain ⟨j, hj, rfl⟩ := List.getElem_of_mem hx
  simpa using h1 j _ (List.getElem?_eq_getElem hj)
def valsOf (l : List PAttr) (n : Str) : List Str := match bT PAttr.name l n with
 | some a => a.vals
 | none => []
noncomputable def MN (l : List PClass) (az : List PAttr) : Option PClass := match valsOf az zn with
 | [v] => bT PClass.name l (norm v)
 | _ => none
noncomputable def lacks (c : PClass) (az : List PAttr) : List Str := c.must.filter fun t => (bT PAttr.name az t).isNone
def Gs (H G : List Ob) (v : V) (cs : List V) : Prop := ∃ T id, G = H ++ T ∧ H.length ≤ id ∧ G[id]? = some (.mk true 1 cs) ∧ v = .slc (some (id, 0)) cs.length
theorem Gs.init {H : List Ob} : Gs H (H ++ [.mk true 1 []]) (.slc (some (H.length, 0)) 0) [] := ⟨_, H.length, rfl, Nat.le_refl _, by simp, rfl⟩
section
variable {H G : List Ob} {v : V} {cs : List V}
theorem Gs.push (h : Gs H G v cs) {x : V} {z : List V} {d : LD} {b : Nat} (hx : aI x = true) (hb : (cs.length + 1) * b ≤ ax) (hb0 : 0 < b) (hb1 : b ≤ 1000000) (hz : z.length = 1) : ∃ v' G', aU ⟨d, 1, b, z⟩ (G ++ [.mk true 1 [x]]) v (.slc (some (G.length, 0)) 1) = some (v', G') ∧ Gs H G' v' (cs ++ [x]) := by
 obtain ⟨T, id, rfl, h1, h2, rfl⟩ := h
 have hid : id < (H ++ T).length := (List.getElem?_eq_some_iff.1 h2).1
 have hid' : id < H.length + T.length := by simpa using hid
 have hg : (H ++ T ++ [Ob.mk true 1 [x]])[id]? = some (.mk true 1 cs) := by rw [List.getElem?_append_left hid]; exact h2
 have hnew : aQ ⟨d, 1, b, z⟩ (H ++ T ++ [Ob.mk true 1 [x]]) (.slc (some ((H ++ T).length, 0)) 1) = some ([x], 1) := by
  simp only [aQ, Nat.mul_one, aO, get_last]
  rfl
 refine ⟨.slc (some ((H ++ T ++ [Ob.mk true 1 [x]]).length, 0)) (cs.length + 1), (H ++ T ++ [Ob.mk true 1 [x]]).set id .dead ++ [.mk true 1 (cs ++ [x])], ?_, ?_⟩
 ·unfold aU
  rw [if_pos (by simp [gV, hz, hb0, hb1]), hnew]
  simp only [Nat.one_ne_zero, if_false, List.all_cons, List.all_nil, hx, Bool.and_true, if_true, hg]
  have e1 : ¬ (0 + (cs.length + 1) * 1 ≤ cs.length) := by omega
  have e2 : (0 + cs.length * 1 = cs.length ∨ cs.length = 0 ∧ cs.length ≤ 0) ∧ (cs.length + 1) * b ≤ ax := ⟨.inl (by simp), hb⟩
  rw [if_neg e1, if_pos e2, List.drop_zero]
 ·refine ⟨T.set (id - H.length) .dead ++ [.mk true 1 [x]] ++ [.mk true 1 (cs ++ [x])], (H ++ T ++ [Ob.mk true 1 [x]]).length, ?_, by simp only [List.length_append]; omega, ?_, by simp⟩
  ·rw [List.append_assoc H T, List.set_append_right _ _ h1, List.set_append_left _ _ (by omega)]
   simp
  ·have hl : ((H ++ T ++ [Ob.mk true 1 [x]]).set id .dead).length = (H ++ T ++ [Ob.mk true 1 [x]]).length := List.length_set
   rw [← hl, get_last]
theorem Gs.ext (h : Gs H G v cs) : ∃ T, G = H ++ T := by
 obtain ⟨T, id, h, _⟩ := h
 exact ⟨T, h⟩
theorem Gs.gc (h : Gs H G v cs) : eY H G v = G := by
 obtain ⟨T, id, rfl, h1, h2, rfl⟩ := h
 unfold eY
 rw [if_neg]
 rintro ⟨_, own, es, cells, h⟩
 have := (List.getElem?_eq_some_iff.1 h).1
 omega
theorem Gs.one (h : Gs H G v cs) : aI v = true ∧ cellsOf v = some [v] := by
 obtain ⟨T, id, rfl, h1, h2, rfl⟩ := h
 exact ⟨rfl, rfl⟩
theorem Gs.strs {l : List Str} (h : Gs H G v (l.map V.str)) (hl : l.length ≤ maxLen) (hs : ∀ s ∈ l, s.length ≤ maxLen) : AStrs G v l ∧ ∃ id, AtF G (.slice .str) [v] (.lst (l.map kD)) [id] ∧ H.length ≤ id := by
 obtain ⟨T, id, rfl, h1, h2, rfl⟩ := h
 have hF : AtF (H ++ T) (.slice .str) [.slc (some (id, 0)) (l.map V.str).length] (.lst (l.map kD)) [id] := by
  refine aZ.2 ⟨_, _, rfl, rfl, by simpa using hl, .inr ⟨id, 0, l.map V.str, List.replicate l.length [], by simp, h2, by simp, by simp, by simp, fun i x G hx hG => ?_⟩⟩
  rw [List.getElem?_map] at hx
  obtain ⟨s, hs', rfl⟩ := Option.map_eq_some_iff.1 hx
  have hi : i < l.length := (List.getElem?_eq_some_iff.1 hs').1
  rw [List.getElem?_replicate, if_pos hi] at hG
  cases hG
  refine kR.2 ⟨⟨s, ?_, rfl, hs s (List.mem_of_getElem? hs')⟩, rfl⟩
  rw [Sh.size_str, Nat.zero_add, Nat.mul_one, List.drop_eq_getElem_cons (by simpa using hi)]
  obtain ⟨_, rfl⟩ := List.getElem?_eq_some_iff.1 hs'
  simp
 exact ⟨AtF.at _ hF, id, hF, h1⟩
end
abbrev CU : Sh := .st [.slice LK, .slice bK]
structure PTree where
 schema : List PClass
 entries : List PEntry
def PTree.u (t : PTree) : U := .st [.lst (t.schema.map PClass.u), .lst (t.entries.map PEntry.u)]
section
variable {H H' T : List Ob} {v : V}
end
noncomputable def jk (dn : List PRdn) : Str := KC (dn.map fun r => (r.attr, r.value))
def xh (as' : List PAttr) (name n : Str) : Prop := n ≠ [] ∧ ∃ v ∈ valsOf as' name, norm v = n
def JP (c : PClass) (a : PAttr) : Prop := (a.name = zn ∨ a.name ∈ c.must ∨ a.name ∈ c.may) ∧ ¬ (1 < a.vals.length ∧ a.name ∈ c.single)
def Nw (l : List PClass) (e : PEntry) : Prop := ∃ c, MN l e.attrs = some c ∧ lacks c e.attrs = [] ∧ (∀ a ∈ e.attrs, JP c a) ∧ ∃ r, e.dn[0]? = some r ∧ xh e.attrs r.attr (norm r.value)
def Ji (es : List PEntry) (dn : List PRdn) : Prop := dn.length ≤ 1 ∨ ∃ y ∈ es, jk y.dn = jk dn.tail
def Gg (s : List PClass) (es : List PEntry) : Prop := es.length ≤ 20 ∧ ∀ (j : Nat) x, es[j]? = some x → EntryOk x ∧ Nw s x ∧ dR (fun e => jk e.dn) es j x
def TreeOk (t : PTree) : Prop := IW t.schema ∧ Gg t.schema t.entries ∧ ∀ x ∈ t.entries, Ji t.entries x.dn
abbrev mD (r : PRdn) : Str × Str := (r.attr, r.value)
theorem vG : ∀ (l : List PRdn) (cs : List V), cs.length = l.length * 2 → (∀ (i : Nat) x, l[i]? = some x → cs[i * 2]? = some (.str x.attr) ∧ cs[i * 2 + 1]? = some (.str x.value)) → mg cs = some (l.map mD)
 | [], cs, hl, _ => by
  have : cs = [] := List.length_eq_zero_iff.1 (by simpa using hl)
  subst this
  rfl
 | x :: l, cs, hl, h => by
  match cs, hl, h with
  | a :: b :: cs, hl, h =>
   obtain ⟨h1, h2⟩ := h 0 x rfl
   simp at h1 h2
   subst h1 h2
   have ih := vG l cs (by simp at hl; omega) (fun i y hy => by
    have := h (i + 1) y (by simpa using hy)
    rw [show (i + 1) * 2 = i * 2 + 1 + 1 by omega] at this
    simpa using this)
   simp [mg, ih]
  | [], hl, _ => simp at hl
  | [a], hl, _ => simp at hl; omega
theorem G9 {H : List Ob} {v : V} {l : List PRdn} (h : aX H v l) (hl : l.length ≤ 1048576) (hs : ∀ x ∈ l, x.attr.length ≤ 1048576 ∧ x.value.length ≤ 1048576) : oW [v] H = some (.str (jk l), H) := by
 rcases h.sl with ⟨rfl, h0⟩ | ⟨id, off, own, cells, rfl, h2, h3, h4⟩
 ·have : l = [] := by simpa using h0
  subst this
  rfl
 ·rw [List.length_map] at h3 ⊢
  have hsz : shRdn.size = 2 := rfl
  rw [hsz] at h2 h3 h4
  by_cases h0 : l.length = 0
  ·have : l = [] := List.length_eq_zero_iff.1 h0
   subst this
   rfl
  ·have hp : mg ((cells.drop off).take (l.length * 2)) = some (l.map mD) := by
    refine vG l _ (by simp; omega) fun i x hx => ?_
    have hi : i < l.length := (List.getElem?_eq_some_iff.1 hx).1
    have h5 := h4 i x.u (by rw [List.getElem?_map, hx]; rfl)
    obtain ⟨h5, _⟩ := uo.1 h5
    have g0 := dm h5 (j := 0) rfl
    have g1 := dm h5 (j := 1) rfl
    rw [List.getElem?_take_of_lt (by omega), List.getElem?_take_of_lt (by omega), List.getElem?_drop, List.getElem?_drop]
    refine ⟨?_, ?_⟩
    ·rw [← g0]; congr 1
    ·rw [← g1]; congr 1
   have hf : rV (l.map mD) = true := by
    simp only [rV, List.all_map, List.all_eq_true, Function.comp, Bool.and_eq_true, decide_eq_true_eq]
    exact fun x hx => hs x hx
   simp only [oW, if_neg h0, if_pos hl, h2, if_pos h3, hp]
   rw [if_pos ⟨hf, by simp⟩]
   rfl
noncomputable def oC (l : List PRdn) (k : Nat) : Str := ((l.drop k).reverse.map mD).foldl fG []
theorem Hu {l : List PRdn} : oC l l.length = [] := by simp [oC]
theorem Gp {l : List PRdn} : oC l 0 = jk l := by
 show ((l.drop 0).reverse.map mD).foldl fG [] = (l.map fun r => (r.attr, r.value)).reverse.foldl fG []
 rw [List.drop_zero, List.map_reverse]
theorem GK {l : List PRdn} {k : Nat} {x : PRdn} (h : l[k]? = some x) : oC l k = fG (oC l (k + 1)) (mD x) := by
 obtain ⟨hk, rfl⟩ := List.getElem?_eq_some_iff.1 h
 unfold oC
 rw [List.drop_eq_getElem_cons hk]
 simp only [List.reverse_cons, List.map_append, List.foldl_append, List.map_cons, List.map_nil, List.foldl_cons, List.foldl_nil]
theorem xg : ∀ (l : List (Str × Str)) (s : Str), (∀ p ∈ l, p.1.length ≤ 20) → (l.foldl fG s).length ≤ s.length + l.length * 122
 | [], s, _ => by simp
 | p :: l, s, h => by
  have ih := xg l (fG s p) fun q hq => h q (List.mem_cons_of_mem _ hq)
  have h1 := h p List.mem_cons_self
  have h2 := qj (t := p.2)
  have h3 : (fG s p).length ≤ s.length + 122 := by simp only [fG, List.length_append, List.length_cons]; omega
  simp only [List.foldl_cons, List.length_cons]
  omega
theorem Jp {l : List PRdn} (hd : DnOk l) (k : Nat) : (oC l k).length ≤ 1000 := by
 have h := xg ((l.drop k).reverse.map mD) [] (fun p hp => by
  obtain ⟨x, hx, rfl⟩ := List.mem_map.1 hp
  have hx := List.mem_of_mem_drop (List.mem_reverse.1 hx)
  obtain ⟨j, hj, rfl⟩ := List.getElem_of_mem hx
  exact (hd.1 j _ (List.getElem?_eq_getElem hj)).1.2.1)
 have := hd.2
 simp only [List.length_map, List.length_reverse, List.length_drop, List.length_nil] at h
 unfold oC
 omega
theorem DnOk.small {l : List PRdn} (hd : DnOk l) : l.length ≤ 1048576 ∧ ∀ x ∈ l, x.attr.length ≤ 1048576 ∧ x.value.length ≤ 1048576 := by
 refine ⟨by have := hd.2; omega, fun x hx => ?_⟩
 obtain ⟨j, hj, rfl⟩ := List.getElem_of_mem hx
 obtain ⟨h1, h2⟩ := hd.1 j _ (List.getElem?_eq_getElem hj)
 have := h1.2.1
 have := h2.2.1
 omega
theorem DnOk.tail {l : List PRdn} (hd : DnOk l) : DnOk l.tail := by
 refine ⟨fun j x hx => hd.1 (j + 1) x (by rw [List.getElem?_tail] at hx; exact hx), ?_⟩
 have := hd.2
 simp
 omega

section
variable {H H' T : List Ob}
theorem Sl.mapL {α : Type} {es : Nat} {R R' : List V → α → Prop} {v : V} {xs : List α} (h : Sl H es R v xs) (hH : ∀ (id : Nat) own es cells, H[id]? = some (.mk own es cells) → H'[id]? = some (.mk own es cells)) (hR : ∀ cs x, R cs x → R' cs x) : Sl H' es R' v xs := by
 rcases h with h | ⟨id, off, own, cells, h1, h2, h3, h4⟩
 ·exact .inl h
 ·exact .inr ⟨id, off, own, cells, h1, hH _ _ _ _ h2, h3, fun i x hx => hR _ _ (h4 i x hx)⟩
mutual
theorem At.upL (hH : ∀ (id : Nat) own es cells, H[id]? = some (.mk own es cells) → H'[id]? = some (.mk own es cells)) : ∀ (sh : Sh) {cs : List V} {u : U}, At H sh cs u → At H' sh cs u
 | .int k, _, _, h => h
 | .bool, _, _, h => h
 | .str, _, _, h => h
 | .slice e, _, _, h => by
  simp only [At] at h ⊢
  obtain ⟨v, l, h1, h2, h3, h4⟩ := h
  exact ⟨v, l, h1, h2, h3, h4.mapL hH fun _ _ h => At.upL hH e h⟩
 | .st fs, _, _, h => by
  simp only [At] at h ⊢
  obtain ⟨us, h1, h2⟩ := h
  exact ⟨us, h1, Ats.upL hH fs h2⟩
theorem Ats.upL (hH : ∀ (id : Nat) own es cells, H[id]? = some (.mk own es cells) → H'[id]? = some (.mk own es cells)) : ∀ (fs : List Sh) {cs : List V} {us : List U}, Ats H fs cs us → Ats H' fs cs us
 | [], _, _, h => h
 | f :: fs, _, _, h => by
  simp only [Ats] at h ⊢
  obtain ⟨c1, c2, u, us', h1, h2, h3, h4⟩ := h
  exact ⟨c1, c2, u, us', h1, h2, At.upL hH f h3, Ats.upL hH fs h4⟩
end
theorem At.undead {id : Nat} {sh : Sh} {cs : List V} {u : U} (h : At (H.set id .dead) sh cs u) : At H sh cs u := by
 refine At.upL (fun q own es cells hq => ?_) sh h
 by_cases e : id = q
 ·subst e
  by_cases hl : id < H.length
  ·rw [List.getElem?_set_self hl] at hq; cases hq
  ·rw [List.getElem?_eq_none (by simp; omega)] at hq; cases hq
 ·rwa [List.getElem?_set_ne e] at hq
theorem AtF.kill {id : Nat} {sh : Sh} {cs : List V} {u : U} {F : List Nat} (h : AtF H sh cs u F) (hF : id ∉ F) {o : Ob} : AtF (H.set id o) sh cs u F :=
 h.frame sh fun q hq => List.getElem?_set_ne fun e => hF (by rw [e]; exact hq)
theorem jO {id : Nat} {o : Ob} (h : id < H.length) : (H ++ T).set id o = H.set id o ++ T := List.set_append_left _ _ h
theorem Hq {id : Nat} {o : Ob} (h : H.length ≤ id) : ∃ T', (H ++ T).set id o = H ++ T' := ⟨_, List.set_append_right _ _ h⟩
end
def New (b e : Nat) (G : List Ob) (sh : Sh) (cs : List V) (u : U) : Prop := ∃ F, AtF G sh cs u F ∧ F.Nodup ∧ ∀ q ∈ F, b ≤ q ∧ q < e
def News (b e : Nat) (G : List Ob) (fs : List Sh) (cs : List V) (us : List U) : Prop := ∃ F, AtsF G fs cs us F ∧ F.Nodup ∧ ∀ q ∈ F, b ≤ q ∧ q < e
section
variable {b e b' e' : Nat} {G G' T : List Ob} {sh : Sh} {fs : List Sh} {cs c1 c2 : List V} {u : U} {us : List U}
theorem New.at (h : New b e G sh cs u) : At G sh cs u := h.elim fun _ h => AtF.at _ h.1
theorem New.ext (h : New b e G sh cs u) : New b e (G ++ T) sh cs u := h.imp fun _ h => ⟨h.1.ext, h.2⟩
theorem New.wide (h : New b e G sh cs u) (hb : b' ≤ b) (he : e ≤ e') : New b' e' G sh cs u := h.imp fun _ h => ⟨h.1, h.2.1, fun q hq => ⟨Nat.le_trans hb (h.2.2 q hq).1, Nat.lt_of_lt_of_le (h.2.2 q hq).2 he⟩⟩
theorem New.frame (h : New b e G sh cs u) (hG : ∀ q, b ≤ q → q < e → G'[q]? = G[q]?) : New b e G' sh cs u := h.imp fun _ h => ⟨h.1.frame _ fun q hq => hG q (h.2.2 q hq).1 (h.2.2 q hq).2, h.2⟩
theorem New.inG (h : New b e G sh cs u) : New b G.length G sh cs u := h.imp fun _ h => ⟨h.1, h.2.1, fun q hq => ⟨(h.2.2 q hq).1, AtF.mem _ h.1 q hq⟩⟩
theorem New.kill (h : New b e G sh cs u) {id : Nat} (hid : id < b ∨ e ≤ id) {o : Ob} : New b e (G.set id o) sh cs u := h.frame fun q h1 h2 => List.getElem?_set_ne (by omega)
theorem New.str {s : Str} (h : s.length ≤ maxLen) : New b e G .str [.str s] (.str s) := ⟨[], kR.2 ⟨⟨s, rfl, rfl, h⟩, rfl⟩, by simp, by simp⟩
theorem New.int {k : IntKind} {n : Int} (h : (Lit.int k n).wf = true) : New b e G (.int k) [.int k n] (.int n) := ⟨[], zK.2 ⟨⟨n, rfl, rfl, h⟩, rfl⟩, by simp, by simp⟩
theorem New.bool {t : Bool} : New b e G .bool [.bool t] (.bool t) := ⟨[], uP.2 ⟨⟨t, rfl, rfl⟩, rfl⟩, by simp, by simp⟩
theorem New.nil : New b e G (.slice sh) [.slc none 0] (.lst []) := ⟨[], aZ.2 ⟨_, _, rfl, rfl, by simp, .inl ⟨rfl, rfl, rfl⟩⟩, by simp, by simp⟩
theorem News.nil : News b e G [] [] [] := ⟨[], jl.2 ⟨rfl, rfl, rfl⟩, by simp, by simp⟩
theorem News.ext (h : News b e G fs cs us) : News b e (G ++ T) fs cs us := by
 obtain ⟨F, h1, h2⟩ := h
 exact ⟨F, AtsF.frame _ (fun q hq => List.getElem?_append_left (AtsF.mem _ h1 q hq)) h1, h2⟩
theorem News.frame (h : News b e G fs cs us) (hG : ∀ q, b ≤ q → q < e → G'[q]? = G[q]?) : News b e G' fs cs us := h.imp fun _ h => ⟨h.1.frame _ fun q hq => hG q (h.2.2 q hq).1 (h.2.2 q hq).2, h.2⟩
theorem New.st (h : News b e G fs cs us) : New b e G (.st fs) cs (.st us) := h.imp fun _ h => ⟨jZ.2 ⟨_, rfl, h.1⟩, h.2⟩
theorem News.cons {m : Nat} (h : New b m G sh c1 u) (hs : News m e G fs c2 us) (h1 : b ≤ m) (h2 : m ≤ e) : News b e G (sh :: fs) (c1 ++ c2) (u :: us) := by
 obtain ⟨F, f1, f2, f3⟩ := h
 obtain ⟨K, k1, k2, k3⟩ := hs
 refine ⟨F ++ K, bH.2 ⟨c1, c2, u, us, F, K, rfl, rfl, rfl, f1, k1⟩, List.nodup_append.2 ⟨f2, k2, fun x hx y hy e => ?_⟩, fun q hq => ?_⟩
 ·subst e; have := f3 x hx; have := k3 x hy; omega
 ·rcases List.mem_append.1 hq with hq | hq
  ·have := f3 q hq; omega
  ·have := k3 q hq; omega
theorem News.cons0 (h : AtF G sh c1 u []) (hs : News b e G fs c2 us) : News b e G (sh :: fs) (c1 ++ c2) (u :: us) := by
 obtain ⟨K, k1, k2⟩ := hs
 exact ⟨K, bH.2 ⟨c1, c2, u, us, [], K, rfl, rfl, rfl, h, k1⟩, k2⟩
theorem News.str {s : Str} (hl : s.length ≤ maxLen) (hs : News b e G fs c2 us) : News b e G (.str :: fs) (.str s :: c2) (.str s :: us) := News.cons0 (c1 := [.str s]) (kR.2 ⟨⟨s, rfl, rfl, hl⟩, rfl⟩) hs
theorem News.int {k : IntKind} {n : Int} (hn : (Lit.int k n).wf = true) (hs : News b e G fs c2 us) : News b e G (.int k :: fs) (.int k n :: c2) (.int n :: us) := News.cons0 (c1 := [.int k n]) (zK.2 ⟨⟨n, rfl, rfl, hn⟩, rfl⟩) hs
theorem News.bool {t : Bool} (hs : News b e G fs c2 us) : News b e G (.bool :: fs) (.bool t :: c2) (.bool t :: us) := News.cons0 (c1 := [.bool t]) (uP.2 ⟨⟨t, rfl, rfl⟩, rfl⟩) hs
theorem News.nilS {e' : Sh} (hs : News b e G fs c2 us) : News b e G (.slice e' :: fs) (.slc none 0 :: c2) (.lst [] :: us) := News.cons0 (c1 := [.slc none 0]) (aZ.2 ⟨_, _, rfl, rfl, by simp, .inl ⟨rfl, rfl, rfl⟩⟩) hs
theorem News.one (h : New b e G sh cs u) (h1 : b ≤ e) : News b e G [sh] cs [u] := by
 have := News.cons h (News.nil (b := e) (e := e) (G := G)) h1 (Nat.le_refl _)
 simpa using this
theorem New.gc {H : List Ob} {v : V} (hv : eF H v ↔ gZ H cs) (h : New H.length e (H ++ T) sh cs u) : ∃ T', eY H (H ++ T) v = H ++ T' ∧ New H.length (H ++ T').length (H ++ T') sh cs u := by
 by_cases hl : eF H v
 ·refine ⟨[], by rw [mF hl, List.append_nil], ?_⟩
  obtain ⟨F, h1, h2, h3⟩ := h
  have hF : F = [] := AtF.cut _ h1 (fun q hq => (h3 q hq).1) (hv.1 hl)
  subst hF
  exact ⟨[], AtF.frame _ (fun q hq => by cases hq) h1, by simp, by simp⟩
 ·refine ⟨T, ?_, h.inG⟩
  unfold eY
  rw [if_neg fun h => hl h.2]
theorem New.one1 {v : V} {e0 : Sh} (h : New b e G (.slice e0) [v] u) : aI v = true ∧ cellsOf v = some [v] := by
 obtain ⟨w, l, hw, _, _, h4⟩ := aG.1 h.at
 cases hw
 exact h4.one
theorem New.gc1 {H : List Ob} {v : V} (h : New H.length e (H ++ T) sh [v] u) : ∃ T', eY H (H ++ T) v = H ++ T' ∧ New H.length (H ++ T').length (H ++ T') sh [v] u := h.gc (by simp [gZ])
theorem New.gcA {H : List Ob} (h : New H.length e (H ++ T) sh cs u) : ∃ T', eY H (H ++ T) (.agg cs) = H ++ T' ∧ New H.length (H ++ T').length (H ++ T') sh cs u := h.gc (by simp [eF])
end
theorem dG {d : LD} {sz by_ : Nat} {z : List V} {G : List Ob} {id n m : Nat} {cs xs : List V} {x : V} (hz : z.length = sz) (h0 : 0 < sz) (hb0 : 0 < by_) (hb1 : by_ ≤ 1000000) (h : G[id]? = some (.mk true sz cs)) (hl : cs.length = n * sz)
  (hx : aQ ⟨d, sz, by_, z⟩ G x = some (xs, m)) (hm : m ≠ 0) (ho : xs.all aI = true) (hb : (n + m) * by_ ≤ ax) :
  aU ⟨d, sz, by_, z⟩ G (.slc (some (id, 0)) n) x = some (.slc (some (G.length, 0)) (n + m), G.set id .dead ++ [.mk true sz (cs ++ xs)]) := by
 have e0 : 0 < m * sz := Nat.mul_pos (by omega) h0
 have e1 : (n + m) * sz = n * sz + m * sz := Nat.add_mul _ _ _
 unfold aU
 rw [if_pos (by simp [gV, h0, hb0, hb1, hz]), hx]
 simp only [hm, if_false, ho, if_true, h]
 rw [if_neg (by omega), if_pos ⟨.inl (by omega), hb⟩, List.drop_zero]
theorem kW {d : LD} {sz by_ : Nat} {z : List V} {G : List Ob} {m : Nat} {xs : List V} {x : V} (hz : z.length = sz) (h0 : 0 < sz) (hb0 : 0 < by_) (hb1 : by_ ≤ 1000000)
  (hx : aQ ⟨d, sz, by_, z⟩ G x = some (xs, m)) (hm : m ≠ 0) (ho : xs.all aI = true) (hb : m * by_ ≤ ax) :
  aU ⟨d, sz, by_, z⟩ G (.slc none 0) x = some (.slc (some (G.length, 0)) m, G ++ [.mk true sz xs]) := by
 unfold aU
 rw [if_pos (by simp [gV, h0, hb0, hb1, hz]), hx]
 simp only [hm, if_false, ho, if_true]
 rw [if_pos hb]
theorem jF {d : LD} {by_ : Nat} {z : List V} {G : List Ob} {es : Nat} {c : List V} (h0 : 0 < c.length) : aQ ⟨d, c.length, by_, z⟩ (G ++ [.mk true es c]) (.slc (some (G.length, 0)) 1) = some (c, 1) := by
 have : ¬ c.length = 0 := by omega
 simp [aQ, aO, this]
def Lst {α : Type} (B G : List Ob) (sh : Sh) (f : α → U) (v : V) (l : List α) : Prop := (∃ T, G = B ++ T) ∧ ((v = .slc none 0 ∧ l = []) ∨ ∃ id cs, B.length ≤ id ∧ G[id]? = some (.mk true sh.size cs) ∧ v = .slc (some (id, 0)) l.length ∧
 cs.length = l.length * sh.size ∧ ∀ i x, l[i]? = some x → At (G.set id .dead) sh ((cs.drop (i * sh.size)).take sh.size) (f x))
section
variable {α : Type} {B G T : List Ob} {sh : Sh} {f : α → U} {v : V} {l : List α}
theorem Lst.nil : Lst B B sh f (.slc none 0) [] := ⟨⟨[], by simp⟩, .inl ⟨rfl, rfl⟩⟩
theorem Lst.init : Lst B (B ++ [.mk true sh.size []]) sh f (.slc (some (B.length, 0)) 0) [] := ⟨⟨_, rfl⟩, .inr ⟨B.length, [], Nat.le_refl _, by simp, rfl, by simp, fun i x h => by simp at h⟩⟩
theorem Lst.pre (h : Lst B G sh f v l) : ∃ T, G = B ++ T := h.1
theorem Lst.ext (h : Lst B G sh f v l) : Lst B (G ++ T) sh f v l := by
 obtain ⟨⟨S, hS⟩, h⟩ := h
 refine ⟨⟨S ++ T, by rw [hS, List.append_assoc]⟩, ?_⟩
 rcases h with h | ⟨id, cs, h1, h2, h3, h4, h5⟩
 ·exact .inl h
 ·have hid := (List.getElem?_eq_some_iff.1 h2).1
  exact .inr ⟨id, cs, h1, by rw [List.getElem?_append_left hid]; exact h2, h3, h4, fun i x hx => by rw [jO hid]; exact (h5 i x hx).ext⟩
theorem Lst.one (h : Lst B G sh f v l) : aI v = true ∧ cellsOf v = some [v] := by
 obtain ⟨_, ⟨rfl, _⟩ | ⟨id, cs, _, _, rfl, _⟩⟩ := h <;> exact ⟨rfl, rfl⟩
theorem Lst.len (h : Lst B G sh f v l) {e s b : Nat} {z : List V} : lenV ⟨.slice e, s, b, z⟩ v = some (.int .i64 l.length) := by
 obtain ⟨_, ⟨rfl, rfl⟩ | ⟨id, cs, _, _, rfl, _⟩⟩ := h <;> rfl
theorem Lst.at (h : Lst B G sh f v l) (hl : l.length ≤ maxLen) : ASl G sh f v l := by
 obtain ⟨_, ⟨rfl, rfl⟩ | ⟨id, cs, h1, h2, rfl, h4, h5⟩⟩ := h
 ·exact aG.2 ⟨_, _, rfl, rfl, by simp, .inl ⟨rfl, rfl⟩⟩
 ·refine aG.2 ⟨_, _, rfl, rfl, by simpa using hl, .inr ⟨id, 0, true, cs, by simp, h2, by simp; omega, fun i x hx => ?_⟩⟩
  rw [List.getElem?_map] at hx
  obtain ⟨y, hy, rfl⟩ := Option.map_eq_some_iff.1 hx
  rw [Nat.zero_add]
  exact (h5 i y hy).undead
theorem vU {cs c : List V} {n s : Nat} (hl : cs.length = n * s) (hc : c.length = s) {P : Nat → List V → Prop} (h1 : ∀ i, i < n → P i ((cs.drop (i * s)).take s)) (h2 : P n c) : ∀ i, i < n + 1 → P i (((cs ++ c).drop (i * s)).take s) := by
 intro i hi
 by_cases e : i = n
 ·subst e
  rw [List.drop_append_of_le_length (by omega), List.drop_of_length_le (by omega), List.nil_append, List.take_of_length_le (by omega)]
  exact h2
 ·have h3 : i * s + s ≤ n * s := bW (by omega)
  rw [List.drop_append_of_le_length (by omega), List.take_append_of_le_length (by simp; omega)]
  exact h1 i (by omega)
theorem Lst.apart (h : Lst B G sh f v l) {q n : Nat} (hq : G.length ≤ q) : v ≠ .slc (some (q, 0)) n := by
 obtain ⟨_, ⟨rfl, _⟩ | ⟨id, cs, _, h2, rfl, _⟩⟩ := h
 ·simp
 ·have := (List.getElem?_eq_some_iff.1 h2).1
  simp
  omega
theorem Lst.push {d : LD} {sz by_ : Nat} {z : List V} (h : Lst B G sh f v l) {x : α} {c : List V} (hx : (∃ F, AtF (G ++ T) sh c (f x) F ∧ ∀ q ∈ F, ∀ n, v ≠ .slc (some (q, 0)) n) ∨ At B sh c (f x)) (hs : sz = sh.size) (hz : z.length = sz) (h0 : 0 < sz) (hb0 : 0 < by_) (hb1 : by_ ≤ 1000000) (hb : (l.length + 1) * by_ ≤ ax) :
  ∃ v' G', aU ⟨d, sz, by_, z⟩ (G ++ T ++ [.mk true sz c]) v (.slc (some ((G ++ T).length, 0)) 1) = some (v', G') ∧ Lst B G' sh f v' (l ++ [x]) ∧ c.length = sz ∧ c.all aI = true ∧
   v' = .slc (some ((G ++ T).length + 1, 0)) (l.length + 1) ∧ (∀ q, q < (G ++ T).length → (∀ n, v ≠ .slc (some (q, 0)) n) → G'[q]? = (G ++ T)[q]?) ∧ (G ++ T).length + 2 = G'.length := by
 obtain ⟨S, hS⟩ := h.1
 have hat : At (G ++ T) sh c (f x) := by
  rcases hx with ⟨F, h1, _⟩ | hx
  ·exact AtF.at _ h1
  ·rw [hS, List.append_assoc]; exact hx.ext
 have hcl : c.length = sz := by rw [hs]; exact At.len _ hat
 have hco := At.ones _ hat
 subst hcl
 have hnew := jF (d := d) (by_ := by_) (z := z) (G := G ++ T) (es := c.length) h0
 obtain ⟨_, ⟨rfl, rfl⟩ | ⟨id, cs, h1, h2, rfl, h4, h5⟩⟩ := h
 ·refine ⟨_, _, kW hz h0 hb0 hb1 hnew (by decide) hco (by simpa using hb), ⟨⟨_, by rw [hS, List.append_assoc, List.append_assoc, List.append_assoc]⟩, .inr ⟨_, c, ?_, get_last.trans (by rw [hs]), by simp, by simp [hs], fun i y hy => ?_⟩⟩, rfl, hco, by simp [Nat.add_assoc], fun q hq _ => ?_, by simp [Nat.add_assoc]⟩
  ·simp [hS]
  ·rw [gY]
   have : i = 0 := by
    have := (List.getElem?_eq_some_iff.1 hy).1
    simp at this; omega
   subst this
   cases hy
   rw [Nat.zero_mul, List.drop_zero, List.take_of_length_le (by omega)]
   exact hat.ext.ext
  ·rw [List.append_assoc, List.getElem?_append_left hq]
 ·have hid := (List.getElem?_eq_some_iff.1 h2).1
  have h2' : (G ++ T ++ [Ob.mk true c.length c])[id]? = some (.mk true c.length cs) := by rw [List.append_assoc, List.getElem?_append_left hid, h2, hs]
  refine ⟨_, _, dG hz h0 hb0 hb1 h2' (by rw [h4, hs]) hnew (by decide) hco hb, ⟨?_, .inr ⟨(G ++ T ++ [Ob.mk true c.length c]).length, cs ++ c, by simp [hS], ?_, by simp, by simp [h4, hs, Nat.add_mul], ?_⟩⟩, rfl, hco, by simp [Nat.add_assoc], fun q hq hn => ?_, by simp [Nat.add_assoc]⟩
  ·rw [hS, List.append_assoc, List.append_assoc, List.set_append_right _ _ h1, List.append_assoc]
   exact ⟨_, rfl⟩
  ·have : (G ++ T ++ [Ob.mk true c.length c]).length = ((G ++ T ++ [Ob.mk true c.length c]).set id .dead).length := List.length_set.symm
   rw [this, get_last, hs]
  ·have hlen : (G ++ T ++ [Ob.mk true c.length c]).length = ((G ++ T ++ [Ob.mk true c.length c]).set id .dead).length := List.length_set.symm
   have hG' : ((G ++ T ++ [Ob.mk true c.length c]).set id .dead ++ [Ob.mk true c.length (cs ++ c)]).set (G ++ T ++ [Ob.mk true c.length c]).length .dead = G.set id .dead ++ (T ++ [Ob.mk true c.length c] ++ [.dead]) := by
    rw [hlen, gY, List.append_assoc G, jO hid, List.append_assoc]
   rw [hG']
   have key := vU (n := l.length) (s := sh.size) (cs := cs) (c := c) (by rw [h4]) hs (P := fun i cc => ∀ y, (l ++ [x])[i]? = some y → At (G.set id .dead ++ (T ++ [Ob.mk true c.length c] ++ [.dead])) sh cc (f y)) (fun i hi y hy => by
     rw [List.getElem?_append_left hi] at hy
     exact (h5 i y hy).ext) (fun y hy => by
     simp at hy
     subst hy
     rcases hx with ⟨F, f1, f2⟩ | hx
     ·have := AtF.at _ (AtF.kill (id := id) (o := .dead) f1 fun hm => f2 id hm _ rfl)
      rw [jO hid] at this
      have := this.ext (T := [Ob.mk true c.length c] ++ [.dead])
      simpa [List.append_assoc] using this
     ·rw [hS, List.set_append_right _ _ h1, List.append_assoc]
      exact hx.ext)
   intro i y hy
   have hi : i < l.length + 1 := by
    have := (List.getElem?_eq_some_iff.1 hy).1
    simpa using this
   exact key i hi y hy
  ·have hne : q ≠ id := fun e => hn _ (by rw [e])
   rw [List.getElem?_append_left (by simp at hq ⊢; omega), List.getElem?_set_ne (fun e => hne e.symm), List.getElem?_append_left hq]
end
mutual
def Sh.flat : Sh → Bool
 | .slice _ => false
 | .st fs => Sh.flats fs
 | _ => true
def Sh.flats : List Sh → Bool
 | [] => true
 | f :: fs => f.flat && Sh.flats fs
end
section
variable {H H' : List Ob}
mutual
theorem At.flat : ∀ (sh : Sh) {cs : List V} {u : U}, sh.flat = true → At H sh cs u → AtF H' sh cs u []
 | .int k, _, _, _, h => zK.2 ⟨nI.1 h, rfl⟩
 | .bool, _, _, _, h => uP.2 ⟨sZ.1 h, rfl⟩
 | .str, _, _, _, h => kR.2 ⟨dw.1 h, rfl⟩
 | .slice e, _, _, hf, _ => by simp [Sh.flat] at hf
 | .st fs, _, _, hf, h => by
  obtain ⟨us, h1, h2⟩ := jC.1 h
  exact jZ.2 ⟨us, h1, Ats.flat fs (by simpa [Sh.flat] using hf) h2⟩
theorem Ats.flat : ∀ (fs : List Sh) {cs : List V} {us : List U}, Sh.flats fs = true → Ats H fs cs us → AtsF H' fs cs us []
 | [], _, _, _, h => by obtain ⟨rfl, rfl⟩ := eH.1 h; exact jl.2 ⟨rfl, rfl, rfl⟩
 | f :: fs, _, _, hf, h => by
  obtain ⟨c1, c2, u, us', h1, h2, h3, h4⟩ := bn.1 h
  simp only [Sh.flats, Bool.and_eq_true] at hf
  exact bH.2 ⟨c1, c2, u, us', [], [], h1, h2, rfl, At.flat f hf.1 h3, Ats.flat fs hf.2 h4⟩
end
end
theorem jb {cells : List V} {off n s i : Nat} (h : off + n * s ≤ cells.length) (hi : i < n) : ((((cells.drop off).take (n * s)).drop (i * s)).take s) = (cells.drop (off + i * s)).take s := by
 have h1 : i * s + s ≤ n * s := bW hi
 apply List.ext_getElem?
 intro j
 by_cases hj : j < s
 ·rw [List.getElem?_take_of_lt hj, List.getElem?_take_of_lt hj, List.getElem?_drop, List.getElem?_take_of_lt (by omega), List.getElem?_drop, List.getElem?_drop]
  congr 1
  omega
 ·rw [List.getElem?_eq_none (by simp; omega), List.getElem?_eq_none (by simp; omega)]
theorem nY {cs : List V} {n s : Nat} (hl : cs.length = n * s) (h : ∀ i, i < n → ((cs.drop (i * s)).take s).all aI = true) : cs.all aI = true := by
 rw [List.all_eq_true]
 intro x hx
 obtain ⟨j, hj, rfl⟩ := List.getElem_of_mem hx
 have hs : 0 < s := by
  rcases Nat.eq_zero_or_pos s with h0 | h0
  ·subst h0; simp at hl; simp [hl] at hj
  ·exact h0
 have hd : j / s < n := Nat.div_lt_of_lt_mul (by rw [Nat.mul_comm]; omega)
 have h1 := h (j / s) hd
 rw [List.all_eq_true] at h1
 refine h1 _ (List.mem_iff_getElem?.2 ⟨j % s, ?_⟩)
 rw [List.getElem?_take_of_lt (Nat.mod_lt _ hs), List.getElem?_drop, show j / s * s + j % s = j from Nat.div_add_mod' j s, List.getElem?_eq_getElem hj]
section
variable {α : Type} {H T : List Ob} {sh : Sh} {f : α → U} {v : V} {l : List α}
theorem ASl.cells (h : ASl H sh f v l) (hs : sh.size ≠ 0) : ∃ p cs, v = .slc p l.length ∧ (∀ T, aO (H ++ T) p (l.length * sh.size) = some cs) ∧ cs.length = l.length * sh.size ∧ cs.all aI = true ∧ (p = none → l = []) ∧
  (∀ i x, l[i]? = some x → At H sh ((cs.drop (i * sh.size)).take sh.size) (f x)) := by
 rcases h.sl with ⟨rfl, hl⟩ | ⟨id, off, own, cells, rfl, h2, h3, h4⟩
 ·have : l = [] := by simpa using hl
  subst this
  exact ⟨none, [], rfl, fun T => by simp [aO], by simp, rfl, fun _ => rfl, fun i x hx => by simp at hx⟩
 ·rw [List.length_map] at h3 ⊢
  have hch : ∀ i x, l[i]? = some x → At H sh ((((cells.drop off).take (l.length * sh.size)).drop (i * sh.size)).take sh.size) (f x) := fun i x hx => by
   rw [jb h3 (List.getElem?_eq_some_iff.1 hx).1]
   exact h4 i (f x) (by rw [List.getElem?_map, hx]; rfl)
  refine ⟨some (id, off), (cells.drop off).take (l.length * sh.size), rfl, fun T => ?_, by simp; omega, ?_, (fun h => by cases h), hch⟩
  ·by_cases h0 : l.length * sh.size = 0
   ·simp [aO, h0]
   ·simp only [aO, bg _ _ h2, if_neg h0]
    unfold cO
    rw [if_pos h3]
  ·exact nY (n := l.length) (s := sh.size) (by simp; omega) fun i hi => At.ones _ (hch i l[i] (List.getElem?_eq_getElem hi))
theorem iR {d : LD} {sz by_ : Nat} {z : List V} (h : ASl H sh f v l) (hf : sh.flat = true) (hs : sz = sh.size) (hz : z.length = sz) (h0 : 0 < sz) (hb0 : 0 < by_) (hb1 : by_ ≤ 1000000) (hb : l.length * by_ ≤ ax) :
  ∃ w T', aU ⟨d, sz, by_, z⟩ (H ++ [.mk true sz []]) (.slc (some (H.length, 0)) 0) v = some (w, H ++ T') ∧ New H.length (H ++ T').length (H ++ T') (.slice sh) [w] (.lst (l.map f)) := by
 obtain ⟨p, cs, rfl, hc, hl, ho, hp, hat⟩ := h.cells (by omega)
 have hbd := h.bound
 subst hs
 have hnew : aQ ⟨d, sh.size, by_, z⟩ (H ++ [.mk true sh.size []]) (.slc p l.length) = some (cs, l.length) := by simp only [aQ, hc]
 by_cases hm : l.length = 0
 ·have hl0 : l = [] := List.length_eq_zero_iff.1 hm
  subst hl0
  refine ⟨.slc (some (H.length, 0)) 0, [.mk true sh.size []], ?_, ⟨[H.length], aZ.2 ⟨_, [], rfl, rfl, by simp, .inr ⟨H.length, 0, [], [], rfl, by simp, by simp, rfl, rfl, fun i x F hx => by simp at hx⟩⟩, by simp, by simp⟩⟩
  unfold aU
  rw [if_pos (by simp [gV, h0, hb0, hb1, hz]), hnew]
  simp
 ·have ha := dG (n := 0) (cs := []) (id := H.length) hz h0 hb0 hb1 (G := H ++ [.mk true sh.size []]) (by simp) (by simp) hnew hm ho (by simpa using hb)
  rw [Nat.zero_add, List.nil_append] at ha
  refine ⟨.slc (some (H.length + 1, 0)) l.length, [.dead, .mk true sh.size cs], by rw [ha, List.set_append_right _ _ (Nat.le_refl _), List.append_assoc]; simp, ⟨[H.length + 1], ?_, by simp, by simp⟩⟩
  refine aZ.2 ⟨.slc (some (H.length + 1, 0)) l.length, l.map f, rfl, rfl, by simpa using hbd, .inr ⟨H.length + 1, 0, cs, List.replicate l.length [], by simp, ?_, by simp; omega, by simp, by simp, fun i x F hx hF => ?_⟩⟩
  ·rw [List.getElem?_append_right (by omega)]; simp
  ·rw [List.getElem?_map] at hx
   obtain ⟨y, hy, rfl⟩ := Option.map_eq_some_iff.1 hx
   have hi : i < l.length := (List.getElem?_eq_some_iff.1 hy).1
   rw [List.getElem?_replicate, if_pos hi] at hF
   cases hF
   rw [Nat.zero_add]
   exact At.flat _ hf (hat i y hy)
end
theorem bC (a : Str) : ¬ bG a a := by
 induction a with
 | nil => simp [bG, Op.bytesLess]
 | cons x xs ih => simpa [bG, Op.bytesLess] using ih
noncomputable def pX (l : List Str) (x : Str) : List Str := l.takeWhile (fun y => dec (bG (norm y) (norm x))) ++ x :: l.dropWhile (fun y => dec (bG (norm y) (norm x)))
noncomputable def bD (l : List Str) : List Str := l.foldl pX []
def gm (l : List Str) : Prop := (∀ (i : Nat) x, l[i]? = some x → aA x ∧ ∀ j y, j < i → l[j]? = some y → norm y ≠ norm x) ∧ l.length ≤ 4
theorem Gn (l : List Str) (x : Str) : (pX l x).Perm (x :: l) := by
 unfold pX
 have : l.takeWhile (fun y => dec (bG (norm y) (norm x))) ++ l.dropWhile (fun y => dec (bG (norm y) (norm x))) = l := List.takeWhile_append_dropWhile
 refine (List.perm_middle).trans ?_
 rw [this]
theorem iw : ∀ (l a : List Str), (l.foldl pX a).Perm (a ++ l)
 | [], a => by simp
 | x :: l, a => by
  have h1 := iw l (pX a x)
  simp only [List.foldl_cons]
  refine h1.trans ?_
  refine ((Gn a x).append_right l).trans ?_
  simpa using (List.perm_middle (l₁ := a) (a := x) (l₂ := l)).symm
theorem jW (l : List Str) : (bD l).Perm l := by
 have := iw l []
 rwa [List.nil_append] at this
theorem jS (l : List Str) : (bD l).length = l.length := (jW l).length_eq
theorem FY : bD [] = [] := rfl
noncomputable def aY (l : List PAttr) (n : Str) (vs : List Str) : List PAttr := l.filter (fun a => dec (bG a.name n)) ++ (if vs = [] then [] else [⟨n, vs⟩]) ++ l.filter (fun a => dec (bG n a.name))
noncomputable def o9 (e : PEntry) (n : Str) (vs : List Str) : PEntry := ⟨e.dn, aY e.attrs n vs⟩
structure PEntryOut where
 entry : PEntry
 code : Int
def PEntryOut.u (o : PEntryOut) : U := .st [o.entry.u, .int o.code]
abbrev fQ : Sh := .st [bK, .int .i64]
def gz (c : Int) : PEntryOut := ⟨⟨[], []⟩, c⟩
noncomputable def fJ (e : PEntry) (n : Str) (vs : List Str) : PEntryOut := if vs ≠ [] ∧ 8 ≤ e.attrs.length ∧ bT PAttr.name e.attrs n = none then gz 9 else ⟨o9 e n (bD vs), 0⟩
noncomputable def aT (e : PEntry) (n : Str) (vs : List Str) : PEntryOut :=
 if 8000 < n.length ∨ 400 < vs.length then gz 2 else if dec (EntryOk e ∧ aF n ∧ gm vs) = true then fJ e n vs else gz 1
theorem dS {H : List Ob} {cs : List V} {o : PEntryOut} : At H fQ cs o.u ↔ ∃ v1 v2, cs = [v1, v2, .int .i64 o.code] ∧ aX H v1 o.entry.dn ∧ aC H v2 o.entry.attrs ∧ (Lit.int .i64 o.code).wf = true := by
 constructor
 ·intro h
  obtain ⟨us, hu, h⟩ := jC.1 h
  cases hu
  obtain ⟨c1, c2, u1, us1, rfl, hu, h1, h⟩ := bn.1 h
  cases hu
  obtain ⟨c3, c4, u2, us2, rfl, hu, h2, h⟩ := bn.1 h
  cases hu
  obtain ⟨rfl, _⟩ := eH.1 h
  obtain ⟨v1, v2, rfl, a1, a2⟩ := fC.1 h1
  obtain ⟨n, rfl, hn, w⟩ := nI.1 h2
  cases hn
  exact ⟨v1, v2, rfl, a1, a2, w⟩
 ·rintro ⟨v1, v2, rfl, h1, h2, w⟩
  exact jC.2 ⟨_, rfl, bn.2 ⟨[v1, v2], _, _, _, rfl, rfl, fC.2 ⟨_, _, rfl, h1, h2⟩, bn.2 ⟨[_], _, _, _, rfl, rfl, nI.2 ⟨_, rfl, rfl, w⟩, eH.2 ⟨rfl, rfl⟩⟩⟩⟩
theorem Et {n : Int} (h1 : 0 ≤ n) (h2 : n ≤ 100) : (Lit.int .i64 n).wf = true := by
 have e1 : IntKind.i64.min = -9223372036854775808 := by decide
 have e2 : IntKind.i64.max = 9223372036854775807 := by decide
 simp [Lit.wf, e1, e2]
 omega
section
variable {α : Type} {H T : List Ob} {sh : Sh} {f : α → U} {v : V} {l : List α}
theorem ASl.sub (h : ASl H sh f v l) : (v = .slc none 0 ∧ l = []) ∨ ∃ id off own cells, v = .slc (some (id, off)) l.length ∧ H[id]? = some (.mk own sh.size cells) ∧ off + l.length * sh.size ≤ cells.length ∧
  ∀ lo hi, lo ≤ hi → hi ≤ l.length → ASl H sh f (.slc (some (id, off + lo * sh.size)) (hi - lo)) ((l.take hi).drop lo) := by
 have hb := h.bound
 rcases h.sl with ⟨rfl, hl⟩ | ⟨id, off, own, cells, rfl, h2, h3, h4⟩
 ·exact .inl ⟨rfl, by simpa using hl⟩
 ·rw [List.length_map] at h3 ⊢
  refine .inr ⟨id, off, own, cells, rfl, h2, h3, fun lo hi h5 h6 => ?_⟩
  have hlen : ((l.take hi).drop lo).length = hi - lo := by simp; omega
  have hm : lo * sh.size + (hi - lo) * sh.size ≤ l.length * sh.size := by rw [← Nat.add_mul]; exact Nat.mul_le_mul_right _ (by omega)
  refine aG.2 ⟨_, _, rfl, rfl, by simp; omega, .inr ⟨id, off + lo * sh.size, own, cells, by rw [List.length_map, hlen], h2, by rw [List.length_map, hlen]; omega, fun i x hx => ?_⟩⟩
  rw [List.getElem?_map, List.getElem?_drop] at hx
  have hi2 : lo + i < hi := by
   rcases Nat.lt_or_ge (lo + i) hi with hh | hh
   ·exact hh
   ·rw [List.getElem?_eq_none (by simp; omega)] at hx; cases hx
  rw [List.getElem?_take_of_lt hi2] at hx
  have := h4 (lo + i) x (by rw [List.getElem?_map]; exact hx)
  rw [Nat.add_mul] at this
  rwa [show off + lo * sh.size + i * sh.size = off + (lo * sh.size + i * sh.size) by omega]
end
theorem uy {α : Type} {p : α → Bool} : ∀ {l : List α} {k : Nat}, k ≤ l.length → (∀ j x, j < k → l[j]? = some x → p x = true) → (∀ x, l[k]? = some x → p x = false) → l.takeWhile p = l.take k ∧ l.dropWhile p = l.drop k
 | [], k, _, _, _ => by simp
 | x :: l, 0, _, _, h => by have := h x rfl; simp [this]
 | x :: l, k + 1, hk, h1, h2 => by
  have hx := h1 0 x (by omega) rfl
  have ih := uy (l := l) (k := k) (by simpa using hk) (fun j y hj hy => h1 (j + 1) y (by omega) (by simpa using hy)) (fun y hy => h2 y (by simpa using hy))
  simp [hx, ih.1, ih.2]
section
variable {H G : List Ob} {v : V} {cs : List V}
theorem Gs.low {B : List Ob} (h : Gs G B v cs) (hG : ∃ T, G = H ++ T) : Gs H B v cs := by
 obtain ⟨T, id, rfl, h1, h2, h3⟩ := h
 obtain ⟨S, rfl⟩ := hG
 exact ⟨S ++ T, id, by simp, by simp at h1; omega, h2, h3⟩
theorem Gs.grow (h : Gs H G v cs) (T : List Ob) : Gs H (G ++ T) v cs := by
 obtain ⟨S, id, rfl, h1, h2, h3⟩ := h
 exact ⟨S ++ T, id, by simp, h1, bg _ _ h2, h3⟩
theorem Gs.many (h : Gs H G v cs) {x : V} {xs : List V} {z : List V} {d : LD} {b : Nat} (hx : aQ ⟨d, 1, b, z⟩ G x = some (xs, xs.length)) (ho : xs.all aI = true) (hb : (cs.length + xs.length) * b ≤ ax) (hb0 : 0 < b) (hb1 : b ≤ 1000000) (hz : z.length = 1) :
  ∃ v' G', aU ⟨d, 1, b, z⟩ G v x = some (v', G') ∧ Gs H G' v' (cs ++ xs) := by
 obtain ⟨T, id, rfl, h1, h2, rfl⟩ := h
 by_cases hm : xs.length = 0
 ·have hx0 : xs = [] := List.length_eq_zero_iff.1 hm
  subst hx0
  refine ⟨.slc (some (id, 0)) cs.length, H ++ T, ?_, ⟨T, id, rfl, h1, by simpa using h2, by simp⟩⟩
  unfold aU
  rw [if_pos (by simp [gV, hb0, hb1, hz]), hx]
  simp
 ·refine ⟨_, _, dG (n := cs.length) hz (by decide) hb0 hb1 h2 (by simp) hx hm ho hb, ⟨T.set (id - H.length) .dead ++ [.mk true 1 (cs ++ xs)], (H ++ T).length, ?_, by simp, ?_, by simp⟩⟩
  ·rw [List.set_append_right _ _ h1, List.append_assoc]
  ·have hl : ((H ++ T).set id .dead).length = (H ++ T).length := List.length_set
   rw [← hl, get_last]
theorem Gs.new {l : List Str} (h : Gs H G v (l.map V.str)) (hl : l.length ≤ maxLen) (hs : ∀ s ∈ l, s.length ≤ maxLen) : New H.length G.length G (.slice .str) [v] (.lst (l.map kD)) := by
 obtain ⟨_, id, h1, h2⟩ := h.strs hl hs
 exact New.inG (e := id + 1) ⟨[id], h1, by simp, by simp; exact h2⟩
end
theorem AStrs.max {H : List Ob} {v : V} {l : List Str} (h : AStrs H v l) : ∀ s ∈ l, s.length ≤ maxLen := fun s hs => by
 obtain ⟨j, hj, rfl⟩ := List.getElem_of_mem hs
 obtain ⟨_, _, _, _, h⟩ := cZ h (List.getElem?_eq_getElem hj)
 exact h
theorem qV {H : List Ob} {v : V} {xs : List Str} (h : AStrs H v xs) {i : Nat} {s : Str} (hx : xs[i]? = some s) : ∃ id o,
  (∀ (e s b : Nat) (z : List V) (ty : Nat → LT) (k : IntKind), (ty e).size = 1 → dQ ⟨.slice e, s, b, z⟩ ty (.val v) (.int k i) = some (.val (.ptr (some (id, o))))) ∧
  (∀ G : List Ob, (∃ T', G = H ++ T') → ∀ T : LT, T.one → ∀ r c, loadAt T ⟨r, c, G⟩ (.hp id o) = some (.str s)) ∧ s.length ≤ maxLen ∧ id < H.length := by
 obtain ⟨id, o, own, cells, e1, e2, e3, e4⟩ := ASl.idx h hx (by decide)
 obtain ⟨t, e4, ht, e5⟩ := dw.1 e4
 cases ht
 refine ⟨id, o, e1, ?_, e5, (List.getElem?_eq_some_iff.1 e2).1⟩
 rintro G ⟨T', rfl⟩
 exact dF (bg _ _ e2) (by simpa using dm e4 (j := 0) rfl)
theorem dN {H : List Ob} {v : V} {xs : List PAttr} (h : aC H v xs) {i : Nat} {x : PAttr} (hx : xs[i]? = some x) : ∃ id o w,
  (∀ (e s b : Nat) (z : List V) (ty : Nat → LT) (k : IntKind), (ty e).size = 2 → dQ ⟨.slice e, s, b, z⟩ ty (.val v) (.int k i) = some (.val (.ptr (some (id, o))))) ∧
  (∀ G : List Ob, (∃ T', G = H ++ T') → (∀ T : LT, T.one → ∀ r c, loadAt T ⟨r, c, G⟩ (.hp id o) = some (.str x.name)) ∧ (∀ T : LT, T.one → ∀ r c, loadAt T ⟨r, c, G⟩ (.hp id (o + 1)) = some w) ∧
   (∀ T : LT, T.many 2 → ∀ r c, loadAt T ⟨r, c, G⟩ (.hp id o) = some (.agg [.str x.name, w]))) ∧ AStrs H w x.vals ∧ x.name.length ≤ maxLen ∧ id < H.length ∧ At H shAttr [.str x.name, w] x.u := by
 obtain ⟨id, o, own, cells, e1, e2, e3, e4⟩ := ASl.idx h hx (by decide)
 have e6 := e4
 obtain ⟨w, e4, e7, e5⟩ := nZ.1 e4
 rw [e4] at e6
 refine ⟨id, o, w, e1, ?_, e5, e7, (List.getElem?_eq_some_iff.1 e2).1, e6⟩
 rintro G ⟨T', rfl⟩
 have e2' := bg (T := T') _ _ e2
 exact ⟨dF e2' (by simpa using dm e4 (j := 0) rfl), dF e2' (by simpa using dm e4 (j := 1) rfl), rO e2' e3 (by decide) e4⟩
theorem Ho {n : Nat} {H A B : List Ob} (h : n ≤ H.length) : Keep n (H ++ A) (H ++ B) := fun id hid => by rw [List.getElem?_append_left (by omega), List.getElem?_append_left (by omega)]
def LstF {α : Type} (B G : List Ob) (sh : Sh) (f : α → U) (v : V) (l : List α) : Prop := (∃ T, G = B ++ T) ∧ ((v = .slc none 0 ∧ l = []) ∨ ∃ (id : Nat) (cs : List V) (Fs : List (List Nat)), B.length ≤ id ∧ G[id]? = some (.mk true sh.size cs) ∧ v = .slc (some (id, 0)) l.length ∧
 cs.length = l.length * sh.size ∧ Fs.length = l.length ∧ (∀ i x F, l[i]? = some x → Fs[i]? = some F → AtF G sh ((cs.drop (i * sh.size)).take sh.size) (f x) F) ∧ Fs.flatten.Nodup ∧ ∀ q ∈ Fs.flatten, B.length ≤ q ∧ q ≠ id ∧ q < G.length)
section
variable {α : Type} {B G T : List Ob} {sh : Sh} {f : α → U} {v : V} {l : List α}
theorem LstF.nil : LstF B B sh f (.slc none 0) [] := ⟨⟨[], by simp⟩, .inl ⟨rfl, rfl⟩⟩
theorem LstF.init : LstF B (B ++ [.mk true sh.size []]) sh f (.slc (some (B.length, 0)) 0) [] :=
 ⟨⟨_, rfl⟩, .inr ⟨B.length, [], [], Nat.le_refl _, by simp, rfl, by simp, rfl, fun i x F h => by simp at h, by simp, by simp⟩⟩
theorem LstF.pre (h : LstF B G sh f v l) : ∃ T, G = B ++ T := h.1
theorem LstF.ext (h : LstF B G sh f v l) : LstF B (G ++ T) sh f v l := by
 obtain ⟨⟨S, hS⟩, h⟩ := h
 refine ⟨⟨S ++ T, by rw [hS, List.append_assoc]⟩, ?_⟩
 rcases h with h | ⟨id, cs, Fs, h1, h2, h3, h4, h5, h6, h7, h8⟩
 ·exact .inl h
 ·exact .inr ⟨id, cs, Fs, h1, bg _ _ h2, h3, h4, h5, fun i x F hx hF => (h6 i x F hx hF).ext, h7, fun q hq => by have := h8 q hq; simp; omega⟩
theorem LstF.one (h : LstF B G sh f v l) : aI v = true ∧ cellsOf v = some [v] := by
 obtain ⟨_, ⟨rfl, _⟩ | ⟨id, cs, Fs, _, _, rfl, _⟩⟩ := h <;> exact ⟨rfl, rfl⟩
theorem LstF.len (h : LstF B G sh f v l) {e s b : Nat} {z : List V} : lenV ⟨.slice e, s, b, z⟩ v = some (.int .i64 l.length) := by
 obtain ⟨_, ⟨rfl, rfl⟩ | ⟨id, cs, Fs, _, _, rfl, _⟩⟩ := h <;> rfl
theorem LstF.new (h : LstF B G sh f v l) (hl : l.length ≤ maxLen) : New B.length G.length G (.slice sh) [v] (.lst (l.map f)) := by
 obtain ⟨_, ⟨rfl, rfl⟩ | ⟨id, cs, Fs, h1, h2, rfl, h4, h5, h6, h7, h8⟩⟩ := h
 ·exact New.nil
 ·refine ⟨id :: Fs.flatten, aZ.2 ⟨_, _, rfl, rfl, by simpa using hl, .inr ⟨id, 0, cs, Fs, by simp, h2, by simp; omega, by simpa using h5, rfl, fun i x F hx hF => ?_⟩⟩, ?_, fun q hq => ?_⟩
  ·rw [List.getElem?_map] at hx
   obtain ⟨y, hy, rfl⟩ := Option.map_eq_some_iff.1 hx
   rw [Nat.zero_add]
   exact h6 i y F hy hF
  ·exact List.nodup_cons.2 ⟨fun hm => (h8 id hm).2.1 rfl, h7⟩
  ·rcases List.mem_cons.1 hq with rfl | hq
   ·exact ⟨h1, (List.getElem?_eq_some_iff.1 h2).1⟩
   ·have := h8 q hq; omega
theorem LstF.at (h : LstF B G sh f v l) (hl : l.length ≤ maxLen) : ASl G sh f v l := (h.new hl).at
theorem LstF.push {d : LD} {sz by_ e : Nat} {z : List V} (h : LstF B G sh f v l) {x : α} {c : List V} (hx : New G.length e (G ++ T) sh c (f x)) (hs : sz = sh.size) (hz : z.length = sz) (h0 : 0 < sz) (hb0 : 0 < by_) (hb1 : by_ ≤ 1000000) (hb : (l.length + 1) * by_ ≤ ax) :
  ∃ v' G', aU ⟨d, sz, by_, z⟩ (G ++ T ++ [.mk true sz c]) v (.slc (some ((G ++ T).length, 0)) 1) = some (v', G') ∧ LstF B G' sh f v' (l ++ [x]) ∧ c.length = sz ∧ c.all aI = true := by
 obtain ⟨S, hS⟩ := h.1
 obtain ⟨F, f1, f2, f3⟩ := hx
 have hat : At (G ++ T) sh c (f x) := AtF.at _ f1
 have hcl : c.length = sz := by rw [hs]; exact At.len _ hat
 have hco := At.ones _ hat
 subst hcl
 have hnew := jF (d := d) (by_ := by_) (z := z) (G := G ++ T) (es := c.length) h0
 have hFl : ∀ q ∈ F, q < (G ++ T).length := AtF.mem _ f1
 obtain ⟨_, ⟨rfl, rfl⟩ | ⟨id, cs, Fs, h1, h2, rfl, h4, h5, h6, h7, h8⟩⟩ := h
 ·refine ⟨_, _, kW hz h0 hb0 hb1 hnew (by decide) hco (by simpa using hb), ⟨⟨_, by rw [hS, List.append_assoc, List.append_assoc, List.append_assoc]⟩, .inr ⟨_, c, [F], ?_, get_last.trans (by rw [hs]), by simp, by simp [hs], by simp, fun i y K hy hK => ?_, by simpa using f2, fun q hq => ?_⟩⟩, rfl, hco⟩
  ·simp [hS]
  ·have : i = 0 := by
    have := (List.getElem?_eq_some_iff.1 hy).1
    simp at this; omega
   subst this
   cases hy
   cases hK
   rw [Nat.zero_mul, List.drop_zero, List.take_of_length_le (by omega)]
   exact f1.ext.ext
  ·simp at hq
   have e1 := hFl q hq
   have e2 := f3 q hq
   simp at e1
   simp [hS] at e2 e1 ⊢
   omega
 ·have hid := (List.getElem?_eq_some_iff.1 h2).1
  have h2' : (G ++ T ++ [Ob.mk true c.length c])[id]? = some (.mk true c.length cs) := by rw [List.append_assoc, bg _ _ h2, hs]
  have hlen : (G ++ T ++ [Ob.mk true c.length c]).length = ((G ++ T ++ [Ob.mk true c.length c]).set id .dead).length := List.length_set.symm
  have hfr : ∀ q, q ≠ id → q < (G ++ T ++ [Ob.mk true c.length c]).length → ((G ++ T ++ [Ob.mk true c.length c]).set id .dead ++ [Ob.mk true c.length (cs ++ c)])[q]? = (G ++ T ++ [Ob.mk true c.length c])[q]? := fun q hq hql => by
   rw [List.getElem?_append_left (by rw [← hlen]; exact hql), List.getElem?_set_ne (fun e => hq e.symm)]
  refine ⟨_, _, dG hz h0 hb0 hb1 h2' (by rw [h4, hs]) hnew (by decide) hco hb, ⟨?_, .inr ⟨(G ++ T ++ [Ob.mk true c.length c]).length, cs ++ c, Fs ++ [F], by simp [hS], ?_, by simp, by simp [h4, hs, Nat.add_mul], by simp [h5], fun i y K hy hK => ?_, ?_, ?_⟩⟩, rfl, hco⟩
  ·rw [hS, List.append_assoc, List.append_assoc, List.set_append_right _ _ h1, List.append_assoc]
   exact ⟨_, rfl⟩
  ·rw [hlen, get_last, hs]
  ·have key := vU (n := l.length) (s := sh.size) (cs := cs) (c := c) (by rw [h4]) hs (P := fun i cc => ∀ y K, (l ++ [x])[i]? = some y → (Fs ++ [F])[i]? = some K → AtF ((G ++ T ++ [Ob.mk true c.length c]).set id .dead ++ [Ob.mk true c.length (cs ++ c)]) sh cc (f y) K) (fun i hi y K hy hK => by
     rw [List.getElem?_append_left hi] at hy
     rw [List.getElem?_append_left (by omega)] at hK
     refine AtF.frame _ (fun q hq => ?_) (((h6 i y K hy hK).ext (T := T)).ext (T := [Ob.mk true c.length c]))
     have h9 := h8 q (List.mem_flatten.2 ⟨K, List.mem_of_getElem? hK, hq⟩)
     exact hfr q h9.2.1 (by simp; omega)) (fun y K hy hK => by
     simp at hy
     subst hy
     rw [List.getElem?_append_right (by omega), h5, Nat.sub_self] at hK
     cases hK
     refine AtF.frame _ (fun q hq => ?_) (f1.ext (T := [Ob.mk true c.length c]))
     have e1 := hFl q hq
     have e2 := f3 q hq
     exact hfr q (by omega) (by simp at e1 ⊢; omega))
   have hi : i < l.length + 1 := by
    have := (List.getElem?_eq_some_iff.1 hy).1
    simpa using this
   exact key i hi y K hy hK
  ·rw [List.flatten_append, List.nodup_append]
   refine ⟨h7, by simpa using f2, fun a ha b hb hab => ?_⟩
   subst hab
   simp at hb
   have e1 := h8 a ha
   have e2 := f3 a hb
   omega
  ·intro q hq
   rw [List.flatten_append] at hq
   rcases List.mem_append.1 hq with hq | hq
   ·have := h8 q hq
    simp
    omega
   ·simp at hq
    have e1 := hFl q hq
    have e2 := f3 q hq
    simp [hS] at e1 e2 ⊢
    omega
end
theorem lQ {sh0 : Sh} {c0 : List V} {u0 : U} {F : List Nat} {G G' : List Ob} {v v' : V} {m : Nat} (hx : AtF G sh0 c0 u0 F) (hw : ∀ q ∈ F, ∀ n, v ≠ .slc (some (q, 0)) n) (hv' : v' = .slc (some (G.length + 1, 0)) m)
  (hfr : ∀ q, q < G.length → (∀ n, v ≠ .slc (some (q, 0)) n) → G'[q]? = G[q]?) : AtF G' sh0 c0 u0 F ∧ ∀ q ∈ F, ∀ n, v' ≠ .slc (some (q, 0)) n := by
 have hl := AtF.mem _ hx
 refine ⟨AtF.frame _ (fun q hq => hfr q (hl q hq) (hw q hq)) hx, fun q hq n => ?_⟩
 rw [hv']
 have := hl q hq
 simp
 omega
theorem Lst.notlow {α : Type} {B G H : List Ob} {sh : Sh} {f : α → U} {v : V} {l : List α} (h : Lst B G sh f v l) (hv : v ≠ .slc none 0) (hB : H.length ≤ B.length) : ¬ eF H v := by
 obtain ⟨_, ⟨rfl, _⟩ | ⟨id, cs, h1, _, rfl, _⟩⟩ := h
 ·exact absurd rfl hv
 ·rintro ⟨own, es, cells, h⟩
  have := (List.getElem?_eq_some_iff.1 h).1
  omega
theorem eP {H G : List Ob} {r : V} (h : ¬ eF H r) : eY H G r = G := by
 unfold eY
 rw [if_neg fun h' => h h'.2]
section
variable {α : Type} {G : List Ob} {sh : Sh} {f : α → U} {v : V} {l : List α} {F : List Nat}
theorem uM {D : List V} {s i j : Nat} (h : j * s + s ≤ i * s) : ((D.take (i * s)).drop (j * s)).take s = (D.drop (j * s)).take s := by
 apply List.ext_getElem?
 intro q
 by_cases hq : q < s
 ·rw [List.getElem?_take_of_lt hq, List.getElem?_take_of_lt hq, List.getElem?_drop, List.getElem?_take_of_lt (by omega), List.getElem?_drop]
 ·rw [List.getElem?_eq_none (by simp; omega), List.getElem?_eq_none (by simp; omega)]
theorem Hf {D c : List V} {s n i : Nat} (hD : D.length = n * s) (hc : c.length = s) (hi : i ≤ n) {j : Nat} :
  (j < i → ((D.take (i * s) ++ c ++ D.drop (i * s)).drop (j * s)).take s = (D.drop (j * s)).take s) ∧ (j = i → ((D.take (i * s) ++ c ++ D.drop (i * s)).drop (j * s)).take s = c) ∧
  (∀ t, j = i + 1 + t → ((D.take (i * s) ++ c ++ D.drop (i * s)).drop (j * s)).take s = (D.drop ((i + t) * s)).take s) := by
 have hin : i * s ≤ n * s := Nat.mul_le_mul_right _ hi
 have hA : (D.take (i * s)).length = i * s := by simp; omega
 refine ⟨fun h => ?_, fun h => ?_, fun t h => ?_⟩
 ·have hm := bW (s := s) h
  rw [List.append_assoc, List.drop_append_of_le_length (by omega), List.take_append_of_le_length (by simp; omega)]
  exact uM hm
 ·subst h
  rw [List.append_assoc, List.drop_append_of_le_length (by omega), List.drop_of_length_le (by omega), List.nil_append, List.take_append_of_le_length (by omega), List.take_of_length_le (by omega)]
 ·subst h
  have e1 : (i + 1 + t) * s = (D.take (i * s) ++ c).length + t * s := by rw [List.length_append, hA, hc]; simp [Nat.add_mul]
  rw [e1, ← List.drop_drop, List.drop_left, List.drop_drop]
  congr 2
  rw [Nat.add_mul]
theorem take_get? {α : Type} {l : List α} {i j : Nat} {x : α} : (l.take i ++ x :: l.drop i)[j]? = if j < i ∧ j < l.length then l[j]? else if j = min i l.length then some x else l[j - 1]? := by
 by_cases h1 : j < (l.take i).length
 ·rw [List.getElem?_append_left h1]
  have h2 : j < i ∧ j < l.length := by simp at h1; omega
  rw [if_pos h2, List.getElem?_take_of_lt h2.1]
 ·rw [List.getElem?_append_right (by omega)]
  have h2 : ¬ (j < i ∧ j < l.length) := by simp at h1; omega
  rw [if_neg h2]
  have hl : (l.take i).length = min i l.length := List.length_take
  by_cases h3 : j = min i l.length
  ·rw [if_pos h3, hl, h3, Nat.sub_self]; rfl
  ·rw [if_neg h3, hl]
   obtain ⟨k, hk⟩ : ∃ k, j - min i l.length = k + 1 := ⟨j - min i l.length - 1, by omega⟩
   rw [hk, List.getElem?_cons_succ, List.getElem?_drop]
   by_cases h4 : i ≤ l.length
   ·congr 1; omega
   ·rw [List.getElem?_eq_none (by omega), List.getElem?_eq_none (by omega)]
theorem sK {Fs : List (List Nat)} {K : List Nat} {i : Nat} : ∀ q, q ∈ (Fs.take i ++ K :: Fs.drop i).flatten ↔ q ∈ Fs.flatten ∨ q ∈ K := by
 intro q
 have h : Fs.flatten = (Fs.take i).flatten ++ (Fs.drop i).flatten := by rw [← List.flatten_append, List.take_append_drop]
 rw [h, List.flatten_append, List.flatten_cons]
 simp only [List.mem_append]
 constructor
 ·rintro (h | h | h) <;> simp [h]
 ·rintro ((h | h) | h) <;> simp [h]
theorem qF {Fs : List (List Nat)} {K : List Nat} {i : Nat} (h1 : Fs.flatten.Nodup) (h2 : K.Nodup) (h3 : ∀ q ∈ K, q ∉ Fs.flatten) : (Fs.take i ++ K :: Fs.drop i).flatten.Nodup := by
 have h : Fs.flatten = (Fs.take i).flatten ++ (Fs.drop i).flatten := by rw [← List.flatten_append, List.take_append_drop]
 rw [h] at h1 h3
 rw [List.flatten_append, List.flatten_cons]
 obtain ⟨a1, a2, a3⟩ := List.nodup_append.1 h1
 refine List.nodup_append.2 ⟨a1, List.nodup_append.2 ⟨h2, a2, fun a ha b hb e => ?_⟩, fun a ha b hb e => ?_⟩
 ·subst e; exact h3 a ha (List.mem_append_right _ hb)
 ·subst e
  rcases List.mem_append.1 hb with hb | hb
  ·exact h3 a hb (List.mem_append_left _ ha)
  ·exact a3 a ha a hb rfl
theorem LH (h : AtF G (.slice sh) [v] (.lst (l.map f)) F) (hn : F.Nodup) {x : α} {c : List V} {K : List Nat} (hx : AtF G sh c (f x) K) (hxn : K.Nodup) (hd : ∀ q ∈ K, q ∉ F) {i : Nat} (hi : i ≤ l.length) (hl : l.length ≤ 1000000) (hs : sh.size ≠ 0) :
  ∃ v' G' F', fK sh.size [v, .int .i64 i, .slc (some (G.length, 0)) 1] (G ++ [.mk true sh.size c]) = some (v', G') ∧ AtF G' (.slice sh) [v'] (.lst ((l.take i ++ x :: l.drop i).map f)) F' ∧ F'.Nodup ∧
   (∀ q ∈ F', q ∈ F ∨ q ∈ K ∨ q = G.length + 1) ∧ (∀ q, q ∉ F → q < G.length → G'[q]? = G[q]?) ∧ G'.length = G.length + 2 ∧ v' = .slc (some (G.length + 1, 0)) (l.length + 1) := by
 obtain ⟨w, us, hw, hus, hlen, h⟩ := aZ.1 h
 cases hw
 cases hus
 have hcl : c.length = sh.size := At.len _ (AtF.at _ hx)
 have hco : c.all aI = true := At.ones _ (AtF.at _ hx)
 have hget : (G ++ [Ob.mk true sh.size c])[G.length]? = some (.mk true sh.size c) := get_last
 have hK := AtF.mem _ hx
 have hcond : sh.size = sh.size ∧ c.length = sh.size ∧ (0 : Int) ≤ (i : Int) ∧ (i : Int) ≤ ((l.length : Nat) : Int) ∧ l.length ≤ 1000000 ∧ c.all aI = true := ⟨rfl, hcl, by omega, by omega, hl, hco⟩
 rcases h with ⟨rfl, hl0, rfl⟩ | ⟨id, off, cells, Fs, rfl, h2, h3, h4, rfl, h6⟩
 ·have hl0 : l = [] := by simpa using hl0
  subst hl0
  have hi0 : i = 0 := by simpa using hi
  subst hi0
  refine ⟨.slc (some (G.length + 1, 0)) 1, G ++ [.mk true sh.size c] ++ [.mk true sh.size c], (G.length + 1) :: K, ?_, ?_, ?_, fun q hq => ?_, fun q _ hq => ?_, by simp, by simp⟩
  ·simp [fK, hcl, hco]
  ·refine aZ.2 ⟨_, [f x], rfl, rfl, by simp [maxLen], .inr ⟨G.length + 1, 0, c, [K], rfl, by simp, by simp [hcl], rfl, by simp, fun j y Fj hy hFj => ?_⟩⟩
   have hj : j = 0 := by have := (List.getElem?_eq_some_iff.1 hy).1; simpa using this
   subst hj
   cases hy
   cases hFj
   rw [Nat.zero_mul, Nat.add_zero, List.drop_zero, List.take_of_length_le (by omega)]
   exact hx.ext.ext
  ·exact List.nodup_cons.2 ⟨fun hm => by have := hK _ hm; omega, hxn⟩
  ·rcases List.mem_cons.1 hq with rfl | hq
   ·exact .inr (.inr rfl)
   ·exact .inr (.inl hq)
  ·rw [List.append_assoc, List.getElem?_append_left hq]
 ·rw [List.length_map] at h3 h4 hlen
  have hid : id < G.length := (List.getElem?_eq_some_iff.1 h2).1
  have hidx : id ≠ G.length := by omega
  obtain ⟨D, hD⟩ : ∃ D, D = (cells.drop off).take (l.length * sh.size) := ⟨_, rfl⟩
  have hDl : D.length = l.length * sh.size := by rw [hD]; simp; omega
  have hg2 : (G ++ [Ob.mk true sh.size c])[id]? = some (.mk true sh.size cells) := bg _ _ h2
  have him : i * sh.size ≤ l.length * sh.size := Nat.mul_le_mul_right _ hi
  have hcells : ((cells.drop off).take (i * sh.size)) ++ c ++ (((cells.drop off).take (l.length * sh.size)).drop (i * sh.size)) = D.take (i * sh.size) ++ c ++ D.drop (i * sh.size) := by
   rw [hD, List.take_take, Nat.min_eq_left him]
  obtain ⟨N, hN⟩ : ∃ N, N = D.take (i * sh.size) ++ c ++ D.drop (i * sh.size) := ⟨_, rfl⟩
  have hNl : N.length = (l.length + 1) * sh.size := by
   have e1 : (D.take (i * sh.size)).length = i * sh.size := by rw [List.length_take, hDl]; omega
   rw [hN, List.length_append, List.length_append, e1, hcl, List.length_drop, hDl, Nat.add_mul]; omega
  have hlen2 : ((G ++ [Ob.mk true sh.size c]).set id .dead).length = G.length + 1 := by simp
  have hfr : ∀ q, q ≠ id → q < G.length → ((G ++ [Ob.mk true sh.size c]).set id .dead ++ [Ob.mk true sh.size N])[q]? = G[q]? := fun q hq hql => by
   rw [List.getElem?_append_left (by omega), List.getElem?_set_ne (fun e => hq e.symm), List.getElem?_append_left hql]
  obtain ⟨hnid, hnf⟩ := List.nodup_cons.1 hn
  have hFlt : ∀ j y Fj, (l.map f)[j]? = some y → Fs[j]? = some Fj → ∀ q ∈ Fj, q < G.length ∧ q ≠ id := fun j y Fj hy hFj q hq => ⟨AtF.mem _ (h6 j y Fj hy hFj) q hq, fun e => hnid (e ▸ List.mem_flatten.2 ⟨Fj, List.mem_of_getElem? hFj, hq⟩)⟩
  have hlen3 : (l.take i ++ x :: l.drop i).length = l.length + 1 := by simp; omega
  have hKid : id ∉ K := fun hm => hd id hm List.mem_cons_self
  refine ⟨.slc (some (G.length + 1, 0)) (l.length + 1), (G ++ [Ob.mk true sh.size c]).set id .dead ++ [Ob.mk true sh.size N], (G.length + 1) :: (Fs.take i ++ K :: Fs.drop i).flatten, ?_, ?_, ?_, fun q hq => ?_, fun q hqF hq => hfr q (fun e => hqF (by rw [e]; exact List.mem_cons_self)) hq, by simp, by simp⟩
  ·have hone : ((cells.drop off).take (l.length * sh.size)).all aI = true := by
    rw [← hD]
    refine nY hDl fun j hj => ?_
    obtain ⟨Fj, hFj⟩ : ∃ Fj, Fs[j]? = some Fj := ⟨_, List.getElem?_eq_getElem (by omega)⟩
    have h7 := h6 j (f l[j]) Fj (by rw [List.getElem?_map, List.getElem?_eq_getElem hj]; rfl) hFj
    rw [hD, jb h3 hj]
    exact At.ones _ (AtF.at _ h7)
   simp only [fK, hget, List.length_map, hg2]
   rw [if_pos ⟨trivial, hcond.2⟩, if_pos ⟨trivial, hidx, h3, hone⟩, Int.toNat_natCast, hcells, ← hN]
   simp
  ·refine aZ.2 ⟨.slc (some (G.length + 1, 0)) (l.length + 1), (l.take i ++ x :: l.drop i).map f, rfl, rfl, by rw [List.length_map, hlen3]; unfold maxLen; omega, .inr ⟨G.length + 1, 0, N, Fs.take i ++ K :: Fs.drop i, by rw [List.length_map, hlen3], by rw [← hlen2, get_last], by rw [List.length_map, hlen3, hNl]; omega, by rw [List.length_map, hlen3]; simp; omega, rfl, fun j y Fj hy hFj => ?_⟩⟩
   rw [List.getElem?_map, take_get?] at hy
   rw [take_get?] at hFj
   obtain ⟨c1, c2, c3⟩ := Hf (j := j) hDl hcl hi
   rw [← hN] at c1 c2 c3
   rw [Nat.zero_add]
   have hmin : min i l.length = i := by omega
   have hmin' : min i Fs.length = i := by omega
   by_cases j1 : j < i
   ·rw [if_pos ⟨j1, by omega⟩] at hy hFj
    rw [c1 j1, hD, jb h3 (by omega)]
    have h7 := h6 j y Fj (by rw [List.getElem?_map]; exact hy) hFj
    exact AtF.frame _ (fun q hq => hfr q (hFlt j y Fj (by rw [List.getElem?_map]; exact hy) hFj q hq).2 (hFlt j y Fj (by rw [List.getElem?_map]; exact hy) hFj q hq).1) h7
   ·rw [if_neg (by omega)] at hy hFj
    by_cases j2 : j = i
    ·rw [hmin, if_pos j2] at hy
     rw [hmin', if_pos j2] at hFj
     cases hy
     cases hFj
     rw [c2 j2]
     exact AtF.frame _ (fun q hq => hfr q (fun e => hKid (e ▸ hq)) (hK q hq)) hx
    ·rw [hmin, if_neg j2] at hy
     rw [hmin', if_neg j2] at hFj
     obtain ⟨t, ht⟩ : ∃ t, j = i + 1 + t := ⟨j - i - 1, by omega⟩
     have hj1 : j - 1 = i + t := by omega
     rw [hj1] at hy hFj
     have hlt : i + t < l.length := by
      cases hh : l[i + t]? with
      | none => rw [hh] at hy; cases hy
      | some z => exact (List.getElem?_eq_some_iff.1 hh).1
     rw [c3 t ht, hD, jb h3 hlt]
     have h7 := h6 (i + t) y Fj (by rw [List.getElem?_map]; exact hy) hFj
     exact AtF.frame _ (fun q hq => hfr q (hFlt _ y Fj (by rw [List.getElem?_map]; exact hy) hFj q hq).2 (hFlt _ y Fj (by rw [List.getElem?_map]; exact hy) hFj q hq).1) h7
  ·refine List.nodup_cons.2 ⟨fun hm => ?_, qF hnf hxn fun q hq hm => hd q hq (List.mem_cons_of_mem _ hm)⟩
   rcases (sK _).1 hm with hm | hm
   ·obtain ⟨Fj, hF1, hF2⟩ := List.mem_flatten.1 hm
    obtain ⟨j, hj, rfl⟩ := List.getElem_of_mem hF1
    have := hFlt j ((l.map f)[j]'(by simp; omega)) Fs[j] (List.getElem?_eq_getElem _) (List.getElem?_eq_getElem _) _ hF2
    omega
   ·have := hK _ hm; omega
  ·rcases List.mem_cons.1 hq with rfl | hq
   ·exact .inr (.inr rfl)
   ·rcases (sK _).1 hq with hq | hq
    ·exact .inl (List.mem_cons_of_mem _ hq)
    ·exact .inr (.inl hq)
end
theorem Au {cells xs : List V} {o t s : Nat} (h : o + xs.length ≤ cells.length) (ht : t + s ≤ xs.length) : ((setRange cells o xs).drop (o + t)).take s = (xs.drop t).take s := by
 unfold setRange
 have h1 : (cells.take o).length = o := by simp; omega
 rw [List.append_assoc, ← List.drop_drop, List.drop_left' h1, List.drop_append_of_le_length (by omega), List.take_append_of_le_length (by simp; omega)]
theorem yX {cells : List V} {o : Nat} : setRange cells o [] = cells := by simp [setRange]
section
variable {α : Type} {G : List Ob} {sh : Sh} {f : α → U} {v : V} {l : List α} {F : List Nat}
theorem La (h : AtF G (.slice sh) [v] (.lst (l.map f)) F) (hn : F.Nodup) {i : Nat} (hi : i < l.length) (z : List V) (hz : z.length = sh.size) :
  ∃ id off cells xs F', v = .slc (some (id, off)) l.length ∧ G[id]? = some (.mk true sh.size cells) ∧ off + l.length * sh.size ≤ cells.length ∧ xs = (cells.drop (off + (i + 1) * sh.size)).take ((l.length - (i + 1)) * sh.size) ∧ xs.length = (l.length - (i + 1)) * sh.size ∧ xs.all aI = true ∧ id ∈ F ∧
   AtF (G.set id (.mk true sh.size (setRange (setRange cells (off + i * sh.size) xs) (off + (l.length - 1) * sh.size) z))) (.slice sh) [.slc (some (id, off)) (l.length - 1)] (.lst ((l.take i ++ l.drop (i + 1)).map f)) F' ∧ F'.Nodup ∧ ∀ q ∈ F', q ∈ F := by
 have h0 := h
 obtain ⟨w, us, hw, hus, hlen, h⟩ := aZ.1 h
 cases hw
 cases hus
 rcases h with ⟨rfl, hl0, rfl⟩ | ⟨id, off, cells, Fs, rfl, h2, h3, h4, rfl, h6⟩
 ·have hl0 : l = [] := by simpa using hl0
  subst hl0
  simp at hi
 rw [List.length_map] at h3 h4 hlen ⊢
 have hid : id < G.length := (List.getElem?_eq_some_iff.1 h2).1
 have hsl : ASl G sh f (.slc (some (id, off)) l.length) l := by have := AtF.at _ h0; rwa [List.length_map] at this
 obtain ⟨s, hs⟩ : ∃ s, s = sh.size := ⟨_, rfl⟩
 rw [← hs] at h2 h3 h6 hz ⊢
 obtain ⟨m, hm⟩ : ∃ m, l.length = i + 1 + m := ⟨l.length - (i + 1), by omega⟩
 have e1 : l.length - (i + 1) = m := by omega
 have e2 : l.length - 1 = i + m := by omega
 rw [e1, e2]
 have f1 : l.length * s = i * s + s + m * s := by rw [hm, Nat.add_mul, Nat.add_mul, Nat.one_mul]
 have f2 : (i + 1) * s = i * s + s := by rw [Nat.add_mul, Nat.one_mul]
 have f3 : (i + m) * s = i * s + m * s := Nat.add_mul _ _ _
 obtain ⟨xs, hxs⟩ : ∃ xs, xs = (cells.drop (off + (i + 1) * s)).take (m * s) := ⟨_, rfl⟩
 have hxl : xs.length = m * s := by rw [hxs]; simp; omega
 have hch : ∀ j, j < l.length → ((cells.drop (off + j * s)).take s).all aI = true := fun j hj => by
  have := h6 j (f l[j]) (Fs[j]'(by omega)) (by rw [List.getElem?_map, List.getElem?_eq_getElem hj]; rfl) (List.getElem?_eq_getElem _)
  exact At.ones _ (AtF.at _ this)
 have hxo : xs.all aI = true := nY (n := m) (s := s) hxl fun j hj => by
  rw [hxs, jb (by omega) hj, Nat.add_assoc, ← Nat.add_mul]
  exact hch _ (by omega)
 obtain ⟨hnid, hnf⟩ := List.nodup_cons.1 hn
 obtain ⟨N, hN⟩ : ∃ N, N = setRange (setRange cells (off + i * s) xs) (off + (i + m) * s) z := ⟨_, rfl⟩
 have hl1 : (setRange cells (off + i * s) xs).length = cells.length := gq (by omega)
 have hNl : N.length = cells.length := by rw [hN, gq (by rw [hl1, hz]; omega), hl1]
 have hfr : ∀ q, q ≠ id → (G.set id (.mk true s N))[q]? = G[q]? := fun q hq => List.getElem?_set_ne fun e => hq e.symm
 have hdec : Fs.flatten = (Fs.take i).flatten ++ (Fs.drop i).flatten := by rw [← List.flatten_append, List.take_append_drop]
 have hsub : List.Sublist (Fs.take i ++ Fs.drop (i + 1)).flatten Fs.flatten := by
  rw [hdec, List.flatten_append]
  refine List.Sublist.append (List.Sublist.refl _) ?_
  have hd : Fs.drop i = Fs[i]'(by omega) :: Fs.drop (i + 1) := List.drop_eq_getElem_cons (by omega)
  rw [hd, List.flatten_cons]
  exact List.sublist_append_right _ _
 have hlen3 : (l.take i ++ l.drop (i + 1)).length = i + m := by simp; omega
 refine ⟨id, off, cells, xs, id :: (Fs.take i ++ Fs.drop (i + 1)).flatten, rfl, h2, h3, hxs, hxl, hxo, List.mem_cons_self, ?_, List.nodup_cons.2 ⟨fun hm => hnid (hsub.subset hm), hnf.sublist hsub⟩, fun q hq => ?_⟩
 ·rw [← hN]
  refine aZ.2 ⟨_, _, rfl, rfl, by rw [List.length_map, hlen3]; omega, .inr ⟨id, off, N, Fs.take i ++ Fs.drop (i + 1), by rw [List.length_map, hlen3], by rw [List.getElem?_set_self hid, hs], by rw [List.length_map, hlen3, hNl, ← hs]; omega, by rw [List.length_map, hlen3]; simp; omega, rfl, fun j y Fj hy hFj => ?_⟩⟩
  rw [← hs]
  rw [List.getElem?_map] at hy
  have hj : j < i + m := by
   cases hh : (l.take i ++ l.drop (i + 1))[j]? with
   | none => rw [hh] at hy; cases hy
   | some z => have := (List.getElem?_eq_some_iff.1 hh).1; omega
  have hjs : j * s + s ≤ (i + m) * s := bW hj
  have hz2 : ((N.drop (off + j * s)).take s) = ((setRange cells (off + i * s) xs).drop (off + j * s)).take s := by
   rw [hN]
   exact fZ (by rw [hl1, hz]; omega) (.inl (by omega))
  rw [hz2]
  by_cases j1 : j < i
  ·have hjs' : j * s + s ≤ i * s := bW j1
   rw [fZ (by omega) (.inl (by omega))]
   rw [List.getElem?_append_left (by simp; omega), List.getElem?_take_of_lt j1] at hy hFj
   have h7 := h6 j y Fj (by rw [List.getElem?_map]; exact hy) hFj
   exact AtF.frame _ (fun q hq => hfr q fun e => hnid (e ▸ List.mem_flatten.2 ⟨Fj, List.mem_of_getElem? hFj, hq⟩)) h7
  ·obtain ⟨t, ht⟩ : ∃ t, j = i + t := ⟨j - i, by omega⟩
   subst ht
   have htm : t < m := by omega
   have hts : t * s + s ≤ m * s := bW htm
   have e5 : off + (i + t) * s = off + i * s + t * s := by rw [Nat.add_mul]; omega
   rw [e5, Au (by omega) (by omega), hxs, jb (by omega) htm]
   have e6 : off + (i + 1) * s + t * s = off + (i + 1 + t) * s := by rw [Nat.add_mul (i + 1) t]; omega
   rw [e6]
   rw [List.getElem?_append_right (by rw [List.length_take]; omega), List.getElem?_drop] at hy
   rw [List.getElem?_append_right (by rw [List.length_take]; omega), List.getElem?_drop] at hFj
   have e7 : (l.take i).length = i := by simp; omega
   have e8 : (Fs.take i).length = i := by simp; omega
   rw [e7] at hy
   rw [e8] at hFj
   rw [show i + 1 + (i + t - i) = i + 1 + t by omega] at hy hFj
   have h7 := h6 (i + 1 + t) y Fj (by rw [List.getElem?_map]; exact hy) hFj
   exact AtF.frame _ (fun q hq => hfr q fun e => hnid (e ▸ List.mem_flatten.2 ⟨Fj, List.mem_of_getElem? hFj, hq⟩)) h7
 ·rcases List.mem_cons.1 hq with rfl | hq
  ·exact List.mem_cons_self
  ·exact List.mem_cons_of_mem _ (hsub.subset hq)
end
section
variable {α : Type} {G : List Ob} {sh : Sh} {f : α → U} {v : V} {l : List α} {F : List Nat}
theorem H5 (h : AtF G (.slice sh) [v] (.lst (l.map f)) F) (hn : F.Nodup) {i : Nat} (hi : i < l.length) {x : α} {c : List V} {K : List Nat} (hx : AtF G sh c (f x) K) (hxn : K.Nodup) (hd : ∀ q ∈ K, q ∉ F) :
  ∃ id off cells F', v = .slc (some (id, off)) l.length ∧ G[id]? = some (.mk true sh.size cells) ∧ off + l.length * sh.size ≤ cells.length ∧ id ∈ F ∧
   AtF (G.set id (.mk true sh.size (setRange cells (off + i * sh.size) c))) (.slice sh) [v] (.lst ((l.set i x).map f)) F' ∧ F'.Nodup ∧ ∀ q ∈ F', q ∈ F ∨ q ∈ K := by
 obtain ⟨w, us, hw, hus, hlen, h⟩ := aZ.1 h
 cases hw
 cases hus
 have hcl : c.length = sh.size := At.len _ (AtF.at _ hx)
 rcases h with ⟨rfl, hl0, rfl⟩ | ⟨id, off, cells, Fs, rfl, h2, h3, h4, rfl, h6⟩
 ·have hl0 : l = [] := by simpa using hl0
  subst hl0
  simp at hi
 rw [List.length_map] at h3 h4 hlen ⊢
 have hid : id < G.length := (List.getElem?_eq_some_iff.1 h2).1
 have his : i * sh.size + sh.size ≤ l.length * sh.size := bW hi
 obtain ⟨hnid, hnf⟩ := List.nodup_cons.1 hn
 have hKid : id ∉ K := fun hm => hd id hm List.mem_cons_self
 obtain ⟨N, hN⟩ : ∃ N, N = setRange cells (off + i * sh.size) c := ⟨_, rfl⟩
 have hNl : N.length = cells.length := by rw [hN, gq (by omega)]
 have hfr : ∀ q, q ≠ id → (G.set id (.mk true sh.size N))[q]? = G[q]? := fun q hq => List.getElem?_set_ne fun e => hq e.symm
 have hset : Fs.set i K = Fs.take i ++ K :: Fs.drop (i + 1) := by rw [List.set_eq_take_append_cons_drop, if_pos (by omega)]
 have hdec : Fs.flatten = (Fs.take i).flatten ++ (Fs.drop i).flatten := by rw [← List.flatten_append, List.take_append_drop]
 have hd2 : Fs.drop i = Fs[i]'(by omega) :: Fs.drop (i + 1) := List.drop_eq_getElem_cons (by omega)
 have hmem : ∀ q ∈ (Fs.set i K).flatten, q ∈ Fs.flatten ∨ q ∈ K := fun q hq => by
  rw [hset, List.flatten_append, List.flatten_cons] at hq
  rw [hdec, hd2, List.flatten_cons]
  simp only [List.mem_append] at hq ⊢
  rcases hq with h | h | h <;> simp [h]
 refine ⟨id, off, cells, id :: (Fs.set i K).flatten, rfl, h2, h3, List.mem_cons_self, ?_, ?_, fun q hq => ?_⟩
 ·rw [← hN]
  refine aZ.2 ⟨_, _, rfl, rfl, by simpa using hlen, .inr ⟨id, off, N, Fs.set i K, by simp, List.getElem?_set_self hid, by simp [hNl]; exact h3, by simp [h4], rfl, fun j y Fj hy hFj => ?_⟩⟩
  rw [List.getElem?_map] at hy
  by_cases hji : j = i
  ·subst hji
   rw [List.getElem?_set_self hi] at hy
   rw [List.getElem?_set_self (by omega)] at hFj
   cases hy
   cases hFj
   have := kZ (cells := cells) (c := c) (o := off + j * sh.size) (by omega)
   rw [hcl] at this
   rw [← hN] at this
   rw [this]
   exact AtF.frame _ (fun q hq => hfr q fun e => hKid (e ▸ hq)) hx
  ·rw [List.getElem?_set_ne (fun e => hji e.symm)] at hy hFj
   have hj : j < l.length := by
    cases hh : l[j]? with
    | none => rw [hh] at hy; cases hy
    | some z => exact (List.getElem?_eq_some_iff.1 hh).1
   have hjs : j * sh.size + sh.size ≤ l.length * sh.size := bW hj
   have hap : j * sh.size + sh.size ≤ i * sh.size ∨ i * sh.size + sh.size ≤ j * sh.size := by
    rcases Nat.lt_or_gt_of_ne hji with hlt | hlt
    ·exact .inl (bW hlt)
    ·exact .inr (bW hlt)
   have hz : (N.drop (off + j * sh.size)).take sh.size = (cells.drop (off + j * sh.size)).take sh.size := by rw [hN]; exact fZ (by omega) (by omega)
   rw [hz]
   have h7 := h6 j y Fj (by rw [List.getElem?_map]; exact hy) hFj
   exact AtF.frame _ (fun q hq => hfr q fun e => hnid (e ▸ List.mem_flatten.2 ⟨Fj, List.mem_of_getElem? hFj, hq⟩)) h7
 ·refine List.nodup_cons.2 ⟨fun hm => (hmem _ hm).elim hnid hKid, ?_⟩
  rw [hset, List.flatten_append, List.flatten_cons]
  rw [hdec, hd2, List.flatten_cons] at hnf
  obtain ⟨a1, a2, a3⟩ := List.nodup_append.1 hnf
  obtain ⟨b1, b2, b3⟩ := List.nodup_append.1 a2
  have hdK : ∀ q ∈ K, q ∉ Fs.flatten := fun q hq hm => hd q hq (List.mem_cons_of_mem _ hm)
  rw [hdec, hd2, List.flatten_cons] at hdK
  refine List.nodup_append.2 ⟨a1, List.nodup_append.2 ⟨hxn, b2, fun a ha b hb e => ?_⟩, fun a ha b hb e => ?_⟩
  ·subst e; exact hdK a ha (by simp [hb])
  ·subst e
   rcases List.mem_append.1 hb with hb | hb
   ·exact hdK a hb (by simp [ha])
   ·exact a3 a ha a (by simp [hb]) rfl
 ·rcases List.mem_cons.1 hq with rfl | hq
  ·exact .inl List.mem_cons_self
  ·exact (hmem q hq).imp (List.mem_cons_of_mem _) fun h => h
end
theorem wZ {α : Type} {p : α → Bool} {l : List α} {i : Nat} (h1 : ∀ q x, q < i → l[q]? = some x → p x = true) (h2 : ∀ q x, i ≤ q → l[q]? = some x → p x = false) : l.filter p = l.take i := by
 have : l.filter p = (l.take i).filter p ++ (l.drop i).filter p := by rw [← List.filter_append, List.take_append_drop]
 rw [this, List.filter_eq_self.2, List.filter_eq_nil_iff.2, List.append_nil]
 ·intro x hx
  obtain ⟨j, hj, rfl⟩ := List.getElem_of_mem hx
  rw [h2 (i + j) _ (by omega) (by rw [← List.getElem?_drop]; exact List.getElem?_eq_getElem hj)]
  decide
 ·intro x hx
  obtain ⟨j, hj, rfl⟩ := List.getElem_of_mem hx
  have hj2 : j < i := by rw [List.length_take] at hj; omega
  exact h1 j _ hj2 (by rw [← List.getElem?_take_of_lt hj2]; exact List.getElem?_eq_getElem hj)
theorem xA {α : Type} {p : α → Bool} {l : List α} {i : Nat} (h1 : ∀ q x, q < i → l[q]? = some x → p x = false) (h2 : ∀ q x, i ≤ q → l[q]? = some x → p x = true) : l.filter p = l.drop i := by
 have : l.filter p = (l.take i).filter p ++ (l.drop i).filter p := by rw [← List.filter_append, List.take_append_drop]
 rw [this, List.filter_eq_nil_iff.2, List.nil_append, List.filter_eq_self.2]
 ·intro x hx
  obtain ⟨j, hj, rfl⟩ := List.getElem_of_mem hx
  exact h2 (i + j) _ (by omega) (by rw [← List.getElem?_drop]; exact List.getElem?_eq_getElem hj)
 ·intro x hx
  obtain ⟨j, hj, rfl⟩ := List.getElem_of_mem hx
  have hj2 : j < i := by rw [List.length_take] at hj; omega
  rw [h1 j _ hj2 (by rw [← List.getElem?_take_of_lt hj2]; exact List.getElem?_eq_getElem hj)]
  decide
def Rw (s : Nat) (B G : List Ob) (v : V) (n : Nat) (cs : List V) : Prop :=
 (∃ T, G = B ++ T) ∧ cs.length = n * s ∧ ((v = .slc none 0 ∧ n = 0) ∨ ∃ id, v = .slc (some (id, 0)) n ∧ B.length ≤ id ∧ G[id]? = some (.mk true s cs))
section
variable {s n m : Nat} {B G : List Ob} {v : V} {cs xs : List V}
theorem Rw.nil : Rw s B B (.slc none 0) 0 [] := ⟨⟨[], by simp⟩, by simp, .inl ⟨rfl, rfl⟩⟩
theorem Rw.init (hB : ∃ T, G = B ++ T) : Rw s B (G ++ [.mk true s []]) (.slc (some (G.length, 0)) 0) 0 [] := by
 obtain ⟨T, rfl⟩ := hB
 exact ⟨⟨T ++ [.mk true s []], by simp⟩, by simp, .inr ⟨(B ++ T).length, rfl, by simp, get_last⟩⟩
theorem Rw.pre (h : Rw s B G v n cs) : ∃ T, G = B ++ T := h.1
theorem Rw.ext {T : List Ob} (h : Rw s B G v n cs) : Rw s B (G ++ T) v n cs := by
 obtain ⟨⟨S, rfl⟩, h2, h3⟩ := h
 exact ⟨⟨S ++ T, by simp⟩, h2, h3.imp id fun ⟨id, q1, q2, q3⟩ => ⟨id, q1, q2, bg _ _ q3⟩⟩
theorem Rw.one (h : Rw s B G v n cs) : aI v = true ∧ cellsOf v = some [v] := by
 rcases h.2.2 with ⟨rfl, _⟩ | ⟨id, rfl, _⟩ <;> exact ⟨rfl, rfl⟩
theorem Rw.many (h : Rw s B G v n cs) {d : LD} {by_ : Nat} {z : List V} {x : V} (hx : aQ ⟨d, s, by_, z⟩ G x = some (xs, m)) (hm : xs.length = m * s) (ho : xs.all aI = true)
  (hz : z.length = s) (h0 : 0 < s) (hb0 : 0 < by_) (hb1 : by_ ≤ 1000000) (hb : (n + m) * by_ ≤ ax) :
  ∃ v' G', aU ⟨d, s, by_, z⟩ G v x = some (v', G') ∧ Rw s B G' v' (n + m) (cs ++ xs) := by
 by_cases hm0 : m = 0
 ·subst hm0
  have hx0 : xs = [] := List.length_eq_zero_iff.1 (by omega)
  subst hx0
  refine ⟨v, G, ?_, by simpa using h⟩
  unfold aU
  rw [if_pos (by simp [gV, h0, hb0, hb1, hz]), hx]
  simp only [if_true]
  rcases h.2.2 with ⟨rfl, _⟩ | ⟨id, rfl, _⟩ <;> rfl
 obtain ⟨⟨T, rfl⟩, h2, h3⟩ := h
 rcases h3 with ⟨rfl, rfl⟩ | ⟨id, rfl, q2, q3⟩
 ·have hc0 : cs = [] := List.length_eq_zero_iff.1 (by omega)
  subst hc0
  refine ⟨_, _, kW hz h0 hb0 hb1 hx hm0 ho (by simpa using hb), ⟨T ++ [.mk true s xs], by simp⟩, by simp [hm], .inr ⟨(B ++ T).length, by simp, by simp, ?_⟩⟩
  rw [List.nil_append]; exact get_last
 ·refine ⟨_, _, dG hz h0 hb0 hb1 q3 h2 hx hm0 ho hb, ⟨T.set (id - B.length) .dead ++ [.mk true s (cs ++ xs)], ?_⟩, by simp [h2, hm, Nat.add_mul], .inr ⟨(B ++ T).length, rfl, by simp, ?_⟩⟩
  ·rw [List.set_append_right _ _ q2, List.append_assoc]
  ·have hl : ((B ++ T).set id .dead).length = (B ++ T).length := List.length_set
   rw [← hl, get_last]
end
def RowsOk (B : List Ob) (sh : Sh) (cs : List V) (us : List U) (Fs : List (List Nat)) : Prop :=
 cs.length = us.length * sh.size ∧ Fs.length = us.length ∧ ∀ i x F, us[i]? = some x → Fs[i]? = some F → AtF B sh ((cs.drop (i * sh.size)).take sh.size) x F
section
variable {B G : List Ob} {sh : Sh} {cs cs' : List V} {us us' : List U} {Fs Fs' : List (List Nat)} {v : V}
theorem RowsOk.nil : RowsOk B sh [] [] [] := ⟨by simp, rfl, fun i x F h => by cases h⟩
theorem RowsOk.one {c : List V} {x : U} {F : List Nat} (h : AtF B sh c x F) : RowsOk B sh c [x] [F] := by
 have hl : c.length = sh.size := At.len _ (AtF.at _ h)
 refine ⟨by simp [hl], rfl, fun i y K hy hK => ?_⟩
 cases i with
 | zero => cases hy; cases hK; rw [Nat.zero_mul, List.drop_zero, List.take_of_length_le (by omega)]; exact h
 | succ i => cases hy
theorem RowsOk.take (h : RowsOk B sh cs us Fs) {k : Nat} (hk : k ≤ us.length) : RowsOk B sh (cs.take (k * sh.size)) (us.take k) (Fs.take k) := by
 obtain ⟨h1, h2, h3⟩ := h
 have hm : k * sh.size ≤ us.length * sh.size := Nat.mul_le_mul_right _ hk
 refine ⟨by simp [Nat.min_eq_left hk]; omega, by simp; omega, fun i x F hx hF => ?_⟩
 have hi : i < k := by have := (List.getElem?_eq_some_iff.1 hx).1; simp at this; omega
 rw [List.getElem?_take_of_lt hi] at hx hF
 have hs : i * sh.size + sh.size ≤ k * sh.size := bW hi
 have := h3 i x F hx hF
 rw [uM hs]
 exact this
theorem RowsOk.drop (h : RowsOk B sh cs us Fs) {k : Nat} (hk : k ≤ us.length) : RowsOk B sh (cs.drop (k * sh.size)) (us.drop k) (Fs.drop k) := by
 obtain ⟨h1, h2, h3⟩ := h
 refine ⟨by simp [h1, Nat.sub_mul], by simp; omega, fun i x F hx hF => ?_⟩
 rw [List.getElem?_drop] at hx hF
 have := h3 (k + i) x F hx hF
 rw [List.drop_drop, ← Nat.add_mul]
 exact this
theorem RowsOk.append (h : RowsOk B sh cs us Fs) (h' : RowsOk B sh cs' us' Fs') : RowsOk B sh (cs ++ cs') (us ++ us') (Fs ++ Fs') := by
 obtain ⟨h1, h2, h3⟩ := h
 obtain ⟨k1, k2, k3⟩ := h'
 refine ⟨by simp [h1, k1, Nat.add_mul], by simp [h2, k2], fun i x F hx hF => ?_⟩
 by_cases hi : i < us.length
 ·rw [List.getElem?_append_left hi] at hx
  rw [List.getElem?_append_left (by omega)] at hF
  have hs : i * sh.size + sh.size ≤ us.length * sh.size := bW hi
  rw [List.drop_append_of_le_length (by omega), List.take_append_of_le_length (by simp; omega)]
  exact h3 i x F hx hF
 ·obtain ⟨t, rfl⟩ : ∃ t, i = us.length + t := ⟨i - us.length, by omega⟩
  rw [List.getElem?_append_right (by omega)] at hx hF
  rw [show us.length + t - us.length = t by omega] at hx
  rw [show us.length + t - Fs.length = t by omega] at hF
  have e : (us.length + t) * sh.size = cs.length + t * sh.size := by rw [Nat.add_mul, h1]
  rw [e, List.drop_append, List.drop_eq_nil_of_le (by omega), List.nil_append, Nat.add_sub_cancel_left]
  exact k3 t x F hx hF
theorem RowsOk.ones (h : RowsOk B sh cs us Fs) : cs.all aI = true := by
 refine nY (n := us.length) (s := sh.size) h.1 fun j hj => ?_
 have hF : j < Fs.length := by rw [h.2.1]; exact hj
 exact At.ones _ (AtF.at _ (h.2.2 j us[j] Fs[j] (List.getElem?_eq_getElem hj) (List.getElem?_eq_getElem hF)))
theorem RowsOk.mem (h : RowsOk B sh cs us Fs) : ∀ q ∈ Fs.flatten, q < B.length := fun q hq => by
 obtain ⟨F, hF, hq⟩ := List.mem_flatten.1 hq
 obtain ⟨i, hi, rfl⟩ := List.getElem_of_mem hF
 have hi' : i < us.length := by rw [← h.2.1]; exact hi
 exact AtF.mem _ (h.2.2 i us[i] Fs[i] (List.getElem?_eq_getElem hi') (List.getElem?_eq_getElem hi)) q hq
theorem RowsOk.frame (h : RowsOk B sh cs us Fs) (hG : ∀ q ∈ Fs.flatten, G[q]? = B[q]?) : RowsOk G sh cs us Fs :=
 ⟨h.1, h.2.1, fun i x F hx hF => AtF.frame _ (fun q hq => hG q (List.mem_flatten.2 ⟨F, List.mem_of_getElem? hF, hq⟩)) (h.2.2 i x F hx hF)⟩
theorem AtF.rows {F : List Nat} (h : AtF B (.slice sh) [v] (.lst us) F) (hn : F.Nodup) : ∃ p cs Fs, v = .slc p us.length ∧ RowsOk B sh cs us Fs ∧ Fs.flatten.Nodup ∧ (∀ q ∈ Fs.flatten, q ∈ F) ∧
  ((p = none ∧ us = []) ∨ ∃ id off cells, p = some (id, off) ∧ B[id]? = some (.mk true sh.size cells) ∧ id ∈ F ∧ id ∉ Fs.flatten ∧
   ∀ (d : LD) (by_ : Nat) (z : List V) (G : List Ob) (lo hi : Nat), G[id]? = B[id]? → lo ≤ hi → hi ≤ us.length →
    aQ ⟨d, sh.size, by_, z⟩ G (.slc (some (id, off + lo * sh.size)) (hi - lo)) = some ((cs.drop (lo * sh.size)).take ((hi - lo) * sh.size), hi - lo)) := by
 obtain ⟨w, us', hw, hus, hlen, h⟩ := aZ.1 h
 cases hw
 cases hus
 rcases h with ⟨rfl, rfl, rfl⟩ | ⟨id, off, cells, Fs, rfl, h2, h3, h4, rfl, h6⟩
 ·exact ⟨none, [], [], rfl, RowsOk.nil, by simp, by simp, .inl ⟨rfl, rfl⟩⟩
 ·obtain ⟨hn1, hn2⟩ := List.nodup_cons.1 hn
  have hcl : ((cells.drop off).take (us.length * sh.size)).length = us.length * sh.size := by simp; omega
  refine ⟨some (id, off), (cells.drop off).take (us.length * sh.size), Fs, rfl, ⟨hcl, h4, fun i x F hx hF => ?_⟩, hn2, fun q hq => List.mem_cons_of_mem _ hq, .inr ⟨id, off, cells, rfl, h2, List.mem_cons_self, hn1, fun d by_ z G lo hi hG hlo hhi => ?_⟩⟩
  ·rw [jb h3 (List.getElem?_eq_some_iff.1 hx).1]
   exact h6 i x F hx hF
  ·have e1 : lo * sh.size + (hi - lo) * sh.size = hi * sh.size := by rw [← Nat.add_mul]; congr 1; omega
   have e2 : hi * sh.size ≤ us.length * sh.size := Nat.mul_le_mul_right _ hhi
   have e3 : (((cells.drop off).take (us.length * sh.size)).drop (lo * sh.size)).take ((hi - lo) * sh.size) = (cells.drop (off + lo * sh.size)).take ((hi - lo) * sh.size) := by
    rw [List.drop_take, List.take_take, List.drop_drop, Nat.min_eq_left (by omega)]
   rw [e3]
   simp only [aQ, aO, hG, h2]
   by_cases h0 : (hi - lo) * sh.size = 0
   ·rw [if_pos h0, h0, List.take_zero]
   ·rw [if_neg h0]
    unfold cO
    rw [if_pos (by omega)]
end
section
variable {H S X : List Ob} {l : List Nat} {k : Nat} {o : Ob}
theorem lU : di l H.length (H ++ S) = H ++ di l 0 S := by
 apply List.ext_getElem?
 intro i
 rw [fF]
 by_cases hi : i < H.length
 ·rw [List.getElem?_append_left hi, List.getElem?_append_left hi]
  cases H[i]? with
  | none => rfl
  | some o => rw [Option.map_some, if_neg (fun hc => absurd hc.1 (by omega))]
 ·rw [List.getElem?_append_right (by omega), List.getElem?_append_right (by omega), fF]
  have : (H.length ≤ i ∧ l.contains (i - H.length) = true) ↔ (0 ≤ i - H.length ∧ l.contains (i - H.length - 0) = true) := by simp; omega
  simp only [this]
theorem lI : fB l H.length (H ++ S) (H ++ X) = H ++ fB l 0 S X := by
 apply List.ext_getElem?
 intro i
 rw [ed]
 by_cases hi : i < H.length
 ·rw [List.getElem?_append_left hi, List.getElem?_append_left hi]
  cases H[i]? with
  | none => rfl
  | some o => rw [Option.map_some, if_neg (fun hc => absurd hc.1 (by omega))]
 ·rw [List.getElem?_append_right (by omega), List.getElem?_append_right (by omega), ed]
  have : (H.length ≤ i ∧ l.contains (i - H.length) = true) ↔ (0 ≤ i - H.length ∧ l.contains (i - H.length - 0) = true) := by simp; omega
  simp only [this, List.getD_eq_getElem?_getD]
  rw [List.getElem?_append_right (by omega)]
theorem ja : (H ++ S).set (H.length + k) o = H ++ S.set k o := by
 rw [List.set_append_right _ _ (by omega), Nat.add_sub_cancel_left]
theorem lX : (H ++ S).set H.length o = H ++ S.set 0 o := by
 rw [List.set_append_right _ _ (by omega), Nat.sub_self]
theorem iC : (H ++ S)[H.length + k]? = S[k]? := by
 rw [List.getElem?_append_right (by omega), Nat.add_sub_cancel_left]
end
end Go.Lite
end
section
namespace Go.Lite
open Go
variable {H T : List Ob}
theorem qJ {p : Option (Nat × Nat)} {n : Nat} (h : eF H (.slc p n)) : eF (H ++ T) (.slc p n) := by
 cases p with
 | none => trivial
 | some q =>
  obtain ⟨id, off⟩ := q
  obtain ⟨own, es, cells, h⟩ := h
  exact ⟨own, es, cells, bg _ _ h⟩
theorem ASl.shape {α : Type} {sh : Sh} {f : α → U} {v : V} {l : List α} (h : ASl H sh f v l) : ∃ p, v = .slc p l.length := by
 rcases h.sub with ⟨rfl, rfl⟩ | ⟨id, off, own, cells, rfl, _⟩ <;> exact ⟨_, rfl⟩
end Go.Lite
end
section
namespace Go.Lite
open Go
section
variable {B G : List Ob} {sh : Sh} {cs xs : List V} {us : List U} {Fs : List (List Nat)} {v : V} {s n m : Nat}
end
end Go.Lite
end
