/- Part 15 of the proof of a law: the interpreter, its soundness, and what functions of the program compute over it. Conditions: none but those that each theorem names. -/
import Derived.Test.YtamgeahibepfnaaGreatDoorM14
import Derived.Test.YtamgeahibepfnaaGreatDoorM10
import Derived.Test.YtamgeahibepfnaaGreatDoorM12
import Derived.Test.YtamgeahibepfnaaGreatDoorM13
import Derived.Test.YtamgeahibepfnaaGreatDoorM08

set_option linter.all false
set_option maxRecDepth 20000
set_option maxHeartbeats 40000000
section
namespace Go.Proofs.Try1
open Go Go.Lite
attribute [-simp] lL rO
attribute [local simp] oU vP qy oV pg mY
attribute [local simp low] qi



def Yq (n : Int) : Int := if n = 0 then 1 else if n = 1 then 0 else 2

def Tri (x : Int) : Prop := x = 0 ∨ x = 1 ∨ x = 2
theorem Tri.not {x : Int} (h : Tri x) : Tri (Yq x) := by
 rcases h with rfl | rfl | rfl <;> simp [Tri, Yq]

def ints (xs : List Int) : List V := xs.map fun x => .int .i64 x
theorem Hw {xs : List Int} : (ints xs).length = xs.length := by simp [ints]
def Is (H G : List Ob) (v : V) (b : List Int) : Prop := ∃ T id, G = H ++ T ∧ H.length ≤ id ∧ G[id]? = some (.mk true 1 (ints b)) ∧ v = .slc (some (id, 0)) b.length
theorem Is.init {H : List Ob} : Is H (H ++ [.mk true 1 []]) (.slc (some (H.length, 0)) 0) [] := ⟨_, H.length, rfl, Nat.le_refl _, by simp [ints], rfl⟩
theorem Is.push {H G : List Ob} {v : V} {b : List Int} (h : Is H G v b) (hb : b.length ≤ 1000) {c : Int} {z : List V} {d : LD} (hz : z.length = 1) : ∃ v' G', bi ⟨d, 1, 8, z⟩ (G ++ [.mk true 1 [.int .i64 c]]) v (.slc (some (G.length, 0)) 1) = some (v', G') ∧ Is H G' v' (b ++ [c]) := by
 obtain ⟨T, id, rfl, h1, h2, rfl⟩ := h
 have hid : id < (H ++ T).length := (List.getElem?_eq_some_iff.1 h2).1
 have hid' : id < H.length + T.length := by simpa using hid
 have hg : (H ++ T ++ [Ob.mk true 1 [.int .i64 c]])[id]? = some (.mk true 1 (ints b)) := by rw [List.getElem?_append_left hid]; exact h2
 have hnew : aO ⟨d, 1, 8, z⟩ (H ++ T ++ [Ob.mk true 1 [.int .i64 c]]) (.slc (some ((H ++ T).length, 0)) 1) = some ([.int .i64 c], 1) := by
  simp only [aO, Nat.mul_one, bg, get_last]
  rfl
 refine ⟨.slc (some ((H ++ T ++ [Ob.mk true 1 [.int .i64 c]]).length, 0)) (b.length + 1), (H ++ T ++ [Ob.mk true 1 [.int .i64 c]]).set id .dead ++ [.mk true 1 (ints b ++ [.int .i64 c])], ?_, ?_⟩
 ·unfold bi
  rw [if_pos (by simp [fJ, hz]), hnew]
  simp only [Nat.one_ne_zero, if_false, List.all_cons, List.all_nil, xk, Bool.and_true, if_true, hg]
  have e1 : ¬ (0 + (b.length + 1) * 1 ≤ (ints b).length) := by rw [Hw]; omega
  have e2 : (0 + b.length * 1 = (ints b).length ∨ b.length = 0 ∧ (ints b).length ≤ 0) ∧ (b.length + 1) * 8 ≤ aJ := ⟨.inl (by rw [Hw]; simp), by unfold aJ; omega⟩
  rw [if_neg e1, if_pos e2, List.drop_zero]
 ·refine ⟨T.set (id - H.length) .dead ++ [.mk true 1 [.int .i64 c]] ++ [.mk true 1 (ints b ++ [.int .i64 c])], (H ++ T ++ [Ob.mk true 1 [.int .i64 c]]).length, ?_, by simp only [List.length_append]; omega, ?_, by simp⟩
  ·rw [List.append_assoc H T, List.set_append_right _ _ h1, List.set_append_left _ _ (by omega)]
   simp
  ·have hl : ((H ++ T ++ [Ob.mk true 1 [V.int .i64 c]]).set id .dead).length = (H ++ T ++ [Ob.mk true 1 [V.int .i64 c]]).length := List.length_set
   rw [← hl, get_last]
   simp [ints]

theorem MP {H : List Ob} {v w : V} {a b : List PRdn} (h : bH H v a) (hb : bH H w b) (h1 : DnOk a) (h2 : DnOk b) :
  callW C 194 [v, w] H = some (.bool (dec (a.length = b.length ∧ aK a = aK b)), H) := by
 by_cases hl : a.length = b.length
 ·rw [Gn h hb h1 h2 hl]
  by_cases g : aK a = aK b
  ·rw [aj g, aj ⟨hl, g⟩]
  ·rw [au g, au (fun h => g h.2)]
 ·apply Ret.dec
  rw [UI]
  have hl' : ¬ (a.length : Int) = b.length := by omega
  simp [uK, Tryz.f194, h.len, hb.len, hl, hl', ae, ag, List.lookup]
end Go.Proofs.Try1
end
section
namespace Go.Lite
open Go
theorem Ll {H : List Ob} {vp : V} {p : List PRdn} {r : PRdn} (hp : bH H vp p) (ha : r.attr.length ≤ maxLen) (hv : r.value.length ≤ maxLen) (hl : p.length ≤ 1000) : ∃ q cs, vp = .slc q p.length ∧ (∀ T, bg (H ++ T) q (p.length * 2) = some cs) ∧ cs.length = p.length * 2 ∧ cs.all aN = true ∧
  ∀ (G : List Ob) (id : Nat), G[id]? = some (.mk true 2 ([.str r.attr, .str r.value] ++ cs)) → AtF G (.slice shRdn) [.slc (some (id, 0)) (p.length + 1)] (.lst ((r :: p).map PRdn.u)) [id] := by
 obtain ⟨q, cs, rfl, hc, hl', ho, hq, hat⟩ := hp.cells (by decide)
 have hsz : shRdn.size = 2 := rfl
 rw [hsz] at hc hl' hat
 refine ⟨q, cs, rfl, hc, hl', ho, fun G id hG => ?_⟩
 refine aA.2 ⟨_, _, rfl, rfl, by simp; unfold maxLen; omega, .inr ⟨id, 0, [V.str r.attr, V.str r.value] ++ cs, List.replicate (p.length + 1) [], by simp, hG, by rw [hsz]; simp; omega, by simp, by simp, fun i x F hx hF => ?_⟩⟩
 have hi : i < p.length + 1 := by have := (List.getElem?_eq_some_iff.1 hx).1; simpa using this
 rw [List.getElem?_replicate, if_pos hi] at hF
 cases hF
 rw [hsz]
 cases i with
 | zero =>
  cases hx
  exact At.flat (H := G) _ rfl (yX.2 ⟨by simp, ha, hv⟩)
 | succ i =>
  rw [List.map_cons, List.getElem?_cons_succ, List.getElem?_map] at hx
  obtain ⟨y, hy, rfl⟩ := Option.map_eq_some_iff.1 hx
  have e : (([V.str r.attr, V.str r.value] ++ cs).drop (0 + (i + 1) * 2)).take 2 = (cs.drop (i * 2)).take 2 := by
   rw [show 0 + (i + 1) * 2 = 2 + i * 2 by omega, ← List.drop_drop]
   rfl
  rw [e]
  exact At.flat _ rfl (hat i y hy)
theorem LM {G : List Ob} {r : PRdn} (ha : r.attr.length ≤ maxLen) (hv : r.value.length ≤ maxLen) : bH (G ++ [.mk true 2 [.str r.attr, .str r.value]]) (.slc (some (G.length, 0)) 1) [r] := by
 obtain ⟨q, cs, h1, h2, h3, h4, h5⟩ := Ll (H := []) (vp := .slc none 0) (p := []) (r := r) (ak.2 ⟨_, _, rfl, rfl, by simp, .inl ⟨rfl, rfl⟩⟩) ha hv (by simp)
 have hc : cs = [] := List.length_eq_zero_iff.1 (by simpa using h3)
 subst hc
 exact AtF.at _ (h5 _ G.length get_last)
theorem IQ {d : LD} {H : List Ob} {vp : V} {p : List PRdn} {r : PRdn} (hp : bH H vp p) (ha : r.attr.length ≤ maxLen) (hv : r.value.length ≤ maxLen) (hl : p.length ≤ 1000) :
  ∃ w T, bi ⟨d, 2, 32, [.str [], .str []]⟩ (H ++ [.mk true 2 [.str r.attr, .str r.value]]) (.slc (some (H.length, 0)) 1) vp = some (w, H ++ T) ∧ New H.length (H ++ T).length (H ++ T) (.slice shRdn) [w] (.lst ((r :: p).map PRdn.u)) := by
 obtain ⟨q, cs, rfl, hc, hl', ho, row⟩ := Ll hp ha hv hl
 have hnew : aO ⟨d, 2, 32, [.str [], .str []]⟩ (H ++ [.mk true 2 [.str r.attr, .str r.value]]) (.slc q p.length) = some (cs, p.length) := by simp only [aO, hc]
 by_cases hm : p.length = 0
 ·have hc0 : cs = [] := List.length_eq_zero_iff.1 (by omega)
  subst hc0
  have hr := row (H ++ [.mk true 2 [.str r.attr, .str r.value]]) H.length get_last
  rw [hm] at hr
  refine ⟨.slc (some (H.length, 0)) 1, [.mk true 2 [.str r.attr, .str r.value]], ?_, ⟨[H.length], hr, by simp, by simp⟩⟩
  unfold bi
  rw [if_pos (by simp [fJ]), hnew]
  simp [hm]
 ·have h := eY (n := 1) (cs := [.str r.attr, .str r.value]) (G := H ++ [.mk true 2 [.str r.attr, .str r.value]]) (id := H.length) (d := d) (sz := 2) (by_ := 32) (z := [.str [], .str []]) rfl (by decide) (by decide) (by decide) get_last rfl hnew hm ho (by unfold aJ; omega)
  have hT : (H ++ [Ob.mk true 2 [.str r.attr, .str r.value]]).set H.length .dead ++ [.mk true 2 ([.str r.attr, .str r.value] ++ cs)] = H ++ [.dead, .mk true 2 ([.str r.attr, .str r.value] ++ cs)] := by
   rw [List.set_append_right _ _ (Nat.le_refl _), List.append_assoc]
   simp
  rw [hT] at h
  have hr := row (H ++ [.dead, .mk true 2 ([.str r.attr, .str r.value] ++ cs)]) (H.length + 1) (by rw [List.getElem?_append_right (by omega)]; simp)
  refine ⟨_, _, h, ⟨[H.length + 1], ?_, by simp, by simp⟩⟩
  simpa [Nat.add_comm] using hr
end Go.Lite
end
section
namespace Go.Proofs.Try1
open Go Go.Lite
attribute [-simp] lL rO
attribute [local simp] oU vP qy oV pg mY
attribute [local simp low] qi
theorem LX {α : Type} {key : α → Str} {l : List α} (hp : l.Pairwise fun a b => key a < key b) {j : Nat} {x : α} (hx : l[j]? = some x) : bV key l j x := fun y h0 hy => by
 obtain ⟨h1, rfl⟩ := List.getElem?_eq_some_iff.1 hx
 obtain ⟨h2, rfl⟩ := List.getElem?_eq_some_iff.1 hy
 exact (bI _ _).2 (List.pairwise_iff_getElem.1 hp _ _ h2 h1 (by omega))
theorem J4 {l : List Str} (hv : ∀ x ∈ l, bf x) (ha : Go.Lite.Apart l) (h1 : 1 ≤ l.length) (h4 : l.length ≤ 4) : bT (dH l) := by
 have hperm := oM l
 have hap : ((dH l).map norm).Nodup := (hperm.map norm).nodup_iff.2 ha
 have h2 : (dH l).Pairwise fun a b => norm a ≠ norm b := List.pairwise_map.1 hap
 have hpw : (dH l).Pairwise fun a b => norm a < norm b := ((xP l).and h2).imp fun {a b} h => by
  rcases DR (norm a) (norm b) with h3 | h3 | h3
  ·exact (bI _ _).1 h3
  ·exact absurd h3 h.2
  ·exact absurd h3 h.1
 refine ⟨fun j x hx => ⟨hv x (hperm.subset (List.mem_of_getElem? hx)), LX hpw hx⟩, by rw [lM]; exact h1, by rw [lM]; exact h4⟩
theorem Iq {α : Type} {p q : α → Bool} (h : ∀ x, ¬ (p x = true ∧ q x = true)) : ∀ l : List α, (l.filter p).length + (l.filter q).length ≤ l.length ∧ ((∃ x ∈ l, p x = false ∧ q x = false) → (l.filter p).length + (l.filter q).length + 1 ≤ l.length)
 | [] => ⟨by simp, fun ⟨x, hx, _⟩ => by cases hx⟩
 | x :: l => by
  obtain ⟨h1, h2⟩ := Iq h l
  have h3 := h x
  rw [List.filter_cons, List.filter_cons]
  cases hp : p x <;> cases hq : q x
  ·simp; exact ⟨by omega, by omega⟩
  ·simp only [Bool.false_eq_true, if_false, if_true, List.length_cons]
   refine ⟨by omega, fun ⟨y, hy, e1, e2⟩ => ?_⟩
   rcases List.mem_cons.1 hy with rfl | hy
   ·rw [hq] at e2; cases e2
   ·have := h2 ⟨y, hy, e1, e2⟩; omega
  ·simp only [Bool.false_eq_true, if_false, if_true, List.length_cons]
   refine ⟨by omega, fun ⟨y, hy, e1, e2⟩ => ?_⟩
   rcases List.mem_cons.1 hy with rfl | hy
   ·rw [hp] at e1; cases e1
   ·have := h2 ⟨y, hy, e1, e2⟩; omega
  ·exact absurd ⟨hp, hq⟩ h3
theorem Gh {l : List PAttr} {n : Str} {vs : List Str} (hl : l.length ≤ 8) (h : ¬ (valsOf l n = [] ∧ 8 ≤ l.length)) : (dJ l n vs).length ≤ 8 := by
 obtain ⟨h1, h2⟩ := Iq (p := fun a : PAttr => dec (cO a.name n)) (q := fun a => dec (cO n a.name)) (fun x hx => eQ (eX.1 hx.1) (eX.1 hx.2)) l
 have hm : (if vs = [] then ([] : List PAttr) else [⟨n, vs⟩]).length ≤ 1 := by split <;> simp
 unfold dJ
 rw [List.length_append, List.length_append]
 by_cases g : valsOf l n = []
 ·have : ¬ 8 ≤ l.length := fun h3 => h ⟨g, h3⟩
  omega
 ·have : ∃ x ∈ l, dec (cO x.name n) = false ∧ dec (cO n x.name) = false := by
   unfold valsOf at g
   cases hf : bz PAttr.name l n with
   | none => rw [hf] at g; exact absurd rfl g
   | some a =>
    have he : a.name = n := by have := List.find?_some hf; simpa using this
    subst he
    exact ⟨a, List.mem_of_find?_eq_some hf, au (dL _), au (dL _)⟩
  have := h2 this
  omega
theorem JB {l : List PAttr} {n : Str} {vs : List Str} (hl : jb l) (hn : aX n) (hv : bT vs) (h : ¬ (valsOf l n = [] ∧ 8 ≤ l.length)) : jb (dJ l n vs) := by
 have hlen := Gh (vs := vs) hl.2 h
 have hp : l.Pairwise fun a b => a.name < b.name := jZ (fun j x hx => (hl.1 j x hx).2.1)
 have hne : ¬ vs = [] := fun e => by have := hv.2.1; rw [e] at this; simp at this
 have hin : ∀ a ∈ l, aX a.name ∧ bT a.vals := fun a ha => by
  obtain ⟨j, hj, rfl⟩ := List.getElem_of_mem ha
  have := hl.1 j _ (List.getElem?_eq_getElem hj)
  exact ⟨this.1, this.2.2⟩
 have hpw : (dJ l n vs).Pairwise fun a b => a.name < b.name := by
  unfold dJ
  rw [if_neg hne, List.append_assoc]
  refine List.pairwise_append.2 ⟨hp.filter _, List.pairwise_append.2 ⟨by simp, hp.filter _, fun a ha b hb => ?_⟩, fun a ha b hb => ?_⟩
  ·rw [List.mem_singleton.1 ha]
   exact (bI _ _).1 (eX.1 (List.mem_filter.1 hb).2)
  ·have h1 := (bI _ _).1 (eX.1 (List.mem_filter.1 ha).2)
   rcases List.mem_append.1 hb with hb | hb
   ·rw [List.mem_singleton.1 hb]; exact h1
   ·exact List.lt_trans h1 ((bI _ _).1 (eX.1 (List.mem_filter.1 hb).2))
 refine ⟨fun j x hx => ?_, hlen⟩
 have hm := List.mem_of_getElem? hx
 have h2 := LX hpw hx
 unfold dJ at hm
 rw [if_neg hne] at hm
 rcases List.mem_append.1 hm with hm | hm
 ·rcases List.mem_append.1 hm with hm | hm
  ·have := hin x (List.mem_filter.1 hm).1; exact ⟨this.1, h2, this.2⟩
  ·have e := List.mem_singleton.1 hm
   exact ⟨by rw [e]; exact hn, h2, by rw [e]; exact hv⟩
 ·have := hin x (List.mem_filter.1 hm).1; exact ⟨this.1, h2, this.2⟩
theorem SX {l : List PAttr} (hl : jb l) (n : Str) : bT (valsOf l n) ∨ valsOf l n = [] := by
 unfold valsOf
 split
 ·rename_i a h
  obtain ⟨j, hj, rfl⟩ := List.getElem_of_mem (List.mem_of_find?_eq_some h)
  exact .inl (hl.1 j _ (List.getElem?_eq_getElem hj)).2.2
 ·exact .inr rfl
theorem O9 {e : PEntry} {n v : Str} (he : EntryOk e) (hn : aX n) (hv : bf v) (h0 : (jI e n v).code = 0) : EntryOk (jI e n v).entry ∧ (jI e n v).entry.dn = e.dn := by
 unfold jI at h0 ⊢
 split at h0
 ·simp [wO] at h0
 rename_i g1
 rw [if_neg g1]
 split at h0
 ·simp [wO] at h0
 rename_i g2
 rw [if_neg g2]
 have hok := SX he.2.2 n
 have hl : (valsOf e.attrs n).length < 4 := by
  rcases Nat.lt_or_ge (valsOf e.attrs n).length 4 with h | h
  ·exact h
  ·exact absurd (.inl h) g2
 refine ⟨⟨he.1, he.2.1, JB he.2.2 hn (J4 (fun x hx => ?_) (Bz hok g1) (by simp) (by simp; omega)) (fun h => g2 (.inr h))⟩, rfl⟩
 rcases List.mem_append.1 hx with hx | hx
 ·rcases hok with h | h
  ·obtain ⟨j, hj, rfl⟩ := List.getElem_of_mem hx
   exact (h.1 j _ (List.getElem?_eq_getElem hj)).1
  ·rw [h] at hx; cases hx
 ·rw [List.mem_singleton.1 hx]; exact hv
theorem DnOk.cons {r : PRdn} {p : List PRdn} (hr : DnOk [r]) (hp : DnOk p) (h6 : ¬ 6 ≤ p.length) : DnOk (r :: p) := by
 refine ⟨fun j x hx => ?_, by simp; omega⟩
 cases j with
 | zero => cases hx; exact hr.1 0 r rfl
 | succ j => exact hp.1 j x (by simpa using hx)
noncomputable def cZ (x : PEntry) (r : PRdn) (p : List PRdn) : PEntryOut := if dec (mr x.attrs r.attr (norm r.value)) = true then ⟨⟨r :: p, x.attrs⟩, 0⟩ else jI ⟨r :: p, x.attrs⟩ r.attr r.value
theorem nN {x : PEntry} {r : PRdn} {p : List PRdn} (hx : EntryOk x) (hr : DnOk [r]) (hp : DnOk p) (h6 : ¬ 6 ≤ p.length) (h0 : (cZ x r p).code = 0) : EntryOk (cZ x r p).entry ∧ (cZ x r p).entry.dn = r :: p := by
 have hd := DnOk.cons hr hp h6
 have h1 : EntryOk ⟨r :: p, x.attrs⟩ := ⟨by simp, hd, hx.2.2⟩
 unfold cZ at h0 ⊢
 split
 ·exact ⟨h1, rfl⟩
 ·rename_i g
  rw [if_neg g] at h0
  obtain ⟨h2, h3⟩ := hr.1 0 r rfl
  exact O9 h1 h2 h3 h0
noncomputable def bW (t : PTree) (dn : List PRdn) (r : PRdn) (p : List PRdn) : Int :=
 match bz keyE t.entries (aK dn) with
 | none => 6
 | some x => if dec (nH t.entries dn) = true then 10 else if dec (0 < p.length ∧ (bz keyE t.entries (aK p) = none ∨ aK p = aK dn)) = true then 6 else if 6 ≤ p.length then 9 else
  if dec (¬ bz keyE t.entries (aK (r :: p)) = none ∧ ¬ aK (r :: p) = aK dn) = true then 7 else if ¬ (cZ x r p).code = 0 then (cZ x r p).code else if dec (dX t.schema (cZ x r p).entry) = true then 0 else 12
noncomputable def dN (t : PTree) (dn : List PRdn) (r : PRdn) (p : List PRdn) : PTreeOut :=
 if bW t dn r p = 0 then ⟨⟨t.schema, match bz keyE t.entries (aK dn) with
  | none => t.entries
  | some x => qE (jO t.entries (aK dn)) (cZ x r p).entry⟩, [], 0⟩ else yl (bW t dn r p)
noncomputable def bY (t : PTree) (dn : List PRdn) (r : PRdn) (p : List PRdn) : PTreeOut :=
 if 400 < dn.length ∨ 400 < p.length then yl 2 else if dec (TreeOk t ∧ DnOk dn ∧ DnOk p ∧ DnOk [r]) = true then dN t dn r p else yl 1
theorem QH {H : List Ob} {vp : V} {r : PRdn} {p : List PRdn} (hp : bH H vp p) (hr : DnOk [r]) (hpo : DnOk p) (ha : r.attr.length ≤ maxLen) (hv : r.value.length ≤ maxLen) :
  (6 ≤ p.length → callW C 202 [.agg [.str r.attr, .str r.value], vp] H = some (.agg [.slc none 0, .int .i64 9], H)) ∧
  (¬ 6 ≤ p.length → ∃ T w, callW C 202 [.agg [.str r.attr, .str r.value], vp] H = some (.agg [w, .int .i64 0], H ++ T) ∧ New H.length (H ++ T).length (H ++ T) (.slice shRdn) [w] (.lst ((r :: p).map PRdn.u))) := by
 have h4 : ¬ (400 : Int) < p.length := by have := hpo.2; omega
 have c1 := Hz hp
 rw [aj hpo] at c1
 have c2 := Hz (LM (G := H) ha hv)
 rw [aj hr] at c2
 constructor
 ·intro g
  have g' : (6 : Int) ≤ p.length := by omega
  suffices hs : Ret C 202 [.agg [.str r.attr, .str r.value], vp] H fun q H' => q = .agg [.slc none 0, .int .i64 9] ∧ H' = H by
   obtain ⟨q, H', hc, rfl, rfl⟩ := hs
   exact hc
  rw [UG]
  have hgc : ∀ X, fM H (H ++ X) (.agg [.slc none 0, .int .i64 9]) = H := fun X => iZ (by simp [fD, gJ])
  simp [yL, Tryz.f202, hp.len, h4, c1, c2, g', hgc, aH, ax, aS, ay, St.new, aI, ae, ag, List.lookup]
 ·intro g
  have g' : ¬ (6 : Int) ≤ p.length := by omega
  suffices hs : Ret C 202 [.agg [.str r.attr, .str r.value], vp] H fun q H' => ∃ T w, q = .agg [w, .int .i64 0] ∧ H' = H ++ T ∧ New H.length (H ++ T).length (H ++ T) (.slice shRdn) [w] (.lst ((r :: p).map PRdn.u)) by
   obtain ⟨q, H', hc, T, w, rfl, rfl, hr⟩ := hs
   exact ⟨T, w, hc, hr⟩
  rw [UG]
  obtain ⟨K, hK⟩ : ∃ K, K = H ++ [.mk true 2 [.str r.attr, .str r.value]] := ⟨_, rfl⟩
  have hpK : bH K vp p := by rw [hK]; exact hp.ext
  rw [← hK] at c2
  obtain ⟨w, T, a1, n1⟩ := IQ (d := .struct [(0, 9), (1, 9)]) hpK ha hv (by omega)
  have hw := New.one1 n1
  have n2 : New H.length (K ++ T).length (H ++ ([.mk true 2 [.str r.attr, .str r.value]] ++ T)) (.slice shRdn) [w] (.lst ((r :: p).map PRdn.u)) := by
   rw [← List.append_assoc, ← hK]
   exact n1.wide (by rw [hK]; simp) (Nat.le_refl _)
  have n3 : New H.length (K ++ T).length (H ++ ([.mk true 2 [.str r.attr, .str r.value]] ++ T)) (.st [.slice shRdn, .int .i64]) [w, .int .i64 0] (.st [.lst ((r :: p).map PRdn.u), .int 0]) :=
   New.st (News.cons (c1 := [w]) (m := (K ++ T).length) n2 (News.int (by decide) News.nil) (by rw [hK]; simp) (Nat.le_refl _))
  obtain ⟨T', hg, hn⟩ := n3.gcA
  rw [← List.append_assoc, ← hK] at hg
  have hn' : New H.length (H ++ T').length (H ++ T') (.slice shRdn) [w] (.lst ((r :: p).map PRdn.u)) := by
   obtain ⟨us, hu, hns⟩ := hn.st_inv
   cases hu
   obtain ⟨F, f1, f2, f3⟩ := hns
   obtain ⟨c1', c2', u1, us1, F1, F2, e1, e2, rfl, f5, f6⟩ := aC.1 f1
   cases e2
   obtain ⟨x1, _, rfl, _⟩ := aA.1 f5
   cases e1
   exact ⟨F1, f5, (List.nodup_append.1 f2).1, fun q hq => f3 q (List.mem_append_left _ hq)⟩
  simp [yL, Tryz.f202, hp.len, h4, c1, c2, g', hw, ← hK, a1, hg, aH, ax, aS, ay, St.new, aI, ae, ag, List.lookup]
  simpa using hn'
theorem xY {t : PTree} {dn : List PRdn} {r : PRdn} {p : List PRdn} : (Lit.int .i64 (bW t dn r p)).wf = true := by
 have h : 0 ≤ bW t dn r p ∧ bW t dn r p ≤ 100 := by
  unfold bW
  split
  ·decide
  repeat' split
  all_goals first | decide | skip
  unfold cZ
  split
  ·simp
  ·unfold jI
   repeat' split
   all_goals simp [wO]
 exact Tn h.1 h.2
theorem Ia {G H : List Ob} {vs ve z1 z2 : V} {t : PTree} {k : Nat} {x : PEntry} {e' : PEntry} {dn : List PRdn} (hG : ∃ T, G = H ++ T) (hs : aW G vs t.schema) (h : bC G ve t.entries) (gt : TreeOk t) (hx : t.entries[k]? = some x) (hk : keyE x = aK dn) (h1 : bH G z1 e'.dn) (h2 : bK G z2 e'.attrs) (he : EntryOk e') :
  ∃ T4 y1 y2 T5 w1 w2, callW C 206 [.agg [vs, ve], .int .i64 k] G = some (.agg [y1, y2], G ++ T4) ∧ (aN y1 = true ∧ cellsOf y1 = some [y1]) ∧ (aN y2 = true ∧ cellsOf y2 = some [y2]) ∧
   callW C 205 [.agg [y1, y2], .agg [z1, z2]] (G ++ T4) = some (.agg [w1, w2], G ++ (T4 ++ T5)) ∧ (aN w1 = true ∧ cellsOf w1 = some [w1]) ∧ (aN w2 = true ∧ cellsOf w2 = some [w2]) ∧
   ∃ T', fM H (G ++ (T4 ++ T5)) (.agg [w1, w2, .slc none 0, .int .i64 0]) = H ++ T' ∧ TOut H ⟨⟨t.schema, qE (jO t.entries (aK dn)) e'⟩, [], 0⟩ (.agg [w1, w2, .slc none 0, .int .i64 0]) (H ++ T') := by
 obtain ⟨T, rfl⟩ := hG
 have hkl := (List.getElem?_eq_some_iff.1 hx).1
 obtain ⟨T4, y1, y2, c1, n1⟩ := WT hs h (TreeOk.small gt) hkl
 have hdr : jO t.entries (aK dn) = (outT t k).entries := Ih (TreeOk.rise gt) hx hk
 have hsub : ∀ y ∈ (outT t k).entries, y ∈ t.entries := fun y hy => by
  rw [← hdr] at hy
  exact (List.mem_filter.1 hy).1
 obtain ⟨_, _, hcs, b1, b2⟩ := mZ.1 n1.at
 cases hcs
 have hlen : (outT t k).entries.length ≤ 1000 := by
  have h1 := gt.2.1.1
  have h2 : (outT t k).entries.length ≤ t.entries.length := by rw [← hdr]; exact List.length_filter_le _ _
  omega
 have hsm : tV (outT t k) := by
  exact ⟨(TreeOk.small gt).1, by omega, fun y hy => (TreeOk.small gt).2.2 y (hsub y hy)⟩
 obtain ⟨T5, w1, w2, c2, n2⟩ := Vw (t := outT t k) b1 b2 h1.ext h2.ext hsm (EntryOk.small he) (fun y hy => (TreeOk.dns gt y (hsub y hy)).2.1) he.2.1 (by rw [← hdr]; exact (TreeOk.rise gt).filter _) hlen
 have hw := dm n2.at
 simp only [List.mem_cons, List.not_mem_nil, or_false, forall_eq_or_imp, forall_eq] at hw
 have n3 : New H.length (H ++ (T ++ (T4 ++ T5))).length (H ++ (T ++ (T4 ++ T5))) cu [w1, w2] (PTree.u ⟨t.schema, qE (jO t.entries (aK dn)) e'⟩) := by
  rw [hdr, show H ++ (T ++ (T4 ++ T5)) = H ++ T ++ T4 ++ T5 by simp only [List.append_assoc]]
  exact n2.wide (by simp) (Nat.le_refl _)
 obtain ⟨T', q, rfl, hg, hfin⟩ := TOut.new n3
 refine ⟨T4, y1, y2, T5, w1, w2, c1, b1.one, b2.one, by rw [c2, List.append_assoc], hw.1, hw.2, T', ?_, hfin⟩
 rw [List.append_assoc]
 exact hg
theorem U8 {H : List Ob} {vs ve vd vp : V} {t : PTree} {dn p : List PRdn} {r : PRdn} (hs : aW H vs t.schema) (h : bC H ve t.entries) (hd : bH H vd dn) (hp : bH H vp p) (ha : r.attr.length ≤ maxLen) (hv : r.value.length ≤ maxLen) (gt : TreeOk t) (gd : DnOk dn) (gp : DnOk p) (gr : DnOk [r]) :
  ∃ q H', callW C 112 [.agg [vs, ve], vd, .agg [.str r.attr, .str r.value], vp] H = some (q, H') ∧ TOut H (dN t dn r p) q H' := by
 suffices hs : Ret C 112 [.agg [vs, ve], vd, .agg [.str r.attr, .str r.value], vp] H fun q H' => TOut H (dN t dn r p) q H' by
  obtain ⟨q, H', hc, hr⟩ := hs
  exact ⟨q, H', hc, hr⟩
 rw [afO]
 have hos := hs.one
 have hoe := h.one
 have hokd : ∀ x ∈ t.entries, DnOk x.dn := fun x hx => (TreeOk.dns gt x hx).2.1
 have ill : ∀ (G : List Ob) c, callW C 89 [.int .i64 c] G = some (.agg [.slc none 0, .slc none 0, .slc none 0, .int .i64 c], G) := fun G c => PD
 have hgi : ∀ (X : List Ob) c, fM H (H ++ X) (.agg [.slc none 0, .slc none 0, .slc none 0, .int .i64 c]) = H := fun X c => iZ (by simp [fD, gJ])
 have fi : ∀ c, bW t dn r p = c → c ≠ 0 → TOut H (dN t dn r p) (.agg [.slc none 0, .slc none 0, .slc none 0, .int .i64 c]) H := fun c hc h0 => by
  unfold dN
  rw [if_neg (by rw [hc]; exact h0), hc]
  exact TOut.ill (by rw [← hc]; exact xY)
 have c1 := qL hd gd
 obtain ⟨k0, c2, hk⟩ := KU (vs := vs) (t := aK dn) h hokd hos
 have c3 := Vz h hokd hos hd gd
 have c4 := qL hp gp
 obtain ⟨r2, c5, hr2⟩ := KU (vs := vs) (t := aK p) h hokd hos
 rcases hk.pos with ⟨k, x, hx, rfl, hf⟩ | ⟨rfl, hf⟩
 rotate_left
 ·simp [iK, Tryz.f112, c1, c2, ill, hos, hoe, aH, ax, aS, ay, aI, ae, ag, List.lookup]
  exact fi 6 (by unfold bW; rw [hf]) (by decide)
 have hmc : bW t dn r p = if dec (nH t.entries dn) = true then 10 else if dec (0 < p.length ∧ (bz keyE t.entries (aK p) = none ∨ aK p = aK dn)) = true then 6 else if 6 ≤ p.length then 9 else
  if dec (¬ bz keyE t.entries (aK (r :: p)) = none ∧ ¬ aK (r :: p) = aK dn) = true then 7 else if ¬ (cZ x r p).code = 0 then (cZ x r p).code else if dec (dX t.schema (cZ x r p).entry) = true then 0 else 12 := by unfold bW; rw [hf]
 have hxe : keyE x = aK dn := by have := List.find?_some hf; simpa using this
 have hk0 : ¬ (k : Int) < 0 := by omega
 by_cases g1 : nH t.entries dn
 ·rw [aj g1] at c3 hmc
  simp [iK, Tryz.f112, c1, c2, c3, hk0, ill, hos, hoe, aH, ax, aS, ay, aI, ae, ag, List.lookup]
  exact fi 10 (by rw [hmc]; rfl) (by decide)
 rw [au g1] at c3 hmc
 simp only [Bool.false_eq_true, if_false] at hmc
 have hxo := TreeOk.dns gt x (List.mem_of_getElem? hx)
 have hpar : (∃ P : Prop, P) := ⟨True, trivial⟩
 have hcases : (0 < p.length ∧ r2 < 0 ∧ True) ∨ (0 < p.length ∧ ¬ r2 < 0 ∧ aK p = aK dn) ∨ (0 < p.length ∧ ¬ r2 < 0 ∧ ¬ aK p = aK dn) ∨ (¬ 0 < p.length) := by
  by_cases q1 : 0 < p.length
  ·by_cases q2 : r2 < 0
   ·exact .inl ⟨q1, q2, trivial⟩
   ·by_cases q3 : aK p = aK dn
    ·exact .inr (.inl ⟨q1, q2, q3⟩)
    ·exact .inr (.inr (.inl ⟨q1, q2, q3⟩))
  ·exact .inr (.inr (.inr q1))
 have hr2n : bz keyE t.entries (aK p) = none ↔ r2 < 0 := by
  rcases hr2.pos with ⟨j, y, _, rfl, hj⟩ | ⟨rfl, hj⟩
  ·rw [hj]; simp
  ·rw [hj]; simp
 have ok : (0 < p.length ∧ ¬ r2 < 0 ∧ ¬ aK p = aK dn) ∨ (¬ 0 < p.length ∧ True ∧ True) → WP C 112 iK ⟨af [.agg [vs, ve], vd, .agg [.str r.attr, .str r.value], vp], 0, H⟩ (aF C Tryz.f112 H fun q H' => TOut H (dN t dn r p) q H') := by
  intro hc2
  have hm6 : ¬ (0 < p.length ∧ (bz keyE t.entries (aK p) = none ∨ aK p = aK dn)) := by
   rintro ⟨q1, q2⟩
   rcases hc2 with ⟨_, q3, q4⟩ | ⟨q3, _⟩
   ·exact q2.elim (fun q => q3 (hr2n.1 q)) q4
   ·exact q3 q1
  rw [au hm6] at hmc
  simp only [Bool.false_eq_true, if_false] at hmc
  obtain ⟨j1, j2⟩ := QH hp gr gp ha hv
  by_cases g6 : 6 ≤ p.length
  ·have j := j1 g6
   have e9 := fi 9 (by rw [hmc, if_pos g6]) (by decide)
   rcases hc2 with ⟨q1, q2, q3⟩ | ⟨q1, q2, q3⟩ <;> (
    simp [iK, Tryz.f112, c1, c2, c3, c4, c5, hp.len, q1, q2, q3, hk0, j, ill, hos, hoe, aH, ax, aS, ay, aI, ae, ag, List.lookup]
    exact e9)
  rw [if_neg g6] at hmc
  obtain ⟨T1, w, j, nw⟩ := j2 g6
  obtain ⟨K, hK⟩ : ∃ K, K = H ++ T1 := ⟨_, rfl⟩
  rw [← hK] at j nw
  have hwo := New.one1 nw
  have hw : bH K w (r :: p) := nw.at
  have gw := DnOk.cons gr gp g6
  have hsK : aW K vs t.schema := by rw [hK]; exact hs.ext
  have heK : bC K ve t.entries := by rw [hK]; exact h.ext
  have c6 := qL hw gw
  obtain ⟨r3, c7, hr3⟩ := KU (vs := vs) (t := aK (r :: p)) heK hokd hos
  have hgK : ∀ c, fM H K (.agg [.slc none 0, .slc none 0, .slc none 0, .int .i64 c]) = H := fun c => by rw [hK]; exact hgi _ _
  have hr3n : (0 ≤ r3 ∧ ¬ r3 = k) ↔ (¬ bz keyE t.entries (aK (r :: p)) = none ∧ ¬ aK (r :: p) = aK dn) := by
   rcases hr3.pos with ⟨i, y, hy, rfl, hj⟩ | ⟨rfl, hj⟩
   ·have hye : keyE y = aK (r :: p) := by have := List.find?_some hj; simpa using this
    rw [hj]
    have : (i : Int) = k ↔ aK (r :: p) = aK dn := by
     constructor
     ·intro e
      obtain rfl : i = k := by omega
      rw [hx] at hy
      cases hy
      rw [← hye, hxe]
     ·intro e
      have hpw := TreeOk.rise gt
      obtain ⟨hi1, rfl⟩ := List.getElem?_eq_some_iff.1 hy
      obtain ⟨hk1, rfl⟩ := List.getElem?_eq_some_iff.1 hx
      rcases Nat.lt_trichotomy i k with hh | hh | hh
      ·have := List.pairwise_iff_getElem.1 hpw i k hi1 hk1 hh
       rw [hye, e, hxe] at this
       exact absurd this (List.lt_irrefl _)
      ·omega
      ·have := List.pairwise_iff_getElem.1 hpw k i hk1 hi1 hh
       rw [hye, e, hxe] at this
       exact absurd this (List.lt_irrefl _)
    rw [this]
    simp
   ·rw [hj]; simp
  by_cases g7 : 0 ≤ r3 ∧ ¬ r3 = k
  ·have e7 := fi 7 (by rw [hmc, aj (hr3n.1 g7)]; rfl) (by decide)
   obtain ⟨g7a, g7b⟩ := g7
   rcases hc2 with ⟨q1, q2, q3⟩ | ⟨q1, q2, q3⟩ <;> (
    simp [iK, Tryz.f112, c1, c2, c3, c4, c5, c6, c7, hp.len, q1, q2, q3, hk0, j, hwo, g7a, g7b, ill, hgK, hos, hoe, aH, ax, aS, ay, aI, ae, ag, List.lookup]
    exact e7)
  rw [au (fun hh => g7 (hr3n.2 hh))] at hmc
  simp only [Bool.false_eq_true, if_false] at hmc
  have h7c : (0 ≤ r3 ∧ r3 = k) ∨ (¬ 0 ≤ r3 ∧ True) := by
   by_cases q : 0 ≤ r3
   ·by_cases q' : r3 = k
    ·exact .inl ⟨q, q'⟩
    ·exact absurd ⟨q, q'⟩ g7
   ·exact .inr ⟨q, trivial⟩
  obtain ⟨id, o, v1, v2, e1, l0, l1, lm, a1, a2, _⟩ := dA heK hx
  have hkl := (List.getElem?_eq_some_iff.1 hx).1
  obtain ⟨T2, y1, y2, c8, n8⟩ := Es a1 a2 (EntryOk.small hxo)
  obtain ⟨G, hG⟩ : ∃ G, G = K ++ T2 := ⟨_, rfl⟩
  rw [← hG] at c8 n8
  obtain ⟨_, _, hcy, b1, b2⟩ := iq.1 n8.at
  cases hcy
  have o1 := a1.one
  have o2 := a2.one
  have p1 := b1.one
  have p2 := b2.one
  have hwG : bH G w (r :: p) := by rw [hG]; exact hw.ext
  have hsG : aW G vs t.schema := by rw [hG]; exact hsK.ext
  have heG : bC G ve t.entries := by rw [hG]; exact heK.ext
  have hGH : ∃ T, G = H ++ T := ⟨T1 ++ T2, by rw [hG, hK, List.append_assoc]⟩
  have hgG : ∀ c, fM H G (.agg [.slc none 0, .slc none 0, .slc none 0, .int .i64 c]) = H := fun c => by obtain ⟨T, rfl⟩ := hGH; exact hgi _ _
  have c9 := RV (t := r.attr) (s := r.value) b2 hwo.2 hwo.1
  by_cases g8 : mr x.attrs r.attr (norm r.value)
  ·have hmv : cZ x r p = ⟨⟨r :: p, x.attrs⟩, 0⟩ := by unfold cZ; rw [aj g8]; rfl
   have hmok := (nN hxo gr gp g6 (by rw [hmv])).1
   rw [hmv] at hmc hmok
   simp only [not_true_eq_false, if_false] at hmc hmok
   rw [aj g8] at c9
   obtain ⟨r4, d1, d2, d3⟩ := zn (e := ⟨r :: p, x.attrs⟩) hsG hwG b2 (by simp)
   by_cases g9 : r4 = 0
   ·subst g9
    have g9' : dX t.schema ⟨r :: p, x.attrs⟩ := d2.1 rfl
    rw [aj g9', if_pos rfl] at hmc
    obtain ⟨T4, u1, u2, T5, w1, w2, d4, d5, d6, d7, d8, d9, T', hg, hfin⟩ := Ia (e' := ⟨r :: p, x.attrs⟩) hGH hsG heG gt hx hxe hwG b2 hmok
    have hmo : dN t dn r p = ⟨⟨t.schema, qE (jO t.entries (aK dn)) ⟨r :: p, x.attrs⟩⟩, [], 0⟩ := by unfold dN; rw [if_pos hmc, hf]; simp only [hmv]
    rw [hmo]
    rcases hc2 with ⟨q1, q2, q3⟩ | ⟨q1, q2, q3⟩ <;> rcases h7c with ⟨s1, s2⟩ | ⟨s1, s2⟩ <;> (
     simp [iK, Tryz.f112, c1, c2, c3, c4, c5, c6, c7, c8, c9, hp.len, q1, q2, q3, hk0, j, hwo, s1, s2, e1, lm, hkl, o1, o2, p1, p2, d1, d4, d5, d6, d7, d8, d9, hg, hos, hoe, aH, ax, aS, ay, aI, ae, ag, List.lookup]
     exact hfin)
   ·have g9' : ¬ dX t.schema ⟨r :: p, x.attrs⟩ := fun hh => g9 (d2.2 hh)
    rw [au g9'] at hmc
    simp only [Bool.false_eq_true, if_false] at hmc
    have d3 := d3.resolve_left g9
    subst d3
    have e12 := fi 12 hmc (by decide)
    rcases hc2 with ⟨q1, q2, q3⟩ | ⟨q1, q2, q3⟩ <;> rcases h7c with ⟨s1, s2⟩ | ⟨s1, s2⟩ <;> (
     simp [iK, Tryz.f112, c1, c2, c3, c4, c5, c6, c7, c8, c9, hp.len, q1, q2, q3, hk0, j, hwo, s1, s2, e1, lm, hkl, o1, o2, p1, p2, d1, ill, hgG, hos, hoe, aH, ax, aS, ay, aI, ae, ag, List.lookup]
     exact e12)
  rw [au g8] at c9
  have hmv : cZ x r p = jI ⟨r :: p, x.attrs⟩ r.attr r.value := by unfold cZ; rw [au g8]; rfl
  obtain ⟨q0, H0, d1, T3, z1, z2, rfl, rfl, hz, hzg⟩ := aga (e := ⟨r :: p, x.attrs⟩) (n := r.attr) (v := r.value) hwG b2 (EntryOk.small (e := ⟨r :: p, x.attrs⟩) ⟨by simp, gw, hxo.2.2⟩) (EntryOk.rise (e := ⟨r :: p, x.attrs⟩) ⟨by simp, gw, hxo.2.2⟩) ha hv (fun a haa => by
   obtain ⟨i, hi, rfl⟩ := List.getElem_of_mem haa
   have := (hxo.2.2.1 i _ (List.getElem?_eq_getElem hi)).2.2.2.2
   omega)
  obtain ⟨G3, hG3⟩ : ∃ G3, G3 = G ++ T3 := ⟨_, rfl⟩
  rw [← hG3] at d1 hz hzg
  obtain ⟨_, _, hcz, zb1, zb2, zw⟩ := mQ.1 hz
  cases hcz
  have zo1 := zb1.one
  have zo2 := zb2.one
  have hG3H : ∃ T, G3 = H ++ T := by obtain ⟨T, hT⟩ := hGH; exact ⟨T ++ T3, by rw [hG3, hT, List.append_assoc]⟩
  have hgG3 : ∀ c, fM H G3 (.agg [.slc none 0, .slc none 0, .slc none 0, .int .i64 c]) = H := fun c => by obtain ⟨T, rfl⟩ := hG3H; exact hgi _ _
  rw [← hmv] at d1 zb1 zb2 zw
  by_cases ga : (cZ x r p).code = 0
  rotate_left
  ·have eA := fi _ (by rw [hmc, if_pos ga]) ga
   rcases hc2 with ⟨q1, q2, q3⟩ | ⟨q1, q2, q3⟩ <;> rcases h7c with ⟨s1, s2⟩ | ⟨s1, s2⟩ <;> (
    simp [iK, Tryz.f112, c1, c2, c3, c4, c5, c6, c7, c8, c9, hp.len, q1, q2, q3, hk0, j, hwo, s1, s2, e1, lm, hkl, o1, o2, p1, p2, d1, zo1, zo2, ga, ill, hgG3, hos, hoe, aH, ax, aS, ay, aI, ae, ag, List.lookup]
    exact eA)
  rw [if_neg (fun hh => hh ga)] at hmc
  obtain ⟨hmok, hmdn⟩ := nN hxo gr gp g6 ga
  rw [ga] at d1
  have hsG3 : aW G3 vs t.schema := by rw [hG3]; exact hsG.ext
  have heG3 : bC G3 ve t.entries := by rw [hG3]; exact heG.ext
  obtain ⟨r4, d10, d2, d3⟩ := zn (e := (cZ x r p).entry) hsG3 zb1 zb2 hmok.1
  by_cases g9 : r4 = 0
  ·subst g9
   have g9' : dX t.schema (cZ x r p).entry := d2.1 rfl
   rw [aj g9', if_pos rfl] at hmc
   obtain ⟨T4, u1, u2, T5, w1, w2, d4, d5, d6, d7, d8, d9, T', hg, hfin⟩ := Ia (e' := (cZ x r p).entry) hG3H hsG3 heG3 gt hx hxe zb1 zb2 hmok
   have hmo : dN t dn r p = ⟨⟨t.schema, qE (jO t.entries (aK dn)) (cZ x r p).entry⟩, [], 0⟩ := by unfold dN; rw [if_pos hmc, hf]
   rw [hmo]
   rcases hc2 with ⟨q1, q2, q3⟩ | ⟨q1, q2, q3⟩ <;> rcases h7c with ⟨s1, s2⟩ | ⟨s1, s2⟩ <;> (
    simp [iK, Tryz.f112, c1, c2, c3, c4, c5, c6, c7, c8, c9, hp.len, q1, q2, q3, hk0, j, hwo, s1, s2, e1, lm, hkl, o1, o2, p1, p2, d1, d10, zo1, zo2, d4, d5, d6, d7, d8, d9, hg, hos, hoe, aH, ax, aS, ay, aI, ae, ag, List.lookup]
    exact hfin)
  ·have g9' : ¬ dX t.schema (cZ x r p).entry := fun hh => g9 (d2.2 hh)
   rw [au g9'] at hmc
   simp only [Bool.false_eq_true, if_false] at hmc
   have d3 := d3.resolve_left g9
   subst d3
   have e12 := fi 12 hmc (by decide)
   rcases hc2 with ⟨q1, q2, q3⟩ | ⟨q1, q2, q3⟩ <;> rcases h7c with ⟨s1, s2⟩ | ⟨s1, s2⟩ <;> (
    simp [iK, Tryz.f112, c1, c2, c3, c4, c5, c6, c7, c8, c9, hp.len, q1, q2, q3, hk0, j, hwo, s1, s2, e1, lm, hkl, o1, o2, p1, p2, d1, d10, zo1, zo2, ill, hgG3, hos, hoe, aH, ax, aS, ay, aI, ae, ag, List.lookup]
    exact e12)
 rcases hcases with ⟨q1, q2, _⟩ | ⟨q1, q2, q3⟩ | ⟨q1, q2, q3⟩ | q1
 ·have e6 := fi 6 (by rw [hmc, aj ⟨q1, .inl (hr2n.2 q2)⟩]; rfl) (by decide)
  simp [iK, Tryz.f112, c1, c2, c3, c4, c5, hp.len, q1, q2, hk0, ill, hos, hoe, aH, ax, aS, ay, aI, ae, ag, List.lookup]
  exact e6
 ·have e6 := fi 6 (by rw [hmc, aj ⟨q1, .inr q3⟩]; rfl) (by decide)
  simp [iK, Tryz.f112, c1, c2, c3, c4, c5, hp.len, q1, q2, q3, hk0, ill, hos, hoe, aH, ax, aS, ay, aI, ae, ag, List.lookup]
  exact e6
 ·exact ok (.inl ⟨q1, q2, q3⟩)
 ·exact ok (.inr ⟨q1, trivial, trivial⟩)
theorem Uc {c : UInt8} (h : kY c) : jl c ≠ 1 := by
 intro e
 have e2 := congrArg UInt8.toNat e
 unfold jl at e2
 unfold kY at h
 split at e2
 ·rw [UInt8.toNat_add] at e2
  have : (32 : UInt8).toNat = 32 := rfl
  have : (1 : UInt8).toNat = 1 := rfl
  omega
 ·have : (1 : UInt8).toNat = 1 := rfl
  omega
theorem Hg : ∀ (l b : Str), (∀ c ∈ b, c ≠ 1) → (∀ c ∈ l, kY c) → ∀ c ∈ l.foldl bu b, c ≠ 1
 | [], b, hb, _ => hb
 | x :: l, b, hb, hl => by
  refine Hg l _ (fun c hc => ?_) fun c hc => hl c (List.mem_cons_of_mem _ hc)
  unfold bu at hc
  split at hc
  ·exact hb c hc
  ·rcases List.mem_append.1 hc with hc | hc
   ·exact hb c hc
   ·rw [List.mem_singleton.1 hc]; exact Uc (hl x List.mem_cons_self)
theorem PN {t : Str} : ∀ c ∈ norm t, c ≠ 1 := by
 unfold norm
 split
 ·rename_i h
  have hp : Plain t := eX.1 h.2
  have := Hg t [] (by simp) fun c hc => by
   obtain ⟨j, hj, rfl⟩ := List.getElem_of_mem hc
   exact hp j _ (List.getElem?_eq_getElem hj)
  intro c hc
  unfold lW at hc
  split at hc
  ·exact this c (List.dropLast_subset _ hc)
  ·exact this c hc
 ·simp
theorem PI {t : Str} (h : aX t) : ∀ c ∈ t, c ≠ 1 := fun c hc e => by
 subst e
 obtain ⟨j, hj, he⟩ := List.getElem_of_mem hc
 have := h.2.2 j _ (List.getElem?_eq_getElem hj)
 rw [he] at this
 have : (1 : UInt8).toNat = 1 := rfl
 unfold qP qC at *
 omega
theorem zx : ∀ (l : List (Str × Str)) (s : Str), (∀ p ∈ l, ∀ c ∈ p.1, c ≠ 1) → (l.foldl iL s).count 1 = s.count 1 + l.length
 | [], s, _ => by simp
 | p :: l, s, h => by
  rw [List.foldl_cons, zx l _ fun q hq => h q (List.mem_cons_of_mem _ hq)]
  have h1 : p.1.count 1 = 0 := List.count_eq_zero.2 fun hm => h p List.mem_cons_self 1 hm rfl
  have h2 : (norm p.2).count 1 = 0 := List.count_eq_zero.2 fun hm => PN 1 hm rfl
  unfold iL
  rw [List.count_append, List.count_cons, List.count_append, List.count_cons, h1, h2]
  simp
  omega
theorem Qz {a b : List PRdn} (ha : DnOk a) (hb : DnOk b) (h : aK a = aK b) : a.length = b.length := by
 have key : ∀ l : List PRdn, DnOk l → (aK l).count 1 = l.length := fun l hl => by
  unfold aK Uk
  rw [zx _ _ fun p hp => ?_]
  ·simp
  ·rw [List.mem_reverse] at hp
   obtain ⟨r, hr, rfl⟩ := List.mem_map.1 hp
   obtain ⟨j, hj, rfl⟩ := List.getElem_of_mem hr
   exact PI (hl.1 j _ (List.getElem?_eq_getElem hj)).1
 rw [← key a ha, ← key b hb, h]
theorem JR {H : List Ob} {vs ve vd vp : V} {t : PTree} {dn p : List PRdn} {r : PRdn} (hs : aW H vs t.schema) (h : bC H ve t.entries) (hd : bH H vd dn) (hp : bH H vp p) (ha : r.attr.length ≤ maxLen) (hv : r.value.length ≤ maxLen) :
  ∃ q H', callW C 46 [.agg [vs, ve], vd, .agg [.str r.attr, .str r.value], vp] H = some (q, H') ∧ TOut H (bY t dn r p) q H' := by
 suffices hs : Ret C 46 [.agg [vs, ve], vd, .agg [.str r.attr, .str r.value], vp] H fun q H' => TOut H (bY t dn r p) q H' by
  obtain ⟨q, H', hc, hr⟩ := hs
  exact ⟨q, H', hc, hr⟩
 rw [amc]
 have hos := hs.one
 have hoe := h.one
 have c1 : ∀ (G : List Ob) c, callW C 89 [.int .i64 c] G = some (.agg [.slc none 0, .slc none 0, .slc none 0, .int .i64 c], G) := fun G c => PD
 have hgi : ∀ (X : List Ob) c, fM H (H ++ X) (.agg [.slc none 0, .slc none 0, .slc none 0, .int .i64 c]) = H := fun X c => iZ (by simp [fD, gJ])
 have c3 := H7 hs h
 have c4 := Hz hd
 have c5 := Hz hp
 have c6 := Hz (LM (G := H) ha hv)
 by_cases g1 : 400 < dn.length ∨ 400 < p.length
 ·have e : bY t dn r p = yl 2 := if_pos g1
  rw [e]
  by_cases g2 : 400 < dn.length
  ·have g2' : (400 : Int) < dn.length := by omega
   simp [qw, Tryz.f46, hd.len, hp.len, g2', c1, hos, hoe, aH, ax, aS, ay, aI, ae, ag, List.lookup]
   exact TOut.ill (by decide)
  ·have g2' : ¬ (400 : Int) < dn.length := by omega
   have g3' : (400 : Int) < p.length := by have := g1.resolve_left g2; omega
   simp [qw, Tryz.f46, hd.len, hp.len, g2', g3', c1, hos, hoe, aH, ax, aS, ay, aI, ae, ag, List.lookup]
   exact TOut.ill (by decide)
 have g2' : ¬ (400 : Int) < dn.length := fun h => g1 (.inl (by omega))
 have g3' : ¬ (400 : Int) < p.length := fun h => g1 (.inr (by omega))
 have e0 : ¬ (TreeOk t ∧ DnOk dn ∧ DnOk p ∧ DnOk [r]) → bY t dn r p = yl 1 := fun hn => by unfold bY; rw [if_neg g1, au hn]; rfl
 by_cases k1 : TreeOk t
 rotate_left
 ·rw [e0 (fun h => k1 h.1)]
  rw [au k1] at c3
  simp [qw, Tryz.f46, hd.len, hp.len, g2', g3', c1, c3, hos, hoe, aH, ax, aS, ay, aI, ae, ag, List.lookup]
  exact TOut.ill (by decide)
 rw [aj k1] at c3
 by_cases k2 : DnOk dn
 rotate_left
 ·rw [e0 (fun h => k2 h.2.1)]
  rw [au k2] at c4
  simp [qw, Tryz.f46, hd.len, hp.len, g2', g3', c1, c3, c4, hos, hoe, aH, ax, aS, ay, aI, ae, ag, List.lookup]
  exact TOut.ill (by decide)
 rw [aj k2] at c4
 by_cases k3 : DnOk p
 rotate_left
 ·rw [e0 (fun h => k3 h.2.2.1)]
  rw [au k3] at c5
  simp [qw, Tryz.f46, hd.len, hp.len, g2', g3', c1, c3, c4, c5, hos, hoe, aH, ax, aS, ay, aI, ae, ag, List.lookup]
  exact TOut.ill (by decide)
 rw [aj k3] at c5
 obtain ⟨K, hK⟩ : ∃ K, K = H ++ [.mk true 2 [.str r.attr, .str r.value]] := ⟨_, rfl⟩
 have hgK : ∀ c, fM H K (.agg [.slc none 0, .slc none 0, .slc none 0, .int .i64 c]) = H := fun c => by rw [hK]; exact hgi _ _
 rw [← hK] at c6
 by_cases k4 : DnOk [r]
 rotate_left
 ·rw [e0 (fun h => k4 h.2.2.2)]
  rw [au k4] at c6
  simp [qw, Tryz.f46, hd.len, hp.len, g2', g3', c1, c3, c4, c5, c6, St.new, ← hK, hgK, hos, hoe, aH, ax, aS, ay, aI, ae, ag, List.lookup]
  exact TOut.ill (by decide)
 rw [aj k4] at c6
 obtain ⟨q, H', c7, hT⟩ := U8 (H := K) (by rw [hK]; exact hs.ext) (by rw [hK]; exact h.ext) (by rw [hK]; exact hd.ext) (by rw [hK]; exact hp.ext) ha hv k1 k2 k3 k4
 have e : bY t dn r p = dN t dn r p := by unfold bY; rw [if_neg g1, aj ⟨k1, k2, k3, k4⟩]; rfl
 rw [e]
 obtain ⟨w1, w2, w3, rfl, o1, o2, o3⟩ := hT.ones
 have hfin := TOut.base (by rw [hK] at hT; exact hT)
 simp [qw, Tryz.f46, hd.len, hp.len, g2', g3', c3, c4, c5, c6, c7, o1, o2, o3, St.new, ← hK, hos, hoe, aH, ax, aS, ay, aI, ae, ag, List.lookup]
 exact hfin
theorem Gu {G : List Ob} {w1 w2 : V} {e : PEntry} {b f : Nat} (h : New b f G shEntry [w1, w2] e.u) : ∃ F1 F2, AtF G (.slice shRdn) [w1] (.lst (e.dn.map PRdn.u)) F1 ∧ AtF G (.slice shAttr) [w2] (.lst (e.attrs.map PAttr.u)) F2 ∧ F2.Nodup ∧ (∀ q ∈ F2, b ≤ q ∧ q < f) := by
 obtain ⟨F, f1, f2, f3⟩ := h
 obtain ⟨us, hus, f4⟩ := dY.1 f1
 cases hus
 obtain ⟨c1', c2', u1, us1, F1, F2, hcs, hu, rfl, f5, f6⟩ := aC.1 f4
 cases hu
 obtain ⟨c3', c4', u2, us2, F3, F4, rfl, hu, rfl, f7, f8⟩ := aC.1 f6
 cases hu
 obtain ⟨rfl, _, rfl⟩ := di.1 f8
 obtain ⟨x1, _, rfl, _⟩ := aA.1 f5
 obtain ⟨x2, _, rfl, _⟩ := aA.1 f7
 simp only [List.append_nil, List.cons_append, List.nil_append, List.cons.injEq, and_true] at hcs
 obtain ⟨rfl, rfl⟩ := hcs
 rw [List.append_nil] at f2 f3
 obtain ⟨fa, fb, fc⟩ := List.nodup_append.1 f2
 exact ⟨F1, F3, f5, f7, fb, fun q hq => f3 q (List.mem_append_right _ hq)⟩
theorem JW {G : List Ob} {w1 w2 : V} {e : PEntry} {F1 F2 : List Nat} (h1 : AtF G (.slice shRdn) [w1] (.lst (e.dn.map PRdn.u)) F1) (h2 : AtF G (.slice shAttr) [w2] (.lst (e.attrs.map PAttr.u)) F2) : AtF G shEntry [w1, w2] e.u (F1 ++ F2) :=
 dY.2 ⟨_, rfl, aC.2 ⟨[w1], [w2], _, _, F1, F2, rfl, rfl, rfl, h1, aC.2 ⟨[w2], [], _, _, F2, [], rfl, rfl, by simp, h2, di.2 ⟨rfl, rfl, rfl⟩⟩⟩⟩
theorem BA {G M : List Ob} {idt ide i : Nat} {vs ve w va : V} {t : PTree} {e' x : PEntry} {dn : List PRdn} {F Fw Fm : List Nat} (ht : G[idt]? = some (.mk true 2 [vs, ve])) (hA : AtF G (.slice shEntry) [ve] (.lst (t.entries.map PEntry.u)) F) (hn : F.Nodup) (hide : idt ∉ F) (gt : TreeOk t) (hx : t.entries[i]? = some x) (hxe : keyE x = aK dn) (hge : G.length ≤ ide)
  (me : M[ide]? = some (.mk true 2 [w, va])) (mw : AtF M (.slice shRdn) [w] (.lst (e'.dn.map PRdn.u)) Fw) (mA : AtF M (.slice shAttr) [va] (.lst (e'.attrs.map PAttr.u)) Fm) (mn : (Fw ++ Fm).Nodup) (mb : ∀ q ∈ Fw ++ Fm, G.length ≤ q) (mfr : ∀ q, q < G.length → M[q]? = G[q]?) (gw : DnOk e'.dn) :
  ∃ z G1 P k ok v' G2, P = G1.set idt (.mk true 2 [vs, z]) ∧ callW C 214 [ve, .int .i64 i, .int .i64 ((i : Int) + 1)] M = some (z, G1) ∧ (aN z = true ∧ cellsOf z = some [z]) ∧ G1[idt]? = some (.mk true 2 [vs, ve]) ∧ idt < P.length ∧
   callW C 192 [.ptr (some (idt, 0)), w] P = some (.tup [.int .i64 k, .bool ok], P) ∧ P[idt]? = some (.mk true 2 [vs, z]) ∧ P[ide]? = some (.mk true 2 [w, va]) ∧
   callW C 215 [z, .int .i64 k, .slc (some (P.length, 0)) 1] (P ++ [.mk true 2 [w, va]]) = some (v', G2) ∧ (aN v' = true ∧ cellsOf v' = some [v']) ∧ G2[idt]? = some (.mk true 2 [vs, z]) ∧ fM G (G2.set idt (.mk true 2 [vs, v'])) (.int .i64 0) = G2.set idt (.mk true 2 [vs, v']) ∧
   ∃ ve' F', (G2.set idt (.mk true 2 [vs, v']))[idt]? = some (.mk true 2 [vs, ve']) ∧ ve' ≠ ve ∧ AtF (G2.set idt (.mk true 2 [vs, v'])) (.slice shEntry) [ve'] (.lst ((qE (jO t.entries (aK dn)) e').map PEntry.u)) F' ∧ F'.Nodup ∧ (∀ q ∈ F', q ∈ F ∨ G.length ≤ q) ∧ (∀ q, q < G.length → q ∉ F → q ≠ idt → (G2.set idt (.mk true 2 [vs, v']))[q]? = G[q]?) ∧ G.length ≤ (G2.set idt (.mk true 2 [vs, v'])).length := by
 have htl : idt < G.length := (List.getElem?_eq_some_iff.1 ht).1
 have he : bC G ve t.entries := AtF.at _ hA
 have hFl : ∀ q ∈ F, q < G.length := AtF.mem _ hA
 have hel : t.entries.length ≤ 20 := gt.2.1.1
 have hil : i < t.entries.length := (List.getElem?_eq_some_iff.1 hx).1
 have hpw := TreeOk.rise gt
 have hide2 : ide < M.length := (List.getElem?_eq_some_iff.1 me).1
 have hD := Ih hpw hx hxe
 have hDok : ∀ y ∈ jO t.entries (aK dn), DnOk y.dn := fun y hy => (TreeOk.dns gt y (List.mem_filter.1 hy).1).2.1
 have hDl : (jO t.entries (aK dn)).length ≤ t.entries.length := List.length_filter_le _ _
 have hDp : (jO t.entries (aK dn)).Pairwise fun a b => keyE a < keyE b := hpw.filter _
 obtain ⟨z, G1, F1, c1, a1, n1, s1, fr1, len1, hz⟩ := Vu (AtF.frame _ (fun q hq => mfr q (hFl q hq)) hA) hn hil (by omega)
 rw [← hD] at a1
 have ht1 : G1[idt]? = some (.mk true 2 [vs, ve]) := by rw [fr1 idt hide, mfr idt htl]; exact ht
 have hG1l : idt < G1.length := by omega
 obtain ⟨P, hP⟩ : ∃ P, P = G1.set idt (.mk true 2 [vs, z]) := ⟨_, rfl⟩
 have hPl : P.length = M.length := by rw [hP]; simp [len1]
 have hPt : P[idt]? = some (.mk true 2 [vs, z]) := by rw [hP]; exact List.getElem?_set_self hG1l
 have hPfr : ∀ q, q ∉ F → q ≠ idt → P[q]? = M[q]? := fun q h1 h2 => by rw [hP, List.getElem?_set_ne fun e => h2 e.symm]; exact fr1 q h1
 have hPhi : ∀ q, G.length ≤ q → P[q]? = M[q]? := fun q h1 => hPfr q (fun h => by have := hFl q h; omega) (by omega)
 have hPA : AtF P (.slice shEntry) [z] (.lst ((jO t.entries (aK dn)).map PEntry.u)) F1 := by rw [hP]; exact AtF.kill a1 fun hm => hide (s1 idt hm)
 have mwP : AtF P (.slice shRdn) [w] (.lst (e'.dn.map PRdn.u)) Fw := mw.frame _ fun q hq => hPhi q (mb q (List.mem_append_left _ hq))
 have mAP : AtF P (.slice shAttr) [va] (.lst (e'.attrs.map PAttr.u)) Fm := mA.frame _ fun q hq => hPhi q (mb q (List.mem_append_right _ hq))
 have meP : P[ide]? = some (.mk true 2 [w, va]) := by rw [hPhi ide hge]; exact me
 obtain ⟨k, ok, c2, hile, hlo, hhi, _⟩ := nZ hPt (AtF.at _ hPA) (by omega) hDok hDp (AtF.at _ mwP) gw
 obtain ⟨v', G2, F2, p1, a2, n2, s2, fr2, len2, hv'⟩ := KY (f := PEntry.u) hPA n1 (JW mwP mAP) mn (fun q hq hm => by have := mb q hq; have := hFl q (s1 q hm); omega) hile (by omega) (by decide)
 have p2 : callW C 215 [z, .int .i64 k, .slc (some (P.length, 0)) 1] (P ++ [.mk true 2 [w, va]]) = some (v', G2) := by
  rw [gX (show C.prim 215 = some (fG 2) from rfl)]
  exact p1
 have hidF1 : idt ∉ F1 := fun h => hide (s1 idt h)
 have ht2 : G2[idt]? = some (.mk true 2 [vs, z]) := by rw [fr2 idt hidF1 (by omega)]; exact hPt
 have hv1 : aN v' = true ∧ cellsOf v' = some [v'] := by rw [hv']; exact ⟨rfl, rfl⟩
 have hG2l : idt < G2.length := by omega
 have hGP : G.length ≤ P.length := by omega
 have hne : v' ≠ ve := fun eq => by
  rw [hv'] at eq
  rcases he.sub with ⟨hh, _⟩ | ⟨id, off, own, cells, hh, h3, _⟩
  ·rw [hh] at eq; cases eq
  ·rw [hh] at eq
   have := (List.getElem?_eq_some_iff.1 h3).1
   simp only [V.slc.injEq, Option.some.injEq, Prod.mk.injEq] at eq
   omega
 have hidF2 : idt ∉ F2 := fun hm => by
  rcases s2 idt hm with hh | hh | hh
  ·exact hidF1 hh
  ·have := mb idt hh; omega
  ·omega
 have hno : ¬ Ext G (G2.set idt (.mk true 2 [vs, v'])) := GI ht (by
  rw [List.getElem?_set_self hG2l]
  intro eq
  cases eq
  exact hne rfl)
 refine ⟨z, G1, P, k, ok, v', G2, hP, c1, hz, ht1, by omega, c2, hPt, meP, p2, hv1, ht2, xC hno, v', F2, List.getElem?_set_self hG2l, hne, ?_, n2, fun q hq => ?_, fun q h1 h2 h3 => ?_, by simp; omega⟩
 ·rw [Mc hlo hhi]
  exact AtF.kill a2 hidF2
 ·rcases s2 q hq with hh | hh | hh
  ·exact .inl (s1 q hh)
  ·exact .inr (mb q hh)
  ·exact .inr (by omega)
 ·rw [List.getElem?_set_ne (fun e => h3 e.symm), fr2 q (fun h => h2 (s1 q h)) (by omega), hPfr q h2 h3, mfr q h1]
theorem TE {e : PEntry} {n v : Str} : (jI e n v).code = if ∃ x ∈ valsOf e.attrs n, norm x = norm v then 7 else if 4 ≤ (valsOf e.attrs n).length ∨ (valsOf e.attrs n = [] ∧ 8 ≤ e.attrs.length) then 9 else 0 := by
 unfold jI
 repeat' split
 all_goals rfl
theorem TQ {e : PEntry} {n v : Str} (h : (jI e n v).code = 0) : (jI e n v).entry.attrs = dJ e.attrs n (dH (valsOf e.attrs n ++ [v])) := by
 unfold jI at h ⊢
 split at h
 ·simp [wO] at h
 rename_i g1
 rw [if_neg g1]
 split at h
 ·simp [wO] at h
 rename_i g2
 rw [if_neg g2]
 rfl
def UA (t : PTree) (dn : List PRdn) (r : PRdn) (p : List PRdn) (G : List Ob) (idt : Nat) (vs ve : V) (F : List Nat) (q : V) (G' : List Ob) : Prop :=
 q = .int .i64 (bW t dn r p) ∧ (bW t dn r p ≠ 0 → G' = G) ∧
   (bW t dn r p = 0 → ∃ ve' F', G'[idt]? = some (.mk true 2 [vs, ve']) ∧ ve' ≠ ve ∧ AtF G' (.slice shEntry) [ve'] (.lst ((dN t dn r p).tree.entries.map PEntry.u)) F' ∧ F'.Nodup ∧ (∀ q ∈ F', q ∈ F ∨ G.length ≤ q) ∧ (∀ q, q < G.length → q ∉ F → q ≠ idt → G'[q]? = G[q]?) ∧ G.length ≤ G'.length)
theorem Vp {G : List Ob} {idt : Nat} {vs ve vd vp : V} {t : PTree} {dn p : List PRdn} {r : PRdn} {F : List Nat} (ht : G[idt]? = some (.mk true 2 [vs, ve])) (hs : aW G vs t.schema) (hA : AtF G (.slice shEntry) [ve] (.lst (t.entries.map PEntry.u)) F) (hn : F.Nodup) (hide : idt ∉ F)
  (hd : bH G vd dn) (hp : bH G vp p) (ha : r.attr.length ≤ maxLen) (hv : r.value.length ≤ maxLen) (gt : TreeOk t) (gd : DnOk dn) (gp : DnOk p) (gr : DnOk [r]) :
  ∃ G', callW C 117 [.ptr (some (idt, 0)), vd, .agg [.str r.attr, .str r.value], vp] G = some (.int .i64 (bW t dn r p), G') ∧ (bW t dn r p ≠ 0 → G' = G) ∧
   (bW t dn r p = 0 → ∃ ve' F', G'[idt]? = some (.mk true 2 [vs, ve']) ∧ ve' ≠ ve ∧ AtF G' (.slice shEntry) [ve'] (.lst ((dN t dn r p).tree.entries.map PEntry.u)) F' ∧ F'.Nodup ∧ (∀ q ∈ F', q ∈ F ∨ G.length ≤ q) ∧ (∀ q, q < G.length → q ∉ F → q ≠ idt → G'[q]? = G[q]?) ∧ G.length ≤ G'.length) := by
 suffices hs : Ret C 117 [.ptr (some (idt, 0)), vd, .agg [.str r.attr, .str r.value], vp] G fun q G' => UA t dn r p G idt vs ve F q G' by
  obtain ⟨q, G', hc, rfl, hr⟩ := hs
  exact ⟨G', hc, hr⟩
 rw [abS]
 have htl : idt < G.length := (List.getElem?_eq_some_iff.1 ht).1
 have he : bC G ve t.entries := AtF.at _ hA
 have hFl : ∀ q ∈ F, q < G.length := AtF.mem _ hA
 have hel : t.entries.length ≤ 20 := gt.2.1.1
 have hok : ∀ x ∈ t.entries, DnOk x.dn := fun x hx => (TreeOk.dns gt x hx).2.1
 have hpw := TreeOk.rise gt
 have l1 := aY (o := 1) (v := ve) ht rfl
 obtain ⟨i, c1, hi⟩ := Vk ht he (by omega) hok hpw hd gd
 obtain ⟨i2, ok2, c2, hile2, hlo2, hhi2, hok2⟩ := nZ ht he (by omega) hok hpw hp gp
 obtain ⟨s1, s2⟩ := oG hpw hlo2 hhi2 hok2
 have c3 := MP hp hd gp gd
 have fi : ∀ c, bW t dn r p = c → c ≠ 0 → UA t dn r p G idt vs ve F (.int .i64 c) G := fun c hc h0 => by
  unfold UA
  rw [hc]
  exact ⟨rfl, fun _ => rfl, fun h => absurd h h0⟩
 cases hf : bz keyE t.entries (aK dn) with
 | none =>
  have e : iI t.entries dn = 6 := if_pos hf
  have e6 := fi 6 (by unfold bW; rw [hf]) (by decide)
  rw [e] at c1
  simp [-fQ, iM, Tryz.f117, c1, iR, aH, ax, aS, ay, aI, aP, St.new, ae, ag, List.lookup]
  exact e6
 | some x =>
 have hne : ¬ bz keyE t.entries (aK dn) = none := by rw [hf]; simp
 have hmc : bW t dn r p = if dec (nH t.entries dn) = true then 10 else if dec (0 < p.length ∧ (bz keyE t.entries (aK p) = none ∨ aK p = aK dn)) = true then 6 else if 6 ≤ p.length then 9 else
  if dec (¬ bz keyE t.entries (aK (r :: p)) = none ∧ ¬ aK (r :: p) = aK dn) = true then 7 else if ¬ (cZ x r p).code = 0 then (cZ x r p).code else if dec (dX t.schema (cZ x r p).entry) = true then 0 else 12 := by unfold bW; rw [hf]
 by_cases g1 : nH t.entries dn
 ·have e : iI t.entries dn = 10 := by unfold iI; rw [if_neg hne, aj g1]; rfl
  rw [aj g1] at hmc
  have e10 := fi 10 (by rw [hmc]; rfl) (by decide)
  rw [e] at c1
  simp [-fQ, iM, Tryz.f117, c1, iR, aH, ax, aS, ay, aI, aP, St.new, ae, ag, List.lookup]
  exact e10
 have e : iI t.entries dn = 0 := by unfold iI; rw [if_neg hne, au g1]; rfl
 rw [au g1] at hmc
 simp only [Bool.false_eq_true, if_false] at hmc
 obtain ⟨x', hx, hxe⟩ := hi e
 have hxx : x' = x := by
  have := pz (key := keyE) hpw hx hxe
  rw [hf] at this
  cases this
  rfl
 subst hxx
 rw [e] at c1
 have hsame : (p.length = dn.length ∧ aK p = aK dn) ↔ aK p = aK dn := ⟨fun h => h.2, fun h => ⟨Qz gp gd h, h⟩⟩
 rw [Lh hsame] at c3
 have hcases : (0 < p.length ∧ ok2 = false ∧ True) ∨ (0 < p.length ∧ ok2 = true ∧ aK p = aK dn) ∨ (0 < p.length ∧ ok2 = true ∧ ¬ aK p = aK dn) ∨ (¬ 0 < p.length) := by
  by_cases q1 : 0 < p.length
  ·cases ok2 with
   | false => exact .inl ⟨q1, rfl, trivial⟩
   | true =>
    by_cases q3 : aK p = aK dn
    ·exact .inr (.inl ⟨q1, rfl, q3⟩)
    ·exact .inr (.inr (.inl ⟨q1, rfl, q3⟩))
  ·exact .inr (.inr (.inr q1))
 have ok : (0 < p.length ∧ ok2 = true ∧ ¬ aK p = aK dn) ∨ (¬ 0 < p.length ∧ True ∧ True) → WP C 117 iM ⟨af [.ptr (some (idt, 0)), vd, .agg [.str r.attr, .str r.value], vp], 0, G⟩ (aF C Tryz.f117 G fun q G' => UA t dn r p G idt vs ve F q G') := by
  intro hc2
  have hm6 : ¬ (0 < p.length ∧ (bz keyE t.entries (aK p) = none ∨ aK p = aK dn)) := by
   rintro ⟨q1, q2⟩
   rcases hc2 with ⟨_, q3, q4⟩ | ⟨q3, _⟩
   ·refine q2.elim (fun q => ?_) q4
    obtain ⟨y, _, _, hy⟩ := s2 q3
    rw [hy] at q; cases q
   ·exact q3 q1
  rw [au hm6] at hmc
  simp only [Bool.false_eq_true, if_false] at hmc
  have c3' : 0 < p.length → callW C 194 [vp, vd] G = some (.bool false, G) := fun hh => by
   rcases hc2 with ⟨_, _, q3⟩ | ⟨q3, _⟩
   ·rw [c3, au q3]
   ·exact absurd hh q3
  by_cases g6 : 6 ≤ p.length
  ·have e9 := fi 9 (by rw [hmc, if_pos g6]) (by decide)
   have hp6 : (p.length : Int) = 6 := by have := gp.2; omega
   have hp0 : 0 < p.length := by omega
   rcases hc2 with ⟨q1, q2, q3⟩ | ⟨q1, q2, q3⟩
   ·simp [-fQ, iM, Tryz.f117, c1, c2, q2, c3' hp0, hp.len, hp6, iR, aH, ax, aS, ay, aI, aP, St.new, ae, ag, List.lookup]
    exact e9
   ·exact absurd hp0 q1
  rw [if_neg g6] at hmc
  have hp6 : ¬ (p.length : Int) = 6 := by omega
  have hxo := TreeOk.dns gt x' (List.mem_of_getElem? hx)
  have hil : i < t.entries.length := (List.getElem?_eq_some_iff.1 hx).1
  have gw := DnOk.cons gr gp g6
  obtain ⟨id, o, v1, v2, e1, m0, m1, lm, a1, a2, _⟩ := dA he hx
  have o1 := a1.one
  have o2 := a2.one
  obtain ⟨T1, y1, y2, c4, n1⟩ := GM a1 a2 (EntryOk.small hxo)
  obtain ⟨B, hB⟩ : ∃ B, B = G ++ T1 := ⟨_, rfl⟩
  rw [← hB] at c4 n1
  have hBl : G.length ≤ B.length := by rw [hB]; simp
  obtain ⟨_, _, hcy, b1, b2⟩ := iq.1 n1.at
  cases hcy
  have p1 := b1.one
  have p2 := b2.one
  obtain ⟨Fy, Fa, _, fa2, fa3, fa4⟩ := Gu n1
  obtain ⟨K, hK⟩ : ∃ K, K = B ++ [.mk true 2 [y1, y2]] := ⟨_, rfl⟩
  have hKl : K.length = B.length + 1 := by rw [hK]; simp
  have st1 := EW (H := B ++ [.mk true 2 [.slc none 0, .slc none 0]]) (o := 0) (l := [y1, y2]) get_last (by simp) (by simp) (by simp [p1, p2])
  simp [setRange] at st1
  have hKH : K = G ++ (T1 ++ [.mk true 2 [y1, y2]]) := by rw [hK, hB, List.append_assoc]
  obtain ⟨w, T2, d1, nw⟩ := IQ (d := .struct [(0, 9), (1, 9)]) (H := K) (by rw [hKH]; exact hp.ext) ha hv (by have := gp.2; omega)
  have hwo := New.one1 nw
  obtain ⟨J, hJ⟩ : ∃ J, J = K ++ T2 := ⟨_, rfl⟩
  rw [← hJ] at d1 nw
  have hJl : K.length ≤ J.length := by rw [hJ]; simp
  have hJe : J[B.length]? = some (.mk true 2 [y1, y2]) := by rw [hJ]; exact aZ _ _ (by rw [hK]; exact get_last)
  have st2 := store1 (o := 0) (v := w) hJe (by simp) hwo.2 hwo.1
  simp at st2
  obtain ⟨L, hL⟩ : ∃ L, L = J.set B.length (.mk true 2 [w, y2]) := ⟨_, rfl⟩
  rw [← hL] at st2
  have hLl : L.length = J.length := by rw [hL]; simp
  have hLe : L[B.length]? = some (.mk true 2 [w, y2]) := by rw [hL]; exact List.getElem?_set_self (by omega)
  have hLq : ∀ q, q ≠ B.length → L[q]? = J[q]? := fun q hq => by rw [hL]; exact List.getElem?_set_ne (fun e => hq e.symm)
  have hJG : J = G ++ (T1 ++ [.mk true 2 [y1, y2]] ++ T2) := by rw [hJ, hKH, List.append_assoc]
  have hLG : ∀ q, q < G.length → L[q]? = G[q]? := fun q hq => by rw [hLq q (by omega), hJG, List.getElem?_append_left hq]
  have hup : ∀ (q : Nat) o, G[q]? = some o → L[q]? = some o := fun q o h => by rw [hLG q (List.getElem?_eq_some_iff.1 h).1]; exact h
  have hLt : L[idt]? = some (.mk true 2 [vs, ve]) := hup _ _ ht
  have heL : bC L ve t.entries := he.up hup
  have hsL : aW L vs t.schema := hs.up hup
  obtain ⟨Fw, fw1, fw2, fw3⟩ := nw
  have fwL : AtF L (.slice shRdn) [w] (.lst ((r :: p).map PRdn.u)) Fw := fw1.frame _ fun q hq => hLq q (by have := (fw3 q hq).1; omega)
  have hwL : bH L w (r :: p) := AtF.at _ fwL
  have faL : AtF L (.slice shAttr) [y2] (.lst (x'.attrs.map PAttr.u)) Fa := fa2.frame _ fun q hq => by
   rw [hLq q (by have := (fa4 q hq).2; omega), hJ, hK, List.append_assoc, List.getElem?_append_left (fa4 q hq).2]
  have haL : bK L y2 x'.attrs := AtF.at _ faL
  have m2 := aY (o := 0) (v := w) hLe rfl
  obtain ⟨k3, ok3, c5, hile3, hlo3, hhi3, hok3⟩ := nZ hLt heL (by omega) hok hpw hwL gw
  obtain ⟨s3, s4⟩ := oG hpw hlo3 hhi3 hok3
  have hext : ∀ (M : List Ob), (∀ q, q < G.length → M[q]? = G[q]?) → G.length ≤ M.length → ∀ c : Int, fM G M (.int .i64 c) = G := fun M h1 h2 c => by
   obtain ⟨S, rfl⟩ := qM h1 h2
   exact fQ
  have hgL := hext L hLG (by rw [hLl, hJG]; simp)
  have h7 : (ok3 = true ∧ ¬ k3 = i) ↔ (¬ bz keyE t.entries (aK (r :: p)) = none ∧ ¬ aK (r :: p) = aK dn) := by
   cases ok3 with
   | false => simp [s3 rfl]
   | true =>
    obtain ⟨y, hy, hye, hyf⟩ := s4 rfl
    have : k3 = i ↔ aK (r :: p) = aK dn := by
     constructor
     ·intro e
      subst e
      rw [hx] at hy
      cases hy
      rw [← hye, hxe]
     ·intro e
      obtain ⟨hi1, rfl⟩ := List.getElem?_eq_some_iff.1 hy
      obtain ⟨hk1, rfl⟩ := List.getElem?_eq_some_iff.1 hx
      rcases Nat.lt_trichotomy k3 i with hh | hh | hh
      ·have := List.pairwise_iff_getElem.1 hpw k3 i hi1 hk1 hh
       rw [hye, e, hxe] at this
       exact absurd this (List.lt_irrefl _)
      ·exact hh
      ·have := List.pairwise_iff_getElem.1 hpw i k3 hk1 hi1 hh
       rw [hye, e, hxe] at this
       exact absurd this (List.lt_irrefl _)
    rw [hyf, this]
    simp
  by_cases g7 : ok3 = true ∧ ¬ k3 = i
  ·have e7 := fi 7 (by rw [hmc, aj (h7.1 g7)]; rfl) (by decide)
   obtain ⟨g7a, g7b'⟩ := g7
   subst g7a
   have g7b : ¬ (k3 : Int) = (i : Int) := by omega
   rcases hc2 with ⟨q1, q2, q3⟩ | ⟨q1, q2, q3⟩ <;> (
    simp [-fQ, iM, Tryz.f117, c1, c2, q2, c3', hp.len, q1, hp6, htl, l1, hil, e1, lm, o1, o2, c4, p1, p2, st1, ← hK, d1, hwo, st2, m2, c5, g7b, hgL, he.one, aH, ax, aS, ay, aI, aP, St.new, ae, ag, List.lookup]
    exact e7)
  rw [au (fun hh => g7 (h7.2 hh))] at hmc
  simp only [Bool.false_eq_true, if_false] at hmc
  have h7c : (ok3 = true ∧ (k3 : Int) = (i : Int)) ∨ (ok3 = false ∧ True) := by
   cases ok3 with
   | false => exact .inr ⟨rfl, trivial⟩
   | true =>
    by_cases q' : k3 = i
    ·exact .inl ⟨rfl, by omega⟩
    ·exact absurd ⟨rfl, q'⟩ g7
  have hFwF : ∀ q ∈ Fw, q ∉ Fa := fun q h1 h2 => by have := (fw3 q h1).1; have := (fa4 q h2).2; omega
  have hFwG : ∀ q ∈ Fw, G.length ≤ q := fun q h1 => by have := (fw3 q h1).1; omega
  have hFaG : ∀ q ∈ Fa, G.length ≤ q := fun q h1 => (fa4 q h1).1
  have heFa : B.length ∉ Fa := fun h => by have := (fa4 _ h).2; omega
  have hLG' : G.length ≤ L.length := by omega
  have cN := kC (t := r.value) (H := L)
  have cH := O6 (t := r.attr) (n := norm r.value) hLe haL (by have := hxo.2.2.2; omega) (EntryOk.rise hxo)
  have hil2 : IntKind.i64.wrap ((i : Int) + 1) = (i : Int) + 1 := wrap_i64 (by omega) (by omega)
  by_cases g8 : mr x'.attrs r.attr (norm r.value)
  ·have hmv : cZ x' r p = ⟨⟨r :: p, x'.attrs⟩, 0⟩ := by unfold cZ; rw [aj g8]; rfl
   have hmok := (nN hxo gr gp g6 (by rw [hmv])).1
   rw [hmv] at hmc hmok
   simp only [not_true_eq_false, if_false] at hmc hmok
   rw [aj g8] at cH
   have cF := KO (e := ⟨r :: p, x'.attrs⟩) hLe hsL hwL haL gt.1 hmok
   by_cases g9 : dX t.schema ⟨r :: p, x'.attrs⟩
   ·rw [aj g9] at cF
    rw [aj g9, if_pos rfl] at hmc
    have hmo : (dN t dn r p).tree.entries = qE (jO t.entries (aK dn)) ⟨r :: p, x'.attrs⟩ := by unfold dN; rw [if_pos hmc, hf]; simp only [hmv]
    obtain ⟨z, G1, P, k4, ok4, v', G2, hP, t1, t2, t3, t4, t5, t6, t7, t8, t9, t10, t11, t12⟩ := BA (e' := ⟨r :: p, x'.attrs⟩) ht hA hn hide gt hx hxe (by omega) hLe fwL faL (List.nodup_append.2 ⟨fw2, fa3, fun a h1 b h2 e => hFwF a h1 (e ▸ h2)⟩) (fun q hq => (List.mem_append.1 hq).elim (hFwG q) (hFaG q)) hLG gw
    have fin : UA t dn r p G idt vs ve F (.int .i64 0) (G2.set idt (.mk true 2 [vs, v'])) := by
     unfold UA
     rw [hmc, hmo]
     exact ⟨rfl, fun h => absurd rfl h, fun _ => t12⟩
    have L1 := aY (o := 1) (v := ve) hLt rfl
    have S1 := store1 (o := 1) (v := z) t3 (by simp) t2.2 t2.1
    simp at S1
    rw [← hP] at S1
    have L2 := aY (o := 0) (v := w) t7 rfl
    have L3 := aY (o := 1) (v := z) t6 rfl
    have L4 := mM (o := 0) (n := 2) t7 (by simp) (by decide) rfl
    simp at L4
    have S2 := store1 (o := 1) (v := v') t10 (by simp) t9.2 t9.1
    simp at S2
    have L5 := aY (o := 0) (v := vs) hLt rfl
    have hLtl : idt < L.length := by omega
    rcases hc2 with ⟨q1, q2, q3⟩ | ⟨q1, q2, q3⟩ <;> rcases h7c with ⟨u1, u2⟩ | ⟨u1, u2⟩ <;> (
     simp [-fQ, iM, Tryz.f117, c1, c2, hp.len, q1, hp6, htl, l1, hil, e1, lm, o1, o2, c4, p1, p2, st1, ← hK, d1, hwo, st2, m2, c5, cN, cH, he.one, aH, ax, aS, ay, aI, aP, St.new, fU, ae, ag, List.lookup, cF, hLtl, L1, L5, hil2, t1, t2, t4, S1, L2, t5, L3, L4, t8, t9, S2, t11, q2, u1, u2, c3']
     exact fin)
   ·rw [au g9] at cF hmc
    simp only [Bool.false_eq_true, if_false] at hmc
    have e12 := fi 12 hmc (by decide)
    have L5 := aY (o := 0) (v := vs) hLt rfl
    have hLtl : idt < L.length := by omega
    rcases hc2 with ⟨q1, q2, q3⟩ | ⟨q1, q2, q3⟩ <;> rcases h7c with ⟨u1, u2⟩ | ⟨u1, u2⟩ <;> (
     simp [-fQ, iM, Tryz.f117, c1, c2, hp.len, q1, hp6, htl, l1, hil, e1, lm, o1, o2, c4, p1, p2, st1, ← hK, d1, hwo, st2, m2, c5, cN, cH, he.one, aH, ax, aS, ay, aI, aP, St.new, fU, ae, ag, List.lookup, cF, hLtl, L5, hgL, q2, u1, u2, c3']
     exact e12)
  have hmv : cZ x' r p = jI ⟨r :: p, x'.attrs⟩ r.attr r.value := by unfold cZ; rw [au g8]; rfl
  rw [au g8] at cH
  obtain ⟨code, M, d4, d5, d6, d7⟩ := UU hLe faL fa3 heFa (by have := hxo.2.2.2; omega) (EntryOk.rise hxo) ha hv (gr.1 0 r rfl).2 (fun a ha => by obtain ⟨j, hj, rfl⟩ := List.getElem_of_mem ha; exact (hxo.2.2.1 j _ (List.getElem?_eq_getElem hj)).2.2)
  have d5' : code = (cZ x' r p).code := by rw [hmv, d5]; exact (TE (e := ⟨r :: p, x'.attrs⟩)).symm
  by_cases ga : (cZ x' r p).code = 0
  rotate_left
  ·have ga' : code ≠ 0 := by rw [d5']; exact ga
   have eA := fi code (by rw [hmc, if_pos ga, d5']) ga'
   have := d6 ga'
   subst this
   rcases hc2 with ⟨q1, q2, q3⟩ | ⟨q1, q2, q3⟩ <;> rcases h7c with ⟨u1, u2⟩ | ⟨u1, u2⟩ <;> (
    simp [-fQ, iM, Tryz.f117, c1, c2, hp.len, q1, hp6, htl, l1, hil, e1, lm, o1, o2, c4, p1, p2, st1, ← hK, d1, hwo, st2, m2, c5, cN, cH, he.one, aH, ax, aS, ay, aI, aP, St.new, fU, ae, ag, List.lookup, d4, ga', hgL, q2, u1, u2, c3']
    exact eA)
  rw [if_neg (fun hh => hh ga)] at hmc
  obtain ⟨hmok, hmdn⟩ := nN hxo gr gp g6 ga
  rw [ga] at d5'
  subst d5'
  obtain ⟨va', Fm, b1, b2, b3, b4, b5, b6, b7, _⟩ := d7 rfl
  have hme : (cZ x' r p).entry.attrs = dJ x'.attrs r.attr (dH (valsOf x'.attrs r.attr ++ [r.value])) := by
   rw [hmv] at ga ⊢
   exact TQ ga
  rw [← hme] at b2
  have hFmG : ∀ q ∈ Fm, G.length ≤ q := fun q hq => (b5 q hq).elim (hFaG q) (fun h => by omega)
  have hML : ∀ q, q < L.length → q ∉ Fa → q ≠ B.length → M[q]? = L[q]? := b6
  have hMG : ∀ q, q < G.length → M[q]? = G[q]? := fun q hq => by rw [hML q (by omega) (fun h => by have := hFaG q h; omega) (by omega)]; exact hLG q hq
  have fwl : ∀ q ∈ Fw, q < L.length := AtF.mem _ fwL
  have fwM : AtF M (.slice shRdn) [w] (.lst ((r :: p).map PRdn.u)) Fw := fwL.frame _ fun q hq => hML q (fwl q hq) (hFwF q hq) (by have := (fw3 q hq).1; omega)
  have hFwFm : ∀ q ∈ Fw, q ∉ Fm := fun q h1 h2 => (b5 q h2).elim (hFwF q h1) (fun h => by have := fwl q h1; omega)
  have hupM : ∀ (q : Nat) o, G[q]? = some o → M[q]? = some o := fun q o h => by rw [hMG q (List.getElem?_eq_some_iff.1 h).1]; exact h
  have hMt : M[idt]? = some (.mk true 2 [vs, ve]) := hupM _ _ ht
  have hsM : aW M vs t.schema := hs.up hupM
  have hgM := hext M hMG (by omega)
  rw [← hmdn] at fwM gw
  have cF := KO (e := (cZ x' r p).entry) b1 hsM (AtF.at _ fwM) (AtF.at _ b2) gt.1 hmok
  by_cases g9 : dX t.schema (cZ x' r p).entry
  ·rw [aj g9] at cF
   rw [aj g9, if_pos rfl] at hmc
   have hmo : (dN t dn r p).tree.entries = qE (jO t.entries (aK dn)) (cZ x' r p).entry := by unfold dN; rw [if_pos hmc, hf]
   obtain ⟨z, G1, P, k4, ok4, v', G2, hP, t1, t2, t3, t4, t5, t6, t7, t8, t9, t10, t11, t12⟩ := BA (e' := (cZ x' r p).entry) ht hA hn hide gt hx hxe (by omega) b1 fwM b2 (List.nodup_append.2 ⟨fw2, b3, fun a h1 b h2 e => hFwFm a h1 (e ▸ h2)⟩) (fun q hq => (List.mem_append.1 hq).elim (hFwG q) (hFmG q)) hMG gw
   have fin : UA t dn r p G idt vs ve F (.int .i64 0) (G2.set idt (.mk true 2 [vs, v'])) := by
    unfold UA
    rw [hmc, hmo]
    exact ⟨rfl, fun h => absurd rfl h, fun _ => t12⟩
   have L1 := aY (o := 1) (v := ve) hMt rfl
   have S1 := store1 (o := 1) (v := z) t3 (by simp) t2.2 t2.1
   simp at S1
   rw [← hP] at S1
   have L2 := aY (o := 0) (v := w) t7 rfl
   have L3 := aY (o := 1) (v := z) t6 rfl
   have L4 := mM (o := 0) (n := 2) t7 (by simp) (by decide) rfl
   simp at L4
   have S2 := store1 (o := 1) (v := v') t10 (by simp) t9.2 t9.1
   simp at S2
   have L5 := aY (o := 0) (v := vs) hMt rfl
   have hLtl : idt < M.length := by omega
   rcases hc2 with ⟨q1, q2, q3⟩ | ⟨q1, q2, q3⟩ <;> rcases h7c with ⟨u1, u2⟩ | ⟨u1, u2⟩ <;> (
    simp [-fQ, iM, Tryz.f117, c1, c2, hp.len, q1, hp6, htl, l1, hil, e1, lm, o1, o2, c4, p1, p2, st1, ← hK, d1, hwo, st2, m2, c5, cN, cH, he.one, aH, ax, aS, ay, aI, aP, St.new, fU, ae, ag, List.lookup, d4, cF, hLtl, L1, L5, hil2, t1, t2, t4, S1, L2, t5, L3, L4, t8, t9, S2, t11, q2, u1, u2, c3']
    exact fin)
  ·rw [au g9] at cF hmc
   simp only [Bool.false_eq_true, if_false] at hmc
   have e12 := fi 12 hmc (by decide)
   have L5 := aY (o := 0) (v := vs) hMt rfl
   have hLtl : idt < M.length := by omega
   rcases hc2 with ⟨q1, q2, q3⟩ | ⟨q1, q2, q3⟩ <;> rcases h7c with ⟨u1, u2⟩ | ⟨u1, u2⟩ <;> (
    simp [-fQ, iM, Tryz.f117, c1, c2, hp.len, q1, hp6, htl, l1, hil, e1, lm, o1, o2, c4, p1, p2, st1, ← hK, d1, hwo, st2, m2, c5, cN, cH, he.one, aH, ax, aS, ay, aI, aP, St.new, fU, ae, ag, List.lookup, d4, cF, hLtl, L5, hgM, q2, u1, u2, c3']
    exact e12)
 rcases hcases with ⟨q1, q2, _⟩ | ⟨q1, q2, q3⟩ | ⟨q1, q2, q3⟩ | q1
 ·have e6 := fi 6 (by rw [hmc, aj ⟨q1, .inl (s1 q2)⟩]; rfl) (by decide)
  subst q2
  simp [-fQ, iM, Tryz.f117, c1, c2, hp.len, q1, iR, aH, ax, aS, ay, aI, aP, St.new, ae, ag, List.lookup]
  exact e6
 ·have e6 := fi 6 (by rw [hmc, aj ⟨q1, .inr q3⟩]; rfl) (by decide)
  subst q2
  rw [aj q3] at c3
  simp [-fQ, iM, Tryz.f117, c1, c2, c3, hp.len, q1, iR, aH, ax, aS, ay, aI, aP, St.new, ae, ag, List.lookup]
  exact e6
 ·exact ok (.inl ⟨q1, q2, q3⟩)
 ·exact ok (.inr ⟨q1, trivial, trivial⟩)
end Go.Proofs.Try1
end
section
namespace Go.Proofs.Try1
open Go Go.Lite
theorem Ky {H : List Ob} {idd g : Nat} {b : List V} {vd vp : V} {dn p : List PRdn} {rr : Bool} (hi : H[idd]? = some (.mk true 1 [vd, vp])) (hd : bH H vd dn) (hp : bH H vp p) (hr : callW C g b H = some (.bool rr, H)) :
  callW C 98 [.fn g [] b, .slc (some (idd, 0)) 2] H = some (.int .i64 (if 400 < dn.length ∨ 400 < p.length then 2 else if dec (DnOk dn) = true ∧ dec (DnOk p) = true ∧ rr = true then 0 else 1), H) := by
 apply Ret.eq
 rw [akz]
 have c1 := Ld hd
 have c2 := Ve hd
 have c3 := Ld hp
 have c4 := Ve hp
 have ld := aY (o := 0) (v := vd) hi rfl
 have lp := aY (o := 1) (v := vp) hi rfl
 simp [JV, Tryz.f98]
 refine aB (fun k σ => ∃ (i : Nat) (r : Nat → R), i + k = 2 ∧ (0 < i → ¬ 400 < dn.length) ∧ (1 < i → ¬ 400 < p.length) ∧ σ = ⟨r, 0, H⟩ ∧ r 0 = .val (.fn g [] b) ∧ r 1 = .val (.slc (some (idd, 0)) 2) ∧ r 9 = .val (.slc (some (idd, 0)) 2) ∧ r 10 = .val (.int .i64 2) ∧ r 11 = .val (.int .i64 i)) ?_ 2 _ ⟨0, _, by omega, by omega, by omega, rfl, by simp, by simp, by simp, by simp, by simp⟩
 rintro k σ ⟨i, r, hik, hlow, hlow2, rfl, r0, r1, r9, r10, r11⟩
 cases k with
 | succ k =>
  have h01 : i = 0 ∨ i = 1 := by omega
  rcases h01 with rfl | rfl
  ·by_cases g1 : 400 < dn.length
   ·simp [r0, r1, r9, r10, r11, ld, c1, g1]
   ·simp [r0, r1, r9, r10, r11, ld, c1, g1]
    exact ⟨1, by omega, 1, by omega, by omega, rfl⟩
  ·have g0 := hlow (by omega)
   by_cases g1 : 400 < p.length
   ·simp [r0, r1, r9, r10, r11, lp, c3, g1]
   ·simp [r0, r1, r9, r10, r11, lp, c3, g1]
    exact ⟨0, by omega, 2, by omega, by omega, rfl⟩
 | zero =>
  obtain rfl : i = 2 := by omega
  have g1 := hlow (by omega)
  have g2 := hlow2 (by omega)
  simp [r0, r1, r9, r10, r11, g1, g2]
  refine aB (fun k σ => ∃ (i : Nat) (r : Nat → R), i + k = 2 ∧ (0 < i → DnOk dn) ∧ (1 < i → DnOk p) ∧ σ = ⟨r, 0, H⟩ ∧ r 0 = .val (.fn g [] b) ∧ r 1 = .val (.slc (some (idd, 0)) 2) ∧ r 18 = .val (.slc (some (idd, 0)) 2) ∧ r 19 = .val (.int .i64 2) ∧ r 20 = .val (.int .i64 i)) ?_ 2 _ ⟨0, _, by omega, by omega, by omega, rfl, by simp [r0], by simp [r1], by simp, by simp, by simp⟩
  clear r0 r1 r9 r10 r11 r
  rintro k σ ⟨i, r, hik, hdn, hdp, rfl, r0, r1, r18, r19, r20⟩
  cases k with
  | succ k =>
   have h01 : i = 0 ∨ i = 1 := by omega
   rcases h01 with rfl | rfl
   ·by_cases g3 : DnOk dn
    ·rw [aj g3] at c2
     simp [r0, r1, r18, r19, r20, ld, c2, g1, g2]
     exact ⟨1, by omega, 1, by omega, fun _ => g3, by omega, rfl⟩
    ·rw [au g3] at c2
     simp [r0, r1, r18, r19, r20, ld, c2, g1, g2, au g3]
   ·have g0 := hdn (by omega)
    by_cases g3 : DnOk p
    ·rw [aj g3] at c4
     simp [r0, r1, r18, r19, r20, lp, c4, g1, g2]
     exact ⟨0, by omega, 2, by omega, fun _ => g0, fun _ => g3, rfl⟩
    ·rw [au g3] at c4
     simp [r0, r1, r18, r19, r20, lp, c4, g1, g2, au g3]
  | zero =>
   obtain rfl : i = 2 := by omega
   have g3 := hdn (by omega)
   have g4 := hdp (by omega)
   cases rr with
   | true => simp [r0, r1, r18, r19, r20, hr, aj g3, aj g4, g1, g2]
   | false => simp [r0, r1, r18, r19, r20, hr, aj g3, aj g4, g1, g2]
theorem DnOk.one {r : PRdn} : DnOk [r] ↔ (aX r.attr ∧ bf r.value) :=
 ⟨fun h => h.1 0 r rfl, fun h => ⟨fun j x hx => by
  cases j with
  | zero => cases hx; exact h
  | succ j => simp at hx, by simp⟩⟩
theorem moveOf_code {t : PTree} {dn : List PRdn} {r : PRdn} {p : List PRdn} : (dN t dn r p).code = bW t dn r p := by
 unfold dN
 split
 ·rename_i h; rw [h]
 ·rfl
theorem JD {t : PTree} {dn : List PRdn} {r : PRdn} {p : List PRdn} (h : (dN t dn r p).code ≠ 0) : dN t dn r p = yl (dN t dn r p).code := by
 rw [moveOf_code] at h ⊢
 unfold dN
 rw [if_neg h]
theorem Gx {G : List Ob} {idt idd idr idp : Nat} {vd vp : V} {a b : Str} (hd : G[idd]? = some (.mk true 1 [vd])) (hr : G[idr]? = some (.mk true 2 [.str a, .str b])) (hp : G[idp]? = some (.mk true 1 [vp])) (ho : aN vd = true ∧ cellsOf vd = some [vd]) (ho2 : aN vp = true ∧ cellsOf vp = some [vp]) {code : Int} {G' : List Ob}
  (hc : callW C 117 [.ptr (some (idt, 0)), vd, .agg [.str a, .str b], vp] G = some (.int .i64 code, G')) (hgc : fM G G' (.int .i64 code) = G') :
  callW C 116 [.ptr (some (idt, 0)), .ptr (some (idd, 0)), .ptr (some (idr, 0)), .ptr (some (idp, 0))] G = some (.int .i64 code, G') := by
 suffices hs : Ret C 116 [.ptr (some (idt, 0)), .ptr (some (idd, 0)), .ptr (some (idr, 0)), .ptr (some (idp, 0))] G fun r H' => r = .int .i64 code ∧ H' = G' by
  obtain ⟨r, H', h, rfl, rfl⟩ := hs
  exact h
 rw [aed]
 have l1 := aY (o := 0) (v := vd) hd rfl
 have l2 := mM (o := 0) (n := 2) hr (by simp) (by decide) rfl
 have l3 := aY (o := 0) (v := vp) hp rfl
 simp at l2
 simp [-fQ, EP, Tryz.f116, l1, l2, l3, ho, ho2, hc, hgc]
theorem Rz {H : List Ob} {idt idr : Nat} {vs ve : V} {t : PTree} {r : PRdn} (ht : H[idt]? = some (.mk true 2 [vs, ve])) (hr : H[idr]? = some (.mk true 2 [.str r.attr, .str r.value])) (hs : aW H vs t.schema) (h : bC H ve t.entries) :
  callW C 113 [.ptr (some (idt, 0)), .ptr (some (idr, 0))] H = some (.bool (dec (TreeOk t ∧ DnOk [r])), H) := by
 apply Ret.dec
 rw [Y4]
 have l1 := mM (o := 0) (n := 2) ht (by simp) (by decide) rfl
 have l2 := mM (o := 0) (n := 2) hr (by simp) (by decide) rfl
 simp at l1 l2
 have c1 := Ht hs h
 have c2 := KX (a := r.attr) (b := r.value) (H := H)
 have hos := hs.one
 have hoe := h.one
 by_cases g1 : TreeOk t
 ·rw [aj g1] at c1
  by_cases g2 : aX r.attr ∧ bf r.value
  ·rw [aj g2] at c2
   simp [wP, Tryz.f113, l1, l2, c1, c2, hos, hoe, aj (P := TreeOk t ∧ DnOk [r]) ⟨g1, DnOk.one.2 g2⟩]
   exact ⟨g1, DnOk.one.2 g2⟩
  ·rw [au g2] at c2
   simp [wP, Tryz.f113, l1, l2, c1, c2, hos, hoe]
   exact fun _ hh => g2 (DnOk.one.1 hh)
 ·rw [au g1] at c1
  simp [wP, Tryz.f113, l1, l2, c1, hos, hoe]
  exact fun hh => absurd hh g1
theorem KQ {H : List Ob} {vs ve vd vp : V} {t : PTree} {dn p : List PRdn} {r : PRdn} (hs : aW H vs t.schema) (h : bC H ve t.entries) (hd : bH H vd dn) (hp : bH H vp p) (ha : r.attr.length ≤ maxLen) (hv : r.value.length ≤ maxLen) :
  ∃ q H', callW C 48 [.agg [vs, ve], vd, .agg [.str r.attr, .str r.value], vp] H = some (q, H') ∧ TOut H (bY t dn r p) q H' := by
 suffices hs : Ret C 48 [.agg [vs, ve], vd, .agg [.str r.attr, .str r.value], vp] H fun q H' => TOut H (bY t dn r p) q H' by
  obtain ⟨q, H', hc, hr⟩ := hs
  exact ⟨q, H', hc, hr⟩
 rw [alC]
 have hos := hs.one
 have hoe := h.one
 have hod := hd.one
 have hop := hp.one
 have hil : ∀ (X : List Ob) c, fM H (H ++ X) (.agg [.slc none 0, .slc none 0, .slc none 0, .int .i64 c]) = H := fun X c => iZ (by simp [fD, gJ])
 obtain ⟨Y0, hY0⟩ : ∃ Y, Y = H ++ [.mk true 2 [vs, ve]] := ⟨_, rfl⟩
 obtain ⟨Y1, hY1⟩ : ∃ Y, Y = Y0 ++ [.mk true 1 [vd]] := ⟨_, rfl⟩
 obtain ⟨Y2, hY2⟩ : ∃ Y, Y = Y1 ++ [.mk true 2 [.str r.attr, .str r.value]] := ⟨_, rfl⟩
 obtain ⟨Y3, hY3⟩ : ∃ Y, Y = Y2 ++ [.mk true 1 [vp]] := ⟨_, rfl⟩
 obtain ⟨K, hK⟩ : ∃ K, K = Y3 ++ [.mk true 1 [vd, vp]] := ⟨_, rfl⟩
 have l0 : Y0.length = H.length + 1 := by rw [hY0]; simp
 have l1 : Y1.length = H.length + 2 := by rw [hY1]; simp [l0]
 have l2 : Y2.length = H.length + 3 := by rw [hY2]; simp [l1]
 have l3 : Y3.length = H.length + 4 := by rw [hY3]; simp [l2]
 have hYt : Y0[H.length]? = some (.mk true 2 [vs, ve]) := by rw [hY0]; exact get_last
 have hYd : Y1[Y0.length]? = some (.mk true 1 [vd]) := by rw [hY1]; exact get_last
 have hYr : Y2[Y1.length]? = some (.mk true 2 [.str r.attr, .str r.value]) := by rw [hY2]; exact get_last
 have hYp : Y3[Y2.length]? = some (.mk true 1 [vp]) := by rw [hY3]; exact get_last
 have hKz : K[Y3.length]? = some (.mk true 1 [vd, vp]) := by rw [hK]; exact get_last
 have u3 : ∀ {q : Nat} {o}, Y3[q]? = some o → K[q]? = some o := fun {q o} hq => by rw [hK]; exact aZ _ _ hq
 have u2 : ∀ {q : Nat} {o}, Y2[q]? = some o → Y3[q]? = some o := fun {q o} hq => by rw [hY3]; exact aZ _ _ hq
 have u1 : ∀ {q : Nat} {o}, Y1[q]? = some o → Y2[q]? = some o := fun {q o} hq => by rw [hY2]; exact aZ _ _ hq
 have u0 : ∀ {q : Nat} {o}, Y0[q]? = some o → Y1[q]? = some o := fun {q o} hq => by rw [hY1]; exact aZ _ _ hq
 have hKt := u3 (u2 (u1 (u0 hYt)))
 have hKd := u3 (u2 (u1 hYd))
 have hKr := u3 (u2 hYr)
 have hKp := u3 hYp
 obtain ⟨S, hS⟩ : ∃ S, K = H ++ S := ⟨_, by rw [hK, hY3, hY2, hY1, hY0, List.append_assoc, List.append_assoc, List.append_assoc, List.append_assoc]⟩
 have hsK : aW K vs t.schema := by rw [hS]; exact hs.ext
 have hK2 : bC K ve t.entries := by rw [hS]; exact h.ext
 have hdK : bH K vd dn := by rw [hS]; exact hd.ext
 have hpK : bH K vp p := by rw [hS]; exact hp.ext
 have ld3 := aY (o := 0) (v := vd) (u2 (u1 hYd)) rfl
 have lp3 := aY (o := 0) (v := vp) hYp rfl
 have ldN := mM (o := 0) (n := 2) hKt (by simp) (by decide) rfl
 simp at ldN
 have hgK : ∀ c, fM H K (.agg [.slc none 0, .slc none 0, .slc none 0, .int .i64 c]) = H := fun c => by rw [hS]; exact hil _ _
 have cR := Rz (r := r) hKt hKr hsK hK2
 have c1 := Ky (g := 113) (b := [.ptr (some (H.length, 0)), .ptr (some (Y1.length, 0))]) hKz hdK hpK cR
 by_cases g1 : 400 < dn.length ∨ 400 < p.length
 ·have e : bY t dn r p = yl 2 := if_pos g1
  rw [if_pos g1] at c1
  rw [e]
  simp [AA, Tryz.f48, hos, hoe, hod, hop, aP, aH, ax, St.new, aS, ay, aI, ← hY0, ← hY1, ← hY2, ← hY3, ← hK, ← l0, ← l1, ← l2, ← l3, ld3, lp3, c1, hgK]
  exact TOut.ill (by decide)
 rw [if_neg g1] at c1
 by_cases g2 : TreeOk t ∧ DnOk dn ∧ DnOk p ∧ DnOk [r]
 rotate_left
 ·have e : bY t dn r p = yl 1 := by unfold bY; rw [if_neg g1, au g2]; rfl
  have g2' : ¬ (dec (DnOk dn) = true ∧ dec (DnOk p) = true ∧ dec (TreeOk t ∧ DnOk [r]) = true) := fun h => g2 ⟨(eX.1 h.2.2).1, eX.1 h.1, eX.1 h.2.1, (eX.1 h.2.2).2⟩
  rw [if_neg g2'] at c1
  rw [e]
  simp [AA, Tryz.f48, hos, hoe, hod, hop, aP, aH, ax, St.new, aS, ay, aI, ← hY0, ← hY1, ← hY2, ← hY3, ← hK, ← l0, ← l1, ← l2, ← l3, ld3, lp3, c1, hgK]
  exact TOut.ill (by decide)
 obtain ⟨gt, gd, gp, gr⟩ := g2
 rw [if_pos ⟨aj gd, aj gp, aj ⟨gt, gr⟩⟩] at c1
 have e : bY t dn r p = dN t dn r p := by unfold bY; rw [if_neg g1, aj ⟨gt, gd, gp, gr⟩]; rfl
 rw [e]
 obtain ⟨q, H', c6, hq⟩ := Bf (H := K) (g := 116) (b := [.ptr (some (Y0.length, 0)), .ptr (some (Y1.length, 0)), .ptr (some (Y2.length, 0))]) (o := dN t dn r p) hsK hK2 (TreeOk.small gt) JD (by rw [moveOf_code]; exact xY) (fun M d a ⟨R, hR⟩ hnew => by
  obtain ⟨F1, F2, f1, f2, n1, n2, hdj, b1, b2⟩ := zO hnew
  obtain ⟨G, hG⟩ : ∃ G, G = M ++ [.mk true 2 [d, a]] := ⟨_, rfl⟩
  have hMl : K.length ≤ M.length := by rw [hR]; simp
  have hGl : G.length = M.length + 1 := by rw [hG]; simp
  have hGt : G[M.length]? = some (.mk true 2 [d, a]) := by rw [hG]; exact get_last
  have g2 : AtF G (.slice shEntry) [a] (.lst (t.entries.map PEntry.u)) F2 := by rw [hG]; exact f2.ext
  have g1 : AtF G (.slice bG) [d] (.lst (t.schema.map PClass.u)) F1 := by rw [hG]; exact f1.ext
  have m2 := AtF.mem _ f2
  have m1 := AtF.mem _ f1
  have hGK : G = K ++ (R ++ [.mk true 2 [d, a]]) := by rw [hG, hR, List.append_assoc]
  have uG : ∀ {q : Nat} {o}, K[q]? = some o → G[q]? = some o := fun {q o} hq => by rw [hGK]; exact aZ _ _ hq
  obtain ⟨G', k1, k2, k3⟩ := Vp hGt (AtF.at _ g1) g2 n2 (fun hm => by have := m2 _ hm; omega) (by rw [hGK]; exact hdK.ext) (by rw [hGK]; exact hpK.ext) ha hv gt gd gp gr
  rw [← hG]
  by_cases g0 : bW t dn r p = 0
  ·obtain ⟨w', F', p1, p2, p3, p4, p5, p6, p7⟩ := k3 g0
   have hno : ¬ Ext G G' := GI hGt (by
    rw [p1]
    intro eq
    cases eq
    exact p2 rfl)
   refine ⟨bW t dn r p, G', Gx (uG hKd) (uG hKr) (uG hKp) hod hop k1 (xC hno), moveOf_code.symm, fun q hq => ?_, p7, fun _ => ?_⟩
   ·exact p6 q (by omega) (fun hm => by have := b2 q hm; omega) (by omega)
   ·have ed : dN t dn r p = ⟨⟨t.schema, (dN t dn r p).tree.entries⟩, [], 0⟩ := by unfold dN; rw [if_pos g0]
    refine ⟨by rw [ed], d, w', p1, ?_⟩
    rw [ed]
    refine Bv (t := ⟨t.schema, (dN t dn r p).tree.entries⟩) (F1 := F1) (F2 := F') (AtF.frame _ (fun q hq => p6 q (by have := m1 q hq; omega) (hdj q hq) (by have := m1 q hq; omega)) g1) p3 n1 p4 (fun q h1 h2 => ?_) (fun q hq => b1 q hq) (fun q hq => ?_)
    ·have := m1 q h1
     rcases p5 q h2 with hh | hh
     ·exact hdj q h1 hh
     ·omega
    ·rcases p5 q hq with hh | hh
     ·exact b2 q hh
     ·omega
  ·have := k2 g0
   subst this
   refine ⟨bW t dn r p, _, Gx (uG hKd) (uG hKr) (uG hKp) hod hop k1 iR, moveOf_code.symm, fun _ _ => rfl, Nat.le_refl _, fun hh => absurd hh g0⟩)
 obtain ⟨w1, w2, w3, rfl, o1, o2, o3⟩ := hq.ones
 have hfin := TOut.base (by rw [← hS]; exact hq : TOut (H ++ S) _ _ _)
 simp [AA, Tryz.f48, hos, hoe, hod, hop, o1, o2, o3, aP, aH, ax, St.new, aS, ay, aI, ← hY0, ← hY1, ← hY2, ← hY3, ← hK, ← l0, ← l1, ← l2, ← l3, ld3, lp3, ldN, c1, c6]
 exact hfin
theorem PQ (x : PRdn) : dF x.u ≤ 2 := by simp [PRdn.u, dF, aU]
theorem Ox {a : PAttr} (h : a.vals.length ≤ 4) : dF a.u ≤ 5 := by
 have := jJ (f := kN) (l := a.vals) (k := 1) fun x _ => by simp [kN, dF]
 simp only [PAttr.u, dF, aU]
 omega
theorem Jo {e : PEntry} (h : EntryOk e) : dF e.u ≤ 52 := by
 obtain ⟨_, hd, ha⟩ := h
 have h1 := jJ (l := e.dn) fun x _ => PQ x
 have h2 : aU (e.attrs.map PAttr.u) ≤ e.attrs.length * 5 := jJ fun a h => by
  obtain ⟨j, hj, rfl⟩ := List.getElem_of_mem h
  exact Ox (ha.1 j _ (List.getElem?_eq_getElem hj)).2.2.2.2
 have := hd.2
 have := ha.2
 simp only [PEntry.u, dF, aU]
 omega
theorem Jn {c : PClass} (h : ClassOk c) : dF c.u ≤ 31 := by
 have h1 := jJ (f := kN) (l := c.must) (k := 1) fun x _ => by simp [kN, dF]
 have h2 := jJ (f := kN) (l := c.may) (k := 1) fun x _ => by simp [kN, dF]
 have h3 := jJ (f := kN) (l := c.single) (k := 1) fun x _ => by simp [kN, dF]
 have := h.l1
 have := h.l2
 have := h.l3
 simp only [PClass.u, dF, aU]
 omega
theorem zX (c : Int) : dI (yl c).u ≤ 1000000 := by simp [yl, PTreeOut.u, PTree.u, dI, qJ, aU]
theorem IV {s : List PClass} {es : List PEntry} (hs : eU s) (he : ∀ e ∈ es, EntryOk e) (hl : es.length ≤ 100) : dI (PTreeOut.u ⟨⟨s, es⟩, [], 0⟩) ≤ 1000000 := by
 have h1 : aU (s.map PClass.u) ≤ s.length * 31 := jJ fun c hc => by
  obtain ⟨j, hj, rfl⟩ := List.getElem_of_mem hc
  exact Jn (hs.1 j _ (List.getElem?_eq_getElem hj)).1
 have h2 : aU (es.map PEntry.u) ≤ es.length * 52 := jJ fun e h => Jo (he e h)
 have := hs.2
 simp only [PTreeOut.u, PTree.u, dI, qJ, List.map_nil, aU]
 omega
theorem DV {t : PTree} {dn p : List PRdn} {r : PRdn} : dI (bY t dn r p).u ≤ 1000000 := by
 unfold bY
 split
 ·exact zX 2
 split
 case isFalse => exact zX 1
 rename_i hok
 obtain ⟨gt, gd, gp, gr⟩ := eX.1 hok
 unfold dN
 split
 case isFalse => exact zX _
 rename_i h0
 cases hf : bz keyE t.entries (aK dn) with
 | none => unfold bW at h0; rw [hf] at h0; cases h0
 | some x =>
  have hx : x ∈ t.entries := List.mem_of_find?_eq_some hf
  unfold bW at h0
  rw [hf] at h0
  simp only at h0
  split at h0
  ·cases h0
  split at h0
  ·cases h0
  split at h0
  ·cases h0
  rename_i h6
  split at h0
  ·cases h0
  split at h0
  ·rename_i hh; exact absurd h0 hh
  rename_i hc
  have hc := Classical.not_not.1 hc
  have hm := (nN (TreeOk.dns gt x hx) gr gp h6 hc).1
  refine IV gt.1 (fun y hy => ?_) ?_
  ·unfold qE at hy
   have hd : ∀ z ∈ jO t.entries (aK dn), EntryOk z := fun z hz => TreeOk.dns gt z (List.mem_filter.1 hz).1
   rcases List.mem_append.1 hy with hy | hy
   ·exact hd y (List.mem_filter.1 hy).1
   ·rcases List.mem_cons.1 hy with rfl | hy
    ·exact hm
    ·exact hd y (List.mem_filter.1 hy).1
  ·have h1 := List.length_filter_le (fun y : PEntry => dec (cO (keyE y) (keyE (cZ x r p).entry))) (jO t.entries (aK dn))
   have h2 := List.length_filter_le (fun y : PEntry => !dec (cO (keyE y) (keyE (cZ x r p).entry))) (jO t.entries (aK dn))
   have h3 : (jO t.entries (aK dn)).length ≤ t.entries.length := List.length_filter_le _ _
   have := gt.2.1.1
   unfold qE
   simp only [List.length_append, List.length_cons]
   omega
theorem lawTreeMove {H : List Ob} {vs : List V} {xs : List D} (h : IsArgs H [cu, .slice shRdn, shRdn, .slice shRdn] vs xs) : ∃ H', callW C 7 vs H = some (.bool true, H') := by
 rcases vs with _ | ⟨v1, _ | ⟨v2, _ | ⟨v3, _ | ⟨v4, _ | ⟨v5, vs⟩⟩⟩⟩⟩ <;> rcases xs with _ | ⟨d1, _ | ⟨d2, _ | ⟨d3, _ | ⟨d4, _ | ⟨d5, xs⟩⟩⟩⟩⟩ <;> first | (exfalso; simp [IsArgs] at h; done) | skip
 obtain ⟨⟨cs1, e1, l1, i1⟩, ⟨cs2, e2, l2, i2⟩, ⟨cs3, e3, l3, i3⟩, ⟨cs4, e4, l4, i4⟩, _⟩ := h
 subst e1; subst e2; subst e3; subst e4
 have h1 := Is.at _ i1
 obtain ⟨t, he⟩ := tK h1
 rw [he] at h1
 have h2 := Is.at _ i2
 obtain ⟨v, l, rfl, hl, _⟩ := ASl.typed (f := PRdn.u) (fun _ _ => rZ) h2
 rw [hl] at h2
 have h3 := Is.at _ i3
 obtain ⟨r, hr⟩ := rZ h3
 rw [hr] at h3
 have h4 := Is.at _ i4
 obtain ⟨v', p, rfl, hp, _⟩ := ASl.typed (f := PRdn.u) (fun _ _ => rZ) h4
 rw [hp] at h4
 have key := sK (uR := (bY t l r p).u) h1 h2 h3 h4
  (fun G x0 x1 x2 x3 a0 a1 a2 a3 => by
   obtain ⟨w1, w2, rfl, b1, b2⟩ := mZ.1 a0
   obtain ⟨y, rfl⟩ := lX (At.len _ a1 : _ = 1)
   obtain ⟨rfl, r1, r2⟩ := yX.1 a2
   obtain ⟨y', rfl⟩ := lX (At.len _ a3 : _ = 1)
   obtain ⟨q, G', hc, T, y1, y2, y3, rfl, rfl, hn⟩ := JR (dn := l) (p := p) b1 b2 a1 a3 r1 r2
   exact ⟨_, [y1, y2, y3, .int .i64 (bY t l r p).code], hc, .app, hn.at⟩)
  (fun G x0 x1 x2 x3 a0 a1 a2 a3 => by
   obtain ⟨w1, w2, rfl, b1, b2⟩ := mZ.1 a0
   obtain ⟨y, rfl⟩ := lX (At.len _ a1 : _ = 1)
   obtain ⟨rfl, r1, r2⟩ := yX.1 a2
   obtain ⟨y', rfl⟩ := lX (At.len _ a3 : _ = 1)
   obtain ⟨q, G', hc, T, y1, y2, y3, rfl, rfl, hn⟩ := KQ (dn := l) (p := p) b1 b2 a1 a3 r1 r2
   exact ⟨_, [y1, y2, y3, .int .i64 (bY t l r p).code], hc, .app, hn⟩)
  (by have := DV (t := t) (dn := l) (r := r) (p := p); omega)
 obtain ⟨r, H', hc, rfl⟩ := key
 exact ⟨H', hc⟩
end Go.Proofs.Try1
end
