/- Part 11 of the proof of a law: the interpreter, its soundness, and what functions of the program compute over it. Conditions: none but those that each theorem names. -/
import Derived.Test.YtdkbgdjfmbppfaaGreatDoorB07
import Derived.Test.YtdkbgdjfmbppfaaGreatDoorB10
import Derived.Test.YtdkbgdjfmbppfaaGreatDoorB08
import Derived.Test.YtdkbgdjfmbppfaaGreatDoorB09
import Derived.Sort.AssemblyPlain
import Derived.Test.YtdkbgdjfmbppfaaGreatDoorB06

set_option linter.all false
set_option maxRecDepth 20000
set_option maxHeartbeats 40000000
section
namespace Go.Lite
open Go
structure PNode where
 op : Int
 attr : Str
 value : Str
 many : Int
def PNode.u (n : PNode) : U := .st [.int n.op, .str n.attr, .str n.value, .int n.many]
abbrev PNode.cs (n : PNode) : List V := [.int .i64 n.op, .str n.attr, .str n.value, .int .i64 n.many]
section
variable {H : List Ob} {v : V}
theorem ASl.drop {α : Type} {sh : Sh} {f : α → U} {l : List α} (h : ASl H sh f v l) {k : Nat} (hk : k ≤ l.length) (h0 : 0 < l.length) :
  ∃ id off own cells, v = .slc (some (id, off)) l.length ∧ H[id]? = some (.mk own sh.size cells) ∧ ASl H sh f (.slc (some (id, off + k * sh.size)) (l.length - k)) (l.drop k) := by
 have hb := h.bound
 rcases h.sl with ⟨rfl, h1⟩ | ⟨id, off, own, cells, rfl, h2, h3, h4⟩
 ·have : l = [] := by simpa using h1
  subst this
  simp at h0
 ·rw [List.length_map] at h3 ⊢
  refine ⟨id, off, own, cells, rfl, h2, ?_⟩
  refine aG.2 ⟨_, _, rfl, rfl, by simp; omega, .inr ⟨id, off + k * sh.size, own, cells, by simp, h2, ?_, fun i x hx => ?_⟩⟩
  ·rw [List.length_map, List.length_drop, Nat.add_assoc, ← Nat.add_mul]
   rw [show k + (l.length - k) = l.length by omega]
   exact h3
  ·have := h4 (k + i) x (by rw [List.getElem?_map] at hx ⊢; rw [List.getElem?_drop] at hx; exact hx)
   rw [Nat.add_assoc, ← Nat.add_mul]
   exact this
end
end Go.Lite
end
section
namespace Go.Proofs.Try1
open Go Go.Lite
attribute [-simp] dH gG
attribute [local simp] dO fV dM dK dL df
attribute [local simp low] dJ





def OA (n : Int) : Int := if n = 0 then 1 else if n = 1 then 0 else 2

def Tri (x : Int) : Prop := x = 0 ∨ x = 1 ∨ x = 2
theorem Tri.not {x : Int} (h : Tri x) : Tri (OA x) := by
 rcases h with rfl | rfl | rfl <;> simp [Tri, OA]

def ints (xs : List Int) : List V := xs.map fun x => .int .i64 x
theorem AU {xs : List Int} : (ints xs).length = xs.length := by simp [ints]
def Is (H G : List Ob) (v : V) (b : List Int) : Prop := ∃ T id, G = H ++ T ∧ H.length ≤ id ∧ G[id]? = some (.mk true 1 (ints b)) ∧ v = .slc (some (id, 0)) b.length
theorem Is.init {H : List Ob} : Is H (H ++ [.mk true 1 []]) (.slc (some (H.length, 0)) 0) [] := ⟨_, H.length, rfl, Nat.le_refl _, by simp [ints], rfl⟩
theorem Is.push {H G : List Ob} {v : V} {b : List Int} (h : Is H G v b) (hb : b.length ≤ 1000) {c : Int} {z : List V} {d : LD} (hz : z.length = 1) : ∃ v' G', aU ⟨d, 1, 8, z⟩ (G ++ [.mk true 1 [.int .i64 c]]) v (.slc (some (G.length, 0)) 1) = some (v', G') ∧ Is H G' v' (b ++ [c]) := by
 obtain ⟨T, id, rfl, h1, h2, rfl⟩ := h
 have hid : id < (H ++ T).length := (List.getElem?_eq_some_iff.1 h2).1
 have hid' : id < H.length + T.length := by simpa using hid
 have hg : (H ++ T ++ [Ob.mk true 1 [.int .i64 c]])[id]? = some (.mk true 1 (ints b)) := by rw [List.getElem?_append_left hid]; exact h2
 have hnew : aQ ⟨d, 1, 8, z⟩ (H ++ T ++ [Ob.mk true 1 [.int .i64 c]]) (.slc (some ((H ++ T).length, 0)) 1) = some ([.int .i64 c], 1) := by
  simp only [aQ, Nat.mul_one, aO, get_last]
  rfl
 refine ⟨.slc (some ((H ++ T ++ [Ob.mk true 1 [.int .i64 c]]).length, 0)) (b.length + 1), (H ++ T ++ [Ob.mk true 1 [.int .i64 c]]).set id .dead ++ [.mk true 1 (ints b ++ [.int .i64 c])], ?_, ?_⟩
 ·unfold aU
  rw [if_pos (by simp [gV, hz]), hnew]
  simp only [Nat.one_ne_zero, if_false, List.all_cons, List.all_nil, ru, Bool.and_true, if_true, hg]
  have e1 : ¬ (0 + (b.length + 1) * 1 ≤ (ints b).length) := by rw [AU]; omega
  have e2 : (0 + b.length * 1 = (ints b).length ∨ b.length = 0 ∧ (ints b).length ≤ 0) ∧ (b.length + 1) * 8 ≤ ax := ⟨.inl (by rw [AU]; simp), by unfold ax; omega⟩
  rw [if_neg e1, if_pos e2, List.drop_zero]
 ·refine ⟨T.set (id - H.length) .dead ++ [.mk true 1 [.int .i64 c]] ++ [.mk true 1 (ints b ++ [.int .i64 c])], (H ++ T ++ [Ob.mk true 1 [.int .i64 c]]).length, ?_, by simp only [List.length_append]; omega, ?_, by simp⟩
  ·rw [List.append_assoc H T, List.set_append_right _ _ h1, List.set_append_left _ _ (by omega)]
   simp
  ·have hl : ((H ++ T ++ [Ob.mk true 1 [V.int .i64 c]]).set id .dead).length = (H ++ T ++ [Ob.mk true 1 [V.int .i64 c]]).length := List.length_set
   rw [← hl, get_last]
   simp [ints]

end Go.Proofs.Try1
end
section
namespace Go.Proofs.Try1
open Go Go.Lite



end Go.Proofs.Try1
end
section
namespace Go.Lite
open Go
def Le (G G' : List Ob) : Prop := ∃ S, G' = G ++ S
def Up (G G' : List Ob) : Prop := ∀ (q : Nat) o, G[q]? = some o → G'[q]? = some o
section
variable {A B D G G' : List Ob} {sh : Sh} {cs : List V} {u : U} {F : List Nat} {b e : Nat}
theorem Le.refl : Le A A := ⟨[], by simp⟩
theorem Le.app {T : List Ob} : Le A (A ++ T) := ⟨T, rfl⟩
theorem Le.trans (h : Le A B) (k : Le B D) : Le A D := by
 obtain ⟨S, rfl⟩ := h
 obtain ⟨T, rfl⟩ := k
 exact ⟨S ++ T, by rw [List.append_assoc]⟩
theorem Le.len (h : Le A B) : A.length ≤ B.length := by obtain ⟨S, rfl⟩ := h; simp
theorem Le.up (h : Le A B) : Up A B := by obtain ⟨S, rfl⟩ := h; exact bg
theorem Up.refl : Up A A := fun _ _ h => h
theorem Up.trans (h : Up A B) (k : Up B D) : Up A D := fun q o hq => k q o (h q o hq)
theorem At.Up (h : At A sh cs u) (k : Up A B) : At B sh cs u := At.up k sh h
theorem At.Le (h : At A sh cs u) (k : Le A B) : At B sh cs u := At.up k.up sh h
theorem New.Le (h : New b e A sh cs u) (k : Le A B) : New b e B sh cs u := by obtain ⟨S, rfl⟩ := k; exact h.ext
theorem Up.frame (h : ∀ q, q < A.length → B[q]? = A[q]?) : Up A B := fun q o hq => by
 rw [h q (List.getElem?_eq_some_iff.1 hq).1]; exact hq
theorem nD {v : V} (h : aI v = true) : cellsOf v = some [v] := by cases v <;> first | rfl | simp [aI] at h
end
theorem Sl.each {H : List Ob} {n : Nat} {R : List V → U → Prop} {v : V} {l : List U} (h : Sl H n R v l) : ∀ u ∈ l, ∃ cs, R cs u := by
 intro u hu
 rcases h with ⟨_, rfl⟩ | ⟨id, off, own, cells, _, _, _, h4⟩
 ·cases hu
 ·obtain ⟨i, hi, rfl⟩ := List.getElem_of_mem hu
  exact ⟨_, h4 i _ (List.getElem?_eq_getElem hi)⟩
end Go.Lite
end
section
namespace Go.Proofs.Try1
open Go Go.Lite
theorem TreeOk.small {t : PTree} (h : TreeOk t) : MO t := by
 refine ⟨⟨by have := h.1.2; omega, fun c hc => ?_⟩, by have := h.2.1.1; omega, fun e he => EntryOk.small (TreeOk.dns h e he)⟩
 obtain ⟨j, hj, rfl⟩ := List.getElem_of_mem hc
 have hc := (h.1.1 j _ (List.getElem?_eq_getElem hj)).1
 exact ⟨by have := hc.l1; omega, by have := hc.l2; omega, by have := hc.l3; omega⟩
theorem TreeOk.rise {t : PTree} (h : TreeOk t) : t.entries.Pairwise fun a b => keyE a < keyE b := lW (key := keyE) (fun j x hx => (h.2.1.2 j x hx).2.2)
theorem TOut.new {H : List Ob} {T : List Ob} {t : PTree} {w1 w2 : V} (hn : New H.length (H ++ T).length (H ++ T) CU [w1, w2] t.u) : ∃ T' q, q = .agg [w1, w2, .slc none 0, .int .i64 0] ∧ eY H (H ++ T) q = H ++ T' ∧ TOut H ⟨t, [], 0⟩ q (H ++ T') := by
 have h2 : New H.length (H ++ T).length (H ++ T) rq [w1, w2, .slc none 0, .int .i64 0] (PTreeOut.u ⟨t, [], 0⟩) := New.st (News.cons (c1 := [w1, w2]) (m := (H ++ T).length) hn (News.nilS (News.int (by decide) News.nil)) (by simp) (Nat.le_refl _))
 obtain ⟨T', h3, h4⟩ := h2.gcA
 exact ⟨T', _, rfl, h3, T', w1, w2, .slc none 0, rfl, rfl, h4⟩
theorem TOut.ones {H : List Ob} {o : PTreeOut} {q : V} {H' : List Ob} (h : TOut H o q H') : ∃ w1 w2 w3, q = .agg [w1, w2, w3, .int .i64 o.code] ∧ (aI w1 = true ∧ cellsOf w1 = some [w1]) ∧ (aI w2 = true ∧ cellsOf w2 = some [w2]) ∧ (aI w3 = true ∧ cellsOf w3 = some [w3]) := by
 obtain ⟨T, w1, w2, w3, rfl, rfl, h3⟩ := h
 have := At.ones _ h3.at
 simp only [List.all_cons, List.all_nil, Bool.and_true, Bool.and_eq_true] at this
 exact ⟨w1, w2, w3, rfl, ⟨this.1, nD this.1⟩, ⟨this.2.1, nD this.2.1⟩, ⟨this.2.2.1, nD this.2.2.1⟩⟩
theorem TOut.gc {H : List Ob} {o : PTreeOut} {q : V} {H' : List Ob} (h : TOut H o q H') : TOut H o q (eY H H' q) := by
 obtain ⟨T, w1, w2, w3, rfl, rfl, h3⟩ := h
 obtain ⟨T', h4, h5⟩ := h3.gcA
 exact ⟨T', w1, w2, w3, rfl, h4, h5⟩

theorem uH {G G' : List Ob} {r : V} (h : G'.length = G.length) : eY G G' r = G' := by
 unfold eY
 split
 ·rename_i hc
  obtain ⟨⟨T, rfl⟩, _⟩ := hc
  have : T = [] := List.length_eq_zero_iff.1 (by simp at h; simpa using h)
  rw [this, List.append_nil]
 ·rfl
theorem MF {G : List Ob} {v : V} {l : List PAttr} {F : List Nat} (h : AtF G (.slice shAttr) [v] (.lst (l.map PAttr.u)) F) (hn : F.Nodup) {i : Nat} (hi : i < l.length) (hl : l.length ≤ 1000000) :
  ∃ w G' F', callW C 263 [v, .int .i64 i, .int .i64 ((i : Int) + 1)] G = some (w, G') ∧ AtF G' (.slice shAttr) [w] (.lst ((l.take i ++ l.drop (i + 1)).map PAttr.u)) F' ∧ F'.Nodup ∧ (∀ q ∈ F', q ∈ F) ∧ (∀ q, q ∉ F → G'[q]? = G[q]?) ∧ G'.length = G.length ∧ aI w = true ∧ cellsOf w = some [w] := by
 obtain ⟨id, off, cells, xs, F', rfl, h2, h3, hxs, hxl, hxo, hidF, hF', hn', hsub⟩ := La h hn hi [.str [], .slc none 0] rfl
 have hsz : shAttr.size = 2 := rfl
 rw [hsz] at h2 h3 hxs hxl hF'
 have hid : id < G.length := (List.getElem?_eq_some_iff.1 h2).1
 obtain ⟨N1, hN1⟩ : ∃ N1, N1 = setRange cells (off + i * 2) xs := ⟨_, rfl⟩
 have hN1l : N1.length = cells.length := by rw [hN1, gq (by omega)]
 obtain ⟨N2, hN2⟩ : ∃ N2, N2 = setRange N1 (off + (l.length - 1) * 2) [.str [], .slc none 0] := ⟨_, rfl⟩
 rw [← hN1, ← hN2] at hF'
 suffices hs : Ret C 263 [.slc (some (id, off)) l.length, .int .i64 i, .int .i64 ((i : Int) + 1)] G fun q H' => q = .slc (some (id, off)) (l.length - 1) ∧ H' = G.set id (.mk true 2 N2) by
  obtain ⟨q, H', hc, rfl, rfl⟩ := hs
  exact ⟨_, _, F', hc, hF', hn', hsub, fun q hq => List.getElem?_set_ne fun e => hq (by rw [← e]; exact hidF), by simp, rfl, rfl⟩
 rw [OO]
 have hst : bQ G id 2 = true := by unfold bQ; rw [h2]; rfl
 have hi1 : ¬ ((i : Int) = (i : Int) + 1) := by omega
 have hil : (i : Int) ≤ l.length := by omega
 have hil1 : (i : Int) + 1 ≤ l.length := by omega
 have hG1 : (G.set id (.mk true 2 N1))[id]? = some (.mk true 2 N1) := List.getElem?_set_self hid
 have hst1 : bQ (G.set id (.mk true 2 N1)) id 2 = true := by unfold bQ; rw [hG1]; rfl
 have hre1 : reaches (G.set id (.mk true 2 N1)) id off 2 l.length = true := by unfold reaches; rw [hG1]; simp; omega
 have hap : aU ⟨.struct [(0, 9), (1, 27)], 2, 40, [.str [], .slc none 0]⟩ G (.slc (some (id, off)) i) (.slc (some (id, off + (i + 1) * 2)) (l.length - (i + 1))) = some (.slc (some (id, off)) (l.length - 1), G.set id (.mk true 2 N1)) := by
  have hnew : aQ ⟨.struct [(0, 9), (1, 27)], 2, 40, [.str [], .slc none 0]⟩ G (.slc (some (id, off + (i + 1) * 2)) (l.length - (i + 1))) = some (xs, l.length - (i + 1)) := by
   simp only [aQ, aO, h2]
   by_cases h0 : (l.length - (i + 1)) * 2 = 0
   ·rw [if_pos h0]
    have : xs = [] := List.length_eq_zero_iff.1 (by omega)
    rw [this]
   ·rw [if_neg h0]
    unfold cO
    rw [if_pos (by omega), ← hxs]
  unfold aU
  rw [if_pos (by simp [gV]), hnew]
  by_cases h0 : l.length - (i + 1) = 0
  ·have hx0 : xs = [] := List.length_eq_zero_iff.1 (by omega)
   have hn1 : N1 = cells := by rw [hN1, hx0, yX]
   have e1 : l.length - 1 = i := by omega
   simp only [h0, if_true]
   rw [e1, hn1]
   congr 2
   obtain ⟨_, h2'⟩ := List.getElem?_eq_some_iff.1 h2
   rw [← h2', List.set_getElem_self]
  ·simp only [h0, if_false, hxo, if_true, h2]
   rw [if_pos (by omega), ← hN1]
   congr 3
   omega
 have e3 : i + (l.length - (i + 1)) = l.length - 1 := by omega
 have hwr : ∀ r c, dD ⟨r, c, G.set id (.mk true 2 N1)⟩ (.hp id (off + (l.length - 1) * 2)) [.str [], .slc none 0] = some ⟨r, c, G.set id (.mk true 2 N2)⟩ := fun r c => by
  simp only [dD, hG1, List.length_cons, List.length_nil]
  rw [if_pos (by omega), List.set_set, hN2]
 have e4 : l.length - (l.length - 1) = 1 := by omega
 have e5 : ((l.length - 1 : Nat) : Int) ≤ l.length := by omega
 have h01 : (0 : Int) ≤ (i : Int) + 1 := by omega
 have hiN : i + 1 ≤ l.length := by omega
 have hiN' : i ≤ l.length := by omega
 have hgc : ∀ r, eY G (G.set id (.mk true 2 N2)) r = G.set id (.mk true 2 N2) := fun r => uH (by simp)
 simp [EP, Tryz.f263, ae, hi1, hil, hil1, hst, hap, hst1, hre1, hwr, e4, aB, ak, hgc, h01, hiN, hiN']
theorem Ik {H : List Ob} {v w : V} {a b : List PRdn} (h : aX H v a) (hb : aX H w b) (h1 : DnOk a) (h2 : DnOk b) (hl : a.length = b.length) :
  callW C 188 [v, w] H = some (.bool (dec (jk a = jk b)), H) := by
 apply Ret.dec
 rw [LX]
 have c1 := LQ h h1
 have c2 := LQ hb h2
 by_cases g : jk a = jk b
 ·simp [tJ, Tryz.f188, h.len, hb.len, hl, c1, c2, g]
 ·simp [tJ, Tryz.f188, h.len, hb.len, hl, c1, c2, g]
end Go.Proofs.Try1
end
section
namespace Go.Proofs.Try1
open Go Go.Lite
attribute [-simp] dH gG
attribute [local simp] dO fV dM dK dL df
attribute [local simp low] dJ
theorem FW {H : List Ob} {v w : V} {a b : List PRdn} (h : aX H v a) (hb : aX H w b) (h1 : DnOk a) (h2 : DnOk b) :
  callW C 188 [v, w] H = some (.bool (dec (a.length = b.length ∧ jk a = jk b)), H) := by
 by_cases hl : a.length = b.length
 ·rw [Ik h hb h1 h2 hl]
  by_cases g : jk a = jk b
  ·rw [au g, au ⟨hl, g⟩]
  ·rw [ai g, ai (fun h => g h.2)]
 ·apply Ret.dec
  rw [LX]
  have hl' : ¬ (a.length : Int) = b.length := by omega
  simp [tJ, Tryz.f188, h.len, hb.len, hl, hl', ae, ag, List.lookup]
end Go.Proofs.Try1
end
section
namespace Go.Proofs.Try1
open Go Go.Lite
section
variable {l : List PAttr} {n : Str} {vs : List Str} {i : Nat}
theorem G8 (h1 : ∀ q a, q < i → l[q]? = some a → bG a.name n) (h2 : ∀ q a, i ≤ q → l[q]? = some a → ¬ bG a.name n) (hp : l.Pairwise fun a b => a.name < b.name) (hno : ¬ ∃ a, l[i]? = some a ∧ a.name = n) : aY l n vs = l.take i ++ (if vs = [] then [] else [⟨n, vs⟩]) ++ l.drop i := by
 unfold aY
 rw [wZ (i := i) (fun q x hq hx => au (h1 q x hq hx)) (fun q x hq hx => ai (h2 q x hq hx)), xA (i := i) (fun q x hq hx => ai (bY (h1 q x hq hx))) (fun q x hq hx => au ?_)]
 rcases tN n x.name with h | h | h
 ·exact h
 ·rcases Nat.lt_or_ge i q with hlt | hge
  ·obtain ⟨hq1, hx'⟩ := List.getElem?_eq_some_iff.1 hx
   have h3 := List.pairwise_iff_getElem.1 hp i q (by omega) hq1 hlt
   rw [hx', ← h] at h3
   exact absurd ((bi _ _).2 h3) (h2 i _ (Nat.le_refl _) (List.getElem?_eq_getElem (by omega)))
  ·have : q = i := by omega
   subst this
   exact absurd ⟨x, hx, h.symm⟩ hno
 ·exact absurd h (h2 q x hq hx)
theorem CZ (h1 : ∀ q a, q < i → l[q]? = some a → bG a.name n) (hp : l.Pairwise fun a b => a.name < b.name) {a : PAttr} (ha : l[i]? = some a) (han : a.name = n) : aY l n vs = l.take i ++ (if vs = [] then [] else [⟨n, vs⟩]) ++ l.drop (i + 1) := by
 obtain ⟨hi, ha'⟩ := List.getElem?_eq_some_iff.1 ha
 have hgt : ∀ q x, i < q → l[q]? = some x → bG n x.name := fun q x hq hx => by
  obtain ⟨hq1, hx'⟩ := List.getElem?_eq_some_iff.1 hx
  have h3 := List.pairwise_iff_getElem.1 hp i q hi hq1 hq
  rw [hx', ha', han] at h3
  exact (bi _ _).2 h3
 unfold aY
 rw [wZ (i := i) (fun q x hq hx => au (h1 q x hq hx)) (fun q x hq hx => ai ?_), xA (i := i + 1) (fun q x hq hx => ai ?_) (fun q x hq hx => au (hgt q x (by omega) hx))]
 ·rcases Nat.lt_or_ge q i with hlt | hge
  ·exact bY (h1 q x hlt hx)
  ·have : q = i := by omega
   subst this
   rw [ha] at hx
   cases hx
   rw [han]
   exact bC n
 ·rcases Nat.lt_or_ge i q with hlt | hge
  ·exact bY (hgt q x hlt hx)
  ·have : q = i := by omega
   subst this
   rw [ha] at hx
   cases hx
   rw [han]
   exact bC n
end
theorem Ia {G G' : List Ob} {r : V} {q : Nat} (hq : q < G.length) (h : G'[q]? ≠ G[q]?) : eY G G' r = G' := by
 unfold eY
 rw [if_neg]
 rintro ⟨⟨T, rfl⟩, _⟩
 exact h (List.getElem?_append_left hq)
theorem NS {G : List Ob} {ide : Nat} {vd va vv : V} {l : List PAttr} {n : Str} {vs : List Str} {F Fv : List Nat} (he : G[ide]? = some (.mk true 2 [vd, va])) (hA : AtF G (.slice shAttr) [va] (.lst (l.map PAttr.u)) F) (hn : F.Nodup) (hide : ide ∉ F) (hl : l.length ≤ 1000) (hp : l.Pairwise fun a b => a.name < b.name) (hnm : n.length ≤ maxLen)
  (hV : AtF G (.slice .str) [vv] (.lst (vs.map kD)) Fv) (hVn : Fv.Nodup) (hVF : ∀ q ∈ Fv, q ∉ F ∧ q ≠ ide) :
  ∃ G' va' F', callW C 184 [.ptr (some (ide, 0)), .str n, vv] G = some (.tup [], G') ∧ G'[ide]? = some (.mk true 2 [vd, va']) ∧ AtF G' (.slice shAttr) [va'] (.lst ((aY l n vs).map PAttr.u)) F' ∧ F'.Nodup ∧ ide ∉ F' ∧
   (∀ q ∈ F', q ∈ F ∨ q ∈ Fv ∨ G.length ≤ q) ∧ (∀ q, q < G.length → q ∉ F → q ≠ ide → G'[q]? = G[q]?) ∧ G.length ≤ G'.length ∧ ∀ r, eY G G' r = G' := by
 have ha : aC G va l := AtF.at _ hA
 have hvS : AStrs G vv vs := AtF.at _ hV
 have hoa := ha.one
 have hov := hvS.one
 have hidel : ide < G.length := (List.getElem?_eq_some_iff.1 he).1
 obtain ⟨i, ok, c1, hil, h1, h2, hok⟩ := Fb (t := n) he ha hl hp
 have ld := dF (o := 1) (v := va) he rfl
 suffices hs : Ret C 184 [.ptr (some (ide, 0)), .str n, vv] G fun q G' => q = .tup [] ∧ ∃ va' F', G'[ide]? = some (.mk true 2 [vd, va']) ∧ AtF G' (.slice shAttr) [va'] (.lst ((aY l n vs).map PAttr.u)) F' ∧ F'.Nodup ∧ ide ∉ F' ∧
   (∀ q ∈ F', q ∈ F ∨ q ∈ Fv ∨ G.length ≤ q) ∧ (∀ q, q < G.length → q ∉ F → q ≠ ide → G'[q]? = G[q]?) ∧ G.length ≤ G'.length ∧ ∀ r, eY G G' r = G' by
  obtain ⟨q, G', hc, rfl, va', F', hr⟩ := hs
  exact ⟨G', va', F', hc, hr⟩
 rw [OZ]
 have hz : vs ≠ [] → 0 < vs.length := fun h => List.length_pos_iff.2 h
 cases ok with
 | false =>
  have hno : ¬ ∃ a, l[i]? = some a ∧ a.name = n := fun h => by have := hok.2 h; cases this
  have hput := G8 (vs := vs) h1 h2 hp hno
  by_cases g : vs = []
  ·subst g
   rw [if_pos rfl, List.append_nil, List.take_append_drop] at hput
   simp [qi, Tryz.f184, c1, hvS.len]
   exact ⟨va, he, F, by rw [hput]; exact hA, hn, hide, fun q hq => .inl hq⟩
  ·rw [if_neg g] at hput
   have hx : AtF G shAttr [.str n, vv] (⟨n, vs⟩ : PAttr).u Fv := by
    have := bH.2 ⟨[.str n], [vv], .str n, [.lst (vs.map kD)], [], Fv, rfl, rfl, rfl, kR.2 ⟨⟨n, rfl, rfl, hnm⟩, rfl⟩, bH.2 ⟨[vv], [], _, [], Fv, [], rfl, rfl, by simp, hV, jl.2 ⟨rfl, rfl, rfl⟩⟩⟩
    exact jZ.2 ⟨_, rfl, this⟩
   obtain ⟨v', G1, F1, p1, a1, n1, s1, fr1, len1, hv'⟩ := LH hA hn hx hVn (fun q hq => (hVF q hq).1) hil (by omega) (by decide)
   have p2 : callW C 262 [va, .int .i64 i, .slc (some (G.length, 0)) 1] (G ++ [.mk true 2 [.str n, vv]]) = some (v', G1) := by
    rw [jV (show C.prim 262 = some (fK 2) from rfl)]
    exact p1
   have he1 : G1[ide]? = some (.mk true 2 [vd, va]) := by rw [fr1 ide hide hidel]; exact he
   have hov' : aI v' = true ∧ cellsOf v' = some [v'] := by rw [hv']; exact ⟨rfl, rfl⟩
   have st := store1 (o := 1) (v := v') he1 (by simp) hov'.2 hov'.1
   have hide1 : ide ∉ F1 := fun hm => by
    rcases s1 ide hm with h | h | h
    ·exact hide h
    ·exact (hVF ide h).2 rfl
    ·omega
   have hG1l : ide < G1.length := by omega
   have hne : va ≠ v' := fun e => by
    rw [hv'] at e
    rcases ha.sub with ⟨h, _⟩ | ⟨id, off, own, cells, h, h3, _⟩
    ·rw [h] at e; cases e
    ·rw [h] at e
     have := (List.getElem?_eq_some_iff.1 h3).1
     simp at e
   have hgc : ∀ r, eY G (G1.set ide (.mk true 2 [vd, v'])) r = G1.set ide (.mk true 2 [vd, v']) := fun r => Ia hidel (by
    rw [List.getElem?_set_self hG1l, he]
    intro e
    cases e
    exact hne rfl)
   simp at st
   simp [qi, Tryz.f184, c1, hvS.len, hz g, ld, hov, hoa, aB, ay, ak, St.new, aP, ah, p2, st, hov', hgc]
   refine ⟨v', List.getElem?_set_self hG1l, F1, ?_, n1, hide1, fun q hq => ?_, fun q hq hqF hqe => ?_, by omega⟩
   ·rw [hput, List.append_assoc]
    exact AtF.kill a1 hide1
   ·rcases s1 q hq with h | h | h
    ·exact .inl h
    ·exact .inr (.inl h)
    ·exact .inr (.inr (by omega))
   ·rw [List.getElem?_set_ne (fun e => hqe e.symm)]
    exact fr1 q hqF hq
 | true =>
  obtain ⟨a, hai, han⟩ := hok.1 rfl
  have hput := CZ (vs := vs) h1 hp hai han
  have hi : i < l.length := (List.getElem?_eq_some_iff.1 hai).1
  by_cases g : vs = []
  ·subst g
   rw [if_pos rfl, List.append_nil] at hput
   have hw : IntKind.i64.wrap ((i : Int) + 1) = (i : Int) + 1 := wrap_i64 (by omega) (by omega)
   obtain ⟨v', G1, F1, p1, a1, n1, s1, fr1, len1, hov'⟩ := MF hA hn hi (by omega)
   have he1 : G1[ide]? = some (.mk true 2 [vd, va]) := by rw [fr1 ide hide]; exact he
   have st := store1 (o := 1) (v := v') he1 (by simp) hov'.2 hov'.1
   have hide1 : ide ∉ F1 := fun hm => hide (s1 ide hm)
   have hG1l : ide < G1.length := by omega
   have hgc : ∀ r, eY G (G1.set ide (.mk true 2 [vd, v'])) r = G1.set ide (.mk true 2 [vd, v']) := fun r => uH (by simp; exact len1)
   simp at st
   simp [qi, Tryz.f184, c1, hvS.len, ld, hov, hoa, p1, st, hov', hgc, hw]
   refine ⟨v', List.getElem?_set_self hG1l, F1, ?_, n1, hide1, fun q hq => .inl (s1 q hq), fun q hq hqF hqe => ?_, by omega⟩
   ·rw [hput]
    exact AtF.kill a1 hide1
   ·rw [List.getElem?_set_ne (fun e => hqe e.symm)]
    exact fr1 q hqF
  ·rw [if_neg g] at hput
   have hx : AtF G shAttr [.str n, vv] (⟨n, vs⟩ : PAttr).u Fv := by
    have := bH.2 ⟨[.str n], [vv], .str n, [.lst (vs.map kD)], [], Fv, rfl, rfl, rfl, kR.2 ⟨⟨n, rfl, rfl, hnm⟩, rfl⟩, bH.2 ⟨[vv], [], _, [], Fv, [], rfl, rfl, by simp, hV, jl.2 ⟨rfl, rfl, rfl⟩⟩⟩
    exact jZ.2 ⟨_, rfl, this⟩
   obtain ⟨id, off, cells, F1, hva, g2, g3, g4, a1, n1, s1⟩ := H5 hA hn hi hx hVn (fun q hq => (hVF q hq).1)
   have hsz : shAttr.size = 2 := rfl
   rw [hsz] at g2 g3 a1
   have hch : ∃ w0, (cells.drop (off + i * 2)).take 2 = [.str n, w0] := by
    rcases ha.sl with ⟨h, _⟩ | ⟨id', off', own', cells', h3, h4, h5, h6⟩
    ·rw [h] at hva; cases hva
    ·rw [hva, List.length_map] at h3
     cases h3
     rw [g2] at h4
     cases h4
     have := h6 i a.u (by rw [List.getElem?_map, hai]; rfl)
     obtain ⟨w0, hw0, _⟩ := nZ.1 this
     rw [hsz, han] at hw0
     exact ⟨w0, hw0⟩
   obtain ⟨w0, hch⟩ := hch
   have hsc := xy (c1 := [.str n]) (c2 := []) (v := w0) (w := vv) (o := off + i * 2) (n := 2) hch (by omega)
   simp only [List.length_cons, List.length_nil, List.append_nil, List.cons_append, List.nil_append] at hsc
   have hne : ide ≠ id := fun e => hide (by rw [e]; exact g4)
   have st := store1 (o := off + i * 2 + 1) (v := vv) g2 (by omega) hov.2 hov.1
   rw [show off + i * 2 + 1 = off + i * 2 + (0 + 1) by omega, hsc] at st
   simp only [Nat.zero_add] at st
   have hide1 : ide ∉ F1 := fun hm => (s1 ide hm).elim hide fun h => (hVF ide h).2 rfl
   have hgc : ∀ r, eY G (G.set id (.mk true 2 (setRange cells (off + i * 2) [.str n, vv]))) r = G.set id (.mk true 2 (setRange cells (off + i * 2) [.str n, vv])) := fun r => uH (by simp)
   have hiI : (i : Int) < l.length := by omega
   have hz' := hz g
   have hvs0 : ¬ ((vs.length : Int) = 0) := by omega
   subst hva
   simp [-setRange, qi, Tryz.f184, c1, hvS.len, ld, hov, hoa, st, hgc, hz', hi, hvs0, g]
   refine ⟨_, by rw [List.getElem?_set_ne (fun e => hne e.symm)]; exact he, F1, ?_, n1, hide1, fun q hq => (s1 q hq).imp (fun h => h) .inl, fun q hq hqF hqe => ?_⟩
   ·rw [hput, List.append_assoc]
    have hset : l.set i ⟨n, vs⟩ = l.take i ++ ([⟨n, vs⟩] ++ l.drop (i + 1)) := by rw [List.set_eq_take_append_cons_drop, if_pos hi]; rfl
    rw [← hset]
    exact a1
   ·exact List.getElem?_set_ne fun e => hqF (by rw [← e]; exact g4)
end Go.Proofs.Try1
end
section
namespace Go.Lite
open Go
theorem E8 : ∀ (a b : Str), (Lib.compareBytes a b < 0 ↔ bG a b) ∧ (Lib.compareBytes a b = 0 ↔ a = b)
 | [], [] => by simp [Lib.compareBytes, bG, Op.bytesLess]
 | [], _ :: _ => by simp [Lib.compareBytes, bG, Op.bytesLess]
 | _ :: _, [] => by simp [Lib.compareBytes, bG, Op.bytesLess]
 | a :: az, b :: bs => by
  have ih := E8 az bs
  unfold bG at ih ⊢
  simp only [Lib.compareBytes, Op.bytesLess]
  by_cases h1 : a < b
  ·have hne : a ≠ b := fun e => by subst e; exact absurd h1 (by simp)
   simp [h1, hne]
  ·by_cases h2 : b < a
   ·have hne : a ≠ b := fun e => by subst e; exact h1 h2
    simp [h1, h2, hne]
   ·have he : a = b := by
     have h3 : ¬ a.toNat < b.toNat := h1
     have h4 : ¬ b.toNat < a.toNat := h2
     exact UInt8.toNat_inj.1 (by omega)
    subst he
    simp [h1, ih.1, ih.2]
theorem Ig {a b : UInt8} {az bs : Str} : bG (a :: az) (b :: bs) ↔ a < b ∨ (a = b ∧ bG az bs) := by
 unfold bG
 simp only [Op.bytesLess]
 by_cases h1 : a < b
 ·simp [h1]
 ·by_cases h2 : b < a
  ·have hne : a ≠ b := fun e => by subst e; exact h1 h2
   simp [h1, h2, hne]
  ·have he : a = b := by
    have h3 : ¬ a.toNat < b.toNat := h1
    have h4 : ¬ b.toNat < a.toNat := h2
    exact UInt8.toNat_inj.1 (by omega)
   subst he
   simp [h1]
theorem rE : ∀ (a b : Str), bG a b ↔ a < b
 | a, [] => by cases a <;> simp [bG, Op.bytesLess]
 | [], b :: bs => by simp [bG, Op.bytesLess]
 | a :: az, b :: bs => by rw [Ig, List.cons_lt_cons_iff, rE az bs]
theorem yw {a b c : Str} (h1 : bG a b) (h2 : bG b c) : bG a c := (rE _ _).2 (List.lt_trans ((rE _ _).1 h1) ((rE _ _).1 h2))
theorem MR {a b : Str} (h1 : bG a b) : ¬ bG b a := fun h => bC _ (yw h1 h)
theorem Ci {a b : Str} (h1 : ¬ bG a b) (h2 : ¬ bG b a) : a = b := List.le_antisymm (fun hh => h2 ((rE _ _).2 hh)) (fun hh => h1 ((rE _ _).2 hh))
theorem JA {a b c : Str} (h1 : ¬ bG a b) (h2 : ¬ bG b c) : ¬ bG a c := fun h => by
 by_cases h3 : bG b a
 ·exact h2 (yw h3 h)
 ·have := Ci h1 h3
  subst this
  exact h2 h
theorem mO {a b : Str} : lu a b = true ↔ bG (norm a) (norm b) := by
 unfold lu tK
 rw [decide_eq_true_eq]
 exact (E8 _ _).1
theorem lS {a b : Str} : lu a b = false ↔ ¬ bG (norm a) (norm b) := by
 rw [← mO]; simp
theorem MS : Sort.SWO lu where
 irrefl x := lS.2 (bC _)
 trans x y z h1 h2 := mO.2 (yw (mO.1 h1) (mO.1 h2))
 ntrans x y z h1 h2 := lS.2 (JA (lS.1 h1) (lS.1 h2))
def oN (l : List Str) : Prop := l.Pairwise fun a b => ¬ bG (norm b) (norm a)
theorem lJ (l : List Str) : (dB l).Perm l ∧ oN (dB l) := by
 obtain ⟨⟨h1, _, h3⟩, h4⟩ := Sort.pdq_sorts lu MS l.toArray 0 l.length (Lib.bitLen l.length) true true (Nat.zero_le _) (by simp) (Or.inl rfl)
 have hz : (Sort.pdq lu l.toArray 0 l.length (Lib.bitLen l.length) true true).size = l.length := by rw [h1]; simp
 refine ⟨?_, ?_⟩
 ·rw [Array.extract_eq_self_of_le (by omega), Array.extract_eq_self_of_le (by simp)] at h3
  exact h3
 ·unfold oN
  rw [List.pairwise_iff_getElem]
  intro i j hi hj hij
  unfold dB at hi hj ⊢
  simp only [Array.length_toList] at hi hj
  have := h4 i j (Nat.zero_le _) hij (by omega)
  rw [getElem!_pos _ i (by omega), getElem!_pos _ j (by omega)] at this
  rw [lS] at this
  simpa using this
theorem lZ (l : List Str) : (dB l).length = l.length := (lJ l).1.length_eq
theorem Dn {l : List Str} (h : oN l) (x : Str) : oN (pX l x) := by
 unfold oN pX at *
 have hd : ∀ y ∈ l.dropWhile (fun y => dec (bG (norm y) (norm x))), ¬ bG (norm y) (norm x) := by
  intro y hy
  induction l with
  | nil => simp at hy
  | cons a l ih =>
   rw [List.dropWhile_cons] at hy
   split at hy
   ·exact ih (List.pairwise_cons.1 h).2 hy
   ·rename_i hn
    have hn' : ¬ bG (norm a) (norm x) := fun h2 => hn (au h2)
    rcases List.mem_cons.1 hy with rfl | hy
    ·exact hn'
    ·exact JA ((List.pairwise_cons.1 h).1 y hy) hn'
 have ht : ∀ y ∈ l.takeWhile (fun y => dec (bG (norm y) (norm x))), bG (norm y) (norm x) := fun y hy => dC.1 (List.all_eq_true.1 (List.all_takeWhile (l := l) (p := fun y => dec (bG (norm y) (norm x)))) y hy)
 have hl : l = l.takeWhile (fun y => dec (bG (norm y) (norm x))) ++ l.dropWhile (fun y => dec (bG (norm y) (norm x))) := List.takeWhile_append_dropWhile.symm
 rw [hl] at h
 obtain ⟨h1, h2, h3⟩ := List.pairwise_append.1 h
 refine List.pairwise_append.2 ⟨h1, List.pairwise_cons.2 ⟨hd, h2⟩, fun a ha b hb => ?_⟩
 rcases List.mem_cons.1 hb with rfl | hb
 ·exact MR (ht a ha)
 ·exact h3 a ha b hb
theorem rP (l : List Str) : oN (bD l) := by
 have : ∀ (l a : List Str), oN a → oN (l.foldl pX a) := by
  intro l
  induction l with
  | nil => exact fun a h => h
  | cons x l ih => exact fun a h => ih _ (Dn h x)
 exact this l [] List.Pairwise.nil
def Apart (l : List Str) : Prop := (l.map norm).Nodup
theorem Apart.inj {l : List Str} (h : Apart l) {a b : Str} (ha : a ∈ l) (hb : b ∈ l) (e : norm a = norm b) : a = b := by
 unfold Apart at h
 induction l with
 | nil => cases ha
 | cons x l ih =>
  rw [List.map_cons, List.nodup_cons] at h
  rcases List.mem_cons.1 ha with rfl | ha'
  ·rcases List.mem_cons.1 hb with rfl | hb'
   ·rfl
   ·exact absurd (List.mem_map.2 ⟨b, hb', e.symm⟩) h.1
  ·rcases List.mem_cons.1 hb with rfl | hb'
   ·exact absurd (List.mem_map.2 ⟨a, ha', e⟩) h.1
   ·exact ih h.2 ha' hb'
theorem JO {l a b : List Str} (h : Apart l) (ha : a.Perm l) (hb : b.Perm l) (ra : oN a) (rb : oN b) : a = b :=
 List.Perm.eq_of_pairwise (le := fun a b => ¬ bG (norm b) (norm a)) (fun x y hx hy h1 h2 => h.inj (ha.subset hx) (hb.subset hy) (Ci h2 h1)) ra rb (ha.trans hb.symm)
theorem Je {l : List Str} (h : Apart l) : dB l = bD l := JO h (lJ l).1 (jW l) (lJ l).2 (rP l)
theorem rH {l : List Str} : gm l ↔ (∀ x ∈ l, aA x) ∧ Apart l ∧ l.length ≤ 4 := by
 unfold gm Apart
 rw [List.Nodup, List.pairwise_iff_getElem]
 constructor
 ·rintro ⟨h1, h2⟩
  refine ⟨fun x hx => ?_, fun i j hi hj hij => ?_, h2⟩
  ·obtain ⟨j, hj, rfl⟩ := List.getElem_of_mem hx
   exact (h1 j _ (List.getElem?_eq_getElem hj)).1
  ·simp only [List.length_map] at hi hj
   simp only [List.getElem_map]
   exact (h1 j _ (List.getElem?_eq_getElem hj)).2 i _ hij (List.getElem?_eq_getElem hi)
 ·rintro ⟨h1, h2, h3⟩
  refine ⟨fun i x hx => ⟨h1 x (List.mem_of_getElem? hx), fun j y hji hy => ?_⟩, h3⟩
  obtain ⟨hi, rfl⟩ := List.getElem?_eq_some_iff.1 hx
  obtain ⟨hj, rfl⟩ := List.getElem?_eq_some_iff.1 hy
  have := h2 j i (by simpa using hj) (by simpa using hi) hji
  simpa using this
theorem tV {l : List Str} : (l = [] ∨ bu (dB l)) ↔ gm l := by
 rw [rH]
 obtain ⟨hp, hr⟩ := lJ l
 constructor
 ·rintro (rfl | h)
  ·exact ⟨by simp, by simp [Apart], by simp⟩
  ·obtain ⟨h1, h2, h3⟩ := h
   refine ⟨fun x hx => ?_, ?_, by rw [← hp.length_eq]; exact h3⟩
   ·obtain ⟨j, hj, rfl⟩ := List.getElem_of_mem (hp.symm.subset hx)
    exact (h1 j _ (List.getElem?_eq_getElem hj)).1
   ·unfold Apart
    refine (hp.map norm).nodup_iff.1 ?_
    have hstep : ∀ i j (hi : i < (dB l).length) (hj : j < (dB l).length), i < j → bG (norm (dB l)[i]) (norm (dB l)[j]) := by
     intro i j hi hj hij
     obtain ⟨d, hd⟩ : ∃ d, j = i + 1 + d := ⟨j - i - 1, by omega⟩
     subst hd
     induction d with
     | zero => exact (h1 (i + 1) _ (List.getElem?_eq_getElem hj)).2 _ (by omega) (by rw [show i + 1 - 1 = i by omega]; exact List.getElem?_eq_getElem hi)
     | succ d ih => exact yw (ih (by omega) (by omega)) ((h1 (i + 1 + (d + 1)) _ (List.getElem?_eq_getElem hj)).2 _ (by omega) (by rw [show i + 1 + (d + 1) - 1 = i + 1 + d by omega]; exact List.getElem?_eq_getElem (by omega)))
    rw [List.Nodup, List.pairwise_iff_getElem]
    intro i j hi hj hij e
    simp only [List.length_map] at hi hj
    simp only [List.getElem_map] at e
    have := hstep i j hi hj hij
    rw [e] at this
    exact bC _ this
 ·rintro ⟨h1, h2, h3⟩
  by_cases hl : l = []
  ·exact .inl hl
  ·refine .inr ⟨fun j x hx => ⟨h1 x (hp.subset (List.mem_of_getElem? hx)), fun y hj hy => ?_⟩, ?_, by rw [hp.length_eq]; exact h3⟩
   ·obtain ⟨hj1, hx'⟩ := List.getElem?_eq_some_iff.1 hx
    obtain ⟨hj2, hy'⟩ := List.getElem?_eq_some_iff.1 hy
    have h4 := List.pairwise_iff_getElem.1 hr (j - 1) j hj2 hj1 (by omega)
    rw [hx', hy'] at h4
    refine Classical.byContradiction fun h5 => ?_
    have h6 := Ci h5 h4
    have hnd : ((dB l).map norm).Nodup := (hp.map norm).nodup_iff.2 h2
    rw [List.Nodup, List.pairwise_iff_getElem] at hnd
    have := hnd (j - 1) j (by simpa using hj2) (by simpa using hj1) (by omega)
    simp only [List.getElem_map, hx', hy'] at this
    exact this h6
   ·rw [hp.length_eq]
    exact List.length_pos_iff.2 hl
end Go.Lite
end
section
namespace Go.Proofs.Try1
open Go Go.Lite
theorem Og : aF [97] := ⟨by decide, by decide, fun i c h => by
 cases i with
 | zero => cases h; exact .inl ⟨by decide, by decide⟩
 | succ i => simp at h⟩
theorem Jt {H : List Ob} {v : V} {l : List Str} (h : AStrs H v l) (hl : l.length ≤ 1048576) :
  ∃ T w, callW C 84 [v] H = some (.tup [w, .bool (dec (gm l))], H ++ T) ∧ New H.length (H ++ T).length (H ++ T) (.slice .str) [w] (.lst ((dB l).map kD)) := by
 suffices hs : Ret C 84 [v] H fun q H' => ∃ T w, q = .tup [w, .bool (dec (gm l))] ∧ H' = H ++ T ∧ New H.length (H ++ T).length (H ++ T) (.slice .str) [w] (.lst ((dB l).map kD)) by
  obtain ⟨q, H', hc, T, w, rfl, rfl, hr⟩ := hs
  exact ⟨T, w, hc, hr⟩
 rw [SN]
 obtain ⟨T, w, c1, hw⟩ := Kw h hl
 have hmax := h.max
 have hP : ∀ args H, callW C 178 args H = fP 179 args H := fun args H => by rw [jV (show C.prim 178 = some (fP 179) from rfl)]
 rcases hw with ⟨rfl, rfl⟩ | hG
 ·have c2 : callW C 178 [.slc none 0, .fn 179 [] []] (H ++ T) = some (.tup [], H ++ T) := by rw [hP]; rfl
  have hd : dec (gm []) = true := au (tV.1 (.inl rfl))
  have hn0 : dB [] = [] := List.length_eq_zero_iff.1 (by rw [lZ]; rfl)
  have hgc : eY H (H ++ T) (.tup [.slc none 0, .bool true]) = H := mF (by simp [eF])
  simp [zh, Tryz.f84, c1, c2, hgc, hd]
  rw [hn0]
  exact New.nil
 ·obtain ⟨T', id, hT, g1, g2, rfl⟩ := hG
  have hT' := List.append_cancel_left hT
  subst hT'
  rw [List.length_map] at c1
  have hid : id < (H ++ T).length := (List.getElem?_eq_some_iff.1 g2).1
  obtain ⟨K, hK⟩ : ∃ K, K = (H ++ T).set id (.mk true 1 ((dB l).map V.str)) := ⟨_, rfl⟩
  obtain ⟨S, hS⟩ : ∃ S, K = H ++ S := ⟨_, by rw [hK, List.set_append_right _ _ g1]⟩
  have hKg : K[id]? = some (.mk true 1 ((dB l).map V.str)) := by rw [hK]; exact List.getElem?_set_self hid
  have hlen := lZ l
  have c2 : callW C 178 [.slc (some (id, 0)) l.length, .fn 179 [] []] (H ++ T) = some (.tup [], if l.length = 0 then H ++ T else K) := by
   rw [hP]
   by_cases h0 : l.length = 0
   ·simp [fP, h0]
   ·have hst : strsOf (((l.map V.str).drop 0).take l.length) = some l := by rw [List.drop_zero, List.take_of_length_le (by simp)]; exact wH l
    have hsr : setRange (l.map V.str) 0 ((dB l).map V.str) = (dB l).map V.str := by
     simp [setRange, hlen]
    simp only [fP, if_true, if_neg h0, g2]
    rw [if_pos ⟨trivial, by simp, hl⟩, hst]
    simp only [hsr, hK]
  have hnK : l ≠ [] → New H.length K.length K (.slice .str) [.slc (some (id, 0)) l.length] (.lst ((dB l).map kD)) := fun _ => by
   have hgs : Gs H K (.slc (some (id, 0)) l.length) ((dB l).map V.str) := ⟨S, id, hS, g1, hKg, by simp [hlen]⟩
   exact hgs.new (by rw [hlen]; unfold maxLen; omega) fun s hs => hmax s ((lJ l).1.subset hs)
  by_cases g : l = []
  ·subst g
   have hn0 : dB [] = [] := List.length_eq_zero_iff.1 (by rw [lZ]; rfl)
   have hd : dec (gm []) = true := au (tV.1 (.inl rfl))
   have hgc : eY H (H ++ T) (.tup [.slc (some (id, 0)) 0, .bool true]) = H ++ T := eP fun h => by
    obtain ⟨⟨own, es, cells, h⟩, _⟩ := h
    have := (List.getElem?_eq_some_iff.1 h).1
    omega
   simp at c1 c2
   simp [zh, Tryz.f84, c1, c2, hd, hgc]
   rw [hn0]
   have hgs : Gs H (H ++ T) (.slc (some (id, 0)) 0) ([].map V.str) := ⟨T, id, rfl, g1, g2, rfl⟩
   simpa using hgs.new (l := []) (by simp) (by simp)
  ·have h0 : ¬ l.length = 0 := fun h => g (List.length_eq_zero_iff.1 h)
   rw [if_neg h0] at c2
   have hn := hnK g
   have hws : AStrs K (.slc (some (id, 0)) l.length) (dB l) := hn.at
   have c3 := JL (n := [97]) hws
   have hd : dec (gm l) = dec (aF [97] ∧ bu (dB l)) := gu ⟨fun h => ⟨Og, (tV.2 h).resolve_left g⟩, fun h => tV.1 (.inr h.2)⟩
   rw [← hd] at c3
   have hgc : ∀ b, eY H K (.tup [.slc (some (id, 0)) l.length, .bool b]) = K := fun b => eP fun h => by
    obtain ⟨⟨own, es, cells, h⟩, _⟩ := h
    have := (List.getElem?_eq_some_iff.1 h).1
    omega
   have h0' : ¬ (l.length : Int) = 0 := by omega
   simp [zh, Tryz.f84, c1, c2, c3, h0', g, aP, ah, ay, hgc]
   exact ⟨S, hS, by rw [← List.length_append, ← hS]; exact hn⟩
def UE (b : Nat) (H : List Ob) (ide : Nat) (G : List Ob) (o : PEntryOut) (code : Int) (G' : List Ob) : Prop :=
 code = o.code ∧ (∀ q, q < H.length → G'[q]? = G[q]?) ∧ G.length ≤ G'.length ∧ (code = 0 → ∃ d a F, G'[ide]? = some (.mk true 2 [d, a]) ∧ AtF G' bK [d, a] o.entry.u F ∧ F.Nodup ∧ (∀ q ∈ F, b ≤ q) ∧ ¬ eF H d)
theorem Ih {H G : List Ob} (h : ∀ q, q < H.length → G[q]? = H[q]?) (hl : H.length ≤ G.length) : ∃ T, G = H ++ T := by
 refine ⟨G.drop H.length, List.ext_getElem? fun i => ?_⟩
 by_cases hi : i < H.length
 ·rw [List.getElem?_append_left hi, h i hi]
 ·rw [List.getElem?_append_right (by omega), List.getElem?_drop]
  congr 1
  omega
theorem Gf {bd : Nat} {H : List Ob} {vd va : V} {e : PEntry} {g : Nat} {b : List V} {o : PEntryOut} (hd : aX H vd e.dn) (ha : aC H va e.attrs) (hb : l7 e) (hill : o.code ≠ 0 → o = gz o.code) (hwf : (Lit.int .i64 o.code).wf = true) (hbd0 : bd ≤ H.length)
  (hcall : ∀ K d a, (∃ T, K = H ++ T) → New H.length K.length K bK [d, a] e.u → ∃ code G', callW C g ([.ptr (some (K.length, 0))] ++ b) (K ++ [.mk true 2 [d, a]]) = some (.int .i64 code, G') ∧ UE bd H K.length (K ++ [.mk true 2 [d, a]]) o code G') :
  ∃ q H', callW C 87 [.agg [vd, va], .fn g [] b] H = some (q, H') ∧ NOutB bd H o q H' := by
 suffices hs : Ret C 87 [.agg [vd, va], .fn g [] b] H fun q H' => NOutB bd H o q H' by
  obtain ⟨q, H', hc, hr⟩ := hs
  exact ⟨q, H', hc, hr⟩
 rw [Rx]
 have hod := hd.one
 have hoa := ha.one
 obtain ⟨T1, d, a, c1, n1⟩ := Jd hd ha hb
 obtain ⟨K, hK⟩ : ∃ K, K = H ++ T1 := ⟨_, rfl⟩
 rw [← hK] at c1 n1
 obtain ⟨_, _, hcs, hd1, ha1⟩ := fC.1 n1.at
 cases hcs
 have hoD := hd1.one
 have hoA := ha1.one
 obtain ⟨code, G', c2, rfl, hfr, hlen, hok⟩ := hcall K d a ⟨T1, hK⟩ n1
 have hpre : ∃ T, G' = H ++ T := Ih (fun q hq => by rw [hfr q hq, hK, List.append_assoc, List.getElem?_append_left hq]) (by rw [hK] at hlen; simp at hlen; omega)
 have st := Dp (H := K ++ [.mk true 2 [.slc none 0, .slc none 0]]) (o := 0) (l := [d, a]) get_last (by simp) (by simp) (by simp [hoD, hoA])
 simp at st
 by_cases g0 : o.code = 0
 ·obtain ⟨d', a', F, k1, k2, k3, k4, k5⟩ := hok g0
  have hn : New bd G'.length G' bK [d', a'] o.entry.u := ⟨F, k2, k3, fun q hq => ⟨k4 q hq, AtF.mem _ k2 q hq⟩⟩
  obtain ⟨_, _, hcs, hd2, ha2⟩ := fC.1 hn.at
  cases hcs
  have hoD' := hd2.one
  have hoA' := ha2.one
  have ld := rO (o := 0) (n := 2) k1 (by simp) (by decide) rfl
  simp at ld
  have hgc : eY H G' (.agg [d', a', .int .i64 0]) = G' := eP fun h => k5 h.1
  have hfin : NOutB bd H ⟨o.entry, 0⟩ (.agg [d', a', .int .i64 0]) G' := by
   obtain ⟨T, hT⟩ := hpre
   have hle : bd ≤ G'.length := by rw [hT]; simp; omega
   have h2 : New bd G'.length G' fQ [d', a', .int .i64 0] (PEntryOut.u ⟨o.entry, 0⟩) := New.st (News.cons (c1 := [d', a']) (m := G'.length) hn (News.int (by decide) News.nil) hle (Nat.le_refl _))
   exact ⟨T, d', a', rfl, hT, by rw [← hT]; exact h2⟩
  obtain ⟨oe, oc⟩ := o
  simp only at g0 c2 hfin
  subst g0
  simp at c2
  simp [D8, Tryz.f87, c1, c2, hod, hoa, hoD, hoA, hoD', hoA', aV, st, ld, aP, ah, ay, hgc]
  exact hfin
 ·have hgc : eY H G' (.agg [.slc none 0, .slc none 0, .int .i64 o.code]) = H := by
   obtain ⟨T, rfl⟩ := hpre
   exact mF (by simp [eF, gZ])
  have hfin : NOutB bd H o (.agg [.slc none 0, .slc none 0, .int .i64 o.code]) H := by
   refine ⟨[], .slc none 0, .slc none 0, rfl, by simp, ?_⟩
   have hn : New bd (H ++ []).length (H ++ []) fQ [.slc none 0, .slc none 0, .int .i64 o.code] (gz o.code).u := New.st (News.cons (c1 := [.slc none 0, .slc none 0]) (m := bd) (New.st (News.nilS (News.nilS News.nil))) (News.int hwf News.nil) (Nat.le_refl _) (by simpa using hbd0))
   rw [← hill g0] at hn
   exact hn
  simp at c2
  simp [D8, Tryz.f87, c1, c2, hod, hoa, hoD, hoA, aV, st, g0, aP, ah, ay, hgc]
  exact hfin
theorem GV {G : List Ob} {ide : Nat} {vd va vv : V} {l : List PAttr} {n : Str} {vs : List Str} {F Fv : List Nat} (he : G[ide]? = some (.mk true 2 [vd, va])) (hA : AtF G (.slice shAttr) [va] (.lst (l.map PAttr.u)) F) (hn : F.Nodup) (hide : ide ∉ F) (hl : l.length ≤ 1000) (hp : l.Pairwise fun a b => a.name < b.name) (hnm : n.length ≤ maxLen)
  (hV : AtF G (.slice .str) [vv] (.lst (vs.map kD)) Fv) (hVn : Fv.Nodup) (hVF : ∀ q ∈ Fv, q ∉ F ∧ q ≠ ide) :
  ∃ code G', callW C 89 [.ptr (some (ide, 0)), .str n, vv] G = some (.int .i64 code, G') ∧ code = (if vs ≠ [] ∧ l.length = 8 ∧ bT PAttr.name l n = none then 9 else 0) ∧ (code ≠ 0 → G' = G) ∧ (code = 0 → ∃ va' F', G'[ide]? = some (.mk true 2 [vd, va']) ∧ AtF G' (.slice shAttr) [va'] (.lst ((aY l n vs).map PAttr.u)) F' ∧ F'.Nodup ∧ ide ∉ F' ∧
   (∀ q ∈ F', q ∈ F ∨ q ∈ Fv ∨ G.length ≤ q) ∧ (∀ q, q < G.length → q ∉ F → q ≠ ide → G'[q]? = G[q]?) ∧ G.length ≤ G'.length ∧ ∀ r, eY G G' r = G') := by
 suffices hs : Ret C 89 [.ptr (some (ide, 0)), .str n, vv] G fun q G' => ∃ code, q = .int .i64 code ∧ code = (if vs ≠ [] ∧ l.length = 8 ∧ bT PAttr.name l n = none then 9 else 0) ∧ (code ≠ 0 → G' = G) ∧ (code = 0 → ∃ va' F', G'[ide]? = some (.mk true 2 [vd, va']) ∧ AtF G' (.slice shAttr) [va'] (.lst ((aY l n vs).map PAttr.u)) F' ∧ F'.Nodup ∧ ide ∉ F' ∧
   (∀ q ∈ F', q ∈ F ∨ q ∈ Fv ∨ G.length ≤ q) ∧ (∀ q, q < G.length → q ∉ F → q ≠ ide → G'[q]? = G[q]?) ∧ G.length ≤ G'.length ∧ ∀ r, eY G G' r = G') by
  obtain ⟨q, G', hc, code, rfl, hr⟩ := hs
  exact ⟨code, G', hc, hr⟩
 rw [S9]
 have ha : aC G va l := AtF.at _ hA
 have hvS : AStrs G vv vs := AtF.at _ hV
 obtain ⟨i, ok, c1, hil, h1, h2, hok⟩ := Fb (t := n) he ha hl hp
 have ld := dF (o := 1) (v := va) he rfl
 have hfo : ok = false ↔ bT PAttr.name l n = none := by
  cases ok with
  | true =>
   obtain ⟨a, ha1, ha2⟩ := hok.1 rfl
   rw [oU hp ha1 ha2]
   simp
  | false =>
   refine ⟨fun _ => uq fun a ha1 ha2 => ?_, fun _ => rfl⟩
   obtain ⟨q, hq, rfl⟩ := List.getElem_of_mem ha1
   have hqe := List.getElem?_eq_getElem hq
   rcases Nat.lt_trichotomy q i with hh | hh | hh
   ·exact bC n (by have := h1 q _ hh hqe; rwa [ha2] at this)
   ·subst hh
    have := hok.2 ⟨_, hqe, ha2⟩
    cases this
   ·have h3 := List.pairwise_iff_getElem.1 hp i q (by omega) hq hh
    rw [ha2] at h3
    exact h2 i _ (Nat.le_refl _) (List.getElem?_eq_getElem (by omega)) ((bi _ _).2 h3)
 obtain ⟨G', va', F', c2, hrest⟩ := NS he hA hn hide hl hp hnm hV hVn hVF
 have hgc := hrest.2.2.2.2.2.2.2
 by_cases g : vs ≠ [] ∧ l.length = 8 ∧ bT PAttr.name l n = none
 ·have hz : 0 < vs.length := List.length_pos_iff.2 g.1
  have hok0 := hfo.2 g.2.2
  subst hok0
  have h8 : (l.length : Int) = 8 := by omega
  rw [if_pos g]
  simp [vP, Tryz.f89, c1, hvS.len, ha.len, hz, ld, h8, qI]
 ·rw [if_neg g]
  have fin : ∃ va' F', G'[ide]? = some (.mk true 2 [vd, va']) ∧ AtF G' (.slice shAttr) [va'] (.lst ((aY l n vs).map PAttr.u)) F' ∧ F'.Nodup ∧ ide ∉ F' ∧ (∀ q ∈ F', q ∈ F ∨ q ∈ Fv ∨ G.length ≤ q) ∧ (∀ q, q < G.length → q ∉ F → q ≠ ide → G'[q]? = G[q]?) ∧ G.length ≤ G'.length ∧ ∀ r, eY G G' r = G' := ⟨va', F', hrest⟩
  by_cases gv : vs = []
  ·subst gv
   cases ok <;>
   ·simp [vP, Tryz.f89, c1, c2, hvS.len, ha.len, ld, hgc]
    simpa [hgc] using fin
  ·have hz : 0 < vs.length := List.length_pos_iff.2 gv
   cases ok with
   | true =>
    simp [vP, Tryz.f89, c1, c2, hvS.len, ha.len, hz, ld, hgc]
    simpa [hgc] using fin
   | false =>
    have h8 : ¬ (l.length : Int) = 8 := fun h => g ⟨gv, by omega, hfo.1 rfl⟩
    simp [vP, Tryz.f89, c1, c2, hvS.len, ha.len, hz, ld, h8, hgc]
    simpa [hgc] using fin
theorem FK {e : PEntry} {n : Str} {vs : List Str} (h : (fJ e n vs).code ≠ 0) : fJ e n vs = gz (fJ e n vs).code := by
 unfold fJ at h ⊢
 split
 ·rfl
 ·rename_i g
  rw [if_neg g] at h
  exact absurd rfl h
theorem Iu {e : PEntry} {n : Str} {vs : List Str} : (Lit.int .i64 (fJ e n vs).code).wf = true := by
 unfold fJ
 split
 ·exact Et (n := 9) (by decide) (by decide)
 ·exact Et (n := 0) (by decide) (by decide)
theorem FB {G : List Ob} {ide idn ido : Nat} {vv : V} {n : Str} {own own' : Bool} {es es' : Nat} (hn : G[idn]? = some (.mk own es [.str n])) (ho : G[ido]? = some (.mk own' es' [vv])) {code : Int} {G' : List Ob}
  (hc : callW C 89 [.ptr (some (ide, 0)), .str n, vv] G = some (.int .i64 code, G')) (hgc : eY G G' (.int .i64 code) = G') :
  callW C 88 [.ptr (some (ide, 0)), .ptr (some (idn, 0)), .ptr (some (ido, 0))] G = some (.int .i64 code, G') := by
 suffices hs : Ret C 88 [.ptr (some (ide, 0)), .ptr (some (idn, 0)), .ptr (some (ido, 0))] G fun r H' => r = .int .i64 code ∧ H' = G' by
  obtain ⟨r, H', h, rfl, rfl⟩ := hs
  exact h
 rw [Sj]
 have l1 := dF (o := 0) (v := .str n) hn rfl
 have l2 := dF (o := 0) (v := vv) ho rfl
 simp [-qP, IE, Tryz.f88, l1, l2, hc, hgc]
theorem Gw {H : List Ob} {vd va vv : V} {e : PEntry} {n : Str} {vs : List Str} (hd : aX H vd e.dn) (ha : aC H va e.attrs) (hn : n.length ≤ maxLen) (hv : AStrs H vv vs) :
  ∃ q H', callW C 10 [.agg [vd, va], .str n, vv] H = some (q, H') ∧ NOut H (aT e n vs) q H' := by
 suffices hs : Ret C 10 [.agg [vd, va], .str n, vv] H fun q H' => NOut H (aT e n vs) q H' by
  obtain ⟨q, H', hc, hr⟩ := hs
  exact ⟨q, H', hc, hr⟩
 rw [Rn]
 have hod := hd.one
 have hoa := ha.one
 have hil : ∀ (X : List Ob) c, eY H (H ++ X) (.agg [.slc none 0, .slc none 0, .int .i64 c]) = H := fun X c => mF (by simp [eF, gZ])
 obtain ⟨X, hX⟩ : ∃ X, X = H ++ [.mk true 1 [.str n]] := ⟨_, rfl⟩
 have hXn : X[H.length]? = some (.mk true 1 [.str n]) := by rw [hX]; exact get_last
 have ln := dF (o := 0) (v := .str n) hXn rfl
 have hone : AStrs (X ++ [.mk true 1 [.str n]]) (.slc (some (X.length, 0)) 1) [n] := aG.2 ⟨_, _, rfl, rfl, by simp [maxLen], .inr ⟨X.length, 0, true, [.str n], rfl, get_last, by simp, fun i x hx => by
  have hi : i = 0 := by have := (List.getElem?_eq_some_iff.1 hx).1; simpa using this
  subst hi
  cases hx
  exact dw.2 ⟨n, rfl, rfl, hn⟩⟩⟩
 obtain ⟨Y, hY⟩ : ∃ Y, Y = X ++ [.mk true 1 [.str n]] := ⟨_, rfl⟩
 rw [← hY] at hone
 have hYH : Y = H ++ [.mk true 1 [.str n], .mk true 1 [.str n]] := by rw [hY, hX]; simp
 have c1 := DN hone
 have c2 : callW C 83 [vv] Y = some (.bool (decide (400 < vs.length)), Y) := Kz (by rw [hYH]; exact hv.ext)
 by_cases g1 : 8000 < n.length ∨ 400 < vs.length
 ·have ho : aT e n vs = gz 2 := if_pos g1
  rw [ho]
  have fin := NOut.ill (H := H) (c := 2) (by decide)
  by_cases g2 : 8000 < n.length
  ·rw [au ⟨n, by simp, g2⟩] at c1
   subst hY hX
   simp at c1 ln
   simp [pz, Tryz.f10, aV, hod, hoa, ln, c1, aB, ay, ak, St.new, aP, ah, hil]
   exact fin
  ·rw [ai (by simpa using g2)] at c1
   have g3 : 400 < vs.length := by omega
   subst hY hX
   simp [g3] at c1 c2 ln
   simp [pz, Tryz.f10, aV, hod, hoa, ln, c1, c2, aB, ay, ak, St.new, aP, ah, hil]
   exact fin
 ·have g2 : ¬ 8000 < n.length := by omega
  have g3 : ¬ 400 < vs.length := by omega
  rw [ai (by simpa using g2)] at c1
  have ho0 : aT e n vs = if dec (EntryOk e ∧ aF n ∧ gm vs) = true then fJ e n vs else gz 1 := if_neg g1
  obtain ⟨T1, w, c3, n3⟩ := Jt (H := Y) (v := vv) (l := vs) (by rw [hYH]; exact hv.ext) (by omega)
  obtain ⟨Z, hZ⟩ : ∃ Z, Z = Y ++ T1 := ⟨_, rfl⟩
  rw [← hZ] at c3 n3
  have how := New.one1 n3
  obtain ⟨K, hK⟩ : ∃ K, K = Z ++ [.mk true 1 [w]] := ⟨_, rfl⟩
  have hKH : ∃ S, K = H ++ S := ⟨_, by rw [hK, hZ, hYH, List.append_assoc, List.append_assoc]⟩
  obtain ⟨S, hS⟩ := hKH
  have hdK : aX K vd e.dn := by rw [hS]; exact hd.ext
  have haK : aC K va e.attrs := by rw [hS]; exact ha.ext
  have c4 := ql hdK haK
  have c5 := DT (t := n) (H := K)
  have hKn : K[H.length]? = some (.mk true 1 [.str n]) := by
   rw [hK, hZ, hY, List.append_assoc, List.append_assoc]
   exact bg _ _ hXn
  have lnK := dF (o := 0) (v := .str n) hKn rfl
  have hZl : Z.length < K.length := by rw [hK]; simp
  have hKo : K[Z.length]? = some (.mk true 1 [w]) := by rw [hK]; exact get_last
  have hsY : ∀ A B : List Ob, (H ++ A) ++ B = H ++ (A ++ B) := fun A B => List.append_assoc _ _ _
  have stw : ∀ r c, storeAt ⟨.slice 9, 1, 24, [.slc none 0]⟩ ⟨r, c, Z ++ [.mk true 1 [.slc none 0]]⟩ (.hp Z.length 0) w = some ⟨r, c, K⟩ := fun r c => by
   have := store1 (H := Z ++ [.mk true 1 [.slc none 0]]) (o := 0) (v := w) get_last (by simp) how.2 how.1 ⟨.slice 9, 1, 24, [.slc none 0]⟩ xO r c
   rw [this, gY, hK]
   rfl
  have hilK : ∀ c, eY H K (.agg [.slc none 0, .slc none 0, .int .i64 c]) = H := fun c => by rw [hS]; exact hil _ _
  have hill : ¬ (EntryOk e ∧ aF n ∧ gm vs) → aT e n vs = gz 1 := fun h => by rw [ho0, ai h]; rfl
  have fin1 := NOut.ill (H := H) (c := 1) (by decide)
  simp [g3] at c2
  by_cases h3 : gm vs
  rotate_left
  ·rw [ai h3] at c3
   rw [hill fun h => h3 h.2.2]
   subst hY hX
   simp at c1 c2 c3 ln
   simp [pz, Tryz.f10, aV, hod, hoa, how, ln, c1, c2, c3, aB, ay, ak, St.new, aP, ah, stw, hilK]
   exact fin1
  rw [au h3] at c3
  by_cases h1 : EntryOk e
  rotate_left
  ·rw [ai h1] at c4
   rw [hill fun h => h1 h.1]
   subst hY hX
   simp at c1 c2 c3 ln
   simp [pz, Tryz.f10, aV, hod, hoa, how, ln, c1, c2, c3, c4, aB, ay, ak, St.new, aP, ah, stw, hilK]
   exact fin1
  rw [au h1] at c4
  by_cases h2 : aF n
  rotate_left
  ·rw [ai h2] at c5
   rw [hill fun h => h2 h.2.1]
   subst hY hX
   simp at c1 c2 c3 ln
   simp [pz, Tryz.f10, aV, hod, hoa, how, ln, lnK, c1, c2, c3, c4, c5, aB, ay, ak, St.new, aP, ah, stw, hilK]
   exact fin1
  rw [au h2] at c5
  have ho : aT e n vs = fJ e n vs := by rw [ho0, au ⟨h1, h2, h3⟩]; rfl
  rw [ho]
  have hsv : dB vs = bD vs := Je (rH.1 h3).2.1
  rw [hsv] at n3
  have hal : e.attrs.length ≤ 8 := h1.2.2.2
  have hHK : H.length ≤ K.length := by rw [hS]; simp
  obtain ⟨q, H', c6, hq⟩ := Gf (bd := H.length) (H := K) (g := 88) (b := [.ptr (some (H.length, 0)), .ptr (some (Z.length, 0))]) (o := fJ e n vs) hdK haK (EntryOk.small h1) FK Iu (by rw [hS]; simp) (fun M d a ⟨R, hR⟩ hnew => by
   obtain ⟨F, f1, f2, f3⟩ := hnew
   have f1' : AtF (M ++ [.mk true 2 [d, a]]) bK [d, a] e.u F := f1.ext
   obtain ⟨us, hus, f4⟩ := jZ.1 f1'
   cases hus
   obtain ⟨c1', c2', u1, us1, F1, F2, hcs, hu, rfl, f5, f6⟩ := bH.1 f4
   cases hu
   obtain ⟨c3', c4', u2, us2, F3, F4, rfl, hu, rfl, f7, f8⟩ := bH.1 f6
   cases hu
   obtain ⟨rfl, _, rfl⟩ := jl.1 f8
   obtain ⟨x1, _, rfl, _⟩ := aZ.1 f5
   obtain ⟨x2, _, rfl, _⟩ := aZ.1 f7
   simp only [List.append_nil, List.cons_append, List.nil_append, List.cons.injEq, and_true] at hcs
   obtain ⟨rfl, rfl⟩ := hcs
   rw [List.append_nil] at f2 f3
   obtain ⟨fa, fb, fc⟩ := List.nodup_append.1 f2
   obtain ⟨Fv, v1, v2, v3⟩ := n3
   have hFv : ∀ q ∈ Fv, q < Z.length := fun q hq => (v3 q hq).2
   have hMZ : Z.length ≤ M.length := by rw [hR, hK]; simp
   have hvM : AtF (M ++ [.mk true 2 [d, a]]) (.slice .str) [w] (.lst ((bD vs).map kD)) Fv := by
    have : M ++ [.mk true 2 [d, a]] = Z ++ ([.mk true 1 [w]] ++ R ++ [.mk true 2 [d, a]]) := by rw [hR, hK]; simp
    rw [this]
    exact v1.ext
   have hKM : K.length ≤ M.length := by rw [hR]; simp
   obtain ⟨code, G', k1, k2, k3, k4⟩ := GV (ide := M.length) (vd := d) (va := a) (vv := w) (l := e.attrs) (n := n) (vs := bD vs) get_last f7 (by simpa using fb) (fun hm => by have := AtF.mem _ f1 M.length (List.mem_append_right _ (by simpa using hm)); omega) (by omega) (EntryOk.rise h1) hn hvM v2 (fun q hq => ⟨fun hm => by
    have e1 := hFv q hq
    have e2 := (f3 q (List.mem_append_right _ hm)).1
    omega, by have := hFv q hq; omega⟩)
   have hsn : ∀ (i : Nat) o, K[i]? = some o → (M ++ [.mk true 2 [d, a]])[i]? = some o := fun i o h => by rw [hR, List.append_assoc]; exact bg _ _ h
   have hcode : code = (fJ e n vs).code := by
    rw [k2]
    unfold fJ
    have hz : bD vs = [] ↔ vs = [] := by rw [← List.length_eq_zero_iff, jS, List.length_eq_zero_iff]
    have hzz : (bD vs ≠ [] ∧ e.attrs.length = 8 ∧ bT PAttr.name e.attrs n = none) ↔ (vs ≠ [] ∧ 8 ≤ e.attrs.length ∧ bT PAttr.name e.attrs n = none) := by
     rw [Ne, hz]
     exact ⟨fun h => ⟨h.1, by omega, h.2.2⟩, fun h => ⟨h.1, by omega, h.2.2⟩⟩
    by_cases gg : vs ≠ [] ∧ 8 ≤ e.attrs.length ∧ bT PAttr.name e.attrs n = none
    ·rw [if_pos gg, if_pos (hzz.2 gg)]; rfl
    ·rw [if_neg gg, if_neg fun h => gg (hzz.1 h)]
   by_cases g0 : code = 0
   ·obtain ⟨va', F', m1, m2, m3, m4, m5, m6, m7, m8⟩ := k4 g0
    refine ⟨code, G', FB (hsn _ _ hKn) (hsn _ _ hKo) k1 (m8 _), hcode, fun q hq => ?_, m7, fun _ => ?_⟩
    ·refine m6 q (by simp; omega) (fun hm => ?_) (by omega)
     have := (f3 q (List.mem_append_right _ hm)).1
     omega
    ·have hpe : (fJ e n vs).entry = o9 e n (bD vs) := by
      rw [hcode] at g0
      unfold fJ at g0 ⊢
      split
      ·rename_i gg; rw [if_pos gg] at g0; cases g0
      ·rfl
     have hx1 : AtF G' (.slice shRdn) [d] (.lst (e.dn.map PRdn.u)) F1 := AtF.frame _ (fun q hq => m6 q (AtF.mem _ f5 q hq) (fun hm => fc q hq q (by simpa using hm) rfl) (fun e' => by
      have := AtF.mem _ f1 q (List.mem_append_left _ hq)
      omega)) f5
     have hnl : ¬ eF K d := fun hlow => by
      rcases aZ.1 f5 with ⟨_, us, hd1, hu1, _, ⟨_, hnil, _⟩ | ⟨id, off, cells, Fs, hv1, _, _, _, hF1, _⟩⟩
      ·cases hu1
       have := h1.1
       have h0 : e.dn = [] := by simpa using hnil
       rw [h0] at this
       simp at this
      ·cases hd1
       subst hv1 hF1
       obtain ⟨own, es, cells, hlow⟩ := hlow
       have e1 := (List.getElem?_eq_some_iff.1 hlow).1
       have e2 := (f3 id (by simp)).1
       omega
     refine ⟨d, va', F1 ++ F', m1, ?_, List.nodup_append.2 ⟨fa, m3, fun x hx y hy e' => ?_⟩, fun q hq => ?_, hnl⟩
     ·rw [hpe]
      exact jZ.2 ⟨_, rfl, bH.2 ⟨[d], [va'], _, _, F1, F', rfl, rfl, rfl, hx1, bH.2 ⟨[va'], [], _, _, F', [], rfl, rfl, by simp, m2, jl.2 ⟨rfl, rfl, rfl⟩⟩⟩⟩
     ·subst e'
      rcases m5 x hy with h | h | h
      ·exact fc x hx x (by simpa using h) rfl
      ·have e1 := hFv x h
       have e2 := (f3 x (List.mem_append_left _ hx)).1
       omega
      ·have := AtF.mem _ f1 x (List.mem_append_left _ hx)
       simp at h
       omega
     ·rcases List.mem_append.1 hq with hq | hq
      ·have := (f3 q (List.mem_append_left _ hq)).1; omega
      ·rcases m5 q hq with h | h | h
       ·have := (f3 q (List.mem_append_right _ (by simpa using h))).1; omega
       ·have := (v3 q h).1; rw [hYH] at this; simp at this; omega
       ·simp at h; omega
   ·have hG := k3 g0
    subst hG
    exact ⟨code, _, FB (hsn _ _ hKn) (hsn _ _ hKo) k1 qI, hcode, fun _ _ => rfl, Nat.le_refl _, fun h => absurd h g0⟩)
  subst hY hX
  simp at c1 c2 c3 ln
  obtain ⟨w1, w2, rfl, ho1, ho2⟩ := hq.one
  have hfin := NOutB.base (by rw [← hS]; exact hq : NOutB H.length (H ++ S) _ _ _)
  simp [pz, Tryz.f10, aV, hod, hoa, how, ho1, ho2, ln, lnK, c1, c2, c3, c4, c5, c6, aB, ay, ak, St.new, aP, ah, stw]
  exact hfin

theorem TOut.base {H : List Ob} {X : List Ob} {o : PTreeOut} {q : V} {H' : List Ob} (h : TOut (H ++ X) o q H') : TOut H o q (eY H H' q) := by
 obtain ⟨T, w1, w2, w3, rfl, rfl, h3⟩ := h
 rw [List.append_assoc] at h3 ⊢
 obtain ⟨T', h4, h5⟩ := (h3.wide (b' := H.length) (by simp) (Nat.le_refl _)).gcA
 exact ⟨T', w1, w2, w3, rfl, h4, h5⟩



end Go.Proofs.Try1
end
section
namespace Go.Lite
open Go

end Go.Lite
end
section
namespace Go.Proofs.Try1
open Go Go.Lite
attribute [-simp] dH gG
attribute [local simp] dO fV dM dK dL df
attribute [local simp low] dJ
theorem zq {α : Type} {key : α → Str} {l : List α} (hp : l.Pairwise fun a b => key a < key b) {j : Nat} {x : α} (hx : l[j]? = some x) : dR key l j x := fun y h0 hy => by
 obtain ⟨h1, rfl⟩ := List.getElem?_eq_some_iff.1 hx
 obtain ⟨h2, rfl⟩ := List.getElem?_eq_some_iff.1 hy
 exact (bi _ _).2 (List.pairwise_iff_getElem.1 hp _ _ h2 h1 (by omega))
theorem Dq {l : List Str} (hv : ∀ x ∈ l, aA x) (ha : Go.Lite.Apart l) (h1 : 1 ≤ l.length) (h4 : l.length ≤ 4) : bu (bD l) := by
 have hperm := jW l
 have hap : ((bD l).map norm).Nodup := (hperm.map norm).nodup_iff.2 ha
 have h2 : (bD l).Pairwise fun a b => norm a ≠ norm b := List.pairwise_map.1 hap
 have hpw : (bD l).Pairwise fun a b => norm a < norm b := ((rP l).and h2).imp fun {a b} h => by
  rcases tN (norm a) (norm b) with h3 | h3 | h3
  ·exact (bi _ _).1 h3
  ·exact absurd h3 h.2
  ·exact absurd h3 h.1
 refine ⟨fun j x hx => ⟨hv x (hperm.subset (List.mem_of_getElem? hx)), zq hpw hx⟩, by rw [jS]; exact h1, by rw [jS]; exact h4⟩
theorem um {α : Type} {p q : α → Bool} (h : ∀ x, ¬ (p x = true ∧ q x = true)) : ∀ l : List α, (l.filter p).length + (l.filter q).length ≤ l.length ∧ ((∃ x ∈ l, p x = false ∧ q x = false) → (l.filter p).length + (l.filter q).length + 1 ≤ l.length)
 | [] => ⟨by simp, fun ⟨x, hx, _⟩ => by cases hx⟩
 | x :: l => by
  obtain ⟨h1, h2⟩ := um h l
  have h3 := h x
  rw [List.filter_cons, List.filter_cons]
  cases hp : p x <;> cases hq : q x
  ·simp; exact ⟨by omega, by omega⟩
  ·simp only [Bool.false_eq_true, if_false, if_true, List.length_cons]
   refine ⟨by omega, fun ⟨y, hy, e1, e2⟩ => ?_⟩
   rcases List.mem_cons.1 hy with rfl | hy
   ·rw [hq] at e2; cases e2
   ·have := h2 ⟨y, hy, e1, e2⟩; omega
  ·simp only [Bool.false_eq_true, if_false, if_true, List.length_cons]
   refine ⟨by omega, fun ⟨y, hy, e1, e2⟩ => ?_⟩
   rcases List.mem_cons.1 hy with rfl | hy
   ·rw [hp] at e1; cases e1
   ·have := h2 ⟨y, hy, e1, e2⟩; omega
  ·exact absurd ⟨hp, hq⟩ h3
theorem Bo {l : List PAttr} {n : Str} {vs : List Str} (hl : l.length ≤ 8) (h : ¬ (valsOf l n = [] ∧ 8 ≤ l.length)) : (aY l n vs).length ≤ 8 := by
 obtain ⟨h1, h2⟩ := um (p := fun a : PAttr => dec (bG a.name n)) (q := fun a => dec (bG n a.name)) (fun x hx => bY (dC.1 hx.1) (dC.1 hx.2)) l
 have hm : (if vs = [] then ([] : List PAttr) else [⟨n, vs⟩]).length ≤ 1 := by split <;> simp
 unfold aY
 rw [List.length_append, List.length_append]
 by_cases g : valsOf l n = []
 ·have : ¬ 8 ≤ l.length := fun h3 => h ⟨g, h3⟩
  omega
 ·have : ∃ x ∈ l, dec (bG x.name n) = false ∧ dec (bG n x.name) = false := by
   unfold valsOf at g
   cases hf : bT PAttr.name l n with
   | none => rw [hf] at g; exact absurd rfl g
   | some a =>
    have he : a.name = n := by have := List.find?_some hf; simpa using this
    subst he
    exact ⟨a, List.mem_of_find?_eq_some hf, ai (bC _), ai (bC _)⟩
  have := h2 this
  omega
theorem DZ {l : List PAttr} {n : Str} {vs : List Str} (hl : fH l) (hn : aF n) (hv : bu vs) (h : ¬ (valsOf l n = [] ∧ 8 ≤ l.length)) : fH (aY l n vs) := by
 have hlen := Bo (vs := vs) hl.2 h
 have hp : l.Pairwise fun a b => a.name < b.name := lW (fun j x hx => (hl.1 j x hx).2.1)
 have hne : ¬ vs = [] := fun e => by have := hv.2.1; rw [e] at this; simp at this
 have hin : ∀ a ∈ l, aF a.name ∧ bu a.vals := fun a ha => by
  obtain ⟨j, hj, rfl⟩ := List.getElem_of_mem ha
  have := hl.1 j _ (List.getElem?_eq_getElem hj)
  exact ⟨this.1, this.2.2⟩
 have hpw : (aY l n vs).Pairwise fun a b => a.name < b.name := by
  unfold aY
  rw [if_neg hne, List.append_assoc]
  refine List.pairwise_append.2 ⟨hp.filter _, List.pairwise_append.2 ⟨by simp, hp.filter _, fun a ha b hb => ?_⟩, fun a ha b hb => ?_⟩
  ·rw [List.mem_singleton.1 ha]
   exact (bi _ _).1 (dC.1 (List.mem_filter.1 hb).2)
  ·have h1 := (bi _ _).1 (dC.1 (List.mem_filter.1 ha).2)
   rcases List.mem_append.1 hb with hb | hb
   ·rw [List.mem_singleton.1 hb]; exact h1
   ·exact List.lt_trans h1 ((bi _ _).1 (dC.1 (List.mem_filter.1 hb).2))
 refine ⟨fun j x hx => ?_, hlen⟩
 have hm := List.mem_of_getElem? hx
 have h2 := zq hpw hx
 unfold aY at hm
 rw [if_neg hne] at hm
 rcases List.mem_append.1 hm with hm | hm
 ·rcases List.mem_append.1 hm with hm | hm
  ·have := hin x (List.mem_filter.1 hm).1; exact ⟨this.1, h2, this.2⟩
  ·have e := List.mem_singleton.1 hm
   exact ⟨by rw [e]; exact hn, h2, by rw [e]; exact hv⟩
 ·have := hin x (List.mem_filter.1 hm).1; exact ⟨this.1, h2, this.2⟩
theorem DnOk.cons {r : PRdn} {p : List PRdn} (hr : DnOk [r]) (hp : DnOk p) (h6 : ¬ 6 ≤ p.length) : DnOk (r :: p) := by
 refine ⟨fun j x hx => ?_, by simp; omega⟩
 cases j with
 | zero => cases hx; exact hr.1 0 r rfl
 | succ j => exact hp.1 j x (by simpa using hx)

theorem Kt {c : UInt8} (h : jA c) : gW c ≠ 1 := by
 intro e
 have e2 := congrArg UInt8.toNat e
 unfold gW at e2
 unfold jA at h
 split at e2
 ·rw [UInt8.toNat_add] at e2
  have : (32 : UInt8).toNat = 32 := rfl
  have : (1 : UInt8).toNat = 1 := rfl
  omega
 ·have : (1 : UInt8).toNat = 1 := rfl
  omega
theorem Bv : ∀ (l b : Str), (∀ c ∈ b, c ≠ 1) → (∀ c ∈ l, jA c) → ∀ c ∈ l.foldl aN b, c ≠ 1
 | [], b, hb, _ => hb
 | x :: l, b, hb, hl => by
  refine Bv l _ (fun c hc => ?_) fun c hc => hl c (List.mem_cons_of_mem _ hc)
  unfold aN at hc
  split at hc
  ·exact hb c hc
  ·rcases List.mem_append.1 hc with hc | hc
   ·exact hb c hc
   ·rw [List.mem_singleton.1 hc]; exact Kt (hl x List.mem_cons_self)
theorem I9 {t : Str} : ∀ c ∈ norm t, c ≠ 1 := by
 unfold norm
 split
 ·rename_i h
  have hp : Plain t := dC.1 h.2
  have := Bv t [] (by simp) fun c hc => by
   obtain ⟨j, hj, rfl⟩ := List.getElem_of_mem hc
   exact hp j _ (List.getElem?_eq_getElem hj)
  intro c hc
  unfold kF at hc
  split at hc
  ·exact this c (List.dropLast_subset _ hc)
  ·exact this c hc
 ·simp
theorem Jw {t : Str} (h : aF t) : ∀ c ∈ t, c ≠ 1 := fun c hc e => by
 subst e
 obtain ⟨j, hj, he⟩ := List.getElem_of_mem hc
 have := h.2.2 j _ (List.getElem?_eq_getElem hj)
 rw [he] at this
 have : (1 : UInt8).toNat = 1 := rfl
 unfold mZ mV at *
 omega
theorem vT : ∀ (l : List (Str × Str)) (s : Str), (∀ p ∈ l, ∀ c ∈ p.1, c ≠ 1) → (l.foldl fG s).count 1 = s.count 1 + l.length
 | [], s, _ => by simp
 | p :: l, s, h => by
  rw [List.foldl_cons, vT l _ fun q hq => h q (List.mem_cons_of_mem _ hq)]
  have h1 : p.1.count 1 = 0 := List.count_eq_zero.2 fun hm => h p List.mem_cons_self 1 hm rfl
  have h2 : (norm p.2).count 1 = 0 := List.count_eq_zero.2 fun hm => I9 1 hm rfl
  unfold fG
  rw [List.count_append, List.count_cons, List.count_append, List.count_cons, h1, h2]
  simp
  omega
theorem Jj {a b : List PRdn} (ha : DnOk a) (hb : DnOk b) (h : jk a = jk b) : a.length = b.length := by
 have key : ∀ l : List PRdn, DnOk l → (jk l).count 1 = l.length := fun l hl => by
  unfold jk KC
  rw [vT _ _ fun p hp => ?_]
  ·simp
  ·rw [List.mem_reverse] at hp
   obtain ⟨r, hr, rfl⟩ := List.mem_map.1 hp
   obtain ⟨j, hj, rfl⟩ := List.getElem_of_mem hr
   exact Jw (hl.1 j _ (List.getElem?_eq_getElem hj)).1
 rw [← key a ha, ← key b hb, h]
end Go.Proofs.Try1
end
section
namespace Go.Lite
open Go
def EqBy {α : Type} (p : α → α → Prop) (l m : List α) : Prop := l.length = m.length ∧ ∀ (i : Nat) x y, l[i]? = some x → m[i]? = some y → p x y
theorem EqBy.symm {α : Type} {p : α → α → Prop} (hp : ∀ x y, p x y → p y x) {l m : List α} (h : EqBy p l m) : EqBy p m l := ⟨h.1.symm, fun i x y hx hy => hp _ _ (h.2 i y x hy hx)⟩
def EqUp {α : Type} (p : α → α → Prop) (l m : List α) (i : Nat) : Prop := ∀ (j : Nat) x y, j < i → l[j]? = some x → m[j]? = some y → p x y
theorem EqUp.zero {α : Type} {p : α → α → Prop} {l m : List α} : EqUp p l m 0 := fun j x y h => absurd h (by omega)
theorem EqUp.succ {α : Type} {p : α → α → Prop} {l m : List α} {i : Nat} {x y : α} (h : EqUp p l m i) (hx : l[i]? = some x) (hy : m[i]? = some y) (hp : p x y) : EqUp p l m (i + 1) := fun j a b hj ha hb => by
 by_cases e : j = i
 ·subst e; rw [hx] at ha; rw [hy] at hb; cases ha; cases hb; exact hp
 ·exact h j a b (by omega) ha hb
theorem EqUp.all {α : Type} {p : α → α → Prop} {l m : List α} {n : Nat} (hn : n = l.length) (hl : l.length = m.length) (h : EqUp p l m n) : EqBy p l m := ⟨hl, fun i x y hx hy => h i x y (by have := (List.getElem?_eq_some_iff.1 hx).1; omega) hx hy⟩
theorem EqBy.eq {α : Type} {l m : List α} : EqBy (fun x y => x = y) l m ↔ l = m := ⟨fun h => List.ext_getElem? fun i => by
  cases h1 : l[i]? with
  | none => rw [List.getElem?_eq_none (by have := List.getElem?_eq_none_iff.1 h1; rw [← h.1]; exact this)]
  | some x =>
   have hi := (List.getElem?_eq_some_iff.1 h1).1
   have hi' : i < m.length := by rw [← h.1]; exact hi
   rw [List.getElem?_eq_getElem hi', h.2 i x _ h1 (List.getElem?_eq_getElem hi')], fun h => by subst h; exact ⟨rfl, fun i x y hx hy => by rw [hx] at hy; cases hy; rfl⟩⟩
end Go.Lite
end
section
namespace Go.Proofs.Try1
open Go Go.Lite
attribute [-simp] dH gG
attribute [local simp] dO fV dM dK dL df
attribute [local simp low] dJ
def vO (x y : Str) : Prop := norm x = norm y
def SameA (x y : PAttr) : Prop := x.name = y.name ∧ EqBy vO x.vals y.vals
def SameE (a b : PEntry) : Prop := jk a.dn = jk b.dn ∧ EqBy SameA a.attrs b.attrs
theorem SameA.symm {x y : PAttr} (h : SameA x y) : SameA y x := ⟨h.1.symm, h.2.symm fun _ _ h => h.symm⟩
theorem SameE.symm {x y : PEntry} (h : SameE x y) : SameE y x := ⟨h.1.symm, h.2.symm fun _ _ h => h.symm⟩
theorem y9 {H : List Ob} {v w : V} {l m : List Str} {g : Nat} {a b : List V} (h : AStrs H v l) (h' : AStrs H w m) (p : Str → Str → Prop) (hg : ∀ x y, callW C g (a ++ ([.str x, .str y] ++ b)) H = some (.bool (dec (p x y)), H)) :
  callW C 191 [v, w, .fn g a b] H = some (.bool (dec (EqBy p l m)), H) := by
 apply Ret.dec
 rw [O3]
 have hb : l.length ≤ 9223372036854775807 := h.bound
 have ho := h.one
 have ho' := h'.one
 by_cases hl : l.length = m.length
 rotate_left
 ·have hn : ¬ EqBy p l m := fun h => hl h.1
  have hl' : ¬ (l.length : Int) = m.length := by omega
  simp [yQ, Tryz.f191, h.len, h'.len, ho, ho', hl, hl', hn]
 have hl' : (l.length : Int) = m.length := by omega
 simp [yQ, Tryz.f191, h.len, h'.len, ho, ho', hl, hl']
 refine aH (fun k σ => ∃ (i : Nat) (r : Nat → R), i + k = l.length ∧ σ = ⟨r, 0, H⟩ ∧ r 1 = .val w ∧ r 2 = .val (.fn g a b) ∧ r 15 = .val v ∧ r 16 = .val (.int .i64 l.length) ∧ r 17 = .val (.int .i64 i) ∧ EqUp p l m i) ?_ l.length _ ⟨0, _, by simp, rfl, by simp, by simp, by simp, by simp [hl], by simp, EqUp.zero⟩
 rintro k σ ⟨i, r, hik, rfl, r1, r2, r15, r16, r17, hall⟩
 cases k with
 | zero =>
  have hx : EqBy p l m := hall.all (by omega) hl
  have : ¬ i < l.length := by omega
  simp [r1, r2, r15, r16, r17, hx, this]
 | succ k =>
  have hi : i < l.length := by omega
  obtain ⟨x, hx⟩ : ∃ c, l[i]? = some c := ⟨l[i], by simp [hi]⟩
  obtain ⟨y, hy⟩ : ∃ c, m[i]? = some c := ⟨m[i]'(by omega), by simp⟩
  have hw : IntKind.i64.wrap ((i : Int) + 1) = ((i : Int) + 1) := wrap_i64 (by omega) (by omega)
  obtain ⟨id, o, e1, l0, _⟩ := cZ h hx
  obtain ⟨id', o', e1', l0', _⟩ := cZ h' hy
  have c1 := hg x y
  simp only [List.cons_append, List.nil_append] at c1
  by_cases g1 : p x y
  ·rw [au g1] at c1
   simp [r1, r2, r15, r16, r17, hi, e1, e1', l0, l0', c1, hw]
   exact ⟨k, by omega, i + 1, by omega, by omega, hall.succ hx hy g1⟩
  ·rw [ai g1] at c1
   have hn : ¬ EqBy p l m := fun h => g1 (h.2 i x y hx hy)
   simp [r1, r2, r15, r16, r17, hi, e1, e1', l0, l0', c1, hn]
theorem KR {H : List Ob} {x y : Str} : callW C 192 [.str x, .str y] H = some (.bool (dec (vO x y)), H) := by
 apply Ret.dec
 rw [Om]
 have c1 := fun t => ku (t := t) (H := H)
 by_cases g : norm x = norm y
 ·have : vO x y := g
  simp [zg, Tryz.f192, c1, g, this]
 ·have : ¬ vO x y := g
  simp [zg, Tryz.f192, c1, g, this]
theorem LJ {H : List Ob} {x y : PAttr} {v w : V} (h : AStrs H v x.vals) (h' : AStrs H w y.vals) : callW C 190 [.agg [.str x.name, v], .agg [.str y.name, w]] H = some (.bool (dec (SameA x y)), H) := by
 have ho := h.one
 have ho' := h'.one
 have c1 := y9 (g := 192) (a := []) (b := []) h h' vO (fun x y => KR)
 by_cases g : x.name = y.name
 ·have : SameA x y ↔ EqBy vO x.vals y.vals := ⟨fun h => h.2, fun h => ⟨g, h⟩⟩
  rw [gu this]
  apply Ret.eq
  rw [Mc]
  simp [yM, Tryz.f190, c1, g, ho, ho']
 ·have : ¬ SameA x y := fun h => g h.1
  rw [ai this]
  apply Ret.eq
  rw [Mc]
  simp [yM, Tryz.f190, g, ho, ho']
theorem yu {H : List Ob} {v w : V} {l m : List PAttr} (h : aC H v l) (h' : aC H w m) :
  callW C 189 [v, w, .fn 190 [] []] H = some (.bool (dec (EqBy SameA l m)), H) := by
 apply Ret.dec
 rw [PE]
 have hb : l.length ≤ 9223372036854775807 := h.bound
 have ho := h.one
 have ho' := h'.one
 by_cases hl : l.length = m.length
 rotate_left
 ·have hn : ¬ EqBy SameA l m := fun h => hl h.1
  have hl' : ¬ (l.length : Int) = m.length := by omega
  simp [zo, Tryz.f189, h.len, h'.len, ho, ho', hl, hl', hn]
 have hl' : (l.length : Int) = m.length := by omega
 simp [zo, Tryz.f189, h.len, h'.len, ho, ho', hl, hl']
 refine aH (fun k σ => ∃ (i : Nat) (r : Nat → R) (n : Nat), i + k = l.length ∧ σ = ⟨r, n, H⟩ ∧ r 1 = .val w ∧ r 2 = .val (.fn 190 [] []) ∧ r 15 = .val v ∧ r 16 = .val (.int .i64 l.length) ∧ r 17 = .val (.int .i64 i) ∧ EqUp SameA l m i) ?_ l.length _ ⟨0, _, _, by simp, rfl, by simp, by simp, by simp, by simp [hl], by simp, EqUp.zero⟩
 rintro k σ ⟨i, r, n, hik, rfl, r1, r2, r15, r16, r17, hall⟩
 cases k with
 | zero =>
  have hx : EqBy SameA l m := hall.all (by omega) hl
  have : ¬ i < l.length := by omega
  simp [r1, r2, r15, r16, r17, hx, this]
 | succ k =>
  have hi : i < l.length := by omega
  obtain ⟨x, hx⟩ : ∃ c, l[i]? = some c := ⟨l[i], by simp [hi]⟩
  obtain ⟨y, hy⟩ : ∃ c, m[i]? = some c := ⟨m[i]'(by omega), by simp⟩
  have hw : IntKind.i64.wrap ((i : Int) + 1) = ((i : Int) + 1) := wrap_i64 (by omega) (by omega)
  obtain ⟨id, o, u1, e1, k1, q1, _⟩ := dN h hx
  obtain ⟨id', o', u2, e1', k1', q1', _⟩ := dN h' hy
  have l0 := (k1 H ⟨[], by simp⟩).2.2
  have l0' := (k1' H ⟨[], by simp⟩).2.2
  have o1 := q1.one
  have o1' := q1'.one
  have c1 := LJ (x := x) (y := y) q1 q1'
  by_cases g1 : SameA x y
  ·rw [au g1] at c1
   simp [r1, r2, r15, r16, r17, hi, e1, e1', l0, l0', c1, hw, o1, o1']
   exact ⟨k, by omega, i + 1, by omega, by omega, hall.succ hx hy g1⟩
  ·rw [ai g1] at c1
   have hn : ¬ EqBy SameA l m := fun h => g1 (h.2 i x y hx hy)
   simp [r1, r2, r15, r16, r17, hi, e1, e1', l0, l0', c1, hn, o1, o1']
def SameOk (a b : PEntry) : Prop := EntryOk a ∧ EntryOk b ∧ SameE a b
theorem SameOk.comm {a b : PEntry} : SameOk a b ↔ SameOk b a := ⟨fun h => ⟨h.2.1, h.1, h.2.2.symm⟩, fun h => ⟨h.2.1, h.1, h.2.2.symm⟩⟩
theorem BM {H : List Ob} {v1 v2 w1 w2 : V} {a b : PEntry} (h1 : aX H v1 a.dn) (h2 : aC H v2 a.attrs) (k1 : aX H w1 b.dn) (k2 : aC H w2 b.attrs) (ha : EntryOk a) (hb : EntryOk b) : callW C 96 [.agg [v1, v2], .agg [w1, w2]] H = some (.bool (dec (SameE a b)), H) := by
 have o1 := h1.one
 have o2 := h2.one
 have o3 := k1.one
 have o4 := k2.one
 have c1 := FW h1 k1 ha.2.1 hb.2.1
 have c2 := yu h2 k2
 by_cases g : jk a.dn = jk b.dn
 ·have : SameE a b ↔ EqBy SameA a.attrs b.attrs := ⟨fun h => h.2, fun h => ⟨g, h⟩⟩
  rw [gu this]
  rw [au ⟨Jj ha.2.1 hb.2.1 g, g⟩] at c1
  apply Ret.eq
  rw [NK]
  simp [BR, Tryz.f96, c1, c2, o1, o2, o3, o4]
 ·have : ¬ SameE a b := fun h => g h.1
  rw [ai this]
  rw [ai (fun h => g h.2)] at c1
  apply Ret.eq
  rw [NK]
  simp [BR, Tryz.f96, c1, o1, o2, o3, o4]
theorem su {H : List Ob} {v1 v2 w1 w2 : V} {a b : PEntry} (h1 : aX H v1 a.dn) (h2 : aC H v2 a.attrs) (k1 : aX H w1 b.dn) (k2 : aC H w2 b.attrs) : callW C 15 [.agg [v1, v2], .agg [w1, w2]] H = some (.bool (dec (SameOk a b)), H) := by
 have o1 := h1.one
 have o2 := h2.one
 have o3 := k1.one
 have o4 := k2.one
 have c1 := ql h1 h2
 have c2 := ql k1 k2
 by_cases ga : EntryOk a
 rotate_left
 ·have : ¬ SameOk a b := fun h => ga h.1
  rw [ai this]
  rw [ai ga] at c1
  apply Ret.eq
  rw [Nh]
  simp [zD, Tryz.f15, c1, o1, o2, o3, o4]
 rw [au ga] at c1
 by_cases gb : EntryOk b
 rotate_left
 ·have : ¬ SameOk a b := fun h => gb h.2.1
  rw [ai this]
  rw [ai gb] at c2
  apply Ret.eq
  rw [Nh]
  simp [zD, Tryz.f15, c1, c2, o1, o2, o3, o4]
 rw [au gb] at c2
 have c3 := BM h1 h2 k1 k2 ga gb
 have : SameOk a b ↔ SameE a b := ⟨fun h => h.2.2, fun h => ⟨ga, gb, h⟩⟩
 rw [gu this]
 apply Ret.eq
 rw [Nh]
 simp [zD, Tryz.f15, c1, c2, c3, o1, o2, o3, o4]
theorem Md {H : List Ob} {v1 v2 w1 w2 : V} {a b : PEntry} (h1 : aX H v1 a.dn) (h2 : aC H v2 a.attrs) (k1 : aX H w1 b.dn) (k2 : aC H w2 b.attrs) (ha : EntryOk a) (hb : EntryOk b) : callW C 97 [.agg [v1, v2], .agg [w1, w2]] H = some (.bool (dec (SameE a b)), H) := by
 have o1 := h1.one
 have o2 := h2.one
 have o3 := k1.one
 have o4 := k2.one
 have c1 := L6 h1 ha.2.1
 have c2 := L6 k1 hb.2.1
 have cn := fun t G => iY (t := t) (H := G)
 apply Ret.dec
 rw [Ru]
 by_cases g : jk a.dn = jk b.dn
 rotate_left
 ·have hn : ¬ SameE a b := fun h => g h.1
  simp [yY, Tryz.f97, c1, c2, g, o1, o2, o3, o4, hn, ae, ag, List.lookup]
 by_cases gl : a.attrs.length = b.attrs.length
 rotate_left
 ·have hn : ¬ SameE a b := fun h => gl h.2.1
  have gl' : ¬ (a.attrs.length : Int) = b.attrs.length := by omega
  simp [yY, Tryz.f97, c1, c2, g, gl, gl', h2.len, k2.len, o1, o2, o3, o4, hn, ae, ag, List.lookup]
 have hE : SameE a b ↔ EqBy SameA a.attrs b.attrs := ⟨fun h => h.2, fun h => ⟨g, h⟩⟩
 have hln := h2.bound
 unfold maxLen at hln
 simp [yY, Tryz.f97, c1, c2, g, gl, h2.len, k2.len, o1, o2, o3, o4, ae, ag, List.lookup]
 refine aH (fun k σ => ∃ (i : Nat) (r : Nat → R) (n : Nat) (T : List Ob), i + k = a.attrs.length ∧ σ = ⟨r, n, H ++ T⟩ ∧ r 2 = .box 0 [v1, v2] ∧ r 3 = .box 1 [w1, w2] ∧ r 5 = .val (.int .i64 i) ∧ EqUp SameA a.attrs b.attrs i) ?_ a.attrs.length _ ⟨0, _, _, [], by simp, by rw [List.append_nil], by simp, by simp, by simp, EqUp.zero⟩
 rintro k σ ⟨i, r, n, T, hik, rfl, r2, r3, r5, hall⟩
 cases k with
 | zero =>
  have hx : SameE a b := hE.2 (hall.all (by omega) gl)
  have hi : i = b.attrs.length := by omega
  subst hi
  simp [r2, r3, r5, h2.len, gl, hx, ae, ag, List.lookup]
 | succ k =>
  have hi : i < a.attrs.length := by omega
  have hi' : i < b.attrs.length := by omega
  obtain ⟨x, hx⟩ : ∃ c, a.attrs[i]? = some c := ⟨a.attrs[i], by simp [hi]⟩
  obtain ⟨y, hy⟩ : ∃ c, b.attrs[i]? = some c := ⟨b.attrs[i], by simp [hi']⟩
  have hw : IntKind.i64.wrap ((i : Int) + 1) = ((i : Int) + 1) := wrap_i64 (by omega) (by omega)
  obtain ⟨id, o, u1, e1, l1, q1, _, hidn, _⟩ := dN h2 hx
  obtain ⟨id', o', u2, e1', l1', q1', _, hidn', _⟩ := dN k2 hy
  have l0 := (l1 (H ++ T) ⟨T, rfl⟩).2.2
  have l0' := (l1' (H ++ T) ⟨T, rfl⟩).2.2
  have p1 := q1.one
  have p2 := q1'.one
  have hkp : Keep (H.length + T.length) (H ++ T) (H ++ (T ++ [Ob.mk true 2 [.str [], .slc none 0]])) := by
   rw [← List.append_assoc, ← List.length_append]; exact kV (Nat.le_refl _)
  have hid1 : id < H.length + T.length := by omega
  have hid2 : id' < H.length + T.length := by omega
  have hset : (H ++ (T ++ [Ob.mk true 2 [.str [], .slc none 0]])).set (H.length + T.length) (.mk true 2 [.str y.name, u2]) = H ++ (T ++ [Ob.mk true 2 [.str y.name, u2]]) := by
   rw [← List.append_assoc, ← List.length_append, gY, List.append_assoc]
  have hget : (H ++ (T ++ [Ob.mk true 2 [.str [], .slc none 0]]))[H.length + T.length]? = some (.mk true 2 [.str [], .slc none 0]) := by
   rw [← List.append_assoc, ← List.length_append, get_last]
  have st1 : ∀ T' : LT, T'.many 2 → ∀ r c, storeAt T' ⟨r, c, H ++ (T ++ [Ob.mk true 2 [.str [], .slc none 0]])⟩ (.hp (H.length + T.length) 0) (.agg [.str y.name, u2]) = some ⟨r, c, H ++ (T ++ [Ob.mk true 2 [.str y.name, u2]])⟩ := fun T' hT r c => by
   rw [Dp (o := 0) (l := [.str y.name, u2]) hget (by simp) (by simp) (by simp only [List.all_cons, List.all_nil, p2.1, Bool.and_true]; rfl) T' hT r c, show setRange [.str [], .slc none 0] 0 [.str y.name, u2] = [.str y.name, u2] from rfl, hset]
  have hget2 : (H ++ (T ++ [Ob.mk true 2 [.str y.name, u2]]))[H.length + T.length]? = some (.mk true 2 [.str y.name, u2]) := by
   rw [← List.append_assoc, ← List.length_append, get_last]
  have la : ∀ T' : LT, T'.one → ∀ r c, loadAt T' ⟨r, c, H ++ (T ++ [Ob.mk true 2 [.str y.name, u2]])⟩ (.hp (H.length + T.length) 0) = some (.str y.name) := dF hget2 rfl
  have lb : ∀ T' : LT, T'.one → ∀ r c, loadAt T' ⟨r, c, H ++ (T ++ [Ob.mk true 2 [.str y.name, u2]])⟩ (.hp (H.length + T.length) 1) = some u2 := dF hget2 rfl
  have hstep := fun h => hall.succ hx hy h
  have hnot := fun (h : ¬ SameA x y) (hd : SameE a b) => h (hd.2.2 i x y hx hy)
  by_cases g1 : x.name = y.name
  rotate_left
  ·have hn := hnot fun h => g1 h.1
   simp [r2, r3, r5, hi, hi', h2.len, k2.len, e1, e1', l0, l0', p1, p2, hkp, hid1, hid2, st1, la, lb, g1, hn, ay, ak, aB, St.new, aP, ah, aV, ae, ag, List.lookup]
   exact hn
  by_cases g2 : x.vals.length = y.vals.length
  rotate_left
  ·have hn := hnot fun h => g2 h.2.1
   have g2' : ¬ (x.vals.length : Int) = y.vals.length := by omega
   simp [r2, r3, r5, hi, hi', h2.len, k2.len, e1, e1', l0, l0', p1, p2, hkp, hid1, hid2, st1, la, lb, g1, ay, ak, aB, St.new, aP, ah, aV, ae, ag, List.lookup, q1.len, q1'.len, g2, g2']
   exact hn
  have g2' : (x.vals.length : Int) = y.vals.length := by omega
  have hxb := q1.bound
  unfold maxLen at hxb
  simp [r2, r3, r5, hi, hi', h2.len, k2.len, e1, e1', l0, l0', p1, p2, hkp, hid1, hid2, st1, la, lb, g1, ay, ak, aB, St.new, aP, ah, aV, ae, ag, List.lookup, q1.len, q1'.len, g2, g2']
  refine WP.mono (Q := fun ex σ' => (ex = .exit 2 ∧ SameA x y ∧ ∃ (r : Nat → R) (n : Nat) (T : List Ob), σ' = ⟨r, n, H ++ T⟩ ∧ r 2 = .box 0 [v1, v2] ∧ r 3 = .box 1 [w1, w2] ∧ r 5 = .val (.int .i64 i)) ∨ (ex = .ret ∧ ¬ SameA x y ∧ ∃ (r : Nat → R) (n : Nat) (T : List Ob), σ' = ⟨r, n, H ++ T⟩ ∧ r 4 = .val (.bool false))) ?_ ?_
  ·refine aH (fun k σ => ∃ (j : Nat) (r : Nat → R) (n : Nat), j + k = x.vals.length ∧ σ = ⟨r, n, H ++ (T ++ [Ob.mk true 2 [.str y.name, u2]])⟩ ∧ r 2 = .box 0 [v1, v2] ∧ r 3 = .box 1 [w1, w2] ∧ r 5 = .val (.int .i64 i) ∧ (∃ c, r 6 = .box c [.str y.name, u1]) ∧ r 7 = .val (.ptr (some (H.length + T.length, 0))) ∧ r 8 = .val (.int .i64 j) ∧ EqUp vO x.vals y.vals j) ?_ x.vals.length _ ⟨0, _, _, by simp, rfl, by simp [r2], by simp [r3], by simp [r5], ⟨_, by simp; rfl⟩, by simp, by simp, EqUp.zero⟩
   clear r2 r3 r5 hall hik r n
   rintro k σ ⟨j, r, n, hjk, rfl, r2, r3, r5, ⟨c, r6⟩, r7, r8, hall2⟩
   cases k with
   | zero =>
    have hsA : SameA x y := ⟨g1, hall2.all (by omega) g2⟩
    have hj : j = y.vals.length := by omega
    subst hj
    simp [r2, r3, r5, r6, r7, r8, q1.len, g2, ae, ag, List.lookup]
    exact hsA
   | succ k =>
    have hj : j < x.vals.length := by omega
    have hj' : j < y.vals.length := by omega
    obtain ⟨s, hs⟩ : ∃ c, x.vals[j]? = some c := ⟨x.vals[j], by simp [hj]⟩
    obtain ⟨t, ht⟩ : ∃ c, y.vals[j]? = some c := ⟨y.vals[j], by simp [hj']⟩
    have hw2 : IntKind.i64.wrap ((j : Int) + 1) = ((j : Int) + 1) := wrap_i64 (by omega) (by omega)
    obtain ⟨jd, jo, z1, m1, _, hjd⟩ := qV q1 hs
    obtain ⟨jd', jo', z2, m2, _, hjd'⟩ := qV q1' ht
    have m1' := m1 (H ++ (T ++ [Ob.mk true 2 [.str y.name, u2]])) ⟨_, rfl⟩
    have m2' := m2 (H ++ (T ++ [Ob.mk true 2 [.str y.name, u2]])) ⟨_, rfl⟩
    have b1 : jd' < H.length + (T.length + 1) := by omega
    by_cases g3 : norm s = norm t
    ·simp [r2, r3, r5, r6, r7, r8, q1.len, hj, hj', z1, z2, m1', m2', la, lb, cn, g3, hw2, b1, ae, ag, List.lookup]
     exact ⟨k, by omega, j + 1, by omega, by omega, hall2.succ hs ht g3⟩
    ·have hn : ¬ SameA x y := fun h => g3 (h.2.2 j s t hs ht)
     simp [r2, r3, r5, r6, r7, r8, q1.len, hj, hj', z1, z2, m1', m2', la, lb, cn, g3, hw2, b1, ae, ag, List.lookup]
     exact hn
  ·rintro ex σ' (⟨rfl, hsA, r, n, T, rfl, r2, r3, r5⟩ | ⟨rfl, hnA, r, n, T, rfl, r4⟩)
   ·simp [r2, r3, r5, hw, ae, ag, List.lookup]
    exact ⟨k, by omega, i + 1, by omega, by omega, hstep hsA⟩
   ·have hn := hnot hnA
    simp [r4]
    exact hn
theorem zU {H : List Ob} {v1 v2 w1 w2 : V} {a b : PEntry} (h1 : aX H v1 a.dn) (h2 : aC H v2 a.attrs) (k1 : aX H w1 b.dn) (k2 : aC H w2 b.attrs) : callW C 16 [.agg [v1, v2], .agg [w1, w2]] H = some (.bool (dec (SameOk a b)), H) := by
 have o1 := h1.one
 have o2 := h2.one
 have o3 := k1.one
 have o4 := k2.one
 have c1 := nS h1 h2
 have c2 := nS k1 k2
 by_cases ga : EntryOk a
 rotate_left
 ·have : ¬ SameOk a b := fun h => ga h.1
  rw [ai this]
  rw [ai ga] at c1
  apply Ret.eq
  rw [MW]
  simp [y7, Tryz.f16, c1, o1, o2, o3, o4]
 rw [au ga] at c1
 by_cases gb : EntryOk b
 rotate_left
 ·have : ¬ SameOk a b := fun h => gb h.2.1
  rw [ai this]
  rw [ai gb] at c2
  apply Ret.eq
  rw [MW]
  simp [y7, Tryz.f16, c1, c2, o1, o2, o3, o4]
 rw [au gb] at c2
 have c3 := Md h1 h2 k1 k2 ga gb
 have : SameOk a b ↔ SameE a b := ⟨fun h => h.2.2, fun h => ⟨ga, gb, h⟩⟩
 rw [gu this]
 apply Ret.eq
 rw [MW]
 simp [y7, Tryz.f16, c1, c2, c3, o1, o2, o3, o4]
end Go.Proofs.Try1
end
