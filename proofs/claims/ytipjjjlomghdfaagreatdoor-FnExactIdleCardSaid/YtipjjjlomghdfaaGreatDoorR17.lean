/- Part 17 of the proof of a law: the interpreter, its soundness, and what functions of the program compute over it. Conditions: none but those that each theorem names. -/
import Derived.Test.YtipjjjlomghdfaaGreatDoorR10
import Derived.Test.YtipjjjlomghdfaaGreatDoorR11
import Derived.Test.YtipjjjlomghdfaaGreatDoorR12
import Derived.Test.YtipjjjlomghdfaaGreatDoorR15
import Derived.Test.YtipjjjlomghdfaaGreatDoorR14
import Derived.Sort.AssemblyPlain
import Derived.Test.YtipjjjlomghdfaaGreatDoorR08
import Derived.Test.YtipjjjlomghdfaaGreatDoorR13
import Derived.Test.YtipjjjlomghdfaaGreatDoorR09
import Derived.Test.YtipjjjlomghdfaaGreatDoorR16

set_option linter.all false
set_option maxRecDepth 20000
set_option maxHeartbeats 40000000
section
namespace Go.Proofs.Try1
open Go Go.Lite
attribute [-simp] WP_region WP_cond
attribute [local simp] WP_regionF WP_condF ThenW_some ThenW_none CondW_true CondW_false
attribute [local simp low] CondW_bool
theorem ajv {H : List Ob} {c0 : List V} {u0 : U}  {rV : V} (h0 : At H shWorld c0 u0)
  (hS : wt u0 ≤ 1048576 → ∀ (G : List Ob) (x0 : List V), At G shWorld x0 u0 → ∃ G', callW C 33 [valC shWorld x0] G = some (rV, G') ∧ Le G G')
  (hI : wt u0 ≤ 1048576 → ∀ (G : List Ob) (x0 : List V), At G shWorld x0 u0 → ∃ G', callW C 35 [valC shWorld x0] G = some (rV, G') ∧ Le G G')
  (hR : ∃ n, rV = .bool n) : Ret C 6 [valC shWorld c0] H fun r _ => r = .bool true := by
 obtain ⟨nR, rfl⟩ := hR
 rw [op6]
 obtain ⟨c0_0, c0_1, c0_2, c0_3, c0_4, c0_5, c0_6, c0_7, c0_8, c0_9, c0_10, c0_11, c0_12, c0_13, c0_14, c0_15, c0_16, rfl⟩ := list17 (At.len _ h0 : _ = 17)
 have on0 := ones_all h0
 simp only [List.mem_cons, List.not_mem_nil, or_false, forall_eq_or_imp, forall_eq] at on0
 simp only [valC, List.headD_cons]
 have b0 := amY H [c0_0, c0_1, c0_2, c0_3, c0_4, c0_5, c0_6, c0_7, c0_8, c0_9, c0_10, c0_11, c0_12, c0_13, c0_14, c0_15, c0_16] _ (1048576) h0 (by omega)
 simp only [valC, List.headD_cons] at b0
 by_cases g0 : wt u0 ≤ 1048576
 rotate_left
 ·rw [if_neg g0] at b0
  simp at b0
  simp [aqZ, Tryz.f6, on0, b0]
 rw [if_pos g0] at b0
 have hw0 : wt u0 ≤ 1048576 := by omega
 have p0 : ¬ (((1048576 - wt u0 : Nat) : Int) < 0) := by omega
 obtain ⟨LL0, hLL0⟩ : ∃ n, n = 1048576 - wt u0 := ⟨_, rfl⟩
 rw [← hLL0] at b0 p0
 have q0 : LL0 + wt u0 = 1048576 := by omega
 have L0 : Le H H := Le.refl
 obtain ⟨G1, y0, k1, s1, n1⟩ := toN ajb (h0.Le L0) hw0
 have l1 := s1.len
 have L1 := L0.trans s1
 obtain ⟨y0_0, y0_1, y0_2, y0_3, y0_4, y0_5, y0_6, y0_7, y0_8, y0_9, y0_10, y0_11, y0_12, y0_13, y0_14, y0_15, y0_16, rfl⟩ := list17 (At.len _ n1.at : _ = 17)
 have o1 := ones_all n1.at
 simp only [List.mem_cons, List.not_mem_nil, or_false, forall_eq_or_imp, forall_eq] at o1
 simp only [valC, List.headD_cons] at k1
 obtain ⟨G2, k2, s2⟩ := hS hw0 _ [y0_0, y0_1, y0_2, y0_3, y0_4, y0_5, y0_6, y0_7, y0_8, y0_9, y0_10, y0_11, y0_12, y0_13, y0_14, y0_15, y0_16] (n1.at.Le Le.refl)
 have l2 := s2.len
 have L2 := L1.trans s2
 simp only [valC, List.headD_cons] at k2
 obtain ⟨G3, z0, k3, s3, n3⟩ := toN ajb (h0.Le L2) hw0
 have l3 := s3.len
 have L3 := L2.trans s3
 obtain ⟨z0_0, z0_1, z0_2, z0_3, z0_4, z0_5, z0_6, z0_7, z0_8, z0_9, z0_10, z0_11, z0_12, z0_13, z0_14, z0_15, z0_16, rfl⟩ := list17 (At.len _ n3.at : _ = 17)
 have o3 := ones_all n3.at
 simp only [List.mem_cons, List.not_mem_nil, or_false, forall_eq_or_imp, forall_eq] at o3
 simp only [valC, List.headD_cons] at k3
 obtain ⟨G4, k4, s4⟩ := hI hw0 _ [z0_0, z0_1, z0_2, z0_3, z0_4, z0_5, z0_6, z0_7, z0_8, z0_9, z0_10, z0_11, z0_12, z0_13, z0_14, z0_15, z0_16] (n3.at.Le Le.refl)
 have l4 := s4.len
 have L4 := L3.trans s4
 simp only [valC, List.headD_cons] at k4
 obtain ⟨G5, v0, k5, s5, n5⟩ := toN ajb (h0.Le L4) hw0
 have l5 := s5.len
 have L5 := L4.trans s5
 obtain ⟨v0_0, v0_1, v0_2, v0_3, v0_4, v0_5, v0_6, v0_7, v0_8, v0_9, v0_10, v0_11, v0_12, v0_13, v0_14, v0_15, v0_16, rfl⟩ := list17 (At.len _ n5.at : _ = 17)
 have o5 := ones_all n5.at
 simp only [List.mem_cons, List.not_mem_nil, or_false, forall_eq_or_imp, forall_eq] at o5
 simp only [valC, List.headD_cons] at k5
 have k6 := eqN amZ (n3.at.Le (Le.trans s4 s5)) n5.at
 simp only [valC, List.headD_cons] at k6
 simp at b0
 simp (maxSteps := 2000000) [aqZ, Tryz.f6, on0, b0, p0, k1, o1, k2, k3, o3, k4, k5, o5, k6, regionL_none, regionL_some, List.lookup]
def upC (c : UInt8) : UInt8 := if 97 ≤ c.toNat ∧ c.toNat ≤ 122 then c - 32 else c
def awe (up : Bool) (c : UInt8) : UInt8 := if up = true then upC c else lowC c
def turned (up : Bool) (t : Str) (i : Nat) : Str := (t.take i).map (awe up) ++ t.drop i
end Go.Proofs.Try1
end
section
namespace Go.Proofs.Try1
open Go Go.Lite



theorem TreeOk.small {t : PTree} (h : TreeOk t) : aur t := by
 refine ⟨⟨by have := h.1.2; omega, fun c hc => ?_⟩, by have := h.2.1.1; omega, fun e he => EntryOk.small (TreeOk.dns h e he)⟩
 obtain ⟨j, hj, rfl⟩ := List.getElem_of_mem hc
 have hc := (h.1.1 j _ (List.getElem?_eq_getElem hj)).1
 exact ⟨by have := hc.l1; omega, by have := hc.l2; omega, by have := hc.l3; omega⟩
theorem TOut.new {H : List Ob} {T : List Ob} {t : PTree} {w1 w2 : V} (hn : New H.length (H ++ T).length (H ++ T) shTree [w1, w2] t.u) : ∃ T' q, q = .agg [w1, w2, .slc none 0, .int .i64 0] ∧ gcH H (H ++ T) q = H ++ T' ∧ TOut H ⟨t, [], 0⟩ q (H ++ T') := by
 have h2 : New H.length (H ++ T).length (H ++ T) akC [w1, w2, .slc none 0, .int .i64 0] (PTreeOut.u ⟨t, [], 0⟩) := New.st (News.cons (c1 := [w1, w2]) (m := (H ++ T).length) hn (News.nilS (News.int (by decide) News.nil)) (by simp) (Nat.le_refl _))
 obtain ⟨T', h3, h4⟩ := h2.gcA
 exact ⟨T', _, rfl, h3, T', w1, w2, .slc none 0, rfl, rfl, h4⟩
theorem TOut.ones {H : List Ob} {o : PTreeOut} {q : V} {H' : List Ob} (h : TOut H o q H') : ∃ w1 w2 w3, q = .agg [w1, w2, w3, .int .i64 o.code] ∧ (isOne w1 = true ∧ cellsOf w1 = some [w1]) ∧ (isOne w2 = true ∧ cellsOf w2 = some [w2]) ∧ (isOne w3 = true ∧ cellsOf w3 = some [w3]) := by
 obtain ⟨T, w1, w2, w3, rfl, rfl, h3⟩ := h
 have := At.ones _ h3.at
 simp only [List.all_cons, List.all_nil, Bool.and_true, Bool.and_eq_true] at this
 exact ⟨w1, w2, w3, rfl, ⟨this.1, isOne_cells this.1⟩, ⟨this.2.1, isOne_cells this.2.1⟩, ⟨this.2.2.1, isOne_cells this.2.2.1⟩⟩
theorem TOut.gc {H : List Ob} {o : PTreeOut} {q : V} {H' : List Ob} (h : TOut H o q H') : TOut H o q (gcH H H' q) := by
 obtain ⟨T, w1, w2, w3, rfl, rfl, h3⟩ := h
 obtain ⟨T', h4, h5⟩ := h3.gcA
 exact ⟨T', w1, w2, w3, rfl, h4, h5⟩



end Go.Proofs.Try1
end
section
namespace Go.Proofs.Try1
open Go Go.Lite
attribute [-simp] WP_region WP_cond
attribute [local simp] WP_regionF WP_condF ThenW_some ThenW_none CondW_true CondW_false
attribute [local simp low] CondW_bool

end Go.Proofs.Try1
end
section
namespace Go.Proofs.Try1
open Go Go.Lite
section
variable {l : List PAttr} {n : Str} {vs : List Str} {i : Nat}
end
end Go.Proofs.Try1
end
section
namespace Go.Lite
open Go
def Apart (l : List Str) : Prop := (l.map norm).Nodup
theorem Apart.inj {l : List Str} (h : Apart l) {a b : Str} (ha : a ∈ l) (hb : b ∈ l) (e : norm a = norm b) : a = b := by
 unfold Apart at h
 induction l with
 | nil => cases ha
 | cons x l ih =>
  rw [List.map_cons, List.nodup_cons] at h
  rcases List.mem_cons.1 ha with rfl | ha'
  ·rcases List.mem_cons.1 hb with rfl | hb'
   ·rfl
   ·exact absurd (List.mem_map.2 ⟨b, hb', e.symm⟩) h.1
  ·rcases List.mem_cons.1 hb with rfl | hb'
   ·exact absurd (List.mem_map.2 ⟨a, ha', e⟩) h.1
   ·exact ih h.2 ha' hb'
end Go.Lite
end
section
namespace Go.Proofs.Try1
open Go Go.Lite






theorem TOut.base {H : List Ob} {X : List Ob} {o : PTreeOut} {q : V} {H' : List Ob} (h : TOut (H ++ X) o q H') : TOut H o q (gcH H H' q) := by
 obtain ⟨T, w1, w2, w3, rfl, rfl, h3⟩ := h
 rw [List.append_assoc] at h3 ⊢
 obtain ⟨T', h4, h5⟩ := (h3.wide (b' := H.length) (by simp) (Nat.le_refl _)).gcA
 exact ⟨T', w1, w2, w3, rfl, h4, h5⟩



end Go.Proofs.Try1
end
section
namespace Go.Lite
open Go

end Go.Lite
end
section
namespace Go.Proofs.Try1
open Go Go.Lite
attribute [-simp] WP_region WP_cond
attribute [local simp] WP_regionF WP_condF ThenW_some ThenW_none CondW_true CondW_false
attribute [local simp low] CondW_bool
theorem DnOk.cons {r : PRdn} {p : List PRdn} (hr : DnOk [r]) (hp : DnOk p) (h6 : ¬ 6 ≤ p.length) : DnOk (r :: p) := by
 refine ⟨fun j x hx => ?_, by simp; omega⟩
 cases j with
 | zero => cases hx; exact hr.1 0 r rfl
 | succ j => exact hp.1 j x (by simpa using hx)
end Go.Proofs.Try1
end
section
namespace Go.Proofs.Try1
open Go Go.Lite


end Go.Proofs.Try1
end
section
namespace Go.Proofs.Try1
open Go Go.Lite
attribute [-simp] WP_region WP_cond
attribute [local simp] WP_regionF WP_condF ThenW_some ThenW_none CondW_true CondW_false
attribute [local simp low] CondW_bool




theorem aks {H G : List Ob} {v : V} {l : List Str} (h : AStrs H v l) (hG : ∃ S, G = H ++ S) (d : LD) (b : Nat) (z : List V) : newCells ⟨d, 1, b, z⟩ G v = some (l.map V.str, (l.map V.str).length) := by
 obtain ⟨S, rfl⟩ := hG
 obtain ⟨p, rfl, hc, _⟩ := aju (T := S) h
 simp only [newCells, Nat.mul_one, hc, List.length_map]
theorem ajM {l : List Str} : (l.map V.str).all isOne = true := by
 rw [List.all_eq_true]
 intro x hx
 obtain ⟨s, _, rfl⟩ := List.mem_map.1 hx
 rfl
theorem arE {H : List Ob} {v : V} {l : List Str} {t : Str} (h : AStrs H v l) (ht : t.length ≤ maxLen) (hl : l.length ≤ 1000000) :
  ∃ T w l', callW C 221 [v, .str t] H = some (w, H ++ T) ∧ AStrs (H ++ T) w l' ∧ (∀ x, x ∈ l' ↔ x = t ∨ x ∈ l) ∧ l'.length ≤ l.length + 1 := by
 suffices hs : Ret C 221 [v, .str t] H fun w H' => ∃ T l', H' = H ++ T ∧ AStrs (H ++ T) w l' ∧ (∀ x, x ∈ l' ↔ x = t ∨ x ∈ l) ∧ l'.length ≤ l.length + 1 by
  obtain ⟨q, H', hc, T, l', rfl, hr⟩ := hs
  exact ⟨T, q, l', hc, hr⟩
 rw [awf]
 have hone := h.one
 have hmx := h.max
 simp [apm, Tryz.f221, hone]
 refine WP.mono (Q := fun ex σ' => ∃ (i : Nat) (r : Nat → R), ex = .exit 0 ∧ σ' = ⟨r, 0, H⟩ ∧ r 0 = .val v ∧ r 1 = .val (.str t) ∧ r 5 = .val (.int .i64 i) ∧ i ≤ l.length) ?_ ?_
 ·refine WP_loop (fun k σ => ∃ (i : Nat) (r : Nat → R), i + k = l.length ∧ σ = ⟨r, 0, H⟩ ∧ r 0 = .val v ∧ r 1 = .val (.str t) ∧ r 5 = .val (.int .i64 i)) ?_ l.length _ ⟨0, _, by simp, rfl, by simp, by simp, by simp⟩
  rintro k σ ⟨i, r, hik, rfl, r0, r1, r5⟩
  cases k with
  | zero =>
   have hi : i = l.length := by omega
   subst hi
   simp [r0, r1, r5, h.len, regionL_none, regionL_some, List.lookup]
   exact ⟨l.length, rfl, Nat.le_refl _⟩
  | succ k =>
   have hi : i < l.length := by omega
   obtain ⟨x, hx⟩ : ∃ c, l[i]? = some c := ⟨l[i], by simp [hi]⟩
   have hw : IntKind.i64.wrap ((i : Int) + 1) = ((i : Int) + 1) := wrap_i64 (by omega) (by omega)
   obtain ⟨id, o, e1, l0, _⟩ := strs_idx h hx
   by_cases g : LtS x t
   ·simp [r0, r1, r5, hi, h.len, e1, l0, aiv g, hw, regionL_none, regionL_some, List.lookup]
    exact ⟨k, by omega, i + 1, by omega, by omega⟩
   ·simp [r0, r1, r5, hi, h.len, e1, l0, aiB g, hw, regionL_none, regionL_some, List.lookup]
    exact ⟨i, rfl, by omega⟩
 ·rintro ex σ' ⟨i, r, rfl, rfl, r0, r1, r5, hil⟩
  by_cases gs : ∃ x, l[i]? = some x ∧ x = t
  ·obtain ⟨x, hx, rfl⟩ := gs
   have hi := (List.getElem?_eq_some_iff.1 hx).1
   obtain ⟨id, o, e1, l0, _⟩ := strs_idx h hx
   simp [r0, r1, r5, hi, h.len, e1, l0, hone, regionL_none, regionL_some, List.lookup]
   exact ⟨l, h, fun y => ⟨.inr, fun hh => hh.elim (fun e => e ▸ List.mem_of_getElem? hx) fun z => z⟩, by omega⟩
  obtain ⟨s1, s2, a1, a2, hcase⟩ := h.cut hil
  have n1 := aks a1 (G := H ++ [.mk true 1 []]) ⟨_, rfl⟩
  have R0 : Gs H (H ++ [.mk true 1 []]) (.slc (some (H.length, 0)) 0) (([] : List Str).map V.str) := Gs.init
  obtain ⟨x1, G1, p1, g1⟩ := R0.many (d := .str) (b := 16) (z := [.str []]) (n1 _ _ _) ajM (by simp; unfold maxMade; omega) (by decide) (by decide) rfl
  obtain ⟨x2, G2, p2, g2⟩ := g1.push (x := .str t) (d := .str) (b := 16) (z := [.str []]) rfl (by simp; unfold maxMade; omega) (by decide) (by decide) rfl
  have n2 := aks a2 g2.ext
  obtain ⟨x3, G3, p3, g3⟩ := g2.many (d := .str) (b := 16) (z := [.str []]) (n2 _ _ _) ajM (by simp; unfold maxMade; omega) (by decide) (by decide) rfl
  have hl3 : l.take i ++ [t] ++ l.drop i = l.take i ++ t :: l.drop i := by simp
  have g3' : Gs H G3 x3 ((l.take i ++ t :: l.drop i).map V.str) := by simpa using g3
  have hmem : ∀ y, y ∈ l.take i ++ t :: l.drop i ↔ y = t ∨ y ∈ l := fun y => by
   conv => rhs; rw [← List.take_append_drop i l]
   simp only [List.mem_append, List.mem_cons]
   constructor
   ·rintro (h | h | h)
    ·exact .inr (.inl h)
    ·exact .inl h
    ·exact .inr (.inr h)
   ·rintro (h | h | h)
    ·exact .inr (.inl h)
    ·exact .inl h
    ·exact .inr (.inr h)
  have hat := (g3'.strs (by simp; unfold maxLen; omega) (fun s hs => ((hmem s).1 hs).elim (fun e => e ▸ ht) (hmx s))).1
  obtain ⟨T, rfl⟩ := g3'.ext
  have hgc := g3'.gc
  have o1 := g1.one
  have o2 := g2.one
  have o3 := g3'.one
  obtain ⟨S2, hS2⟩ := g2.ext
  have fin : ∃ l', AStrs (H ++ T) x3 l' ∧ (∀ x, x ∈ l' ↔ x = t ∨ x ∈ l) ∧ l'.length ≤ l.length + 1 := ⟨_, hat, hmem, by simp; omega⟩
  have hng : ¬ (∃ x, l[i]? = some x ∧ x = t) := gs
  have hoA : isOne s1 = true ∧ cellsOf s1 = some [s1] := a1.one
  have hoB : isOne s2 = true ∧ cellsOf s2 = some [s2] := a2.one
  by_cases gi : i < l.length
  ·obtain ⟨x, hx⟩ : ∃ c, l[i]? = some c := ⟨l[i], by simp [gi]⟩
   obtain ⟨id, o, e1, l0, _⟩ := strs_idx h hx
   have hxt : ¬ x = t := fun e => gs ⟨x, hx, e⟩
   rcases hcase with ⟨_, _, _, _, h0⟩ | ⟨ids, off, hv, hs1, hs2, hst⟩
   ·rw [h0] at gi; simp at gi
   have t1 := hst (H ++ [.mk true 1 []]) ⟨_, rfl⟩
   have t2 := hst G2 ⟨S2, hS2⟩
   rw [hv] at r0 h e1
   rw [hs1] at p1
   rw [hs2] at p3
   simp [Sh.size_str] at t1 t2 p1 p2 p3
   simp [r0, r1, r5, gi, hil, h.len, e1, l0, hxt, St.new, elemT, fillL, zerosL, t1, t2, p1, p2, p3, o1, o2, o3, hgc, regionL_none, regionL_some, List.lookup]
   exact fin
  ·have hin : i = l.length := by omega
   rcases hcase with ⟨hv, hs1, hs2, hi0, h0⟩ | ⟨ids, off, hv, hs1, hs2, hst⟩
   ·rw [hv] at r0 h
    rw [hs1] at p1
    rw [hs2] at p3
    subst h0
    have hlen := fun {e s b : Nat} {z : List V} => h.len (e := e) (s := s) (b := b) (z := z)
    simp at p1 p2 p3 hlen
    simp [r0, r1, r5, hi0, hlen, St.new, elemT, fillL, zerosL, p1, p2, p3, o1, o2, o3, hgc, regionL_none, regionL_some, List.lookup]
    simpa using fin
   ·have t1 := hst (H ++ [.mk true 1 []]) ⟨_, rfl⟩
    have t2 := hst G2 ⟨S2, hS2⟩
    rw [hv] at r0 h
    rw [hs1] at p1
    rw [hs2] at p3
    have hlen := fun {e s b : Nat} {z : List V} => h.len (e := e) (s := s) (b := b) (z := z)
    simp [Sh.size_str] at t1 t2 p1 p2 p3 hlen
    simp [r0, r1, r5, gi, hil, hlen, St.new, elemT, fillL, zerosL, t1, t2, p1, p2, p3, o1, o2, o3, hgc, regionL_none, regionL_some, List.lookup]
    exact fin


theorem am9 {f : List PPart} (hl : f.length ≤ 100) : ∀ (d : Nat) (v : V) (i : Nat) (H : List Ob), d ≤ 100 → i ≤ f.length → f.length - i ≤ d → AParts H v (f.drop i) →
  callW C 232 [v] H = some (ahY i (xdep f d i), H) := by
 intro d
 induction d with
 | zero =>
  intro v i H hd hi hfi h
  suffices hs : Ret C 232 [v] H fun q H' => q = ahY i (xdep f 0 i) ∧ H' = H by
   obtain ⟨q, H', hc, rfl, rfl⟩ := hs
   exact hc
  rw [at7]
  have he : f.drop i = [] := by simp; omega
  rw [he] at h
  simp [aj6, Tryz.f232, h.len, ahY, xdep]
 | succ d ih0 =>
 intro v i H hdb hi0 hfi h
 suffices hs : Ret C 232 [v] H fun q H' => q = ahY i (xdep f (d + 1) i) ∧ H' = H by
  obtain ⟨q, H', hc, rfl, rfl⟩ := hs
  exact hc
 rw [at7]
 rcases Nat.lt_or_ge i f.length with hi | g
 rotate_left
 ·have he : f.drop i = [] := by simp; omega
  rw [he] at h
  simp [aj6, Tryz.f232, h.len, ahY, xdep, List.getElem?_eq_none g]
 obtain ⟨x, hx⟩ : ∃ c, f[i]? = some c := ⟨f[i], by simp [hi]⟩
 have ih : ∀ (w : V) (j : Nat) (G : List Ob), i < j → j ≤ f.length → AParts G w (f.drop j) → callW C 232 [w] G = some (ahY j (xdep f d j), G) := fun w j G h1 h2 h3 => ih0 w j G (by omega) h2 (by omega) h3
 obtain ⟨fs, hfs⟩ : ∃ fs, fs = f.drop i := ⟨_, rfl⟩
 have hfl : fs.length = f.length - i := by rw [hfs]; simp
 have hn0 : ¬ fs = [] := by intro h; rw [h] at hfl; simp at hfl; omega
 have hn0' : ¬ (fs.length : Int) = 0 := by omega
 have hx0 : fs[0]? = some x := by rw [hfs, List.getElem?_drop]; exact hx
 rw [← hfs] at h
 obtain ⟨id, o, e1, l0, l1, _, _, w4⟩ := parts_idx h hx0
 have e1' := fun (e s b : Nat) (z : List V) (ty : Nat → LT) => e1 e s b z ty .i64
 have l1' := l1 []
 have l0' := l0 []
 simp only [List.append_nil, Int.natCast_zero] at l1' e1' l0'
 have l0'' : ∀ T : LT, T.one → ∀ r c, loadAt T ⟨r, c, H⟩ (.hp id o) = some (.int .i64 x.op) := fun T hT r c => (l0' T hT r c).1
 have c1 := arH (p := x) (H := H)
 by_cases hok : PartOk x
 rotate_left
 ·rw [dec_neg hok] at c1
  simp [aj6, Tryz.f232, h.len, hn0, hn0', e1', l1', c1, ahY, xdep, hx, dec_neg hok]
 rw [dec_pos hok] at c1
 have c5 := alM (n := x.op) (H := H)
 rw [aoW hok] at c5
 have hmb : x.many ≤ 2 := by unfold PPart.many; split <;> (try split) <;> omega
 have hgoal : ahY i (xdep f (d + 1) i) = ahY i ((frep (xdep f d) x.many (i + 1, 0)).map fun p => (p.1, p.2 + 1)) := by
  show ahY i (match f[i]? with
   | none => none
   | some n => if dec (PartOk n) = true then (frep (xdep f d) n.many (i + 1, 0)).map fun p => (p.1, p.2 + 1) else none) = _
  rw [hx]
  simp only [dec_pos hok, if_true]
 rw [hgoal]
 obtain ⟨mm, hmm⟩ : ∃ mm, mm = x.many := ⟨_, rfl⟩
 rw [← hmm] at hmb c5 ⊢
 simp [aj6, Tryz.f232, h.len, hn0, hn0', e1', l1', l0'', c1, c5]
 refine WP_loop (fun k σ => ∃ (p : Nat × Nat) (r : Nat → R), σ = ⟨r, 0, H⟩ ∧ r 0 = .val v ∧ r 4 = .val (.int .i64 ((p.1 - i : Nat) : Int)) ∧ r 5 = .val (.int .i64 (p.2 : Int)) ∧ r 22 = .val (.int .i64 (mm : Int)) ∧ k ≤ mm ∧ r 23 = .val (.int .i64 ((mm - k : Nat) : Int)) ∧ i < p.1 ∧ p.1 ≤ f.length ∧ p.2 ≤ d ∧ frep (xdep f d) k p = frep (xdep f d) mm (i + 1, 0)) ?_ mm _ ⟨(i + 1, 0), _, rfl, by simp, by simp, by simp, by simp, Nat.le_refl _, by simp, by simp, by simp; omega, by simp, rfl⟩
 rintro k σ ⟨p, r, rfl, r0, r5, r6, r50, hkm, r51, hip, hpl, hpd, hp⟩
 cases k with
 | zero =>
  have e1 : ¬ ((mm - 0 : Nat) : Int) < mm := by omega
  simp only [frep] at hp
  have hw : IntKind.i64.wrap ((p.2 : Int) + 1) = ((p.2 + 1 : Nat) : Int) := by rw [wrap_i64 (by omega) (by omega)]; omega
  simp [r0, r5, r6, r50, r51, ← hp, ahY, hw]
 | succ k =>
  have e1 : ((mm - (k + 1) : Nat) : Int) < mm := by omega
  have hw1 : IntKind.i64.wrap (((mm - (k + 1) : Nat) : Int) + 1) = ((mm - k : Nat) : Int) := by rw [wrap_i64 (by omega) (by omega)]; omega
  obtain ⟨ids, off, own, cells, hv, hcell, hd⟩ := h.drop (k := p.1 - i) (by omega) (by omega)
  have hdj : fs.drop (p.1 - i) = f.drop p.1 := by rw [hfs, List.drop_drop]; congr 1; omega
  rw [hdj] at hd
  have hst : strideIs H ids 3 = true := by simp [strideIs, hcell]
  have hsz : shPart.size = 3 := rfl
  rw [hsz] at hd
  have c2 := ih _ p.1 H hip hpl hd
  have hle : p.1 - i ≤ fs.length := by omega
  cases hsub : xdep f d p.1 with
  | none =>
   rw [hsub] at c2
   simp only [frep, hsub] at hp
   simp only [ahY] at c2
   simp [r0, r5, r6, r50, r51, e1, hv, hst, hle, c2, ← hp, ahY]
  | some q =>
   rw [hsub] at c2
   simp only [frep, hsub] at hp
   simp only [ahY] at c2
   have hq := xdep_some _ _ _ hsub
   have e2 : ¬ ((q.1 - p.1 : Nat) : Int) = 0 := by omega
   have e2' : ¬ (q.1 - p.1 : Nat) = 0 := by omega
   have hw2 : IntKind.i64.wrap (((p.1 - i : Nat) : Int) + ((q.1 - p.1 : Nat) : Int)) = ((q.1 - i : Nat) : Int) := by rw [wrap_i64 (by omega) (by omega)]; omega
   have hmx : maxV [.int .i64 (p.2 : Int), .int .i64 (q.2 : Int)] = some (.int .i64 ((max p.2 q.2 : Nat) : Int)) := by
    simp [maxV]
    omega
   simp [r0, r5, r6, r50, r51, e1, hv, hst, hle, c2, e2, e2', hw1, hw2, hmx]
   exact ⟨k, by omega, q.1, rfl, max p.2 q.2, rfl, by omega, rfl, by omega, by omega, by omega, hp⟩
theorem ajy {v : V} {f : List PPart} {H : List Ob} (h : AParts H v f) : callW C 145 [v] H = some (.bool (dec (ExprOk f)), H) := by
 apply Ret.dec
 rw [axT]
 by_cases g : f.length ≤ 12
 rotate_left
 ·have g' : (12 : Int) < f.length := by omega
  simp [ajE, Tryz.f145, h.len, g']
  exact fun h => g h.1
 have g' : ¬ (12 : Int) < f.length := by omega
 have c1 := am9 (f := f) (by omega) 12 v 0 H (by omega) (by omega) (by omega) h
 rw [expr_ok]
 cases hf : xdep f 12 0 with
 | none =>
  rw [hf] at c1
  simp only [ahY] at c1
  simp [ajE, Tryz.f145, h.len, g', c1]
 | some q =>
  rw [hf] at c1
  simp only [ahY, Nat.sub_zero] at c1
  have hq := xdep_some _ _ _ hf
  have h0 : 0 < q.1 := by omega
  by_cases e : q.1 = f.length
  ·have h1 : 0 < f.length := by omega
   by_cases e5 : q.2 ≤ 5
   ·have e5' : (q.2 : Int) ≤ 5 := by omega
    simp [ajE, Tryz.f145, h.len, g', c1, e, h1, e5']
    exact ⟨g, q.2, by rw [← e], e5⟩
   ·have e5' : ¬ (q.2 : Int) ≤ 5 := by omega
    simp [ajE, Tryz.f145, h.len, g', c1, e, h1, e5']
    intro _ x hx
    rw [hx] at e5
    exact Nat.lt_of_not_le e5
  ·have e' : ¬ (q.1 : Int) = f.length := by omega
   simp [ajE, Tryz.f145, h.len, g', c1, e, e', h0]
   intro _ x hx
   rw [hx] at e
   exact absurd rfl e
def ah7 (x : List PPart) : List Str := x.flatMap fun p => if p.op = 2 then [p.text] else []
theorem akI {x : List PPart} {i : Nat} {p : PPart} (h : x[i]? = some p) : ah7 (x.take (i + 1)) = ah7 (x.take i) ++ if p.op = 2 then [p.text] else [] := by
 unfold ah7
 rw [take_get h, List.flatMap_append]
 simp
theorem anx {x : List PPart} : (ah7 x).length ≤ x.length := by
 induction x with
 | nil => simp [ah7]
 | cons p x ih =>
  unfold ah7 at ih ⊢
  rw [List.flatMap_cons, List.length_append, List.length_cons]
  have h1 : (if p.op = 2 then [p.text] else []).length ≤ 1 := by split <;> simp
  omega
theorem alp {H : List Ob} {v : V} {x : List PPart} (h : AParts H v x) (hl : x.length ≤ 12) :
  ∃ T w l', callW C 134 [v] H = some (w, H ++ T) ∧ AStrs (H ++ T) w l' ∧ (∀ y, y ∈ l' ↔ y ∈ ah7 x) := by
 suffices hs : Ret C 134 [v] H fun w H' => ∃ T l', H' = H ++ T ∧ AStrs (H ++ T) w l' ∧ (∀ y, y ∈ l' ↔ y ∈ ah7 x) by
  obtain ⟨q, H', hc, T, l', rfl, hr⟩ := hs
  exact ⟨T, q, l', hc, hr⟩
 rw [avQ]
 have hone := h.one
 simp [apo, Tryz.f134, St.new, elemT, fillL, zerosL]
 have hinit : AStrs (H ++ [.mk true 1 []]) (.slc (some (H.length, 0)) 0) [] := (Gs.strs (l := []) Gs.init (by simp) (by simp)).1
 refine WP_loop (fun k σ => ∃ (i : Nat) (r : Nat → R) (T : List Ob) (w : V) (ks : List Str), i + k = x.length ∧ σ = ⟨r, 0, H ++ T⟩ ∧ r 0 = .val v ∧ r 3 = .val w ∧ r 4 = .val (.int .i64 i) ∧ AStrs (H ++ T) w ks ∧ (∀ y, y ∈ ks ↔ y ∈ ah7 (x.take i)) ∧ ks.length ≤ i) ?_ x.length _ ⟨0, _, _, _, [], by simp, rfl, by simp, by simp, by simp, hinit, by simp [ah7], by simp⟩
 rintro k σ ⟨i, r, T, w, ks, hik, rfl, r0, r3, r4, hw, hmem, hlen⟩
 have hwo := hw.one
 cases k with
 | zero =>
  have hi : i = x.length := by omega
  subst hi
  rw [List.take_length] at hmem
  obtain ⟨T', hg, hw'⟩ := hw.gc
  simp [r0, r3, r4, h.len, hwo, hg, regionL_none, regionL_some, List.lookup]
  exact ⟨ks, hw', hmem⟩
 | succ k =>
  have hi : i < x.length := by omega
  obtain ⟨p, hp⟩ : ∃ p, x[i]? = some p := ⟨x[i], by simp [hi]⟩
  have hw1 : IntKind.i64.wrap ((i : Int) + 1) = ((i : Int) + 1) := wrap_i64 (by omega) (by omega)
  obtain ⟨id, o, e1, l0, _, ht, _⟩ := parts_idx h hp
  have l0' := l0 T
  have hstep := akI hp
  by_cases g : p.op = 2
  ·obtain ⟨T2, w', ks', c1, hw', hm', hl'⟩ := arE hw ht (by omega)
   have hwo' := hw'.one
   simp [r0, r3, r4, hi, h.len, e1, l0', g, c1, hw1, hwo', regionL_none, regionL_some, List.lookup]
   refine ⟨k, by omega, i + 1, by omega, _, T ++ T2, ⟨rfl, by simp⟩, by simp [r0], w', by simp, by simp, ks', by simpa using hw', fun y => ?_, by omega⟩
   rw [hm' y, hmem y, hstep, if_pos g, List.mem_append, List.mem_singleton, or_comm]
  ·simp [r0, r3, r4, hi, h.len, e1, l0', g, hw1, regionL_none, regionL_some, List.lookup]
   refine ⟨k, by omega, i + 1, by omega, _, T, ⟨rfl, rfl⟩, by simp [r0], w, by simp [r3], by simp, ks, hw, fun y => ?_, by omega⟩
   rw [hmem y, hstep, if_neg g, List.append_nil]
theorem akG {H : List Ob} {v : V} {x : List PPart} (h : AParts H v x) (hl : x.length ≤ 12) :
  ∃ T w l', callW C 149 [v] H = some (w, H ++ T) ∧ AStrs (H ++ T) w l' ∧ (∀ y, y ∈ l' ↔ y ∈ ah7 x) ∧ l'.length ≤ 12 := by
 suffices hs : Ret C 149 [v] H fun w H' => ∃ T l', H' = H ++ T ∧ AStrs (H ++ T) w l' ∧ (∀ y, y ∈ l' ↔ y ∈ ah7 x) ∧ l'.length ≤ 12 by
  obtain ⟨q, H', hc, T, l', rfl, hr⟩ := hs
  exact ⟨T, q, l', hc, hr⟩
 rw [axb]
 have hone := h.one
 simp [apq, Tryz.f149, St.new, elemT, fillL, zerosL, h.len, hone]
 refine WP_loop (fun k σ => ∃ (i n : Nat) (r : Nat → R) (G : List Ob) (w : V), i + k = x.length ∧ σ = ⟨r, n, G⟩ ∧ r 3 = .val w ∧ r 7 = .val v ∧ r 8 = .val (.int .i64 x.length) ∧ r 9 = .val (.int .i64 i) ∧ Gs H G w ((ah7 (x.take i)).map V.str) ∧ ∀ s ∈ ah7 (x.take i), s.length ≤ maxLen) ?_ x.length _ ⟨0, _, _, _, .slc (some (H.length, 0)) 0, by simp, rfl, by simp, by simp, by simp, by simp, by simpa [ah7] using Gs.init, by simp [ah7]⟩
 rintro k σ ⟨i, n, r, G, w, hik, rfl, r3, r7, r8, r9, hG, hms⟩
 obtain ⟨S, hS⟩ := hG.ext
 have hwo := hG.one
 have hle := anx (x := x.take i)
 rw [List.length_take] at hle
 cases k with
 | zero =>
  have hi : i = x.length := by omega
  subst hi
  rw [List.take_length] at hG hle hms
  have hw := (hG.strs (by unfold maxLen; omega) hms).1
  obtain ⟨T, p, m, c1, _, ⟨l', hl', hmem, hll⟩, _⟩ := alL (H := G ++ [.mk true 1 [w]]) (id := G.length) (own := true) (va := w) (l := ah7 x) get_last hw.ext (by omega)
  simp only [hS, List.append_assoc] at hl'
  obtain ⟨T', hg, hat⟩ := hl'.gc
  simp only [List.append_assoc] at c1
  rw [← List.append_assoc, ← hS] at hg
  simp [r3, r7, r8, r9, hwo, St.new, elemT, fillL, zerosL, c1, hg, regionL_none, regionL_some, List.lookup]
  exact ⟨T', by simpa using hg, l', hat, hmem, by omega⟩
 | succ k =>
  have hi : i < x.length := by omega
  obtain ⟨p, hp⟩ : ∃ p, x[i]? = some p := ⟨x[i], by simp [hi]⟩
  have hw1 : IntKind.i64.wrap ((i : Int) + 1) = ((i : Int) + 1) := wrap_i64 (by omega) (by omega)
  obtain ⟨id, o, e1, l0, l3, ht, _⟩ := parts_idx h hp
  have l3' := l3 S
  rw [← hS] at l3'
  have hstep := akI hp
  by_cases g : p.op = 2
  ·rw [if_pos g] at hstep
   obtain ⟨x2, G2, p2, g2⟩ := hG.push (x := .str p.text) (d := .str) (b := 16) (z := [.str []]) rfl (by simp; unfold maxMade; omega) (by decide) (by decide) rfl
   have o2 := g2.one
   simp [r3, r7, r8, r9, hi, e1, l3', hwo, o2, g, St.new, elemT, fillL, zerosL, p2, hw1, regionL_none, regionL_some, List.lookup]
   refine ⟨k, by omega, i + 1, by omega, _, _, _, ⟨rfl, rfl, rfl⟩, x2, by simp, by simp [r7], by simp [r8], by simp, by rw [hstep]; simpa using g2, fun s hs => ?_⟩
   rw [hstep] at hs
   rcases List.mem_append.1 hs with hs | hs
   ·exact hms s hs
   ·rw [List.mem_singleton.1 hs]; exact ht
  ·rw [if_neg g, List.append_nil] at hstep
   simp [r3, r7, r8, r9, hi, e1, l3', hwo, g, St.new, elemT, fillL, zerosL, hw1, regionL_none, regionL_some, List.lookup]
   exact ⟨k, by omega, i + 1, by omega, _, _, _, ⟨rfl, rfl, rfl⟩, w, by simp [r3], by simp [r7], by simp [r8], by simp, by rw [hstep]; exact hG, by rw [hstep]; exact hms⟩
noncomputable def aib (f : List PNode) : List Str := f.flatMap fun n => if dec n.Inner = true then [] else [n.attr]
theorem akE {f : List PNode} {i : Nat} {n : PNode} (h : f[i]? = some n) : aib (f.take (i + 1)) = aib (f.take i) ++ if dec n.Inner = true then [] else [n.attr] := by
 unfold aib
 rw [take_get h, List.flatMap_append]
 simp
theorem anB {f : List PNode} : (aib f).length ≤ f.length := by
 induction f with
 | nil => simp [aib]
 | cons n f ih =>
  unfold aib at ih ⊢
  rw [List.flatMap_cons, List.length_append, List.length_cons]
  have h1 : (if dec n.Inner = true then [] else [n.attr]).length ≤ 1 := by split <;> simp
  omega
theorem am3 {f : List PNode} {g : Nat → Option (Nat × Nat)} (hg : ∀ i q, g i = some q → i < q.1 ∧ ∀ j n, i ≤ j → j < q.1 → f[j]? = some n → NodeOk n) : ∀ k p q, frep g k p = some q → p.1 ≤ q.1 ∧ ∀ j n, p.1 ≤ j → j < q.1 → f[j]? = some n → NodeOk n
 | 0, p, q, h => by cases h; exact ⟨Nat.le_refl _, fun j n h1 h2 => by omega⟩
 | k + 1, p, q, h => by
  unfold frep at h
  cases hq : g p.1 with
  | none => rw [hq] at h; cases h
  | some r =>
   rw [hq] at h
   obtain ⟨e1, e2⟩ := hg _ _ hq
   obtain ⟨f1, f2⟩ := am3 hg k _ q h
   simp only at f1 f2
   refine ⟨by omega, fun j n h1 h2 h3 => ?_⟩
   by_cases hj : j < r.1
   ·exact e2 j n h1 hj h3
   ·exact f2 j n (by omega) h2 h3
theorem ano {f : List PNode} : ∀ d i q, fdep f d i = some q → i < q.1 ∧ ∀ j n, i ≤ j → j < q.1 → f[j]? = some n → NodeOk n
 | 0, i, q, h => by cases h
 | d + 1, i, q, h => by
  unfold fdep at h
  cases hn : f[i]? with
  | none => rw [hn] at h; cases h
  | some x =>
   rw [hn] at h
   simp only at h
   split at h
   ·rename_i hok
    cases hr : frep (fdep f d) x.many.toNat (i + 1, 0) with
    | none => rw [hr] at h; cases h
    | some r =>
     rw [hr] at h
     cases h
     obtain ⟨e1, e2⟩ := am3 (f := f) (fun i q h => ano d i q h) _ _ _ hr
     simp only at e1 e2
     refine ⟨by simp only; omega, fun j n h1 h2 h3 => ?_⟩
     by_cases hj : j = i
     ·subst hj
      rw [hn] at h3
      cases h3
      exact dec_true.1 hok
     ·exact e2 j n (by omega) h2 h3
   ·cases h
theorem FilterOk.nodes {f : List PNode} (h : FilterOk f) : ∀ n ∈ f, NodeOk n := fun n hn => by
 obtain ⟨_, x, hx⟩ := h
 obtain ⟨j, hj, rfl⟩ := List.getElem_of_mem hn
 exact (ano _ _ _ hx).2 j _ (Nat.zero_le _) hj (List.getElem?_eq_getElem hj)
theorem ar5 {n : PNode} (h : NodeOk n) : 3 < n.op ↔ ¬ n.Inner := by
 unfold PNode.Inner
 rcases h with ⟨a, _⟩ | ⟨a, _⟩ | ⟨a, _⟩
 ·unfold PNode.Inner at a; omega
 ·omega
 ·omega
theorem alS {H : List Ob} {v : V} {f : List PNode} (h : ANodes H v f) (hok : FilterOk f) :
  ∃ T w l', callW C 148 [v] H = some (w, H ++ T) ∧ AStrs (H ++ T) w l' ∧ (∀ y, y ∈ l' ↔ y ∈ aib f) ∧ l'.length ≤ 20 := by
 suffices hs : Ret C 148 [v] H fun w H' => ∃ T l', H' = H ++ T ∧ AStrs (H ++ T) w l' ∧ (∀ y, y ∈ l' ↔ y ∈ aib f) ∧ l'.length ≤ 20 by
  obtain ⟨q, H', hc, T, l', rfl, hr⟩ := hs
  exact ⟨T, q, l', hc, hr⟩
 rw [avk]
 have hone := h.one
 have hl := hok.1
 simp [aoE, Tryz.f148, St.new, elemT, fillL, zerosL, h.len, hone]
 refine WP_loop (fun k σ => ∃ (i n : Nat) (r : Nat → R) (G : List Ob) (w : V), i + k = f.length ∧ σ = ⟨r, n, G⟩ ∧ r 3 = .val w ∧ r 7 = .val v ∧ r 8 = .val (.int .i64 f.length) ∧ r 9 = .val (.int .i64 i) ∧ Gs H G w ((aib (f.take i)).map V.str) ∧ ∀ s ∈ aib (f.take i), s.length ≤ maxLen) ?_ f.length _ ⟨0, _, _, _, .slc (some (H.length, 0)) 0, by simp, rfl, by simp, by simp, by simp, by simp, by simpa [aib] using Gs.init, by simp [aib]⟩
 rintro k σ ⟨i, n, r, G, w, hik, rfl, r3, r7, r8, r9, hG, hms⟩
 obtain ⟨S, hS⟩ := hG.ext
 have hwo := hG.one
 have hle := anB (f := f.take i)
 rw [List.length_take] at hle
 cases k with
 | zero =>
  have hi : i = f.length := by omega
  subst hi
  rw [List.take_length] at hG hle hms
  have hw := (hG.strs (by unfold maxLen; omega) hms).1
  obtain ⟨T, p, m, c1, _, ⟨l', hl', hmem, hll⟩, _⟩ := alL (H := G ++ [.mk true 1 [w]]) (id := G.length) (own := true) (va := w) (l := aib f) get_last hw.ext (by omega)
  simp only [hS, List.append_assoc] at hl'
  obtain ⟨T', hg, hat⟩ := hl'.gc
  simp only [List.append_assoc] at c1
  rw [← List.append_assoc, ← hS] at hg
  simp [r3, r7, r8, r9, hwo, St.new, elemT, fillL, zerosL, c1, hg, regionL_none, regionL_some, List.lookup]
  exact ⟨T', by simpa using hg, l', hat, hmem, by omega⟩
 | succ k =>
  have hi : i < f.length := by omega
  obtain ⟨p, hp⟩ : ∃ p, f[i]? = some p := ⟨f[i], by simp [hi]⟩
  have hw1 : IntKind.i64.wrap ((i : Int) + 1) = ((i : Int) + 1) := wrap_i64 (by omega) (by omega)
  obtain ⟨id, o, e1, l0, l3, ht, _⟩ := nodes_idx h hp
  have l3' := l3 S
  rw [← hS] at l3'
  have hstep := akE hp
  have hgt := ar5 (FilterOk.nodes hok p (List.mem_of_getElem? hp))
  by_cases g : p.Inner
  ·have g' : ¬ 3 < p.op := fun hh => hgt.1 hh g
   rw [dec_pos g, if_pos rfl, List.append_nil] at hstep
   simp [r3, r7, r8, r9, hi, e1, l3', hwo, g', St.new, elemT, fillL, zerosL, hw1, regionL_none, regionL_some, List.lookup]
   exact ⟨k, by omega, i + 1, by omega, _, _, _, ⟨rfl, rfl, rfl⟩, w, by simp [r3], by simp [r7], by simp [r8], by simp, by rw [hstep]; exact hG, by rw [hstep]; exact hms⟩
  ·have g' : 3 < p.op := hgt.2 g
   rw [dec_neg g] at hstep
   simp only [Bool.false_eq_true, if_false] at hstep
   obtain ⟨x2, G2, p2, g2⟩ := hG.push (x := .str p.attr) (d := .str) (b := 16) (z := [.str []]) rfl (by simp; unfold maxMade; omega) (by decide) (by decide) rfl
   have o2 := g2.one
   simp [r3, r7, r8, r9, hi, e1, l3', hwo, o2, g', St.new, elemT, fillL, zerosL, p2, hw1, regionL_none, regionL_some, List.lookup]
   refine ⟨k, by omega, i + 1, by omega, _, _, _, ⟨rfl, rfl, rfl⟩, x2, by simp, by simp [r7], by simp [r8], by simp, by rw [hstep]; simpa using g2, fun s hs => ?_⟩
   rw [hstep] at hs
   rcases List.mem_append.1 hs with hs | hs
   ·exact hms s hs
   ·rw [List.mem_singleton.1 hs]; exact ht
theorem alP {H : List Ob} {v : V} {f : List PNode} (h : ANodes H v f) (hok : FilterOk f) :
  ∃ T w l', callW C 133 [v] H = some (w, H ++ T) ∧ AStrs (H ++ T) w l' ∧ (∀ y, y ∈ l' ↔ y ∈ aib f) := by
 suffices hs : Ret C 133 [v] H fun w H' => ∃ T l', H' = H ++ T ∧ AStrs (H ++ T) w l' ∧ (∀ y, y ∈ l' ↔ y ∈ aib f) by
  obtain ⟨q, H', hc, T, l', rfl, hr⟩ := hs
  exact ⟨T, q, l', hc, hr⟩
 rw [axI]
 have hone := h.one
 have hl := hok.1
 have hl4 : ¬ (400 : Int) < f.length := by omega
 have c0 := ajU (h.ext (T := [.mk true 1 []]))
 rw [dec_pos hok] at c0
 simp [aoV, Tryz.f133, St.new, elemT, fillL, zerosL, h.len, hone, hl4, c0]
 have hinit : AStrs (H ++ [.mk true 1 []]) (.slc (some (H.length, 0)) 0) [] := (Gs.strs (l := []) Gs.init (by simp) (by simp)).1
 refine WP_loop (fun k σ => ∃ (i : Nat) (r : Nat → R) (T : List Ob) (w : V) (ks : List Str), i + k = f.length ∧ σ = ⟨r, 0, H ++ T⟩ ∧ r 0 = .val v ∧ r 3 = .val w ∧ r 4 = .val (.int .i64 i) ∧ AStrs (H ++ T) w ks ∧ (∀ y, y ∈ ks ↔ y ∈ aib (f.take i)) ∧ ks.length ≤ i) ?_ f.length _ ⟨0, _, _, _, [], by simp, rfl, by simp, by simp, by simp, hinit, by simp [aib], by simp⟩
 rintro k σ ⟨i, r, T, w, ks, hik, rfl, r0, r3, r4, hw, hmem, hlen⟩
 have hwo := hw.one
 have hfT : ANodes (H ++ T) v f := h.ext
 cases k with
 | zero =>
  have hi : i = f.length := by omega
  subst hi
  rw [List.take_length] at hmem
  obtain ⟨T', hg, hw'⟩ := hw.gc
  simp [r0, r3, r4, h.len, hwo, hg, regionL_none, regionL_some, List.lookup]
  exact ⟨ks, hw', hmem⟩
 | succ k =>
  have hi : i < f.length := by omega
  obtain ⟨p, hp⟩ : ∃ p, f[i]? = some p := ⟨f[i], by simp [hi]⟩
  have hw1 : IntKind.i64.wrap ((i : Int) + 1) = ((i : Int) + 1) := wrap_i64 (by omega) (by omega)
  obtain ⟨id, o, e1, l0, l3, ht, _⟩ := nodes_idx h hp
  have hidn : id < H.length := by
   obtain ⟨id2, o2, ow2, cl2, f1, f2, _, _⟩ := ASl.idx h hp (by decide)
   have t1 := e1 0 0 0 [] (fun _ => ⟨.str, 4, 0, []⟩) .i64 rfl
   have t2 := f1 0 0 0 [] (fun _ => ⟨.str, 4, 0, []⟩) .i64 rfl
   rw [t1] at t2
   cases t2
   exact (List.getElem?_eq_some_iff.1 f2).1
  have l0' := l0 T
  have l3' := l3 T
  have cI := asT (n := p) (H := H ++ T)
  have hstep := akE hp
  by_cases g : p.Inner
  ·rw [dec_pos g] at cI
   rw [dec_pos g, if_pos rfl, List.append_nil] at hstep
   simp [r0, r3, r4, hi, h.len, e1, l3', cI, hw1, regionL_none, regionL_some, List.lookup]
   exact ⟨k, by omega, i + 1, by omega, _, T, ⟨rfl, rfl⟩, by simp [r0], w, by simp [r3], by simp, ks, hw, by rw [hstep]; exact hmem, by omega⟩
  rw [dec_neg g] at cI hstep
  simp only [Bool.false_eq_true, if_false] at hstep
  simp [r0, r3, r4, hi, h.len, e1, l3', cI, regionL_none, regionL_some, List.lookup]
  have hmx := hw.max
  refine WP.mono (Q := fun ex σ' => ∃ (m : Nat) (r : Nat → R), ex = .exit 2 ∧ σ' = ⟨r, 0, H ++ T⟩ ∧ r 0 = .val v ∧ r 3 = .val w ∧ r 4 = .val (.int .i64 i) ∧ r 5 = .val (.int .i64 m) ∧ m ≤ ks.length) ?_ ?_
  ·refine WP_loop (fun k σ => ∃ (m : Nat) (r : Nat → R), m + k = ks.length ∧ σ = ⟨r, 0, H ++ T⟩ ∧ r 0 = .val v ∧ r 3 = .val w ∧ r 4 = .val (.int .i64 i) ∧ r 5 = .val (.int .i64 m)) ?_ ks.length _ ⟨0, _, by simp, rfl, by simp [r0], by simp [r3], by simp [r4], by simp⟩
   clear r0 r3 r4 r
   rintro k σ ⟨m, r, hmk, rfl, r0, r3, r4, r5⟩
   cases k with
   | zero =>
    have hm : m = ks.length := by omega
    subst hm
    simp [r0, r3, r4, r5, hw.len, regionL_none, regionL_some, List.lookup]
    exact ⟨ks.length, rfl, Nat.le_refl _⟩
   | succ k =>
    have hm : m < ks.length := by omega
    obtain ⟨x, hx⟩ : ∃ c, ks[m]? = some c := ⟨ks[m], by simp [hm]⟩
    have hw2 : IntKind.i64.wrap ((m : Int) + 1) = ((m : Int) + 1) := wrap_i64 (by omega) (by omega)
    obtain ⟨id2, o2, f1, f0, _⟩ := strs_idx hw hx
    by_cases g : LtS x p.attr
    ·simp [r0, r3, r4, r5, hi, hm, hw.len, e1, l0', f1, f0, aiv g, hw2, regionL_none, regionL_some, List.lookup]
     exact ⟨k, by omega, m + 1, by omega, by omega⟩
    ·simp [r0, r3, r4, r5, hi, hm, hw.len, e1, l0', f1, f0, aiB g, hw2, regionL_none, regionL_some, List.lookup]
     exact ⟨m, rfl, by omega⟩
  ·clear r0 r3 r4 r
   rintro ex σ' ⟨m, r, rfl, rfl, r0, r3, r4, r5, hml⟩
   by_cases gs : ∃ x, ks[m]? = some x ∧ x = p.attr
   ·obtain ⟨x, hx, hxp⟩ := gs
    have hm := (List.getElem?_eq_some_iff.1 hx).1
    obtain ⟨id2, o2, f1, f0, _⟩ := strs_idx hw hx
    simp [r0, r3, r4, r5, hi, hm, hw.len, e1, l0', f1, f0, hxp, hw1, regionL_none, regionL_some, List.lookup]
    refine ⟨k, by omega, i + 1, by omega, _, T, ⟨rfl, rfl⟩, by simp [r0], w, by simp [r3], by simp, ks, hw, fun y => ?_, by omega⟩
    rw [hstep, List.mem_append, List.mem_singleton, ← hmem y]
    exact ⟨.inl, fun hh => hh.elim (fun z => z) fun e => by rw [e, ← hxp]; exact List.mem_of_getElem? hx⟩
   obtain ⟨s1, s2, a1, a2, hcase⟩ := hw.cut hml
   have n1 := aks a1 (G := H ++ T ++ [.mk true 1 []]) ⟨_, rfl⟩
   have R0 : Gs (H ++ T) (H ++ T ++ [.mk true 1 []]) (.slc (some ((H ++ T).length, 0)) 0) (([] : List Str).map V.str) := Gs.init
   obtain ⟨x1, G1, p1, g1⟩ := R0.many (d := .str) (b := 16) (z := [.str []]) (n1 _ _ _) ajM (by simp; unfold maxMade; omega) (by decide) (by decide) rfl
   obtain ⟨x2, G2, p2, g2⟩ := g1.push (x := .str p.attr) (d := .str) (b := 16) (z := [.str []]) rfl (by simp; unfold maxMade; omega) (by decide) (by decide) rfl
   have n2 := aks a2 g2.ext
   obtain ⟨x3, G3, p3, g3⟩ := g2.many (d := .str) (b := 16) (z := [.str []]) (n2 _ _ _) ajM (by simp; unfold maxMade; omega) (by decide) (by decide) rfl
   have g3' : Gs (H ++ T) G3 x3 ((ks.take m ++ p.attr :: ks.drop m).map V.str) := by simpa using g3
   have hmem2 : ∀ y, y ∈ ks.take m ++ p.attr :: ks.drop m ↔ y ∈ aib (f.take (i + 1)) := fun y => by
    rw [hstep, List.mem_append (s := aib _), List.mem_singleton, ← hmem y]
    conv => rhs; rw [← List.take_append_drop m ks]
    simp only [List.mem_append, List.mem_cons]
    constructor
    ·rintro (h | h | h)
     ·exact .inl (.inl h)
     ·exact .inr h
     ·exact .inl (.inr h)
    ·rintro ((h | h) | h)
     ·exact .inl h
     ·exact .inr (.inr h)
     ·exact .inr (.inl h)
   have hat := (g3'.strs (by simp; unfold maxLen; omega) (fun s hs => by
    rcases List.mem_append.1 hs with hs | hs
    ·exact hmx s (List.mem_of_mem_take hs)
    ·rcases List.mem_cons.1 hs with rfl | hs
     ·exact ht
     ·exact hmx s (List.mem_of_mem_drop hs))).1
   obtain ⟨S1, hS1⟩ := g1.ext
   obtain ⟨S2, hS2⟩ := g2.ext
   obtain ⟨S3, hS3⟩ := g3'.ext
   have l1a : ∀ T : LT, T.one → ∀ r c, loadAt T ⟨r, c, G1⟩ (.hp id (o + 1)) = some (.str p.attr) := fun TT hT r c => by
    rw [hS1, List.append_assoc]; exact (l0 _ TT hT r c).2.1
   have o1 := g1.one
   have o2 := g2.one
   have o3 := g3'.one
   have hoA : isOne s1 = true ∧ cellsOf s1 = some [s1] := a1.one
   have hoB : isOne s2 = true ∧ cellsOf s2 = some [s2] := a2.one
   have fin : ∃ (T' : List Ob), G3 = H ++ T' ∧ AStrs (H ++ T') x3 (ks.take m ++ p.attr :: ks.drop m) := ⟨T ++ S3, by rw [hS3, List.append_assoc], by rw [← List.append_assoc, ← hS3]; exact hat⟩
   obtain ⟨T', hT', hat'⟩ := fin
   have hfin : (ks.take m ++ p.attr :: ks.drop m).length ≤ i + 1 := by simp; omega
   by_cases gi : m < ks.length
   ·obtain ⟨x, hx⟩ : ∃ c, ks[m]? = some c := ⟨ks[m], by simp [gi]⟩
    obtain ⟨id2, o2', f1, f0, _⟩ := strs_idx hw hx
    have hxt : ¬ x = p.attr := fun e => gs ⟨x, hx, e⟩
    rcases hcase with ⟨_, _, _, _, h0⟩ | ⟨ids, off, hv, hs1, hs2, hst⟩
    ·rw [h0] at gi; simp at gi
    have t1 := hst (H ++ T ++ [.mk true 1 []]) ⟨_, rfl⟩
    have t2 := hst G2 ⟨S2, hS2⟩
    rw [hv] at r3 f1
    have hwl := fun {e s b : Nat} {z : List V} => hw.len (e := e) (s := s) (b := b) (z := z)
    rw [hv] at hwl
    rw [hs1] at p1
    rw [hs2] at p3
    simp [Sh.size_str] at t1 t2 p1 p2 p3 hwl
    simp [r0, r3, r4, r5, hi, gi, hml, hwl, e1, l0', l1a, f1, f0, hxt, St.new, elemT, fillL, zerosL, t1, t2, p1, p2, p3, o1, o2, o3, hw1, regionL_none, regionL_some, List.lookup]
    exact ⟨k, by omega, i + 1, by omega, _, T', ⟨rfl, hT'⟩, by simp [r0], x3, by simp, by simp, _, hat', hmem2, hfin⟩
   ·have hin : m = ks.length := by omega
    rcases hcase with ⟨hv, hs1, hs2, hi0, h0⟩ | ⟨ids, off, hv, hs1, hs2, hst⟩
    ·rw [hv] at r3
     have hwl := fun {e s b : Nat} {z : List V} => hw.len (e := e) (s := s) (b := b) (z := z)
     rw [hv] at hwl
     rw [hs1] at p1
     rw [hs2] at p3
     subst h0
     simp at p1 p2 p3 hwl
     simp [r0, r3, r4, r5, hi, hi0, hwl, e1, l0', l1a, St.new, elemT, fillL, zerosL, p1, p2, p3, o1, o2, o3, hw1, regionL_none, regionL_some, List.lookup]
     exact ⟨k, by omega, i + 1, by omega, _, T', ⟨rfl, hT'⟩, by simp [r0], x3, by simp, by simp, _, hat', hmem2, hfin⟩
    ·have t1 := hst (H ++ T ++ [.mk true 1 []]) ⟨_, rfl⟩
     have t2 := hst G2 ⟨S2, hS2⟩
     rw [hv] at r3
     have hwl := fun {e s b : Nat} {z : List V} => hw.len (e := e) (s := s) (b := b) (z := z)
     rw [hv] at hwl
     rw [hs1] at p1
     rw [hs2] at p3
     simp [Sh.size_str] at t1 t2 p1 p2 p3 hwl
     simp [r0, r3, r4, r5, hi, gi, hml, hwl, e1, l0', l1a, St.new, elemT, fillL, zerosL, t1, t2, p1, p2, p3, o1, o2, o3, hw1, regionL_none, regionL_some, List.lookup]
     exact ⟨k, by omega, i + 1, by omega, _, T', ⟨rfl, hT'⟩, by simp [r0], x3, by simp, by simp, _, hat', hmem2, hfin⟩
def ah4 : Str := [112, 104, 111, 110, 101]
def aia (f : PFlow) : Prop := DnOk f.base ∧ FilterOk f.filter ∧ ExprOk f.login ∧ ExprOk f.mail ∧ ExprOk f.phone ∧ (f.back = true → ah4 ∉ aib f.filter ∧ ah4 ∉ ah7 f.login ∧ ah4 ∉ ah7 f.mail)
theorem anc {H : List Ob} {vb vf vl vm vp : V} {f : PFlow} (h1 : ARdns H vb f.base) (h2 : ANodes H vf f.filter) (h3 : AParts H vl f.login) (h4 : AParts H vm f.mail) (h5 : AParts H vp f.phone) :
  callW C 58 [.agg [vb, vf, vl, vm, vp, .bool f.back]] H = some (.bool (dec (aia f)), H) := by
 apply Ret.dec
 rw [aBW]
 have o1 := h1.one
 have o2 := h2.one
 have o3 := h3.one
 have o4 := h4.one
 have o5 := h5.one
 have c1 := arn h1
 have c2 := ajU h2
 have c3 := ajA h3
 have c4 := ajA h4
 have c5 := ajA h5
 by_cases g1 : DnOk f.base
 rotate_left
 ·have hn : ¬ aia f := fun h => g1 h.1
  rw [dec_neg g1] at c1
  simp [aiU, Tryz.f58, o1, o2, o3, o4, o5, c1, c2, c3, c4, c5, hn, fillL, zerosL, regionL_none, regionL_some, List.lookup]
 rw [dec_pos g1] at c1
 by_cases g2 : FilterOk f.filter
 rotate_left
 ·have hn : ¬ aia f := fun h => g2 h.2.1
  rw [dec_neg g2] at c2
  simp [aiU, Tryz.f58, o1, o2, o3, o4, o5, c1, c2, c3, c4, c5, hn, fillL, zerosL, regionL_none, regionL_some, List.lookup]
 rw [dec_pos g2] at c2
 by_cases g3 : ExprOk f.login
 rotate_left
 ·have hn : ¬ aia f := fun h => g3 h.2.2.1
  rw [dec_neg g3] at c3
  simp [aiU, Tryz.f58, o1, o2, o3, o4, o5, c1, c2, c3, c4, c5, hn, fillL, zerosL, regionL_none, regionL_some, List.lookup]
 rw [dec_pos g3] at c3
 by_cases g4 : ExprOk f.mail
 rotate_left
 ·have hn : ¬ aia f := fun h => g4 h.2.2.2.1
  rw [dec_neg g4] at c4
  simp [aiU, Tryz.f58, o1, o2, o3, o4, o5, c1, c2, c3, c4, c5, hn, fillL, zerosL, regionL_none, regionL_some, List.lookup]
 rw [dec_pos g4] at c4
 by_cases g5 : ExprOk f.phone
 rotate_left
 ·have hn : ¬ aia f := fun h => g5 h.2.2.2.2.1
  rw [dec_neg g5] at c5
  simp [aiU, Tryz.f58, o1, o2, o3, o4, o5, c1, c2, c3, c4, c5, hn, fillL, zerosL, regionL_none, regionL_some, List.lookup]
 rw [dec_pos g5] at c5
 cases gb : f.back with
 | false =>
  have hy : aia f := ⟨g1, g2, g3, g4, g5, fun h => by rw [gb] at h; cases h⟩
  simp [aiU, Tryz.f58, o1, o2, o3, o4, o5, c1, c2, c3, c4, c5, hy, fillL, zerosL, regionL_none, regionL_some, List.lookup]
 | true =>
 obtain ⟨T1, w1, l1, d1, a1, m1⟩ := alP h2 g2
 obtain ⟨K1, hK1⟩ : ∃ K, K = H ++ T1 := ⟨_, rfl⟩
 rw [← hK1] at d1 a1
 have e1 := ajV (t := ah4) a1
 have o6 := a1.one
 obtain ⟨T2, w2, l2, d2, a2, m2⟩ := alp (H := K1) (by rw [hK1]; exact h3.ext) g3.1
 obtain ⟨K2, hK2⟩ : ∃ K, K = K1 ++ T2 := ⟨_, rfl⟩
 rw [← hK2] at d2 a2
 have e2 := ajV (t := ah4) a2
 have o7 := a2.one
 obtain ⟨T3, w3, l3, d3, a3, m3⟩ := alp (H := K2) (by rw [hK2, hK1]; exact h4.ext.ext) g4.1
 obtain ⟨K3, hK3⟩ : ∃ K, K = K2 ++ T3 := ⟨_, rfl⟩
 rw [← hK3] at d3 a3
 have e3 := ajV (t := ah4) a3
 have o8 := a3.one
 have b1 : ∀ t, gcH H K1 (.bool t) = H := fun t => by rw [hK1, gcH_bool]
 have b2 : ∀ t, gcH H K2 (.bool t) = H := fun t => by rw [hK2, hK1, List.append_assoc, gcH_bool]
 have b3 : ∀ t, gcH H K3 (.bool t) = H := fun t => by rw [hK3, hK2, hK1, List.append_assoc, List.append_assoc, gcH_bool]
 by_cases q1 : ah4 ∈ aib f.filter
 ·have hn : ¬ aia f := fun h => (h.2.2.2.2.2 gb).1 q1
  rw [dec_pos ((m1 _).2 q1)] at e1
  simp only [ah4] at e1
  simp [aiU, Tryz.f58, o1, o2, o3, o4, o5, c1, c2, c3, c4, c5, d1, e1, o6, b1, hn, fillL, zerosL, regionL_none, regionL_some, List.lookup]
 rw [dec_neg (fun h => q1 ((m1 _).1 h))] at e1
 simp only [ah4] at e1
 by_cases q2 : ah4 ∈ ah7 f.login
 ·have hn : ¬ aia f := fun h => (h.2.2.2.2.2 gb).2.1 q2
  rw [dec_pos ((m2 _).2 q2)] at e2
  simp only [ah4] at e2
  simp [aiU, Tryz.f58, o1, o2, o3, o4, o5, c1, c2, c3, c4, c5, d1, e1, d2, e2, o6, o7, b2, hn, fillL, zerosL, regionL_none, regionL_some, List.lookup]
 rw [dec_neg (fun h => q2 ((m2 _).1 h))] at e2
 simp only [ah4] at e2
 by_cases q3 : ah4 ∈ ah7 f.mail
 ·have hn : ¬ aia f := fun h => (h.2.2.2.2.2 gb).2.2 q3
  rw [dec_pos ((m3 _).2 q3)] at e3
  simp only [ah4] at e3
  simp [aiU, Tryz.f58, o1, o2, o3, o4, o5, c1, c2, c3, c4, c5, d1, e1, d2, e2, d3, e3, o6, o7, o8, b3, hn, fillL, zerosL, regionL_none, regionL_some, List.lookup]
 ·have hy : aia f := ⟨g1, g2, g3, g4, g5, fun _ => ⟨q1, q2, q3⟩⟩
  rw [dec_neg (fun h => q3 ((m3 _).1 h))] at e3
  simp only [ah4] at e3
  simp [aiU, Tryz.f58, o1, o2, o3, o4, o5, c1, c2, c3, c4, c5, d1, e1, d2, e2, d3, e3, o6, o7, o8, b3, hy, fillL, zerosL, regionL_none, regionL_some, List.lookup]
theorem am1 {H : List Ob} {vb vf vl vm vp : V} {f : PFlow} (h1 : ARdns H vb f.base) (h2 : ANodes H vf f.filter) (h3 : AParts H vl f.login) (h4 : AParts H vm f.mail) (h5 : AParts H vp f.phone) :
  callW C 65 [.agg [vb, vf, vl, vm, vp, .bool f.back]] H = some (.bool (dec (aia f)), H) := by
 apply Ret.dec
 rw [aA2]
 have o1 := h1.one
 have o2 := h2.one
 have o3 := h3.one
 have o4 := h4.one
 have o5 := h5.one
 have c1 := asl h1
 have c2 := alR h2
 have c3 := ajy h3
 have c4 := ajy h4
 have c5 := ajy h5
 by_cases g1 : DnOk f.base
 rotate_left
 ·have hn : ¬ aia f := fun h => g1 h.1
  rw [dec_neg g1] at c1
  simp [ajf, Tryz.f65, o1, o2, o3, o4, o5, c1, c2, c3, c4, c5, hn, fillL, zerosL, regionL_none, regionL_some, List.lookup]
 rw [dec_pos g1] at c1
 by_cases g2 : FilterOk f.filter
 rotate_left
 ·have hn : ¬ aia f := fun h => g2 h.2.1
  rw [dec_neg g2] at c2
  simp [ajf, Tryz.f65, o1, o2, o3, o4, o5, c1, c2, c3, c4, c5, hn, fillL, zerosL, regionL_none, regionL_some, List.lookup]
 rw [dec_pos g2] at c2
 by_cases g3 : ExprOk f.login
 rotate_left
 ·have hn : ¬ aia f := fun h => g3 h.2.2.1
  rw [dec_neg g3] at c3
  simp [ajf, Tryz.f65, o1, o2, o3, o4, o5, c1, c2, c3, c4, c5, hn, fillL, zerosL, regionL_none, regionL_some, List.lookup]
 rw [dec_pos g3] at c3
 by_cases g4 : ExprOk f.mail
 rotate_left
 ·have hn : ¬ aia f := fun h => g4 h.2.2.2.1
  rw [dec_neg g4] at c4
  simp [ajf, Tryz.f65, o1, o2, o3, o4, o5, c1, c2, c3, c4, c5, hn, fillL, zerosL, regionL_none, regionL_some, List.lookup]
 rw [dec_pos g4] at c4
 by_cases g5 : ExprOk f.phone
 rotate_left
 ·have hn : ¬ aia f := fun h => g5 h.2.2.2.2.1
  rw [dec_neg g5] at c5
  simp [ajf, Tryz.f65, o1, o2, o3, o4, o5, c1, c2, c3, c4, c5, hn, fillL, zerosL, regionL_none, regionL_some, List.lookup]
 rw [dec_pos g5] at c5
 cases gb : f.back with
 | false =>
  have hy : aia f := ⟨g1, g2, g3, g4, g5, fun h => by rw [gb] at h; cases h⟩
  simp [ajf, Tryz.f65, o1, o2, o3, o4, o5, c1, c2, c3, c4, c5, hy, fillL, zerosL, regionL_none, regionL_some, List.lookup]
 | true =>
 obtain ⟨T1, w1, l1, d1, a1, m1, z1⟩ := alS h2 g2
 obtain ⟨K1, hK1⟩ : ∃ K, K = H ++ T1 := ⟨_, rfl⟩
 rw [← hK1] at d1 a1
 have o6 := a1.one
 obtain ⟨T2, w2, l2, d2, a2, m2, z2⟩ := akG (H := K1) (by rw [hK1]; exact h3.ext) g3.1
 obtain ⟨K2, hK2⟩ : ∃ K, K = K1 ++ T2 := ⟨_, rfl⟩
 rw [← hK2] at d2 a2
 have o7 := a2.one
 obtain ⟨T3, w3, l3, d3, a3, m3, z3⟩ := akG (H := K2) (by rw [hK2, hK1]; exact h4.ext.ext) g4.1
 obtain ⟨K3, hK3⟩ : ∃ K, K = K2 ++ T3 := ⟨_, rfl⟩
 rw [← hK3] at d3 a3
 have o8 := a3.one
 have hfl : fl [l1, l2, l3] 3 = l1 ++ l2 ++ l3 := by simp [fl]
 have a1' : AStrs (K3 ++ [.mk true 1 [w1, w2, w3]]) w1 l1 := by rw [hK3, hK2]; exact a1.ext.ext.ext
 have a2' : AStrs (K3 ++ [.mk true 1 [w1, w2, w3]]) w2 l2 := by rw [hK3]; exact a2.ext.ext
 have a3' : AStrs (K3 ++ [.mk true 1 [w1, w2, w3]]) w3 l3 := a3.ext
 have hlen : (l1 ++ l2 ++ l3).length ≤ 44 := by simp; omega
 obtain ⟨T4, w, d4, hown⟩ := alN (H := K3 ++ [.mk true 1 [w1, w2, w3]]) (id := K3.length) (own := true) (ws := [w1, w2, w3]) (ls := [l1, l2, l3]) get_last rfl (fun i w l hw hl => by
  match i with
  | 0 => cases hw; cases hl; exact a1'
  | 1 => cases hw; cases hl; exact a2'
  | 2 => cases hw; cases hl; exact a3'
  | i + 3 => simp at hw) (by simp only [List.length_cons, List.length_nil]; rw [hfl]; omega) (by simp)
 simp only [List.length_cons, List.length_nil] at hown d4
 rw [hfl] at hown
 have a4 := Own.strs hown (by unfold maxLen; omega) (fun s hs => by
  rcases List.mem_append.1 hs with hs | hs
  ·rcases List.mem_append.1 hs with hs | hs
   ·exact a1.max s hs
   ·exact a2.max s hs
  ·exact a3.max s hs)
 have e4 := aiI (t := ah4) a4
 have o9 := a4.one
 have b4 : ∀ t X, gcH H (K3 ++ X) (.bool t) = H := fun t X => by rw [hK3, hK2, hK1, List.append_assoc, List.append_assoc, List.append_assoc, gcH_bool]
 have hiff : ah4 ∈ l1 ++ l2 ++ l3 ↔ ¬ (ah4 ∉ aib f.filter ∧ ah4 ∉ ah7 f.login ∧ ah4 ∉ ah7 f.mail) := by
  rw [List.mem_append, List.mem_append, m1, m2, m3]
  by_cases q1 : ah4 ∈ aib f.filter <;> by_cases q2 : ah4 ∈ ah7 f.login <;> by_cases q3 : ah4 ∈ ah7 f.mail <;> simp [q1, q2, q3]
 simp only [List.append_assoc, List.cons_append, List.nil_append, Nat.zero_add, Nat.reduceAdd] at d4 e4
 by_cases q : ah4 ∈ l1 ++ l2 ++ l3
 ·have hn : ¬ aia f := fun h => hiff.1 q (h.2.2.2.2.2 gb)
  simp only [List.append_assoc] at q
  rw [dec_pos q] at e4
  simp only [ah4] at e4
  simp [ajf, Tryz.f65, o1, o2, o3, o4, o5, c1, c2, c3, c4, c5, d1, d2, d3, d4, e4, o6, o7, o8, o9, b4, hn, St.new, elemT, fillL, zerosL, regionL_none, regionL_some, List.lookup]
 ·have hy : aia f := ⟨g1, g2, g3, g4, g5, fun _ => Classical.byContradiction fun hh => q (hiff.2 hh)⟩
  simp only [List.append_assoc] at q
  rw [dec_neg q] at e4
  simp only [ah4] at e4
  simp [ajf, Tryz.f65, o1, o2, o3, o4, o5, c1, c2, c3, c4, c5, d1, d2, d3, d4, e4, o6, o7, o8, o9, b4, hy, St.new, elemT, fillL, zerosL, regionL_none, regionL_some, List.lookup]
def ai5 (t : Str) : Prop := t = [] ∨ ValueOk t
theorem atB {t : Str} {H : List Ob} : callW C 226 [.str t] H = some (.bool (dec (ai5 t)), H) := by
 apply Ret.dec
 rw [aw1]
 have c1 := akt (t := t) (H := H)
 by_cases g : t = []
 ·subst g
  simp [ak8, Tryz.f226, ai5]
 ·have ge : List.isEmpty t = false := by simpa using g
  by_cases g2 : ValueOk t
  ·rw [dec_pos g2] at c1
   simp [ak8, Tryz.f226, g, ge, c1, ai5, g2]
  ·rw [dec_neg g2] at c1
   simp [ak8, Tryz.f226, g, ge, c1, ai5, g2]
theorem ati {t : Str} {H : List Ob} : callW C 240 [.str t] H = some (.bool (dec (ai5 t)), H) := by
 apply Ret.dec
 rw [awc]
 have c1 := akf (t := t) (H := H)
 by_cases g : t = []
 ·subst g
  simp [akY, Tryz.f240, ai5]
 ·have ge : List.isEmpty t = false := by simpa using g
  by_cases g2 : ValueOk t
  ·rw [dec_pos g2] at c1
   simp [akY, Tryz.f240, g, ge, c1, ai5, g2]
  ·rw [dec_neg g2] at c1
   simp [akY, Tryz.f240, g, ge, c1, ai5, g2]
def aiY (x : PRow) : Prop := NameOk x.login ∧ ai5 x.mail ∧ ai5 x.phone ∧ (x.gone = true → x.on = false ∧ x.mail = [] ∧ x.phone = [])
def akw (n u : Int) (x : PRow) : Prop := (1 ≤ x.id ∧ x.id ≤ n - 1) ∧ (1 ≤ x.usn ∧ x.usn ≤ u)
def ajT (q x : PRow) : Prop := q.usn = x.usn ∨ (q.login = x.login ∧ q.gone = false ∧ x.gone = false)
def akb (n u : Int) (l : List PRow) (i : Nat) (x : PRow) : Prop := aiY x ∧ akw n u x ∧ (∀ p, 0 < i → l[i - 1]? = some p → p.id < x.id) ∧ ∀ (j : Nat) q, j < i → l[j]? = some q → ¬ ajT q x
def ajq (t : PTable) : Prop := (1 ≤ t.next ∧ t.next ≤ 1000000) ∧ (0 ≤ t.usn ∧ t.usn ≤ 1000000) ∧ t.rows.length ≤ 20 ∧ ∀ (i : Nat) x, t.rows[i]? = some x → akb t.next t.usn t.rows i x
theorem alm (x : PRow) : (x.gone = false ∧ True) ∨ (x.gone = true ∧ x.on = true) ∨ (x.gone = true ∧ x.on = false ∧ x.mail ≠ []) ∨ (x.gone = true ∧ x.on = false ∧ x.mail = [] ∧ x.phone ≠ []) ∨ (x.gone = true ∧ x.on = false ∧ x.mail = [] ∧ x.phone = []) := by
 cases x.gone <;> cases x.on <;> by_cases h1 : x.mail = [] <;> by_cases h2 : x.phone = [] <;> simp [h1, h2]
def TbQ (b : Nat) (P : Prop) (Rg : (Nat → R) → Prop) (H : List Ob) (ex : Ex) (σ : St) : Prop :=
 (ex = .exit b ∧ ∃ n r, σ = ⟨r, n, H⟩ ∧ Rg r ∧ P) ∨ (ex = .ret ∧ ∃ n r, σ = ⟨r, n, H⟩ ∧ r 2 = .val (.bool false) ∧ ¬ P)
def TbI (l : List PRow) (i : Nat) (x : PRow) (H : List Ob) (Rg : Nat → (Nat → R) → Prop) (k : Nat) (σ : St) : Prop :=
 ∃ j n r, j + k = i ∧ σ = ⟨r, n, H⟩ ∧ Rg j r ∧ ∀ (m : Nat) q, m < j → l[m]? = some q → ¬ ajT q x
theorem emp {t : Str} (h : t ≠ []) : List.isEmpty t = false := by simpa using h
theorem awE {H : List Ob} {x : PRow} : callW C 175 [.agg x.cs] H = some (.bool (dec (aiY x)), H) := by
 apply Ret.dec
 rw [avp]
 have c1 := aja (t := x.login) (H := H)
 have c2 := atB (t := x.mail) (H := H)
 have c3 := atB (t := x.phone) (H := H)
 by_cases g1 : NameOk x.login
 rotate_left
 ·rw [dec_neg g1] at c1
  have hn : ¬ (aiY x) := fun h => g1 h.1
  simp [aiP, Tryz.f175, c1, hn]
 rw [dec_pos g1] at c1
 by_cases g2 : ai5 x.mail
 rotate_left
 ·rw [dec_neg g2] at c2
  have hn : ¬ (aiY x) := fun h => g2 h.2.1
  simp [aiP, Tryz.f175, c1, c2, hn]
 rw [dec_pos g2] at c2
 by_cases g3 : ai5 x.phone
 rotate_left
 ·rw [dec_neg g3] at c3
  have hn : ¬ (aiY x) := fun h => g3 h.2.2.1
  simp [aiP, Tryz.f175, c1, c2, c3, hn]
 rw [dec_pos g3] at c3
 rcases alm x with ⟨e1, _⟩ | ⟨e1, e2⟩ | ⟨e1, e2, e3⟩ | ⟨e1, e2, e3, e4⟩ | ⟨e1, e2, e3, e4⟩
 ·have hy : aiY x := ⟨g1, g2, g3, fun h => by rw [e1] at h; cases h⟩
  simp [aiP, Tryz.f175, c1, c2, c3, e1, hy]
 ·have hn : ¬ (aiY x) := fun h => by have := (h.2.2.2 e1).1; rw [e2] at this; cases this
  simp [aiP, Tryz.f175, c1, c2, c3, e1, e2, hn]
 ·have hn : ¬ (aiY x) := fun h => e3 (h.2.2.2 e1).2.1
  simp [aiP, Tryz.f175, c1, c2, c3, e1, e2, e3, emp e3, hn]
 ·have hn : ¬ (aiY x) := fun h => e4 (h.2.2.2 e1).2.2
  rw [e3] at c2
  simp [aiP, Tryz.f175, c1, c2, c3, e1, e2, e3, e4, emp e4, hn]
 ·have hy : aiY x := ⟨g1, g2, g3, fun _ => ⟨e2, e3, e4⟩⟩
  rw [e3] at c2
  rw [e4] at c3
  simp [aiP, Tryz.f175, c1, c2, c3, e1, e2, e3, e4, hy]
theorem awF {H : List Ob} {x : PRow} {n u : Int} (hn : 1 ≤ n ∧ n ≤ 1000000) : callW C 177 [.agg x.cs, .int .i64 n, .int .i64 u] H = some (.bool (dec (aiY x ∧ akw n u x)), H) := by
 apply Ret.dec
 rw [awh]
 have c1 := ajo (t := x.login) (H := H)
 have c2 := ati (t := x.mail) (H := H)
 have c3 := ati (t := x.phone) (H := H)
 have hw : IntKind.i64.wrap (n - 1) = n - 1 := wrap_i64 (by omega) (by omega)
 have c5 := aik (n := x.id) (a := 1) (b := n - 1) (H := H)
 have c6 := aik (n := x.usn) (a := 1) (b := u) (H := H)
 by_cases k1 : 1 ≤ x.id ∧ x.id ≤ n - 1
 rotate_left
 ·rw [dec_neg k1] at c5
  have hn : ¬ (aiY x ∧ akw n u x) := fun h => k1 h.2.1
  simp [aiF, Tryz.f177, c5, hw, hn]
 rw [dec_pos k1] at c5
 by_cases g1 : NameOk x.login
 rotate_left
 ·rw [dec_neg g1] at c1
  have hn : ¬ (aiY x ∧ akw n u x) := fun h => g1 h.1.1
  simp [aiF, Tryz.f177, c5, hw, c1, hn]
 rw [dec_pos g1] at c1
 by_cases g2 : ai5 x.mail
 rotate_left
 ·rw [dec_neg g2] at c2
  have hn : ¬ (aiY x ∧ akw n u x) := fun h => g2 h.1.2.1
  simp [aiF, Tryz.f177, c5, hw, c1, c2, hn]
 rw [dec_pos g2] at c2
 by_cases g3 : ai5 x.phone
 rotate_left
 ·rw [dec_neg g3] at c3
  have hn : ¬ (aiY x ∧ akw n u x) := fun h => g3 h.1.2.2.1
  simp [aiF, Tryz.f177, c5, hw, c1, c2, c3, hn]
 rw [dec_pos g3] at c3
 by_cases k2 : 1 ≤ x.usn ∧ x.usn ≤ u
 rotate_left
 ·rw [dec_neg k2] at c6
  have hn : ¬ (aiY x ∧ akw n u x) := fun h => k2 h.2.2
  simp [aiF, Tryz.f177, c5, hw, c1, c2, c3, c6, hn]
 rw [dec_pos k2] at c6
 rcases alm x with ⟨e1, _⟩ | ⟨e1, e2⟩ | ⟨e1, e2, e3⟩ | ⟨e1, e2, e3, e4⟩ | ⟨e1, e2, e3, e4⟩
 ·have hy : aiY x ∧ akw n u x := ⟨⟨g1, g2, g3, fun h => by rw [e1] at h; cases h⟩, k1, k2⟩
  simp [aiF, Tryz.f177, c5, hw, c1, c2, c3, c6, e1, hy]
 ·have hn : ¬ (aiY x ∧ akw n u x) := fun h => by have := (h.1.2.2.2 e1).1; rw [e2] at this; cases this
  simp [aiF, Tryz.f177, c5, hw, c1, c2, c3, c6, e1, e2, hn]
 ·have hn : ¬ (aiY x ∧ akw n u x) := fun h => e3 (h.1.2.2.2 e1).2.1
  simp [aiF, Tryz.f177, c5, hw, c1, c2, c3, c6, e1, e2, e3, emp e3, hn]
 ·have hn : ¬ (aiY x ∧ akw n u x) := fun h => e4 (h.1.2.2.2 e1).2.2
  rw [e3] at c2
  simp [aiF, Tryz.f177, c5, hw, c1, c2, c3, c6, e1, e2, e3, e4, emp e4, hn]
 ·have hy : aiY x ∧ akw n u x := ⟨⟨g1, g2, g3, fun _ => ⟨e2, e3, e4⟩⟩, k1, k2⟩
  rw [e3] at c2
  rw [e4] at c3
  simp [aiF, Tryz.f177, c5, hw, c1, c2, c3, c6, e1, e2, e3, e4, hy]
theorem amf {H : List Ob} {v : V} {t : PTable} (h : ARows H v t.rows) : callW C 90 [.agg [.int .i64 t.next, .int .i64 t.usn, v]] H = some (.bool (dec (ajq t)), H) := by
 apply Ret.dec
 rw [aCe]
 have ov := h.one
 have c1 := alz (n := t.next) (a := 1) (b := 1000000) (H := H)
 have c2 := alz (n := t.usn) (a := 0) (b := 1000000) (H := H)
 by_cases g1 : 1 ≤ t.next ∧ t.next ≤ 1000000
 rotate_left
 ·rw [dec_neg g1] at c1
  simp [als, Tryz.f90, ov, c1]
  exact fun h => g1 h.1
 rw [dec_pos g1] at c1
 by_cases g2 : 0 ≤ t.usn ∧ t.usn ≤ 1000000
 rotate_left
 ·rw [dec_neg g2] at c2
  simp [als, Tryz.f90, ov, c1, c2]
  exact fun h => g2 h.2.1
 rw [dec_pos g2] at c2
 by_cases g3 : t.rows.length ≤ 20
 rotate_left
 ·have g3' : (20 : Int) < t.rows.length := by omega
  simp [als, Tryz.f90, ov, c1, c2, h.len, g3']
  exact fun h => g3 h.2.2.1
 have g3' : ¬ (20 : Int) < t.rows.length := by omega
 simp [als, Tryz.f90, ov, c1, c2, h.len, g3']
 refine WP_loop (fun k σ => ∃ (i n : Nat) (r : Nat → R), i + k = t.rows.length ∧ σ = ⟨r, n, H⟩ ∧ r 1 = .box 0 [.int .i64 t.next, .int .i64 t.usn, v] ∧ r 3 = .val (.int .i64 i) ∧ ∀ (j : Nat) x, j < i → t.rows[j]? = some x → akb t.next t.usn t.rows j x) ?_ t.rows.length _ ⟨0, _, _, by simp, rfl, by simp, by simp, by simp⟩
 rintro k σ ⟨i, n, r, hik, rfl, r1, r3, hall⟩
 cases k with
 | zero =>
  have hi : i = t.rows.length := by omega
  subst hi
  have hA : ajq t := ⟨g1, g2, g3, at_all (P := fun j (x : PRow) => akb t.next t.usn t.rows j x) hall⟩
  simp [r1, r3, h.len, ov, hA]
 | succ k =>
  have hi : i < t.rows.length := by omega
  obtain ⟨x, hx⟩ : ∃ c, t.rows[i]? = some c := ⟨t.rows[i], by simp [hi]⟩
  have hw : IntKind.i64.wrap ((i : Int) + 1) = ((i : Int) + 1) := wrap_i64 (by omega) (by omega)
  obtain ⟨id, o, hid, e1, lm, ll⟩ := rows_idx h hx
  have hw1 : IntKind.i64.wrap (t.next - 1) = t.next - 1 := wrap_i64 (by omega) (by omega)
  have c3 := awE (x := x) (H := H)
  have c4 := alz (n := x.id) (a := 1) (b := t.next - 1) (H := H)
  have c5 := alz (n := x.usn) (a := 1) (b := t.usn) (H := H)
  by_cases q1 : aiY x
  rotate_left
  ·rw [dec_neg q1] at c3
   simp only [PRow.cs] at c3 lm
   simp [r1, r3, hi, h.len, ov, hid, e1, lm, hw, c3, strideOf, fillL, zerosL, St.new, PRow.cs, regionL_none, regionL_some, List.lookup]
   exact fun h => q1 (h.2.2.2 i x hx).1
  rw [dec_pos q1] at c3
  by_cases q2 : 1 ≤ x.id ∧ x.id ≤ t.next - 1
  rotate_left
  ·rw [dec_neg q2] at c4
   simp only [PRow.cs] at c3 lm
   simp [r1, r3, hi, h.len, ov, hid, e1, lm, hw, c3, c4, hw1, strideOf, fillL, zerosL, St.new, PRow.cs, regionL_none, regionL_some, List.lookup]
   exact fun h => q2 (h.2.2.2 i x hx).2.1.1
  rw [dec_pos q2] at c4
  have hprev : (¬ (0 : Int) < i ∧ (∀ p, 0 < i → t.rows[i - 1]? = some p → p.id < x.id)) ∨ ((0 : Int) < i ∧ ∃ p idp op, t.rows[i - 1]? = some p ∧ idp < H.length ∧ (∀ (e s b : Nat) (z : List V) (ty : Nat → LT) (k : IntKind), (ty e).size = 7 → indexR ⟨.slice e, s, b, z⟩ ty (.val v) (.int k ((i : Int) - 1)) = some (.val (.ptr (some (idp, op))))) ∧ (∀ T : LT, T.one → ∀ r c, loadAt T ⟨r, c, H⟩ (.hp idp op) = some (.int .i64 p.id))) := by
   by_cases h0 : 0 < i
   ·obtain ⟨p, hp⟩ : ∃ c, t.rows[i - 1]? = some c := ⟨t.rows[i - 1], List.getElem?_eq_getElem (by omega)⟩
    obtain ⟨idp, op, hidp, f1, fm, fl⟩ := rows_idx h hp
    refine .inr ⟨by omega, p, idp, op, hp, hidp, ?_, fun T hT r c => by simpa using fl T hT r c 0 _ rfl⟩
    have : ((i - 1 : Nat) : Int) = (i : Int) - 1 := by omega
    rw [this] at f1
    exact f1
   ·exact .inl ⟨by omega, fun p h => absurd h h0⟩
  have hwp : (0 : Int) < i → IntKind.i64.wrap ((i : Int) - 1) = (i : Int) - 1 := fun h => wrap_i64 (by omega) (by omega)
  simp only [PRow.cs] at c3 lm
  rcases hprev with ⟨g0, hpr⟩ | ⟨g0, p, idp, op, hp, hidp, f1, f2⟩
  ·have i0 : ¬ 0 < i := by omega
   by_cases q3 : 1 ≤ x.usn ∧ x.usn ≤ t.usn
   rotate_left
   ·rw [dec_neg q3] at c5
    simp [r1, r3, hi, h.len, ov, hid, e1, lm, hw, c3, c4, hw1, c5, g0, i0, strideOf, fillL, zerosL, St.new, PRow.cs, regionL_none, regionL_some, List.lookup]
    exact fun h => q3 (h.2.2.2 i x hx).2.1.2
   rw [dec_pos q3] at c5
   simp [r1, r3, hi, h.len, ov, hid, e1, lm, hw, c3, c4, hw1, c5, g0, i0, strideOf, fillL, zerosL, St.new, PRow.cs, regionL_none, regionL_some, List.lookup]
   refine WP.mono (Q := TbQ 2 (∀ (m : Nat) q, m < i → t.rows[m]? = some q → ¬ ajT q x) (fun r => r 1 = .box 0 [.int .i64 t.next, .int .i64 t.usn, v] ∧ r 3 = .val (.int .i64 i) ∧ r 4 = .box n x.cs) H) ?_ ?_
   ·refine WP_loop (TbI t.rows i x H (fun j r => r 1 = .box 0 [.int .i64 t.next, .int .i64 t.usn, v] ∧ r 3 = .val (.int .i64 i) ∧ r 4 = .box n x.cs ∧ r 5 = .val (.int .i64 j))) ?_ i _ ⟨0, _, _, by simp, rfl, ⟨by simp [r1, r3], by simp [r1, r3], by simp [r1, r3], by simp [r1, r3]⟩, by simp⟩
    clear r1 r3 hall
    clear r
    rintro k2 σ ⟨j, n2, r, hjk, rfl, ⟨r1, r3, r4, r5⟩, hno⟩
    cases k2 with
    | zero =>
     have hj : j = i := by omega
     subst hj
     simp [r1, r3, r4, r5, regionL_none, regionL_some, List.lookup]
     exact .inl ⟨rfl, _, _, rfl, ⟨by simp [r1, r3, r4, r5], by simp [r1, r3, r4, r5], by simp [r1, r3, r4, r5]⟩, hno⟩
    | succ k2 =>
     have hj : j < i := by omega
     obtain ⟨q, hq⟩ : ∃ c, t.rows[j]? = some c := ⟨t.rows[j], List.getElem?_eq_getElem (by omega)⟩
     have hw2 : IntKind.i64.wrap ((j : Int) + 1) = ((j : Int) + 1) := wrap_i64 (by omega) (by omega)
     have hne := fun hc => at_step (P := fun m (q : PRow) => ¬ ajT q x) hno hq hc
     obtain ⟨idq, oq, hidq, f1, fm, fl⟩ := rows_idx h hq
     have u5 := fun T hT r c => fl T hT r c 5 _ rfl
     have u6 := fun T hT r c => fl T hT r c 6 _ rfl
     have u1 := fun T hT r c => fl T hT r c 1 _ rfl
     by_cases eu : q.usn = x.usn
     ·simp [r1, r3, r4, r5, eu, hj, hidq, f1, u5, u6, u1, hw2, strideOf, fillL, zerosL, St.new, PRow.cs, regionL_none, regionL_some, List.lookup]
      exact .inr ⟨rfl, _, _, rfl, by simp, fun hc => hc j q hj hq (.inl eu)⟩
     rcases (show (q.gone = true ∧ True) ∨ (q.gone = false ∧ x.gone = true) ∨ (q.gone = false ∧ x.gone = false ∧ ¬ q.login = x.login) ∨ (q.gone = false ∧ x.gone = false ∧ q.login = x.login) by cases q.gone <;> cases x.gone <;> by_cases h : q.login = x.login <;> simp [h]) with ⟨a1, _⟩ | ⟨a1, a2⟩ | ⟨a1, a2, a3⟩ | ⟨a1, a2, a3⟩
     ·simp [r1, r3, r4, r5, eu, a1, hj, hidq, f1, u5, u6, u1, hw2, strideOf, fillL, zerosL, St.new, PRow.cs, regionL_none, regionL_some, List.lookup]
      refine ⟨k2, by omega, j + 1, _, _, by omega, rfl, ⟨by simp [r1, r3, r4, r5, a1], by simp [r1, r3, r4, r5, a1], by simp [r1, r3, r4, r5, a1], by simp [r1, r3, r4, r5, a1]⟩, hne fun hc => ?_⟩
      rcases hc with h | h
      ·exact eu h
      ·rw [a1] at h; exact absurd h.2.1 (by simp)
     ·simp [r1, r3, r4, r5, eu, a1, a2, hj, hidq, f1, u5, u6, u1, hw2, strideOf, fillL, zerosL, St.new, PRow.cs, regionL_none, regionL_some, List.lookup]
      refine ⟨k2, by omega, j + 1, _, _, by omega, rfl, ⟨by simp [r1, r3, r4, r5, a1, a2], by simp [r1, r3, r4, r5, a1, a2], by simp [r1, r3, r4, r5, a1, a2], by simp [r1, r3, r4, r5, a1, a2]⟩, hne fun hc => ?_⟩
      rcases hc with h | h
      ·exact eu h
      ·rw [a2] at h; exact absurd h.2.2 (by simp)
     ·simp [r1, r3, r4, r5, eu, a1, a2, a3, hj, hidq, f1, u5, u6, u1, hw2, strideOf, fillL, zerosL, St.new, PRow.cs, regionL_none, regionL_some, List.lookup]
      refine ⟨k2, by omega, j + 1, _, _, by omega, rfl, ⟨by simp [r1, r3, r4, r5, a1, a2, a3], by simp [r1, r3, r4, r5, a1, a2, a3], by simp [r1, r3, r4, r5, a1, a2, a3], by simp [r1, r3, r4, r5, a1, a2, a3]⟩, hne fun hc => ?_⟩
      rcases hc with h | h
      ·exact eu h
      ·exact a3 h.1
     ·simp [r1, r3, r4, r5, eu, a1, a2, a3, hj, hidq, f1, u5, u6, u1, hw2, strideOf, fillL, zerosL, St.new, PRow.cs, regionL_none, regionL_some, List.lookup]
      exact .inr ⟨rfl, _, _, rfl, by simp, fun hc => hc j q hj hq (.inr ⟨a3, a1, a2⟩)⟩
   ·clear r1 r3
    clear r
    rintro ex σ' (⟨rfl, n2, r, rfl, ⟨r1, r3, r4⟩, hno⟩ | ⟨rfl, n2, r, rfl, r2, hno⟩)
    ·simp [r1, r3, r4, hw, regionL_none, regionL_some, List.lookup]
     exact ⟨k, by omega, i + 1, by omega, _, _, ⟨rfl, rfl⟩, by simp [r1, r3, r4], by simp [r1, r3, r4], at_step (P := fun j (x : PRow) => akb t.next t.usn t.rows j x) hall hx ⟨q1, ⟨q2, q3⟩, hpr, hno⟩⟩
    ·simp [r2]
     exact fun h => hno (h.2.2.2 i x hx).2.2.2
  ·have hwp := hwp g0
   have i0 : 0 < i := by omega
   by_cases qp : p.id < x.id
   rotate_left
   ·have qp' : x.id ≤ p.id := by omega
    simp [r1, r3, hi, h.len, ov, hid, e1, lm, hw, c3, c4, hw1, g0, i0, hwp, hidp, f1, f2, qp', strideOf, fillL, zerosL, St.new, PRow.cs, regionL_none, regionL_some, List.lookup]
    exact fun h => qp ((h.2.2.2 i x hx).2.2.1 p (by omega) hp)
   have qp' : ¬ x.id ≤ p.id := by omega
   have hpr : ∀ p, 0 < i → t.rows[i - 1]? = some p → p.id < x.id := fun p2 _ h2 => by rw [hp] at h2; cases h2; exact qp
   by_cases q3 : 1 ≤ x.usn ∧ x.usn ≤ t.usn
   rotate_left
   ·rw [dec_neg q3] at c5
    simp [r1, r3, hi, h.len, ov, hid, e1, lm, hw, c3, c4, hw1, c5, g0, i0, hwp, hidp, f1, f2, qp', strideOf, fillL, zerosL, St.new, PRow.cs, regionL_none, regionL_some, List.lookup]
    exact fun h => q3 (h.2.2.2 i x hx).2.1.2
   rw [dec_pos q3] at c5
   simp [r1, r3, hi, h.len, ov, hid, e1, lm, hw, c3, c4, hw1, c5, g0, i0, hwp, hidp, f1, f2, qp', strideOf, fillL, zerosL, St.new, PRow.cs, regionL_none, regionL_some, List.lookup]
   refine WP.mono (Q := TbQ 2 (∀ (m : Nat) q, m < i → t.rows[m]? = some q → ¬ ajT q x) (fun r => r 1 = .box 0 [.int .i64 t.next, .int .i64 t.usn, v] ∧ r 3 = .val (.int .i64 i) ∧ r 4 = .box n x.cs) H) ?_ ?_
   ·refine WP_loop (TbI t.rows i x H (fun j r => r 1 = .box 0 [.int .i64 t.next, .int .i64 t.usn, v] ∧ r 3 = .val (.int .i64 i) ∧ r 4 = .box n x.cs ∧ r 5 = .val (.int .i64 j))) ?_ i _ ⟨0, _, _, by simp, rfl, ⟨by simp [r1, r3], by simp [r1, r3], by simp [r1, r3], by simp [r1, r3]⟩, by simp⟩
    clear r1 r3 hall
    clear r
    rintro k2 σ ⟨j, n2, r, hjk, rfl, ⟨r1, r3, r4, r5⟩, hno⟩
    cases k2 with
    | zero =>
     have hj : j = i := by omega
     subst hj
     simp [r1, r3, r4, r5, regionL_none, regionL_some, List.lookup]
     exact .inl ⟨rfl, _, _, rfl, ⟨by simp [r1, r3, r4, r5], by simp [r1, r3, r4, r5], by simp [r1, r3, r4, r5]⟩, hno⟩
    | succ k2 =>
     have hj : j < i := by omega
     obtain ⟨q, hq⟩ : ∃ c, t.rows[j]? = some c := ⟨t.rows[j], List.getElem?_eq_getElem (by omega)⟩
     have hw2 : IntKind.i64.wrap ((j : Int) + 1) = ((j : Int) + 1) := wrap_i64 (by omega) (by omega)
     have hne := fun hc => at_step (P := fun m (q : PRow) => ¬ ajT q x) hno hq hc
     obtain ⟨idq, oq, hidq, f1, fm, fl⟩ := rows_idx h hq
     have u5 := fun T hT r c => fl T hT r c 5 _ rfl
     have u6 := fun T hT r c => fl T hT r c 6 _ rfl
     have u1 := fun T hT r c => fl T hT r c 1 _ rfl
     by_cases eu : q.usn = x.usn
     ·simp [r1, r3, r4, r5, eu, hj, hidq, f1, u5, u6, u1, hw2, strideOf, fillL, zerosL, St.new, PRow.cs, regionL_none, regionL_some, List.lookup]
      exact .inr ⟨rfl, _, _, rfl, by simp, fun hc => hc j q hj hq (.inl eu)⟩
     rcases (show (q.gone = true ∧ True) ∨ (q.gone = false ∧ x.gone = true) ∨ (q.gone = false ∧ x.gone = false ∧ ¬ q.login = x.login) ∨ (q.gone = false ∧ x.gone = false ∧ q.login = x.login) by cases q.gone <;> cases x.gone <;> by_cases h : q.login = x.login <;> simp [h]) with ⟨a1, _⟩ | ⟨a1, a2⟩ | ⟨a1, a2, a3⟩ | ⟨a1, a2, a3⟩
     ·simp [r1, r3, r4, r5, eu, a1, hj, hidq, f1, u5, u6, u1, hw2, strideOf, fillL, zerosL, St.new, PRow.cs, regionL_none, regionL_some, List.lookup]
      refine ⟨k2, by omega, j + 1, _, _, by omega, rfl, ⟨by simp [r1, r3, r4, r5, a1], by simp [r1, r3, r4, r5, a1], by simp [r1, r3, r4, r5, a1], by simp [r1, r3, r4, r5, a1]⟩, hne fun hc => ?_⟩
      rcases hc with h | h
      ·exact eu h
      ·rw [a1] at h; exact absurd h.2.1 (by simp)
     ·simp [r1, r3, r4, r5, eu, a1, a2, hj, hidq, f1, u5, u6, u1, hw2, strideOf, fillL, zerosL, St.new, PRow.cs, regionL_none, regionL_some, List.lookup]
      refine ⟨k2, by omega, j + 1, _, _, by omega, rfl, ⟨by simp [r1, r3, r4, r5, a1, a2], by simp [r1, r3, r4, r5, a1, a2], by simp [r1, r3, r4, r5, a1, a2], by simp [r1, r3, r4, r5, a1, a2]⟩, hne fun hc => ?_⟩
      rcases hc with h | h
      ·exact eu h
      ·rw [a2] at h; exact absurd h.2.2 (by simp)
     ·simp [r1, r3, r4, r5, eu, a1, a2, a3, hj, hidq, f1, u5, u6, u1, hw2, strideOf, fillL, zerosL, St.new, PRow.cs, regionL_none, regionL_some, List.lookup]
      refine ⟨k2, by omega, j + 1, _, _, by omega, rfl, ⟨by simp [r1, r3, r4, r5, a1, a2, a3], by simp [r1, r3, r4, r5, a1, a2, a3], by simp [r1, r3, r4, r5, a1, a2, a3], by simp [r1, r3, r4, r5, a1, a2, a3]⟩, hne fun hc => ?_⟩
      rcases hc with h | h
      ·exact eu h
      ·exact a3 h.1
     ·simp [r1, r3, r4, r5, eu, a1, a2, a3, hj, hidq, f1, u5, u6, u1, hw2, strideOf, fillL, zerosL, St.new, PRow.cs, regionL_none, regionL_some, List.lookup]
      exact .inr ⟨rfl, _, _, rfl, by simp, fun hc => hc j q hj hq (.inr ⟨a3, a1, a2⟩)⟩
   ·clear r1 r3
    clear r
    rintro ex σ' (⟨rfl, n2, r, rfl, ⟨r1, r3, r4⟩, hno⟩ | ⟨rfl, n2, r, rfl, r2, hno⟩)
    ·simp [r1, r3, r4, hw, regionL_none, regionL_some, List.lookup]
     exact ⟨k, by omega, i + 1, by omega, _, _, ⟨rfl, rfl⟩, by simp [r1, r3, r4], by simp [r1, r3, r4], at_step (P := fun j (x : PRow) => akb t.next t.usn t.rows j x) hall hx ⟨q1, ⟨q2, q3⟩, hpr, hno⟩⟩
    ·simp [r2]
     exact fun h => hno (h.2.2.2 i x hx).2.2.2
end Go.Proofs.Try1
end
