/- Part 12 of the proof of a law: the interpreter, its soundness, and what functions of the program compute over it. Conditions: none but those that each theorem names. -/
import Derived.Test.YtamgeahibepfnaaGreatDoorM11
import Derived.Test.YtamgeahibepfnaaGreatDoorM10
import Derived.Test.YtamgeahibepfnaaGreatDoorM07
import Derived.Test.YtamgeahibepfnaaGreatDoorM08

set_option linter.all false
set_option maxRecDepth 20000
set_option maxHeartbeats 40000000
section
namespace Go.Proofs.Try1
open Go Go.Lite
theorem RV {H : List Ob} {v v' : V} {l : List PAttr} {t s : Str} (h : bK H v l) (ho : cellsOf v' = some [v']) (ho' : aN v' = true) : callW C 203 [.agg [v', v], .str t, .str s] H = some (.bool (dec (mr l t (norm s))), H) := by
 apply Ret.dec
 rw [ZZ]
 have c1 := ku (t := s) (H := H)
 obtain ⟨w, c2, hw⟩ := UV (t := t) h ho ho'
 obtain ⟨r, c3, hr⟩ := aeG (n := norm s) hw
 have hone := h.one
 by_cases hn : norm s = []
 ·simp [wJ, Tryz.f203, c1, hn, ho, ho', hone, mr]
 ·rcases hr with ⟨k, a, h1, h2, h3, rfl⟩ | ⟨h1, rfl⟩
  ·have hk : (0 : Int) ≤ (k : Int) := by omega
   have hm : a ∈ valsOf l t := List.mem_of_getElem? h1
   have h2' : norm a = norm s := by simpa using h2
   simp [wJ, Tryz.f203, c1, c2, c3, hn, ho, ho', hone, mr, hk]
   exact ⟨a, hm, h2'⟩
  ·simp [wJ, Tryz.f203, c1, c2, c3, hn, ho, ho', hone, mr]
   intro x hx
   obtain ⟨j, hj, rfl⟩ := List.getElem_of_mem hx
   have := h1 j _ (List.getElem?_eq_getElem hj)
   simpa using this
theorem zn {H : List Ob} {vl vd va : V} {l : List PClass} {e : PEntry} (hl : aW H vl l) (hd : bH H vd e.dn) (ha : bK H va e.attrs) (hdn : 0 < e.dn.length) :
  ∃ r : Int, callW C 160 [vl, .agg [vd, va]] H = some (.int .i64 r, H) ∧ (r = 0 ↔ dX l e) ∧ (r = 0 ∨ r = 12) := by
 suffices hs : Ret C 160 [vl, .agg [vd, va]] H fun q H' => (∃ r : Int, q = .int .i64 r ∧ (r = 0 ↔ dX l e) ∧ (r = 0 ∨ r = 12)) ∧ H' = H by
  obtain ⟨q, H', hc, ⟨r, rfl, hr⟩, rfl⟩ := hs
  exact ⟨r, hc, hr⟩
 rw [afY]
 have hod := hd.one
 have hoa := ha.one
 obtain ⟨cs, ok, c1, hm⟩ := Vf (T := []) hl ha hod.2 hod.1
 rw [List.append_nil] at c1
 obtain ⟨x, hx⟩ : ∃ c, e.dn[0]? = some c := ⟨e.dn[0], by simp [hdn]⟩
 obtain ⟨id, o, e1, l0, l1, _, _⟩ := qV hd hx
 simp only [Int.ofNat_eq_natCast, Int.natCast_zero] at e1
 have hid := Dw l0
 have c2 := RV (t := x.attr) (s := x.value) ha hod.2 hod.1
 rcases hm with ⟨rfl, c, w1, w2, w3, hc, rfl, a1, a2, a3⟩ | ⟨rfl, hc, rfl⟩
 rotate_left
 ·simp [vW, Tryz.f160, ag, ae, List.lookup, c1, hod, hoa, hid]
  rintro ⟨c, h1, _⟩
  rw [hc] at h1
  cases h1
 by_cases hH : mr e.attrs x.attr (norm x.value)
 rotate_left
 ·rw [au hH] at c2
  simp [vW, Tryz.f160, ag, ae, List.lookup, c1, hod, hoa, a1.one, a2.one, a3.one, e1, l0, l1, hid, c2]
  rintro ⟨c, _, _, _, y, h1, h2⟩
  rw [hx] at h1
  cases h1
  exact hH h2
 rw [aj hH] at c2
 simp [vW, Tryz.f160, ag, ae, List.lookup, c1, hod, hoa, a1.one, a2.one, a3.one, e1, l0, l1, hid, c2]
 have hb1 : c.must.length ≤ 9223372036854775807 := a1.bound
 have hb2 : e.attrs.length ≤ 9223372036854775807 := ha.bound
 have hfit : ∀ c', jf l e.attrs = some c' → c' = c := fun c' h => by rw [hc] at h; cases h; rfl
 refine aB (fun k σ => ∃ (i : Nat) (r : Nat → R), i + k = c.must.length ∧ (∀ t ∈ c.must.take i, bz PAttr.name e.attrs t ≠ none) ∧ σ = ⟨r, 2, H⟩ ∧ r 3 = .box 0 [vd, va] ∧ r 5 = .box 1 [.str c.name, w1, w2, w3] ∧ r 7 = .val (.int .i64 i)) ?_ c.must.length _ ⟨0, _, by omega, by simp, rfl, by simp, by simp, by simp⟩
 rintro k σ ⟨i, r, hik, hpre, rfl, r3, r5, r7⟩
 cases k with
 | succ k =>
  have hi : i < c.must.length := by omega
  obtain ⟨s, hs⟩ : ∃ s, c.must[i]? = some s := ⟨c.must[i], by simp [hi]⟩
  obtain ⟨id2, o2, f1, l5, _⟩ := dG a1 hs
  have hid2 := Dw l5
  obtain ⟨q, c3, hq⟩ := aa7 (t := s) ha hod.2
  have hw : IntKind.i64.wrap ((i : Int) + 1) = ((i : Int) + 1) := wrap_i64 (by omega) (by omega)
  rcases hq.pos with ⟨k', a, h1, rfl, h2⟩ | ⟨rfl, h2⟩
  ·have hk : ¬ ((k' : Int) < 0) := by omega
   simp [r3, r5, r7, ag, ae, List.lookup, a1.len, hi, f1, l5, hid2, c3, hk, hod, hoa, hw, a1.one]
   exact ⟨k, by omega, i + 1, by omega, fun t ht => by
    rw [dh hs] at ht
    rcases List.mem_append.1 ht with h | h
    ·exact hpre t h
    ·obtain rfl := List.mem_singleton.1 h
     rw [h2]; simp, by simp⟩
  ·simp [r3, r5, r7, ag, ae, List.lookup, a1.len, hi, f1, l5, hid2, c3, hod, hoa, a1.one]
   rintro ⟨c', hc', hl', _⟩
   obtain rfl := hfit c' hc'
   have := List.filter_eq_nil_iff.1 hl' s (List.mem_of_getElem? hs)
   simp [h2] at this
 | zero =>
  have hi : i = c.must.length := by omega
  subst hi
  rw [List.take_length] at hpre
  simp [r3, r5, r7, ag, ae, a1.len, a1.one]
  refine aB (fun k σ => ∃ (i : Nat) (r : Nat → R), i + k = e.attrs.length ∧ (∀ a ∈ e.attrs.take i, jR c a) ∧ σ = ⟨r, 2 + i, H⟩ ∧ r 3 = .box 0 [vd, va] ∧ r 5 = .box 1 [.str c.name, w1, w2, w3] ∧ r 8 = .val (.int .i64 i)) ?_ e.attrs.length _ ⟨0, _, by omega, by simp, rfl, by simp [r3], by simp [r5], by simp⟩
  clear r3 r5 r7 r
  rintro k σ ⟨i, r, hik, hpre2, rfl, r3, r5, r8⟩
  cases k with
  | zero =>
   have hi : i = e.attrs.length := by omega
   subst hi
   rw [List.take_length] at hpre2
   simp [r3, r5, r8, ha.len, ag, ae, hoa]
   exact ⟨c, hc, List.filter_eq_nil_iff.2 fun t ht => by
    have := hpre t ht
    cases h : bz PAttr.name e.attrs t with
    | none => exact absurd h this
    | some _ => simp, hpre2, x, hx, hH⟩
  | succ k =>
   have hi : i < e.attrs.length := by omega
   obtain ⟨a, hs⟩ : ∃ a, e.attrs[i]? = some a := ⟨e.attrs[i], by simp [hi]⟩
   obtain ⟨id2, o2, w, f1, m1, m2, m3, aw, _⟩ := fB ha hs
   have hw : IntKind.i64.wrap ((i : Int) + 1) = ((i : Int) + 1) := wrap_i64 (by omega) (by omega)
   have d1 := zg (t := a.name) a1
   have d2 := zg (t := a.name) a2
   have d3 := zg (t := a.name) a3
   have hstep : jR c a → ∀ t ∈ e.attrs.take (i + 1), jR c t := fun h t ht => by
    rw [dh hs] at ht
    rcases List.mem_append.1 ht with h' | h'
    ·exact hpre2 t h'
    ·obtain rfl := List.mem_singleton.1 h'
     exact h
   have hbad : ¬ jR c a → ¬ dX l e := by
    rintro h ⟨c', hc', _, hl', _⟩
    obtain rfl := hfit c' hc'
    exact h (hl' a (List.mem_of_getElem? hs))
   have hvl : (1 : Int) < (a.vals.length : Int) ↔ 1 < a.vals.length := by omega
   by_cases n1 : a.name = [99, 108, 97, 115, 115]
   ·by_cases n4 : 1 < a.vals.length
    ·by_cases n5 : a.name ∈ c.single
     ·rw [aj n5] at d3
      rw [n1] at d1 d2 d3
      simp [r3, r5, r8, ha.len, hi, f1, m1, m2, m3, d1, d2, d3, aw.len, aw.one, hod, hoa, a1.one, a2.one, a3.one, hw, ag, ae, List.lookup, n1, n4, hvl]
      exact hbad fun h => h.2 ⟨n4, n5⟩
     ·rw [au n5] at d3
      rw [n1] at d1 d2 d3
      simp [r3, r5, r8, ha.len, hi, f1, m1, m2, m3, d1, d2, d3, aw.len, aw.one, hod, hoa, a1.one, a2.one, a3.one, hw, ag, ae, List.lookup, n1, n4, hvl]
      exact ⟨k, by omega, i + 1, by omega, hstep ⟨.inl n1, fun h => n5 h.2⟩, _, ⟨rfl, by omega⟩, by simp [r3], by simp [r5], by simp⟩
    ·rw [n1] at d1 d2 d3
     simp [r3, r5, r8, ha.len, hi, f1, m1, m2, m3, d1, d2, d3, aw.len, aw.one, hod, hoa, a1.one, a2.one, a3.one, hw, ag, ae, List.lookup, n1, n4, hvl]
     exact ⟨k, by omega, i + 1, by omega, hstep ⟨.inl n1, fun h => n4 h.1⟩, _, ⟨rfl, by omega⟩, by simp [r3], by simp [r5], by simp⟩
   by_cases n2 : a.name ∈ c.must
   ·rw [aj n2] at d1
    by_cases n4 : 1 < a.vals.length
    ·by_cases n5 : a.name ∈ c.single
     ·rw [aj n5] at d3
      simp [r3, r5, r8, ha.len, hi, f1, m1, m2, m3, d1, d2, d3, aw.len, aw.one, hod, hoa, a1.one, a2.one, a3.one, hw, ag, ae, List.lookup, n1, n4, hvl]
      exact hbad fun h => h.2 ⟨n4, n5⟩
     ·rw [au n5] at d3
      simp [r3, r5, r8, ha.len, hi, f1, m1, m2, m3, d1, d2, d3, aw.len, aw.one, hod, hoa, a1.one, a2.one, a3.one, hw, ag, ae, List.lookup, n1, n4, hvl]
      exact ⟨k, by omega, i + 1, by omega, hstep ⟨.inr (.inl n2), fun h => n5 h.2⟩, _, ⟨rfl, by omega⟩, by simp [r3], by simp [r5], by simp⟩
    ·simp [r3, r5, r8, ha.len, hi, f1, m1, m2, m3, d1, d2, d3, aw.len, aw.one, hod, hoa, a1.one, a2.one, a3.one, hw, ag, ae, List.lookup, n1, n4, hvl]
     exact ⟨k, by omega, i + 1, by omega, hstep ⟨.inr (.inl n2), fun h => n4 h.1⟩, _, ⟨rfl, by omega⟩, by simp [r3], by simp [r5], by simp⟩
   rw [au n2] at d1
   by_cases n3 : a.name ∈ c.may
   ·rw [aj n3] at d2
    by_cases n4 : 1 < a.vals.length
    ·by_cases n5 : a.name ∈ c.single
     ·rw [aj n5] at d3
      simp [r3, r5, r8, ha.len, hi, f1, m1, m2, m3, d1, d2, d3, aw.len, aw.one, hod, hoa, a1.one, a2.one, a3.one, hw, ag, ae, List.lookup, n1, n4, hvl]
      exact hbad fun h => h.2 ⟨n4, n5⟩
     ·rw [au n5] at d3
      simp [r3, r5, r8, ha.len, hi, f1, m1, m2, m3, d1, d2, d3, aw.len, aw.one, hod, hoa, a1.one, a2.one, a3.one, hw, ag, ae, List.lookup, n1, n4, hvl]
      exact ⟨k, by omega, i + 1, by omega, hstep ⟨.inr (.inr n3), fun h => n5 h.2⟩, _, ⟨rfl, by omega⟩, by simp [r3], by simp [r5], by simp⟩
    ·simp [r3, r5, r8, ha.len, hi, f1, m1, m2, m3, d1, d2, d3, aw.len, aw.one, hod, hoa, a1.one, a2.one, a3.one, hw, ag, ae, List.lookup, n1, n4, hvl]
     exact ⟨k, by omega, i + 1, by omega, hstep ⟨.inr (.inr n3), fun h => n4 h.1⟩, _, ⟨rfl, by omega⟩, by simp [r3], by simp [r5], by simp⟩
   ·rw [au n3] at d2
    simp [r3, r5, r8, ha.len, hi, f1, m1, m2, m3, d1, d2, d3, aw.len, aw.one, hod, hoa, a1.one, a2.one, a3.one, hw, ag, ae, List.lookup, n1, hvl]
    exact hbad fun h => by
     rcases h.1 with h | h | h
     ·exact n1 h
     ·exact n2 h
     ·exact n3 h
theorem Ub {H : List Ob} {vl vd va : V} {l : List PClass} {e : PEntry} (hl : aW H vl l) (hd : bH H vd e.dn) (ha : bK H va e.attrs) (hdn : 0 < e.dn.length) :
  ∃ r : Int, callW C 160 [vl, .agg [vd, va]] H = some (.int .i64 r, H) ∧ (r = 0 ↔ dX l e) := by
 obtain ⟨r, h1, h2, _⟩ := zn hl hd ha hdn
 exact ⟨r, h1, h2⟩
noncomputable abbrev keyE (e : PEntry) : Str := aK e.dn
theorem KU {H : List Ob} {vs ve : V} {es : List PEntry} {t : Str} (h : bC H ve es) (hok : ∀ x ∈ es, DnOk x.dn) (ho : aN vs = true ∧ cellsOf vs = some [vs]) :
  ∃ r : Int, callW C 162 [.agg [vs, ve], .str t] H = some (.int .i64 r, H) ∧ FirstAt keyE es t r := by
 suffices hs : Ret C 162 [.agg [vs, ve], .str t] H fun q H' => (∃ r : Int, q = .int .i64 r ∧ FirstAt keyE es t r) ∧ H' = H by
  obtain ⟨q, H', hc, ⟨r, rfl, hr⟩, rfl⟩ := hs
  exact ⟨r, hc, hr⟩
 rw [adH]
 have hb : es.length ≤ 9223372036854775807 := h.bound
 have hone := h.one
 simp [Ea, Tryz.f162, ho, hone]
 refine aB (fun k σ => ∃ (i : Nat) (r : Nat → R), i + k = es.length ∧ σ = ⟨r, 1, H⟩ ∧ r 1 = .val (.str t) ∧ r 2 = .box 0 [vs, ve] ∧ r 5 = .val (.int .i64 i) ∧ ∀ j x, j < i → es[j]? = some x → keyE x ≠ t) ?_ es.length _ ⟨0, _, by simp, rfl, by simp, by simp, by simp, by simp⟩
 rintro k σ ⟨i, r, hik, rfl, r1, r2, r5, hall⟩
 cases k with
 | zero =>
  have hi : i = es.length := by omega
  subst hi
  have hx := fF (P := fun j (x : PEntry) => keyE x ≠ t) hall
  simp [r1, r2, r5, h.len, hone]
  exact .inr ⟨hx, rfl⟩
 | succ k =>
  have hi : i < es.length := by omega
  obtain ⟨x, hx⟩ : ∃ c, es[i]? = some c := ⟨es[i], by simp [hi]⟩
  have hw : IntKind.i64.wrap ((i : Int) + 1) = ((i : Int) + 1) := wrap_i64 (by omega) (by omega)
  obtain ⟨id, o, w1, w2, e1, l0, _, _, a1, _⟩ := dA h hx
  have c1 := qL a1 (hok x (List.mem_of_getElem? hx))
  by_cases g1 : aK x.dn = t
  ·simp [r1, r2, r5, hi, h.len, e1, l0, c1, g1, hone]
   exact .inl ⟨i, x, hx, g1, hall, rfl⟩
  ·simp [r1, r2, r5, hi, h.len, e1, l0, c1, g1, hone, hw]
   exact ⟨k, by omega, i + 1, by omega, by omega, dC (P := fun j (x : PEntry) => keyE x ≠ t) hall hx g1⟩
theorem H7 {H : List Ob} {vs ve : V} {t : PTree} (hs : aW H vs t.schema) (h : bC H ve t.entries) : callW C 74 [.agg [vs, ve]] H = some (.bool (dec (TreeOk t)), H) := by
 apply Ret.dec
 rw [aln]
 have hos := hs.one
 have hoe := h.one
 have c1 := OB hs
 by_cases g1 : eU t.schema
 rotate_left
 ·rw [au g1] at c1
  simp [Ae, Tryz.f74, hos, hoe, c1]
  exact fun h => g1 h.1
 rw [aj g1] at c1
 by_cases g2 : 20 < t.entries.length
 ·have g2' : (20 : Int) < t.entries.length := by omega
  simp [Ae, Tryz.f74, hos, hoe, c1, h.len, g2']
  exact fun h => by have := h.2.1.1; omega
 have g2' : ¬ (20 : Int) < t.entries.length := by omega
 simp [Ae, Tryz.f74, hos, hoe, c1, h.len, g2']
 have hb : t.entries.length ≤ 20 := by omega
 refine aB (fun k σ => ∃ (i : Nat) (r : Nat → R), i + k = t.entries.length ∧ σ = ⟨r, 1 + i, H⟩ ∧ r 1 = .box 0 [vs, ve] ∧ r 3 = .val (.int .i64 i) ∧ ∀ j x, j < i → t.entries[j]? = some x → EntryOk x ∧ dX t.schema x ∧ bV (fun e => aK e.dn) t.entries j x) ?_ t.entries.length _ ⟨0, _, by omega, rfl, by simp, by simp, by simp⟩
 rintro k σ ⟨i, r, hik, rfl, r1, r3, hall⟩
 cases k with
 | zero =>
  have hi : i = t.entries.length := by omega
  subst hi
  have hE := fF (P := fun j (x : PEntry) => EntryOk x ∧ dX t.schema x ∧ bV (fun e => aK e.dn) t.entries j x) hall
  simp [r1, r3, h.len, hos, hoe]
  have hdn : ∀ x ∈ t.entries, DnOk x.dn := fun x hx => by
   obtain ⟨j, hj, rfl⟩ := List.getElem_of_mem hx
   exact (hE j _ (List.getElem?_eq_getElem hj)).1.2.1
  refine aB (fun k σ => ∃ (i : Nat) (r : Nat → R), i + k = t.entries.length ∧ σ = ⟨r, 1 + t.entries.length, H⟩ ∧ r 1 = .box 0 [vs, ve] ∧ r 5 = .val (.int .i64 i) ∧ ∀ j x, j < i → t.entries[j]? = some x → iy t.entries x.dn) ?_ t.entries.length _ ⟨0, _, by omega, rfl, by simp [r1], by simp, by simp⟩
  clear r1 r3 r
  rintro k σ ⟨i, r, hik, rfl, r1, r5, hall2⟩
  cases k with
  | zero =>
   have hi : i = t.entries.length := by omega
   subst hi
   have hP := fF (P := fun j (x : PEntry) => iy t.entries x.dn) hall2
   have hT : TreeOk t := ⟨g1, ⟨hb, hE⟩, fun x hx => by
    obtain ⟨j, hj, rfl⟩ := List.getElem_of_mem hx
    exact hP j _ (List.getElem?_eq_getElem hj)⟩
   simp [r1, r5, h.len, hos, hoe, hT]
  | succ k =>
   have hi : i < t.entries.length := by omega
   obtain ⟨x, hx⟩ : ∃ c, t.entries[i]? = some c := ⟨t.entries[i], by simp [hi]⟩
   have hw : IntKind.i64.wrap ((i : Int) + 1) = ((i : Int) + 1) := wrap_i64 (by omega) (by omega)
   obtain ⟨id, o, w1, w2, e1, l0, l1, lm, a1, a2, _⟩ := dA h hx
   have ho1 := a1.one
   have hstep := fun h => dC (P := fun j (x : PEntry) => iy t.entries x.dn) hall2 hx h
   have hxd := hdn x (List.mem_of_getElem? hx)
   by_cases q1 : 1 < x.dn.length
   rotate_left
   ·have q1' : ¬ (1 : Int) < x.dn.length := by omega
    have := hstep (.inl (by omega))
    simp [r1, r5, hi, h.len, e1, l0, a1.len, q1', hos, hoe, ho1, hw, ae, ag, List.lookup]
    exact ⟨k, by omega, i + 1, by omega, by omega, this⟩
   have q1' : (1 : Int) < x.dn.length := by omega
   obtain ⟨idt, off, own, cells, hv, hcell, at_⟩ := BB a1 (by omega)
   have hst : aT H idt 2 = true := by simp [aT, hcell]
   have q1'' : 1 ≤ x.dn.length := by omega
   have c2 := qL at_ hxd.tail
   obtain ⟨q, c3, hq⟩ := KU (vs := vs) (t := aK x.dn.tail) h hdn hos
   rcases hq.pos with ⟨k', y, h1, rfl, h2⟩ | ⟨rfl, h2⟩
   ·have hk : ¬ ((k' : Int) < 0) := by omega
    have hy : aK y.dn = aK x.dn.tail := by
     have := List.find?_some h2
     simpa using this
    have := hstep (.inr ⟨y, List.mem_of_getElem? h1, hy⟩)
    rw [hv] at l0 a1 ho1
    simp [r1, r5, hi, h.len, e1, l0, a1.len, q1', hos, hoe, hw, hst, q1'', c2, c3, hk, ae, ag, List.lookup]
    exact ⟨k, by omega, i + 1, by omega, by omega, this⟩
   ·have hn : ¬ TreeOk t := fun hd => by
     rcases hd.2.2 x (List.mem_of_getElem? hx) with h | ⟨y, hy, he⟩
     ·omega
     ·have := List.find?_eq_none.1 h2 y hy
      exact this (by simpa using he)
    rw [hv] at l0 a1 ho1
    simp [r1, r5, hi, h.len, e1, l0, a1.len, q1', hos, hoe, hw, hst, q1'', c2, c3, hn, ae, ag, List.lookup]
 | succ k =>
  have hi : i < t.entries.length := by omega
  obtain ⟨x, hx⟩ : ∃ c, t.entries[i]? = some c := ⟨t.entries[i], by simp [hi]⟩
  have hw : IntKind.i64.wrap ((i : Int) + 1) = ((i : Int) + 1) := wrap_i64 (by omega) (by omega)
  obtain ⟨id, o, w1, w2, e1, l0, l1, lm, a1, a2, _⟩ := dA h hx
  have hid := qB l0
  have c2 := TD a1 a2
  have hstep := fun h => dC (P := fun j (x : PEntry) => EntryOk x ∧ dX t.schema x ∧ bV (fun e => aK e.dn) t.entries j x) hall hx h
  have ho1 := a1.one
  have ho2 := a2.one
  by_cases q1 : EntryOk x
  rotate_left
  ·rw [au q1] at c2
   have hn : ¬ TreeOk t := fun hd => q1 (hd.2.1.2 i x hx).1
   simp [r1, r3, hi, h.len, e1, l0, l1, lm, hid, c2, hn, hos, hoe, ho1, ho2, ae, ag, List.lookup]
  rw [aj q1] at c2
  obtain ⟨f, c3, hf⟩ := Ub hs a1 a2 q1.1
  by_cases q2 : dX t.schema x
  rotate_left
  ·have hf0 : ¬ f = 0 := fun e => q2 (hf.1 e)
   have hn : ¬ TreeOk t := fun hd => q2 (hd.2.1.2 i x hx).2.1
   simp [r1, r3, hi, h.len, e1, l0, l1, lm, hid, c2, c3, hf0, hn, hos, hoe, ho1, ho2, ae, ag, List.lookup]
  have hf0 : f = 0 := hf.2 q2
  subst hf0
  by_cases hi0 : i = 0
  ·have := hstep ⟨q1, q2, fun y hy => by omega⟩
   subst hi0
   simp at e1
   simp [r1, r3, hi, h.len, e1, l0, l1, lm, hid, c2, c3, hos, hoe, ho1, ho2, ae, ag, List.lookup]
   exact ⟨k, by omega, 1, by omega, _, ⟨rfl, by omega⟩, by simp [r1], by simp, this⟩
  ·have hip : 0 < i := by omega
   obtain ⟨y, hy⟩ : ∃ c, t.entries[i - 1]? = some c := ⟨t.entries[i - 1]'(by omega), by simp⟩
   obtain ⟨id', o', w1', w2', e1', l0', _, _, a1', _⟩ := dA h hy
   have hid' := qB l0'
   have hyok := (hall (i - 1) y (by omega) hy).1
   have c4 := qL a1 q1.2.1
   have c5 := qL a1' hyok.2.1
   have hw1 : IntKind.i64.wrap ((i : Int) - 1) = ((i - 1 : Nat) : Int) := by rw [wrap_i64 (by omega) (by omega)]; omega
   by_cases q3 : cO (aK y.dn) (aK x.dn)
   ·have := hstep ⟨q1, q2, fun z _ hz => by rw [hy] at hz; cases hz; exact q3⟩
    simp [r1, r3, hi, h.len, e1, l0, l1, lm, hid, hid', c2, c3, c4, c5, e1', l0', hw, hw1, hip, iJ q3, hos, hoe, ho1, ho2, ae, ag, List.lookup]
    exact ⟨k, by omega, i + 1, by omega, _, ⟨rfl, by omega⟩, by simp [r1], by simp, this⟩
   ·have hn : ¬ TreeOk t := fun hd => q3 ((hd.2.1.2 i x hx).2.2 y hip hy)
    simp [r1, r3, hi, h.len, e1, l0, l1, lm, hid, hid', c2, c3, c4, c5, e1', l0', hw, hw1, hip, iH q3, hos, hoe, ho1, ho2, ae, ag, List.lookup, hn]
theorem AV {cells xs : List V} {i : Nat} (h : i ≤ cells.length) : (setRange cells i xs).take i = cells.take i := by
 unfold setRange
 rw [List.append_assoc, List.take_append_of_le_length (by simp; omega), List.take_take, Nat.min_self]
theorem P7 {G : List Ob} {id : Nat} {l : List Str} (h : G[id]? = some (.mk true 1 (l.map V.str))) (hl : l.length ≤ 1000000) (hs : ∀ s ∈ l, s.length ≤ maxLen) : AStrs G (.slc (some (id, 0)) l.length) l := by
 have := (Gs.strs (H := []) (G := G) (v := .slc (some (id, 0)) (l.map V.str).length) (l := l) ⟨G, id, rfl, by simp, h, rfl⟩ (by unfold maxLen; omega) hs).1
 simpa using this
theorem Q3 {G0 : List Ob} {id : Nat} {l : List Str} {g : Nat} {a b : List V} (p : Str → Bool) (h : G0[id]? = some (.mk true 1 (l.map V.str))) (hl : l.length ≤ 1000) (hs : ∀ s ∈ l, s.length ≤ maxLen)
  (hg : ∀ G' : List Ob, G'.length = G0.length → (∀ q, q ≠ id → G'[q]? = G0[q]?) → ∀ x, callW C g (a ++ ([.str x] ++ b)) G' = some (.bool (p x), G')) :
  ∃ G' k cs, callW C 343 [.slc (some (id, 0)) l.length, .fn g a b] G0 = some (.slc (some (id, 0)) k, G') ∧ G'.length = G0.length ∧ (∀ q, q ≠ id → G'[q]? = G0[q]?) ∧
   G'[id]? = some (.mk true 1 cs) ∧ cs.length = l.length ∧ k = (l.filter fun x => !p x).length ∧ cs.take k = (l.filter fun x => !p x).map V.str := by
 suffices hs : Ret C 343 [.slc (some (id, 0)) l.length, .fn g a b] G0 fun w G' => ∃ k cs, w = .slc (some (id, 0)) k ∧ G'.length = G0.length ∧ (∀ q, q ≠ id → G'[q]? = G0[q]?) ∧
   G'[id]? = some (.mk true 1 cs) ∧ cs.length = l.length ∧ k = (l.filter fun x => !p x).length ∧ cs.take k = (l.filter fun x => !p x).map V.str by
  obtain ⟨w, G', hc, k, cs, rfl, h1⟩ := hs
  exact ⟨G', k, cs, hc, h1⟩
 rw [UN]
 obtain ⟨r, c1, hr⟩ := qI (P7 h (by omega) hs) p (fun x _ => hg G0 rfl (fun _ _ => rfl) x)
 rcases hr with ⟨k0, x0, hx0, hp0, hlt0, rfl⟩ | ⟨hn, rfl⟩
 rotate_left
 ·have hf : (l.filter fun x => !p x) = l := by
   rw [List.filter_eq_self]
   intro x hx
   obtain ⟨j, hj, rfl⟩ := List.getElem_of_mem hx
   rw [hn j _ (List.getElem?_eq_getElem hj)]
   rfl
  rw [hf]
  simp [uB, Tryz.f343, c1]
  exact ⟨l.map V.str, h, by simp, by rw [List.take_of_length_le (by simp)]⟩
 have hk0 : k0 < l.length := (List.getElem?_eq_some_iff.1 hx0).1
 have hm1 : ¬ ((k0 : Int) = -1) := by omega
 have hw0 : IntKind.i64.wrap ((k0 : Int) + 1) = (k0 : Int) + 1 := wrap_i64 (by omega) (by omega)
 have hpre : (l.take (k0 + 1)).filter (fun x => !p x) = l.take k0 := by
  rw [dh hx0, List.filter_append]
  have : (l.take k0).filter (fun x => !p x) = l.take k0 := by
   rw [List.filter_eq_self]
   intro x hx
   obtain ⟨j, hj, rfl⟩ := List.getElem_of_mem hx
   simp at hj
   rw [List.getElem_take, hlt0 j _ (by omega) (List.getElem?_eq_getElem (by omega))]
   rfl
  rw [this]
  simp [hp0]
 simp [uB, Tryz.f343, c1, hm1, hw0]
 refine aB (fun m σ => ∃ (i j : Nat) (r : Nat → R) (G : List Ob) (cs : List Str), j + m = l.length ∧ σ = ⟨r, 0, G⟩ ∧ r 0 = .val (.slc (some (id, 0)) l.length) ∧ r 1 = .val (.fn g a b) ∧ r 5 = .val (.int .i64 i) ∧ r 6 = .val (.int .i64 j) ∧ i < j ∧ G.length = G0.length ∧ (∀ q, q ≠ id → G[q]? = G0[q]?) ∧
  G[id]? = some (.mk true 1 (cs.map V.str)) ∧ cs.length = l.length ∧ i = ((l.take j).filter fun x => !p x).length ∧ cs.take i = (l.take j).filter (fun x => !p x) ∧ cs.drop j = l.drop j) ?_ (l.length - (k0 + 1)) _
  ⟨k0, k0 + 1, _, G0, l, by omega, rfl, by simp, by simp, by simp, by simp, by omega, rfl, fun _ _ => rfl, h, rfl, by rw [hpre]; simp; omega, by rw [hpre], rfl⟩
 clear hm1 hw0
 rintro m σ ⟨i, j, r, G, cs, hjm, rfl, r0, r1, r5, r6, hij, hG1, hG2, hG3, hcs, hi, htk, hdr⟩
 have hid : id < G.length := (List.getElem?_eq_some_iff.1 hG3).1
 have hst : aT G id 1 = true := by simp [aT, hG3]
 cases m with
 | zero =>
  have hj : j = l.length := by omega
  subst hj
  rw [List.take_length] at hi htk
  have hil : i ≤ l.length := by omega
  have hnz : ¬ (l.length - i = 0) := by omega
  have hwa : ∀ r c, dK ⟨r, c, G⟩ (.hp id i) (ax kZ (l.length - i)) = some ⟨r, c, G.set id (.mk true 1 (setRange (cs.map V.str) i (ax kZ (l.length - i))))⟩ := by
   intro r c
   simp only [dK, hG3]
   rw [if_pos (by rw [qx, List.length_map]; omega)]
  have hst2 : ∀ o, aT (G.set id (.mk true 1 o)) id 1 = true := fun o => by simp [aT, hid]
  have hgl : ∀ o w, fM G0 (G.set id o) w = G.set id o := fun o w => Lt (by rw [List.length_set]; exact hG1)
  simp [r0, r1, r5, r6, hil, hst, aI, hnz, hwa, hst2, hgl, -setRange]
  refine ⟨hG1, fun q hq => by rw [List.getElem?_set_ne (Ne.symm hq)]; exact hG2 q hq, setRange (cs.map V.str) i (ax kZ (l.length - i)), by simp [hid, -setRange], by rw [fP (by rw [qx, List.length_map]; omega), List.length_map, hcs], hi, ?_⟩
  rw [AV (by rw [List.length_map]; omega), ← List.map_take, htk]
 | succ m =>
  have hj : j < l.length := by omega
  obtain ⟨x, hx⟩ : ∃ x, l[j]? = some x := ⟨l[j], List.getElem?_eq_getElem hj⟩
  have hxc : cs[j]? = some x := by
   have := congrArg (fun l => l[0]?) hdr
   simpa [hx] using this
  have ld := aY (o := j) (v := .str x) hG3 (by simp [hxc])
  have c2 := hg G hG1 hG2 x
  simp only [List.singleton_append] at c2
  have hw : IntKind.i64.wrap ((j : Int) + 1) = (j : Int) + 1 := wrap_i64 (by omega) (by omega)
  have hw2 : IntKind.i64.wrap ((i : Int) + 1) = (i : Int) + 1 := wrap_i64 (by omega) (by omega)
  have hil : i < l.length := by omega
  have hdr' : cs.drop (j + 1) = l.drop (j + 1) := by
   have := congrArg (List.drop 1) hdr
   simpa [List.drop_drop, Nat.add_comm] using this
  have hft := Gv hx fun x => !p x
  cases hp : p x with
  | true =>
   rw [hp] at c2 hft
   simp at hft
   simp [r0, r1, r5, r6, hj, ld, c2, hw]
   exact ⟨m, by omega, i, j + 1, by omega, _, G, ⟨rfl, rfl⟩, by simp [r0], by simp [r1], by simp [r5], by simp, by omega, hG1, hG2, cs, hG3, hcs, by rw [hft]; exact hi, by rw [hft]; exact htk, hdr'⟩
  | false =>
   rw [hp] at c2 hft
   simp at hft
   have st := store1 (v := .str x) (o := i) hG3 (by simp; omega) rfl rfl
   simp [r0, r1, r5, r6, hj, hil, ld, c2, hw, hw2, st]
   refine ⟨m, by omega, i + 1, j + 1, by omega, _, _, ⟨rfl, rfl⟩, by simp [r0], by simp [r1], by simp, by simp, by omega, by simpa using hG1, fun q hq => by rw [List.getElem?_set_ne (Ne.symm hq)]; exact hG2 q hq, cs.set i x, by rw [List.getElem?_set_self hid, List.map_set], by simpa using hcs, ?_, ?_, ?_⟩
   ·rw [hft, List.length_append, ← hi]; rfl
   ·rw [hft, ← htk, List.take_add_one, List.getElem?_set_self (by omega), List.take_set, List.set_eq_of_length_le (by simp; omega)]
    rfl
   ·rw [List.drop_set_of_lt (by omega)]; exact hdr'
theorem Sz {G : List Ob} {id k : Nat} {cs : List V} {l : List Str} (h : G[id]? = some (.mk true 1 cs)) (hk : k = l.length) (hc : cs.take k = l.map V.str) (hl : l.length ≤ maxLen) (hs : ∀ s ∈ l, s.length ≤ maxLen) : AtF G (.slice .str) [.slc (some (id, 0)) k] (.lst (l.map kN)) [id] := by
 have hlen : k ≤ cs.length := by
  have := congrArg List.length hc
  simp at this
  omega
 refine aA.2 ⟨_, _, rfl, rfl, by simpa using hl, .inr ⟨id, 0, cs, List.replicate l.length [], by simp [hk], h, by simp; omega, by simp, by simp, fun i x F hx hF => ?_⟩⟩
 rw [List.getElem?_map] at hx
 obtain ⟨s, hs', rfl⟩ := Option.map_eq_some_iff.1 hx
 have hi : i < l.length := (List.getElem?_eq_some_iff.1 hs').1
 rw [List.getElem?_replicate, if_pos hi] at hF
 cases hF
 refine dE.2 ⟨⟨s, ?_, rfl, hs s (List.mem_of_getElem? hs')⟩, rfl⟩
 have h1 : cs[i]? = some (.str s) := by
  have := congrArg (fun l => l[i]?) hc
  simp only [List.getElem?_take_of_lt (show i < k by omega), List.getElem?_map, hs'] at this
  exact this
 obtain ⟨hi2, h1⟩ := List.getElem?_eq_some_iff.1 h1
 rw [Sh.size_str, Nat.zero_add, Nat.mul_one, List.drop_eq_getElem_cons hi2, h1]
 rfl
def Back (H G : List Ob) (w : V) (l : List Str) : Prop := ∃ F, AtF G (.slice .str) [w] (.lst (l.map kN)) F ∧ F.Nodup ∧ ∀ q ∈ F, H.length ≤ q
theorem Back.nil {H G : List Ob} : Back H G (.slc none 0) [] := ⟨[], aA.2 ⟨_, _, rfl, rfl, by simp, .inl ⟨rfl, rfl, rfl⟩⟩, by simp, by simp⟩
theorem MW {H : List Ob} {ide : Nat} {own : Bool} {es : Nat} {vd va w1 w2 w3 : V} {c : PClass} {as' : List PAttr} (he : H[ide]? = some (.mk own es [vd, va])) (h : bK H va as') (hl : as'.length ≤ 1000) (hp : as'.Pairwise fun a b => a.name < b.name)
  (h1 : AStrs H w1 c.must) (o2 : aN w2 = true ∧ cellsOf w2 = some [w2]) (o3 : aN w3 = true ∧ cellsOf w3 = some [w3]) (hm : c.must.length ≤ 1000) :
  ∃ T w, callW C 294 [.agg [.str c.name, w1, w2, w3], .ptr (some (ide, 0))] H = some (w, H ++ T) ∧ Back H (H ++ T) w (c.must.filter fun t => !decide (0 < (valsOf as' t).length)) := by
 suffices hs : Ret C 294 [.agg [.str c.name, w1, w2, w3], .ptr (some (ide, 0))] H fun q H' => ∃ T, H' = H ++ T ∧ Back H (H ++ T) q (c.must.filter fun t => !decide (0 < (valsOf as' t).length)) by
  obtain ⟨q, H', hc, T, rfl, hr⟩ := hs
  exact ⟨T, q, hc, hr⟩
 rw [aeH]
 have hide : ide < H.length := (List.getElem?_eq_some_iff.1 he).1
 obtain ⟨T, w, c1, hown⟩ := CQ (h1.ext (T := [.mk true 1 [.ptr (some (ide, 0))]])) (by omega)
 rcases hown with ⟨rfl, hm0⟩ | ⟨T', id', hT, g1, g2, rfl⟩
 ·have c2 : callW C 343 [.slc none 0, .fn 344 [] [.ptr (some (H.length, 0))]] (H ++ [.mk true 1 [.ptr (some (ide, 0))]] ++ T) = some (.slc none 0, H ++ [.mk true 1 [.ptr (some (ide, 0))]] ++ T) := by
   obtain ⟨r, c3, hr⟩ := qI (H := H ++ [.mk true 1 [.ptr (some (ide, 0))]] ++ T) (v := .slc none 0) (l := []) (g := 344) (a := []) (b := [.ptr (some (H.length, 0))]) (ak.2 ⟨_, _, rfl, rfl, by simp, .inl ⟨rfl, rfl⟩⟩) (fun _ => false) (fun x hx => by cases hx)
   have hr1 : r = -1 := by
    rcases hr with ⟨k, x, hx, _⟩ | ⟨_, rfl⟩
    ·simp at hx
    ·rfl
   subst hr1
   simp only [List.append_assoc, List.cons_append, List.nil_append] at c3 ⊢
   apply Ret.eq
   rw [UN]
   simp [uB, Tryz.f343, c3]
  simp only [List.append_assoc, List.cons_append, List.nil_append] at c1 c2
  have hgn : fM H (H ++ .mk true 1 [.ptr (some (ide, 0))] :: T) (.slc none 0) = H := iZ trivial
  simp [yN, Tryz.f294, aP, c1, c2, h1.one, o2, o3, hm0, hgn]
  exact Back.nil
 ·have hT' := List.append_cancel_left hT
  subst hT'
  rw [List.length_map] at c1
  have hob : (H ++ [.mk true 1 [.ptr (some (ide, 0))]] ++ T)[H.length]? = some (.mk true 1 [.ptr (some (ide, 0))]) := by rw [List.append_assoc]; simp
  have hg1 : H.length + 1 ≤ id' := by simpa using g1
  obtain ⟨G', k, cs, c2, k1, k2, k3, k4, k5, k6⟩ := Q3 (g := 344) (a := []) (b := [.ptr (some (H.length, 0))]) (fun t => decide (0 < (valsOf as' t).length)) g2 hm (nM h1) (fun G' e1 e2 x => by
   have hup : ∀ (q : Nat) o, H[q]? = some o → G'[q]? = some o := fun q o hq => by
    have := (List.getElem?_eq_some_iff.1 hq).1
    rw [e2 q (by omega), List.append_assoc]
    exact aZ _ _ hq
   exact Uj (hup _ _ he) (by rw [e2 _ (by omega)]; exact hob) (h.up hup) hl hp)
  obtain ⟨T2, rfl⟩ : ∃ T2, G' = H ++ T2 := qM (fun q hq => by
   rw [k2 q (by omega), List.append_assoc, List.getElem?_append_left hq]) (by rw [k1, List.append_assoc]; simp)
  have hgc : ∀ n, fM H (H ++ T2) (.slc (some (id', 0)) n) = H ++ T2 := fun n => by
   unfold fM
   rw [if_neg]
   rintro ⟨_, own, es, cells, h⟩
   have := (List.getElem?_eq_some_iff.1 h).1
   omega
  have hF := Sz k3 k5 k6 (by have := List.length_filter_le (fun t => !decide (0 < (valsOf as' t).length)) c.must; unfold maxLen; omega) (fun s hs => nM h1 s (List.mem_filter.1 hs).1)
  simp only [List.append_assoc, List.cons_append, List.nil_append] at c1 c2
  simp [yN, Tryz.f294, aP, c1, c2, h1.one, o2, o3, hgc]
  exact ⟨_, by simpa using hF, by simp, by simp; omega⟩
theorem Pm {l : List PAttr} (h : jb l) (must : List Str) : (must.filter fun t => !decide (0 < (valsOf l t).length)) = must.filter fun t => (bz PAttr.name l t).isNone := by
 congr 1
 funext t
 unfold valsOf
 cases hf : bz PAttr.name l t with
 | none => rfl
 | some a =>
  have hm := List.mem_of_find?_eq_some hf
  obtain ⟨j, hj, rfl⟩ := List.getElem_of_mem hm
  have := (h.1 j _ (List.getElem?_eq_getElem hj)).2.2.2.1
  simp
  omega
theorem KO {H : List Ob} {ide : Nat} {own : Bool} {vl vd va : V} {l : List PClass} {e : PEntry} (he : H[ide]? = some (.mk own 2 [vd, va])) (hl : aW H vl l) (hd : bH H vd e.dn) (ha : bK H va e.attrs) (g1 : eU l) (g2 : EntryOk e) :
  callW C 213 [vl, .ptr (some (ide, 0))] H = some (.bool (dec (dX l e)), H) := by
 apply Ret.dec
 rw [afg]
 have hgb : ∀ X b, fM H (H ++ X) (.bool b) = H := fun X b => lQ
 have hod := hd.one
 have hoa := ha.one
 have hpw : e.attrs.Pairwise fun a b => a.name < b.name := jZ (fun j x hx => (g2.2.2.1 j x hx).2.1)
 have hal : e.attrs.length ≤ 1000 := by have := g2.2.2.2; omega
 have hcl : ∀ c ∈ l, c.must.length ≤ 1000 ∧ c.may.length ≤ 1000 ∧ c.single.length ≤ 1000 := fun c hc => by
  obtain ⟨j, hj, rfl⟩ := List.getElem_of_mem hc
  have := (g1.1 j _ (List.getElem?_eq_getElem hj)).1
  have h1 := this.l1; have h2 := this.l2; have h3 := this.l3
  omega
 obtain ⟨T1, cs, ok, c3, hres⟩ := NE he ha hal hpw hl hcl
 rcases hres with ⟨rfl, c, w1, w2, w3, hc1, rfl, q1, q2, q3⟩ | ⟨rfl, hc1, rfl⟩
 rotate_left
 ·simp [uP, Tryz.f213, c3, hgb]
  rintro ⟨c, h1, _⟩
  rw [hc1] at h1
  cases h1
 have hc : c ∈ l := by
  unfold jf at hc1
  split at hc1
  ·exact List.mem_of_find?_eq_some hc1
  ·cases hc1
 have hfit : ∀ c', jf l e.attrs = some c' → c' = c := fun c' h => by rw [hc1] at h; cases h; rfl
 obtain ⟨T2, w, c4, hb⟩ := MW (H := H ++ T1) (ide := ide) (own := own) (es := 2) (vd := vd) (va := va) (aZ _ _ he) (ha.ext (T := T1)) hal hpw q1 q2.one q3.one (hcl c hc).1
 rw [Pm g2.2.2] at hb
 obtain ⟨F, hbF, _, _⟩ := hb
 have hw : AStrs (H ++ T1 ++ T2) w (lacks c e.attrs) := AtF.at _ hbF
 obtain ⟨K, hK⟩ : ∃ K, K = T1 ++ T2 := ⟨_, rfl⟩
 rw [List.append_assoc, ← hK] at c4 hw
 by_cases m1 : lacks c e.attrs = []
 rotate_left
 ·have hl0 : (0 : Int) < (lacks c e.attrs).length := by
   have : (lacks c e.attrs).length ≠ 0 := fun h => m1 (List.length_eq_zero_iff.1 h)
   omega
  simp [uP, Tryz.f213, c3, c4, hgb, q1.one, q2.one, q3.one, hw.len, hl0, m1]
  refine ⟨by omega, ?_⟩
  rintro ⟨c', h1, h2, _⟩
  obtain rfl := hfit c' h1
  exact m1 h2
 have he' : (H ++ K)[ide]? = some (.mk own 2 [vd, va]) := aZ _ _ he
 have ld0 := aY (o := 0) (v := vd) he' rfl
 have ld1 := aY (o := 1) (v := va) he' rfl
 have haK := ha.ext (T := K)
 have hdK := hd.ext (T := K)
 have q1K : AStrs (H ++ K) w1 c.must := by have := q1.ext (T := T2); rwa [List.append_assoc, ← hK] at this
 have q2K : AStrs (H ++ K) w2 c.may := by have := q2.ext (T := T2); rwa [List.append_assoc, ← hK] at this
 have q3K : AStrs (H ++ K) w3 c.single := by have := q3.ext (T := T2); rwa [List.append_assoc, ← hK] at this
 simp [uP, Tryz.f213, c3, c4, hgb, q1.one, q2.one, q3.one, hw.len, m1, ld0, ld1, haK.len]
 have hb2 : e.attrs.length ≤ 9223372036854775807 := ha.bound
 refine aB (fun k σ => ∃ (i : Nat) (r : Nat → R), i + k = e.attrs.length ∧ (∀ a ∈ e.attrs.take i, jR c a) ∧ σ = ⟨r, 1 + i, H ++ K⟩ ∧ r 1 = .val (.ptr (some (ide, 0))) ∧ r 5 = .box 0 [.str c.name, w1, w2, w3] ∧ r 27 = .val va ∧ r 28 = .val (.int .i64 e.attrs.length) ∧ r 29 = .val (.int .i64 i)) ?_ e.attrs.length _ ⟨0, _, by omega, by simp, rfl, by simp, by simp, by simp, by simp, by simp⟩
 rintro k σ ⟨i, r, hik, hpre2, rfl, r1, r5, r27, r28, r29⟩
 cases k with
 | zero =>
  have hi : i = e.attrs.length := by omega
  subst hi
  rw [List.take_length] at hpre2
  obtain ⟨x, hx⟩ : ∃ c, e.dn[0]? = some c := ⟨e.dn[0]'g2.1, by simp⟩
  obtain ⟨id, o, e1, l0, l1, _, _⟩ := qV hdK hx
  simp only [Int.ofNat_eq_natCast, Int.natCast_zero] at e1
  have hid := qB l0
  rw [List.length_append] at hid
  have hide : ide < H.length + K.length := by have := (List.getElem?_eq_some_iff.1 he).1; omega
  have c5 := kC (t := x.value) (H := H ++ K)
  have c6 := O6 (t := x.attr) (n := norm x.value) he' haK hal hpw
  simp [r1, r5, r27, r28, r29, ld0, ld1, e1, l0, l1, hid, hide, c5, c6, hgb, ae, ag, List.lookup]
  by_cases hH : mr e.attrs x.attr (norm x.value)
  ·exact .inr ⟨aj hH, c, hc1, m1, hpre2, x, hx, hH⟩
  ·exact .inl ⟨au hH, fun ⟨_, _, _, _, y, h1, h2⟩ => by rw [hx] at h1; cases h1; exact hH h2⟩
 | succ k =>
  have hi : i < e.attrs.length := by omega
  obtain ⟨a, hs⟩ : ∃ a, e.attrs[i]? = some a := ⟨e.attrs[i], by simp [hi]⟩
  obtain ⟨id2, o2, w, f1, m1, m2, m3, aw, _⟩ := fB haK hs
  have hw : IntKind.i64.wrap ((i : Int) + 1) = ((i : Int) + 1) := wrap_i64 (by omega) (by omega)
  have d1 := mg (t := a.name) q1K
  have d2 := mg (t := a.name) q2K
  have d3 := mg (t := a.name) q3K
  have hstep : jR c a → ∀ t ∈ e.attrs.take (i + 1), jR c t := fun h t ht => by
   rw [dh hs] at ht
   rcases List.mem_append.1 ht with h' | h'
   ·exact hpre2 t h'
   ·obtain rfl := List.mem_singleton.1 h'
    exact h
  have hbad : ¬ jR c a → ¬ dX l e := by
   rintro h ⟨c', hc', _, hl', _⟩
   obtain rfl := hfit c' hc'
   exact h (hl' a (List.mem_of_getElem? hs))
  have hvl : (1 : Int) < (a.vals.length : Int) ↔ 1 < a.vals.length := by omega
  by_cases n1 : a.name = [99, 108, 97, 115, 115]
  ·by_cases n4 : 1 < a.vals.length
   ·by_cases n5 : a.name ∈ c.single
    ·rw [aj n5] at d3
     rw [n1] at d1 d2 d3
     simp [r1, r5, r27, r28, r29, hi, f1, m1, m2, m3, d1, d2, d3, aw.len, aw.one, q1.one, q2.one, q3.one, hw, hgb, ae, ag, List.lookup, n1, n4, hvl]
     exact hbad fun h => h.2 ⟨n4, n5⟩
    ·rw [au n5] at d3
     rw [n1] at d1 d2 d3
     simp [r1, r5, r27, r28, r29, hi, f1, m1, m2, m3, d1, d2, d3, aw.len, aw.one, q1.one, q2.one, q3.one, hw, hgb, ae, ag, List.lookup, n1, n4, hvl]
     exact ⟨k, by omega, i + 1, by omega, hstep ⟨.inl n1, fun h => n5 h.2⟩, _, ⟨rfl, by omega⟩, by simp [r1], by simp [r5], by simp [r27], by simp [r28], by simp⟩
   ·rw [n1] at d1 d2 d3
    simp [r1, r5, r27, r28, r29, hi, f1, m1, m2, m3, d1, d2, d3, aw.len, aw.one, q1.one, q2.one, q3.one, hw, hgb, ae, ag, List.lookup, n1, n4, hvl]
    exact ⟨k, by omega, i + 1, by omega, hstep ⟨.inl n1, fun h => n4 h.1⟩, _, ⟨rfl, by omega⟩, by simp [r1], by simp [r5], by simp [r27], by simp [r28], by simp⟩
  by_cases n2 : a.name ∈ c.must
  ·rw [aj n2] at d1
   by_cases n4 : 1 < a.vals.length
   ·by_cases n5 : a.name ∈ c.single
    ·rw [aj n5] at d3
     simp [r1, r5, r27, r28, r29, hi, f1, m1, m2, m3, d1, d2, d3, aw.len, aw.one, q1.one, q2.one, q3.one, hw, hgb, ae, ag, List.lookup, n1, n4, hvl]
     exact hbad fun h => h.2 ⟨n4, n5⟩
    ·rw [au n5] at d3
     simp [r1, r5, r27, r28, r29, hi, f1, m1, m2, m3, d1, d2, d3, aw.len, aw.one, q1.one, q2.one, q3.one, hw, hgb, ae, ag, List.lookup, n1, n4, hvl]
     exact ⟨k, by omega, i + 1, by omega, hstep ⟨.inr (.inl n2), fun h => n5 h.2⟩, _, ⟨rfl, by omega⟩, by simp [r1], by simp [r5], by simp [r27], by simp [r28], by simp⟩
   ·simp [r1, r5, r27, r28, r29, hi, f1, m1, m2, m3, d1, d2, d3, aw.len, aw.one, q1.one, q2.one, q3.one, hw, hgb, ae, ag, List.lookup, n1, n4, hvl]
    exact ⟨k, by omega, i + 1, by omega, hstep ⟨.inr (.inl n2), fun h => n4 h.1⟩, _, ⟨rfl, by omega⟩, by simp [r1], by simp [r5], by simp [r27], by simp [r28], by simp⟩
  rw [au n2] at d1
  by_cases n3 : a.name ∈ c.may
  ·rw [aj n3] at d2
   by_cases n4 : 1 < a.vals.length
   ·by_cases n5 : a.name ∈ c.single
    ·rw [aj n5] at d3
     simp [r1, r5, r27, r28, r29, hi, f1, m1, m2, m3, d1, d2, d3, aw.len, aw.one, q1.one, q2.one, q3.one, hw, hgb, ae, ag, List.lookup, n1, n4, hvl]
     exact hbad fun h => h.2 ⟨n4, n5⟩
    ·rw [au n5] at d3
     simp [r1, r5, r27, r28, r29, hi, f1, m1, m2, m3, d1, d2, d3, aw.len, aw.one, q1.one, q2.one, q3.one, hw, hgb, ae, ag, List.lookup, n1, n4, hvl]
     exact ⟨k, by omega, i + 1, by omega, hstep ⟨.inr (.inr n3), fun h => n5 h.2⟩, _, ⟨rfl, by omega⟩, by simp [r1], by simp [r5], by simp [r27], by simp [r28], by simp⟩
   ·simp [r1, r5, r27, r28, r29, hi, f1, m1, m2, m3, d1, d2, d3, aw.len, aw.one, q1.one, q2.one, q3.one, hw, hgb, ae, ag, List.lookup, n1, n4, hvl]
    exact ⟨k, by omega, i + 1, by omega, hstep ⟨.inr (.inr n3), fun h => n4 h.1⟩, _, ⟨rfl, by omega⟩, by simp [r1], by simp [r5], by simp [r27], by simp [r28], by simp⟩
  ·rw [au n3] at d2
   simp [r1, r5, r27, r28, r29, hi, f1, m1, m2, m3, d1, d2, d3, aw.len, aw.one, q1.one, q2.one, q3.one, hw, hgb, ae, ag, List.lookup, n1, hvl]
   exact hbad fun h => by
    rcases h.1 with h | h | h
    ·exact n1 h
    ·exact n2 h
    ·exact n3 h
theorem Uu {H : List Ob} {v : V} {l : List PClass} (h : aW H v l) : callW C 257 [v] H = some (.bool (decide (400 < l.length)), H) := by
 apply Ret.eq
 rw [ado]
 have hi : (400 : Int) < (l.length : Int) ↔ 400 < l.length := by omega
 simp [F8, Tryz.f257, h.len, hi]
theorem Ty {H : List Ob} {vl vd va : V} {l : List PClass} {e : PEntry} (hl : aW H vl l) (hd : bH H vd e.dn) (ha : bK H va e.attrs) (g1 : eU l) :
  ∃ r : Int, callW C 169 [vl, .agg [vd, va]] H = some (.int .i64 r, H) ∧ (r = 0 ↔ EntryOk e ∧ dX l e) := by
 suffices hs : Ret C 169 [vl, .agg [vd, va]] H fun q H' => (∃ r : Int, q = .int .i64 r ∧ (r = 0 ↔ EntryOk e ∧ dX l e)) ∧ H' = H by
  obtain ⟨q, H', hc, ⟨r, rfl, hr⟩, rfl⟩ := hs
  exact ⟨r, hc, hr⟩
 rw [Wu]
 have hod := hd.one
 have hoa := ha.one
 have hgi : ∀ X n, fM H (H ++ X) (.int .i64 n) = H := fun X n => fQ
 have c0 := Uu (hl.ext (T := [.mk true 2 [vd, va]]))
 have c1 := GZ (hl.ext (T := [.mk true 2 [vd, va]]))
 have c2 := Ti (hd.ext (T := [.mk true 2 [vd, va]])) (ha.ext (T := [.mk true 2 [vd, va]]))
 have g0 : ¬ 400 < l.length := by have := g1.2; omega
 rw [aj g1] at c1
 have ld := mM (H := H ++ [.mk true 2 [vd, va]]) (o := 0) (n := 2) get_last (by simp) (by decide) rfl
 simp at ld
 by_cases g2 : EntryOk e
 rotate_left
 ·rw [au g2] at c2
  simp [vI, Tryz.f169, c0, c1, c2, g0, ld, hod, hoa, aP, hgi, g2]
 rw [aj g2] at c2
 have c3 := KO (H := H ++ [.mk true 2 [vd, va]]) (ide := H.length) (own := true) get_last hl.ext hd.ext ha.ext g1 g2
 by_cases g3 : dX l e
 ·rw [aj g3] at c3
  simp [vI, Tryz.f169, c0, c1, c2, c3, g0, ld, hod, hoa, aP, hgi, g2, g3]
 ·rw [au g3] at c3
  simp [vI, Tryz.f169, c0, c1, c2, c3, g0, ld, hod, hoa, aP, hgi, g2, g3]
theorem LV {H : List Ob} {w1 w2 : V} {x : PEntry} {t : Str} (h : bH H w1 x.dn) (hd : DnOk x.dn) (ho : aN w2 = true ∧ cellsOf w2 = some [w2]) : callW C 274 [.agg [w1, w2], .str t] H = some (.int .i64 (oQ (aK x.dn) t), H) := by
 apply Ret.eq
 rw [adg]
 have c1 := Bg h hd
 simp [Em, Tryz.f274, UD, c1, h.one, ho]
theorem Oa {H : List Ob} {v : V} {l : List PEntry} {t : Str} (h : bC H v l) (hl : l.length ≤ 1000) (hok : ∀ x ∈ l, DnOk x.dn) (hp : l.Pairwise fun a b => (aK a.dn) < (aK b.dn)) :
  ∃ (i : Nat) (ok : Bool), callW C 273 [v, .str t, .fn 274 [] []] H = some (.tup [.int .i64 i, .bool ok], H) ∧
   i ≤ l.length ∧ (∀ q a, q < i → l[q]? = some a → cO (aK a.dn) t) ∧ (∀ q a, i ≤ q → l[q]? = some a → ¬ cO (aK a.dn) t) ∧ (ok = true ↔ ∃ a, l[i]? = some a ∧ (aK a.dn) = t) := by
 suffices hs : Ret C 273 [v, .str t, .fn 274 [] []] H fun q H' =>
   (∃ (i : Nat) (ok : Bool), q = .tup [.int .i64 i, .bool ok] ∧ i ≤ l.length ∧ (∀ q a, q < i → l[q]? = some a → cO (aK a.dn) t) ∧ (∀ q a, i ≤ q → l[q]? = some a → ¬ cO (aK a.dn) t) ∧ (ok = true ↔ ∃ a, l[i]? = some a ∧ (aK a.dn) = t)) ∧ H' = H by
  obtain ⟨q, H', hc, ⟨i, ok, rfl, h1⟩, rfl⟩ := hs
  exact ⟨i, ok, hc, h1⟩
 rw [aaF]
 simp [FC, Tryz.f273, h.len]
 refine aB (fun k σ => ∃ (i j : Nat) (r : Nat → R), j - i = k ∧ i ≤ j ∧ j ≤ l.length ∧ σ = ⟨r, 0, H⟩ ∧ r 0 = .val v ∧ r 1 = .val (.str t) ∧ r 2 = .val (.fn 274 [] []) ∧ r 8 = .val (.int .i64 l.length) ∧ r 9 = .val (.int .i64 i) ∧ r 10 = .val (.int .i64 j) ∧
  (∀ q a, q < i → l[q]? = some a → cO (aK a.dn) t) ∧ (∀ q a, j ≤ q → l[q]? = some a → ¬ cO (aK a.dn) t)) ?_ l.length _ ⟨0, l.length, _, by omega, by omega, by omega, rfl, by simp, by simp, by simp, by simp, by simp, by simp, fun q a h => by omega, fun q a h1 h2 => by have := (List.getElem?_eq_some_iff.1 h2).1; omega⟩
 rintro k σ ⟨i, j, r, hk, hij, hjl, rfl, r0, r1, r2, r8, r9, r10, hlo, hhi⟩
 cases k with
 | succ k =>
  have hlt : (i : Int) < j := by omega
  have hlt' : i < j := by omega
  have hw1 : IntKind.i64.wrap ((i : Int) + j) = (i : Int) + j := wrap_i64 (by omega) (by omega)
  have hw2 : IntKind.u64.wrap ((i : Int) + j) = (i : Int) + j := by unfold IntKind.wrap; simp [IntKind.bits, IntKind.signed]; omega
  have hq : ((i : Int) + j).fdiv 2 = (((i + j) / 2 : Nat) : Int) := by rw [Int.fdiv_eq_ediv_of_nonneg _ (by omega)]; omega
  obtain ⟨m, hm⟩ : ∃ m, m = (i + j) / 2 := ⟨_, rfl⟩
  rw [← hm] at hq
  have hw3 : IntKind.i64.wrap (m : Int) = m := wrap_i64 (by omega) (by omega)
  have hw4 : IntKind.i64.wrap ((m : Int) + 1) = (m : Int) + 1 := wrap_i64 (by omega) (by omega)
  have hml : m < l.length := by omega
  obtain ⟨a, ha⟩ : ∃ a, l[m]? = some a := ⟨l[m], List.getElem?_eq_getElem hml⟩
  obtain ⟨id, o, w1, w2, e1, l0, l1, l2, hvs, hva, _⟩ := dA h ha
  have c1 := LV (t := t) hvs (hok a (List.mem_of_getElem? ha)) hva.one
  have hord : ∀ q b, l[q]? = some b → (q < m → (aK b.dn) < (aK a.dn)) ∧ (m < q → (aK a.dn) < (aK b.dn)) := fun q b hb => by
   obtain ⟨hq1, hb⟩ := List.getElem?_eq_some_iff.1 hb
   obtain ⟨_, ha⟩ := List.getElem?_eq_some_iff.1 ha
   have := List.pairwise_iff_getElem.1 hp
   exact ⟨fun hh => by have := this q m hq1 hml hh; rwa [hb, ha] at this, fun hh => by have := this m q hml hq1 hh; rwa [hb, ha] at this⟩
  by_cases g1 : cO (aK a.dn) t
  ·have g1' := rW.2 g1
   simp [r0, r1, r2, r8, r9, r10, hlt, hlt', hw1, hw2, hq, hw3, hw4, e1, l2, c1, g1', jh, IntKind.bits]
   refine ⟨j - (m + 1), by omega, m + 1, j, by omega, by omega, by omega, by omega, rfl, fun q b hq1 hb => ?_, hhi⟩
   by_cases hqm : q = m
   ·subst hqm; rw [ha] at hb; cases hb; exact g1
   ·exact (bI _ _).2 (List.lt_trans ((hord q b hb).1 (by omega)) ((bI _ _).1 g1))
  ·have g1' : ¬ oQ (aK a.dn) t < 0 := mt rW.1 g1
   simp [r0, r1, r2, r8, r9, r10, hlt, hlt', hw1, hw2, hq, hw3, hw4, e1, l2, c1, g1', jh, IntKind.bits]
   refine ⟨m - i, by omega, i, m, by omega, by omega, by omega, rfl, rfl, hlo, fun q b hq1 hb hlt2 => ?_⟩
   by_cases hqm : q = m
   ·subst hqm; rw [ha] at hb; cases hb; exact g1 hlt2
   ·exact g1 ((bI _ _).2 (List.lt_trans ((hord q b hb).2 (by omega)) ((bI _ _).1 hlt2)))
 | zero =>
  have hij' : i = j := by omega
  subst hij'
  by_cases hil : i < l.length
  ·have hilI : (i : Int) < l.length := by omega
   obtain ⟨a, ha⟩ : ∃ a, l[i]? = some a := ⟨l[i], List.getElem?_eq_getElem hil⟩
   obtain ⟨id, o, w1, w2, e1, l0, l1, l2, hvs, hva, _⟩ := dA h ha
   have c1 := LV (t := t) hvs (hok a (List.mem_of_getElem? ha)) hva.one
   by_cases g1 : (aK a.dn) = t
   ·have g1' := oK.2 g1
    simp [r0, r1, r2, r8, r9, r10, hil, e1, l2, c1, g1']
    exact ⟨i, rfl, by omega, hlo, hhi, a, ha, g1⟩
   ·have g1' : ¬ oQ (aK a.dn) t = 0 := mt oK.1 g1
    simp [r0, r1, r2, r8, r9, r10, hil, e1, l2, c1, g1']
    exact ⟨i, rfl, by omega, hlo, hhi, fun b hb => by rw [ha] at hb; cases hb; exact g1⟩
  ·simp [r0, r1, r2, r8, r9, r10, hil]
   exact ⟨i, rfl, by omega, hlo, hhi, fun b hb => by have := (List.getElem?_eq_some_iff.1 hb).1; omega⟩
theorem nZ {H : List Ob} {idt : Nat} {own : Bool} {es : Nat} {vs ve vd : V} {l : List PEntry} {dn : List PRdn} (ht : H[idt]? = some (.mk own es [vs, ve])) (h : bC H ve l) (hl : l.length ≤ 1000) (hok : ∀ x ∈ l, DnOk x.dn) (hp : l.Pairwise fun a b => aK a.dn < aK b.dn) (hd : bH H vd dn) (hdn : DnOk dn) :
  ∃ (i : Nat) (ok : Bool), callW C 192 [.ptr (some (idt, 0)), vd] H = some (.tup [.int .i64 i, .bool ok], H) ∧
   i ≤ l.length ∧ (∀ q a, q < i → l[q]? = some a → cO (aK a.dn) (aK dn)) ∧ (∀ q a, i ≤ q → l[q]? = some a → ¬ cO (aK a.dn) (aK dn)) ∧ (ok = true ↔ ∃ a, l[i]? = some a ∧ aK a.dn = aK dn) := by
 obtain ⟨i, ok, c1, h1⟩ := Oa (t := aK dn) h hl hok hp
 refine ⟨i, ok, ?_, h1⟩
 apply Ret.eq
 rw [aaL]
 have c2 := Bg hd hdn
 have ld := aY (o := 1) (v := ve) ht rfl
 have hid : idt < H.length := (List.getElem?_eq_some_iff.1 ht).1
 simp [DK, Tryz.f192, c1, c2, ld, hid, ae, ag, List.lookup]
theorem Gy {H : List Ob} {idt : Nat} {own : Bool} {es : Nat} {vs ve vd : V} {l : List PEntry} {dn : List PRdn} (ht : H[idt]? = some (.mk own es [vs, ve])) (h : bC H ve l) (hl : l.length ≤ 1000) (hok : ∀ x ∈ l, DnOk x.dn) (hp : l.Pairwise fun a b => aK a.dn < aK b.dn) (hd : bH H vd dn) (hdn : DnOk dn) :
  callW C 173 [.ptr (some (idt, 0)), vd] H = some (.bool (dec (iy l dn)), H) := by
 apply Ret.dec
 rw [adx]
 by_cases g1 : dn.length ≤ 1
 ·have g1' : (dn.length : Int) ≤ 1 := by omega
  simp [wo, Tryz.f173, hd.len, g1']
  exact .inl g1
 have g1' : ¬ (dn.length : Int) ≤ 1 := by omega
 obtain ⟨id, off, own', cells, hv, hcell, at_⟩ := BB hd (by omega)
 have hst : aT H id 2 = true := by simp [aT, hcell]
 have q1 : 1 ≤ dn.length := by omega
 obtain ⟨i, ok, c1, hil, hlo, hhi, hok'⟩ := nZ ht h hl hok hp at_ hdn.tail
 have hpar : ok = true ↔ iy l dn := by
  rw [hok']
  constructor
  ·rintro ⟨a, ha, he⟩
   exact .inr ⟨a, List.mem_of_getElem? ha, he⟩
  ·rintro (hh | ⟨y, hy, he⟩)
   ·omega
   ·obtain ⟨j, hj, rfl⟩ := List.getElem_of_mem hy
    have hji : ¬ j < i := fun hh => by
     have := hlo j _ hh (List.getElem?_eq_getElem hj)
     rw [he] at this
     exact List.lt_irrefl _ ((bI _ _).1 this)
    have hnl := hhi i
    by_cases hij : i = j
    ·subst hij
     exact ⟨_, List.getElem?_eq_getElem hj, he⟩
    ·have hi2 : i < l.length := by omega
     have h1 := hhi i _ (Nat.le_refl _) (List.getElem?_eq_getElem hi2)
     have h2 := List.pairwise_iff_getElem.1 hp i j hi2 hj (by omega)
     rw [he] at h2
     exact absurd ((bI _ _).2 h2) h1
 rw [hv] at hd ⊢
 cases ok with
 | true =>
  have := hpar.1 rfl
  simp [wo, Tryz.f173, hd.len, g1', hst, q1, c1, this]
 | false =>
  have : ¬ iy l dn := fun hh => by have := hpar.2 hh; cases this
  simp [wo, Tryz.f173, hd.len, g1', hst, q1, c1, this]
theorem Gf {H : List Ob} {v : V} {l : List PEntry} {g : Nat} {a b : List V} (h : bC H v l) (p : PEntry → Bool) (hg : ∀ x ∈ l, ∀ w1 w2, bH H w1 x.dn → bK H w2 x.attrs → callW C g (a ++ ([.agg [w1, w2]] ++ b)) H = some (.bool (p x), H)) :
  ∃ r : Int, callW C 259 [v, .fn g a b] H = some (.int .i64 r, H) ∧ (0 ≤ r ↔ ∃ x ∈ l, p x = true) := by
 suffices hs : Ret C 259 [v, .fn g a b] H fun q H' => (∃ r : Int, q = .int .i64 r ∧ (0 ≤ r ↔ ∃ x ∈ l, p x = true)) ∧ H' = H by
  obtain ⟨q, H', hc, ⟨r, rfl, hr⟩, rfl⟩ := hs
  exact ⟨r, hc, hr⟩
 rw [YI]
 have hb : l.length ≤ 9223372036854775807 := h.bound
 simp [Ec, Tryz.f259, h.len]
 refine aB (fun k σ => ∃ (i : Nat) (r : Nat → R), i + k = l.length ∧ σ = ⟨r, 0, H⟩ ∧ r 0 = .val v ∧ r 1 = .val (.fn g a b) ∧ r 7 = .val (.int .i64 l.length) ∧ r 8 = .val (.int .i64 i) ∧ ∀ j x, j < i → l[j]? = some x → p x = false) ?_ l.length _ ⟨0, _, by simp, rfl, by simp, by simp, by simp, by simp, by simp⟩
 rintro k σ ⟨i, r, hik, rfl, r0, r1, r7, r8, hall⟩
 cases k with
 | zero =>
  have hi : i = l.length := by omega
  subst hi
  have hx := fF (P := fun j (x : PEntry) => p x = false) hall
  simp [r0, r1, r7, r8]
  intro x hm
  obtain ⟨j, hj, rfl⟩ := List.getElem_of_mem hm
  exact hx j _ (List.getElem?_eq_getElem hj)
 | succ k =>
  have hi : i < l.length := by omega
  obtain ⟨x, hx⟩ : ∃ c, l[i]? = some c := ⟨l[i], by simp [hi]⟩
  have hw : IntKind.i64.wrap ((i : Int) + 1) = ((i : Int) + 1) := wrap_i64 (by omega) (by omega)
  obtain ⟨id, o, w1, w2, e1, l0, l1, lm, a1, a2, _⟩ := dA h hx
  have c1 := hg x (List.mem_of_getElem? hx) w1 w2 a1 a2
  simp only [List.singleton_append] at c1
  have ho1 := a1.one
  have ho2 := a2.one
  cases hp : p x with
  | false =>
   rw [hp] at c1
   simp [r0, r1, r7, r8, hi, e1, lm, c1, hw, ho1, ho2]
   exact ⟨k, by omega, i + 1, by omega, by omega, dC (P := fun j (x : PEntry) => p x = false) hall hx hp⟩
  | true =>
   rw [hp] at c1
   simp [r0, r1, r7, r8, hi, e1, lm, c1, hw, ho1, ho2]
   exact ⟨x, List.mem_of_getElem? hx, hp⟩
theorem qA {H : List Ob} {v : V} {l : List PEntry} {g : Nat} {a b : List V} (h : bC H v l) (p : PEntry → Bool) (hg : ∀ x ∈ l, ∀ w1 w2, bH H w1 x.dn → bK H w2 x.attrs → callW C g (a ++ ([.agg [w1, w2]] ++ b)) H = some (.bool (p x), H)) :
  callW C 171 [v, .fn g a b] H = some (.bool (dec (∃ x ∈ l, p x = true)), H) := by
 obtain ⟨r, c1, hr⟩ := Gf h p hg
 apply Ret.dec
 rw [aeU]
 by_cases g1 : 0 ≤ r
 ·have := hr.1 g1
  simp [yQ, Tryz.f171, c1, g1]
  exact this
 ·have : ¬ ∃ x ∈ l, p x = true := fun h => g1 (hr.2 h)
  simp [yQ, Tryz.f171, c1, g1]
  intro x hx
  cases hp : p x with
  | false => rfl
  | true => exact absurd ⟨x, hx, hp⟩ this
theorem RP {H : List Ob} {idt : Nat} {own : Bool} {es : Nat} {vs ve w1 w2 : V} {l : List PEntry} {x : PEntry} (ht : H[idt]? = some (.mk own es [vs, ve])) (h : bC H ve l) (hl : l.length ≤ 1000) (hok : ∀ x ∈ l, DnOk x.dn) (hp : l.Pairwise fun a b => aK a.dn < aK b.dn) (hd : bH H w1 x.dn) (ho : aN w2 = true ∧ cellsOf w2 = some [w2]) (hx : DnOk x.dn) :
  callW C 172 [.agg [w1, w2], .ptr (some (idt, 0))] H = some (.bool (!dec (iy l x.dn)), H) := by
 apply Ret.eq
 rw [acT]
 have c1 := Gy ht h hl hok hp hd hx
 simp [Ed, Tryz.f172, c1, hd.one, ho]
theorem Ht {H : List Ob} {vs ve : V} {t : PTree} (hs : aW H vs t.schema) (h : bC H ve t.entries) : callW C 80 [.agg [vs, ve]] H = some (.bool (dec (TreeOk t)), H) := by
 apply Ret.dec
 rw [amD]
 have hos := hs.one
 have hoe := h.one
 have hgb : ∀ X b, fM H (H ++ X) (.bool b) = H := fun X b => lQ
 obtain ⟨K, hK⟩ : ∃ K, K = H ++ [.mk true 2 [vs, ve]] := ⟨_, rfl⟩
 have hKt : K[H.length]? = some (.mk true 2 [vs, ve]) := by rw [hK]; exact get_last
 have hsK : aW K vs t.schema := by rw [hK]; exact hs.ext
 have hK2 : bC K ve t.entries := by rw [hK]; exact h.ext
 have ld0 := aY (o := 0) (v := vs) hKt rfl
 have ld1 := aY (o := 1) (v := ve) hKt rfl
 have hgK : ∀ b, fM H K (.bool b) = H := fun b => by rw [hK]; exact lQ
 have hKl : H.length < K.length := by rw [hK]; simp
 have c1 := GZ hsK
 by_cases g1 : eU t.schema
 rotate_left
 ·rw [au g1] at c1
  simp [Ad, Tryz.f80, hos, hoe, aP, ← hK, ld0, c1, hgK]
  exact fun h => g1 h.1
 rw [aj g1] at c1
 by_cases g2 : 20 < t.entries.length
 ·have g2' : (20 : Int) < t.entries.length := by omega
  simp [Ad, Tryz.f80, hos, hoe, aP, ← hK, ld0, ld1, c1, hK2.len, g2', hgK]
  exact fun h => by have := h.2.1.1; omega
 have g2' : ¬ (20 : Int) < t.entries.length := by omega
 simp [Ad, Tryz.f80, hos, hoe, aP, ← hK, ld0, ld1, c1, hK2.len, g2']
 have hb : t.entries.length ≤ 20 := by omega
 refine aB (fun k σ => ∃ (i n : Nat) (r : Nat → R), i + k = t.entries.length ∧ σ = ⟨r, n, K⟩ ∧ r 1 = .val (.ptr (some (H.length, 0))) ∧ r 16 = .val ve ∧ r 17 = .val (.int .i64 t.entries.length) ∧ r 18 = .val (.int .i64 i) ∧ ∀ j x, j < i → t.entries[j]? = some x → EntryOk x ∧ dX t.schema x ∧ bV (fun e => aK e.dn) t.entries j x) ?_ t.entries.length _ ⟨0, _, _, by omega, rfl, by simp, by simp, by simp, by simp, by simp⟩
 rintro k σ ⟨i, n, r, hik, rfl, r1, r16, r17, r18, hall⟩
 cases k with
 | zero =>
  have hi : i = t.entries.length := by omega
  subst hi
  have hE := fF (P := fun j (x : PEntry) => EntryOk x ∧ dX t.schema x ∧ bV (fun e => aK e.dn) t.entries j x) hall
  have hdn : ∀ x ∈ t.entries, DnOk x.dn := fun x hx => by
   obtain ⟨j, hj, rfl⟩ := List.getElem_of_mem hx
   exact (hE j _ (List.getElem?_eq_getElem hj)).1.2.1
  have hpw : t.entries.Pairwise fun a b => aK a.dn < aK b.dn := jZ (key := fun e => aK e.dn) (fun j x hx => (hE j x hx).2.2)
  have c2 := qA (g := 172) (a := []) (b := [.ptr (some (H.length, 0))]) hK2 (fun x => !dec (iy t.entries x.dn)) (fun x hx w1 w2 a1 a2 => RP hKt hK2 (by omega) hdn hpw a1 a2.one (hdn x hx))
  by_cases g3 : ∀ x ∈ t.entries, iy t.entries x.dn
  ·have hn : ¬ ∃ x ∈ t.entries, (!dec (iy t.entries x.dn)) = true := by
    rintro ⟨x, hx, he⟩
    rw [aj (g3 x hx)] at he
    cases he
   rw [au hn] at c2
   have hT : TreeOk t := ⟨g1, ⟨hb, hE⟩, g3⟩
   simp [r1, r16, r17, r18, ld0, ld1, c2, hgK, hT]
  ·have hn : ∃ x ∈ t.entries, (!dec (iy t.entries x.dn)) = true := by
    refine Classical.byContradiction fun hh => g3 fun x hx => Classical.byContradiction fun hp => hh ⟨x, hx, by rw [au hp]; rfl⟩
   rw [aj hn] at c2
   have hT : ¬ TreeOk t := fun h => g3 h.2.2
   simp [r1, r16, r17, r18, ld0, ld1, c2, hgK, hT]
 | succ k =>
  have hi : i < t.entries.length := by omega
  obtain ⟨x, hx⟩ : ∃ c, t.entries[i]? = some c := ⟨t.entries[i], by simp [hi]⟩
  have hw : IntKind.i64.wrap ((i : Int) + 1) = ((i : Int) + 1) := wrap_i64 (by omega) (by omega)
  obtain ⟨id, o, w1, w2, e1, l0, l1, lm, a1, a2, _⟩ := dA hK2 hx
  have hid := qB l0
  obtain ⟨f, c3, hf⟩ := Ty hsK a1 a2 g1
  have hstep := fun h => dC (P := fun j (x : PEntry) => EntryOk x ∧ dX t.schema x ∧ bV (fun e => aK e.dn) t.entries j x) hall hx h
  have ho1 := a1.one
  have ho2 := a2.one
  by_cases q1 : EntryOk x ∧ dX t.schema x
  rotate_left
  ·have hf0 : ¬ f = 0 := fun e => q1 (hf.1 e)
   have hn : ¬ TreeOk t := fun hd => q1 ⟨(hd.2.1.2 i x hx).1, (hd.2.1.2 i x hx).2.1⟩
   simp [r1, r16, r17, r18, hi, e1, l0, l1, lm, ld0, ld1, hid, hKl, c3, hf0, hn, ho1, ho2, hgK, ae, ag, List.lookup]
  have hf0 : f = 0 := hf.2 q1
  subst hf0
  by_cases hi0 : i = 0
  ·have := hstep ⟨q1.1, q1.2, fun y hy => by omega⟩
   subst hi0
   simp at e1
   simp [r1, r16, r17, r18, hi, e1, l0, l1, lm, ld0, ld1, hid, hKl, c3, ho1, ho2, hgK, ae, ag, List.lookup]
   exact ⟨k, by omega, 1, by omega, _, _, ⟨rfl, rfl⟩, by simp [r1], by simp [r16], by simp [r17], by simp, this⟩
  ·have hip : 0 < i := by omega
   obtain ⟨y, hy⟩ : ∃ c, t.entries[i - 1]? = some c := ⟨t.entries[i - 1]'(by omega), by simp⟩
   obtain ⟨id', o', w1', w2', e1', l0', _, _, a1', _⟩ := dA hK2 hy
   have hid' := qB l0'
   have hyok := (hall (i - 1) y (by omega) hy).1
   have c4 := Bg a1 q1.1.2.1
   have c5 := Bg a1' hyok.2.1
   have hw1 : IntKind.i64.wrap ((i : Int) - 1) = ((i - 1 : Nat) : Int) := by rw [wrap_i64 (by omega) (by omega)]; omega
   by_cases q3 : cO (aK y.dn) (aK x.dn)
   ·have := hstep ⟨q1.1, q1.2, fun z _ hz => by rw [hy] at hz; cases hz; exact q3⟩
    simp [r1, r16, r17, r18, hi, e1, l0, l1, lm, ld0, ld1, hid, hid', hKl, c3, c4, c5, e1', l0', hw, hw1, hip, iJ q3, ho1, ho2, hgK, ae, ag, List.lookup]
    exact ⟨k, by omega, i + 1, by omega, _, _, ⟨rfl, rfl⟩, by simp [r1], by simp [r16], by simp [r17], by simp, this⟩
   ·have hn : ¬ TreeOk t := fun hd => q3 ((hd.2.1.2 i x hx).2.2 y hip hy)
    simp [r1, r16, r17, r18, hi, e1, l0, l1, lm, ld0, ld1, hid, hid', hKl, c3, c4, c5, e1', l0', hw, hw1, hip, iH q3, ho1, ho2, hgK, ae, ag, List.lookup, hn]
def NOut (H : List Ob) (o : PEntryOut) (q : V) (H' : List Ob) : Prop := ∃ T w1 w2, q = .agg [w1, w2, .int .i64 o.code] ∧ H' = H ++ T ∧ New H.length (H ++ T).length (H ++ T) kE [w1, w2, .int .i64 o.code] o.u
theorem NOut.ill {H : List Ob} {c : Int} (h : (Lit.int .i64 c).wf = true) : NOut H (wO c) (.agg [.slc none 0, .slc none 0, .int .i64 c]) H :=
 ⟨[], .slc none 0, .slc none 0, rfl, by simp, New.st (News.cons (c1 := [.slc none 0, .slc none 0]) (m := H.length) (New.st (News.nilS (News.nilS News.nil))) (News.int h News.nil) (Nat.le_refl _) (by simp))⟩
theorem NOut.of {H G : List Ob} {e : PEntry} {w1 w2 : V} (hT : ∃ T, G = H ++ T) (hn : New H.length G.length G shEntry [w1, w2] e.u) : NOut H ⟨e, 0⟩ (.agg [w1, w2, .int .i64 0]) (fM H G (.agg [w1, w2, .int .i64 0])) := by
 obtain ⟨T, rfl⟩ := hT
 have h2 : New H.length (H ++ T).length (H ++ T) kE [w1, w2, .int .i64 0] (PEntryOut.u ⟨e, 0⟩) := New.st (News.cons (c1 := [w1, w2]) (m := (H ++ T).length) hn (News.int (by decide) News.nil) (by simp) (Nat.le_refl _))
 obtain ⟨T', h3, h4⟩ := h2.gcA
 exact ⟨T', w1, w2, rfl, h3, h4⟩
def NOutB (b : Nat) (H : List Ob) (o : PEntryOut) (q : V) (H' : List Ob) : Prop := ∃ T w1 w2, q = .agg [w1, w2, .int .i64 o.code] ∧ H' = H ++ T ∧ New b (H ++ T).length (H ++ T) kE [w1, w2, .int .i64 o.code] o.u
theorem NOutB.base {H : List Ob} {X : List Ob} {o : PEntryOut} {q : V} {H' : List Ob} (h : NOutB H.length (H ++ X) o q H') : NOut H o q (fM H H' q) := by
 obtain ⟨T, w1, w2, rfl, rfl, h3⟩ := h
 rw [List.append_assoc] at h3 ⊢
 obtain ⟨T', h4, h5⟩ := h3.gcA
 exact ⟨T', w1, w2, rfl, h4, h5⟩
theorem NOutB.one {b : Nat} {H : List Ob} {o : PEntryOut} {q : V} {H' : List Ob} (h : NOutB b H o q H') : ∃ w1 w2, q = .agg [w1, w2, .int .i64 o.code] ∧ (aN w1 = true ∧ cellsOf w1 = some [w1]) ∧ (aN w2 = true ∧ cellsOf w2 = some [w2]) := by
 obtain ⟨T, w1, w2, rfl, rfl, h3⟩ := h
 obtain ⟨_, _, hcs, a1, a2, _⟩ := mQ.1 h3.at
 cases hcs
 exact ⟨w1, w2, rfl, a1.one, a2.one⟩
theorem UJ {H : List Ob} {c : Int} : callW C 281 [.int .i64 c] H = some (.agg [.slc none 0, .slc none 0, .int .i64 c], H) := by
 apply Ret.eq
 rw [Zv]
 simp [Eo, Tryz.f281, aS, aH, ay]
theorem O0 {G : List Ob} {w : V} {o : List Str} {x : Str} {j : Nat} {B : List Ob} (hG : Gs B G w (o.map V.str)) (ho : o.length ≤ 1000) (hj : j ≤ o.length) :
  ∃ id v1 G1 v2 G2 v3 G3, w = .slc (some (id, 0)) o.length ∧ aT (G ++ [.mk true 1 []]) id 1 = true ∧ bi ⟨.str, 1, 16, [.str []]⟩ (G ++ [.mk true 1 []]) (.slc (some (G.length, 0)) 0) (.slc (some (id, 0)) j) = some (v1, G1) ∧ (∃ T1, G1 = G ++ T1) ∧
   bi ⟨.str, 1, 16, [.str []]⟩ (G1 ++ [.mk true 1 [.str x]]) v1 (.slc (some (G1.length, 0)) 1) = some (v2, G2) ∧ aT G2 id 1 = true ∧
   bi ⟨.str, 1, 16, [.str []]⟩ G2 v2 (.slc (some (id, j)) (o.length - j)) = some (v3, G3) ∧ Gs B G3 v3 ((o.take j ++ x :: o.drop j).map V.str) := by
 obtain ⟨T, id, rfl, h1, h2, rfl⟩ := hG
 have hid : id < (B ++ T).length := (List.getElem?_eq_some_iff.1 h2).1
 have hu : ∀ S, (B ++ T ++ S)[id]? = some (.mk true 1 (o.map V.str)) := fun S => aZ _ _ h2
 have hu1 := hu [.mk true 1 []]
 have n1 : aO ⟨.str, 1, 16, [.str []]⟩ (B ++ T ++ [.mk true 1 []]) (.slc (some (id, 0)) j) = some ((o.map V.str).take j, ((o.map V.str).take j).length) := by
  have hl : ((o.map V.str).take j).length = j := by simp; omega
  simp only [aO, Nat.mul_one, bg, hu1, hl]
  by_cases h0 : j = 0
  ·subst h0; simp
  ·simp only [h0, if_false]
   unfold dS
   rw [if_pos (by simp; omega)]
   simp
 obtain ⟨v1, G1, a1, g1⟩ := (Gs.init (H := B ++ T)).many n1 (List.all_eq_true.2 fun a ha => by obtain ⟨s, _, rfl⟩ := List.mem_map.1 (List.mem_of_mem_take ha); rfl) (by simp; unfold aJ; omega) (by decide) (by decide) rfl
 rw [List.nil_append] at g1
 obtain ⟨v2, G2, a2, g2⟩ := g1.push (x := .str x) (z := [.str []]) (d := .str) (b := 16) rfl (by simp; unfold aJ; omega) (by decide) (by decide) rfl
 obtain ⟨S, rfl⟩ := g2.ext
 have n3 : aO ⟨.str, 1, 16, [.str []]⟩ (B ++ T ++ S) (.slc (some (id, j)) (o.length - j)) = some ((o.map V.str).drop j, ((o.map V.str).drop j).length) := by
  have hl : ((o.map V.str).drop j).length = o.length - j := by simp
  simp only [aO, Nat.mul_one, bg, hu S, hl]
  by_cases h0 : o.length - j = 0
  ·rw [h0, List.drop_of_length_le (by simp; omega)]; simp
  ·simp only [h0, if_false]
   unfold dS
   rw [if_pos (by simp; omega), List.take_of_length_le (by simp)]
 obtain ⟨v3, G3, a3, g3⟩ := g2.many n3 (List.all_eq_true.2 fun a ha => by obtain ⟨s, _, rfl⟩ := List.mem_map.1 (List.mem_of_mem_drop ha); rfl) (by simp; unfold aJ; omega) (by decide) (by decide) rfl
 refine ⟨id, v1, G1, v2, _, v3, G3, by simp, by unfold aT; rw [hu1]; rfl, a1, g1.ext, a2, by unfold aT; rw [hu S]; rfl, a3, ?_⟩
 have := g3.low (H := B) ⟨T, rfl⟩
 simpa [List.map_take, List.map_drop] using this
theorem Va {H : List Ob} {v : V} {l : List Str} (h : AStrs H v l) (hl : l.length ≤ 1000) : ∃ T w, callW C 334 [v] H = some (w, H ++ T) ∧ New H.length (H ++ T).length (H ++ T) (.slice .str) [w] (.lst ((dH l).map kN)) := by
 suffices hs : Ret C 334 [v] H fun q H' => ∃ T, H' = H ++ T ∧ New H.length (H ++ T).length (H ++ T) (.slice .str) [q] (.lst ((dH l).map kN)) by
  obtain ⟨q, H', hc, T, rfl, hr⟩ := hs
  exact ⟨T, q, hc, hr⟩
 rw [agD]
 have hmax := h.max
 simp [D5, Tryz.f334, aI, aH, ax, St.new]
 refine aB (fun k σ => ∃ (i : Nat) (r : Nat → R) (G : List Ob) (w : V), i + k = l.length ∧ σ = ⟨r, 0, G⟩ ∧ r 0 = .val v ∧ r 3 = .val w ∧ r 4 = .val (.int .i64 i) ∧ Gs H G w (((l.take i).foldl vM []).map V.str)) ?_ l.length _ ⟨0, _, H ++ [.mk true 1 []], .slc (some (H.length, 0)) 0, by simp, rfl, by simp, by simp, by simp, by simpa using Gs.init⟩
 rintro k σ ⟨i, r, G, w, hik, rfl, r0, r3, r4, hG⟩
 obtain ⟨T, hT⟩ := hG.ext
 have hv : AStrs G v l := by rw [hT]; exact h.ext
 have hlp := (jr (l.take i) []).length_eq
 rw [List.nil_append, List.length_take] at hlp
 obtain ⟨o, ho⟩ : ∃ o, o = (l.take i).foldl vM [] := ⟨_, rfl⟩
 rw [← ho] at hG hlp
 have hmem : ∀ s ∈ o, s.length ≤ maxLen := fun s hs => hmax s (by
  have := (jr (l.take i) []).mem_iff (a := s)
  rw [← ho, List.nil_append] at this
  exact List.mem_of_mem_take (this.1 hs))
 have hos : AStrs G w o := (hG.strs (by unfold maxLen; omega) hmem).1
 cases k with
 | zero =>
  have hi : i = l.length := by omega
  subst hi
  rw [List.take_length] at ho
  have hn := hG.new (by unfold maxLen; omega) hmem
  simp [r0, r3, r4, hv.len, hG.gc]
  refine ⟨T, hT, ?_⟩
  rw [dH, ← ho, ← hT]
  simpa [hT] using hn
 | succ k =>
  have hi : i < l.length := by omega
  obtain ⟨x, hx⟩ : ∃ c, l[i]? = some c := ⟨l[i], by simp [hi]⟩
  have hw : IntKind.i64.wrap ((i : Int) + 1) = ((i : Int) + 1) := wrap_i64 (by omega) (by omega)
  obtain ⟨idx, ox, ex, lxT, _, hxl⟩ := Oq h hx
  have lx := lxT G ⟨T, hT⟩
  have hxlo : idx < G.length := by rw [hT, List.length_append]; omega
  have cx := ku (t := x) (H := G)
  have hins : (l.take (i + 1)).foldl vM [] = vM o x := by rw [dh hx, List.foldl_append, ← ho]; rfl
  simp [r0, r3, r4, hi, hv.len]
  refine aB (fun m σ => ∃ (j : Nat) (r : Nat → R), j + m = o.length ∧ σ = ⟨r, 0, G⟩ ∧ r 0 = .val v ∧ r 3 = .val w ∧ r 4 = .val (.int .i64 i) ∧ r 5 = .val (.int .i64 j) ∧ ∀ q y, q < j → o[q]? = some y → cO (norm y) (norm x)) ?_ o.length _ ⟨0, _, by simp, rfl, by simp [r0], by simp [r3], by simp [r4], by simp, by simp⟩
  clear r0 r3 r4 r
  rintro m σ ⟨j, r, hjm, rfl, r0, r3, r4, r5, hall⟩
  by_cases hcont : ∃ y, o[j]? = some y ∧ cO (norm y) (norm x)
  ·obtain ⟨y, hy, g1⟩ := hcont
   have hjo : j < o.length := (List.getElem?_eq_some_iff.1 hy).1
   obtain ⟨idy, oy, ey, ly, _⟩ := dG hos hy
   have hylo := qB ly
   have cy := ku (t := y) (H := G)
   have hwj : IntKind.i64.wrap ((j : Int) + 1) = ((j : Int) + 1) := wrap_i64 (by omega) (by omega)
   simp [r0, r3, r4, r5, hjo, hos.len, ey, ly, cy, ex, lx, cx, hxlo, hylo, iJ g1, hwj]
   exact ⟨m - 1, by omega, j + 1, by omega, by omega, dC (P := fun q (y : Str) => cO (norm y) (norm x)) hall hy g1⟩
  ·have htw := zI (p := fun y => dec (cO (norm y) (norm x))) (l := o) (k := j) (by omega) (fun q y hq hy => aj (hall q y hq hy)) (fun y hy => au fun g => hcont ⟨y, hy, g⟩)
   obtain ⟨id, v1, G1, v2, G2, v3, G3, rfl, s1, a1, ⟨T1, hT1⟩, a2, s2, a3, g3⟩ := O0 (x := x) hG (by omega) (show j ≤ o.length by omega)
   have lx1 := lxT G1 ⟨T ++ T1, by rw [hT1, hT, List.append_assoc]⟩
   have hjl : (j : Int) ≤ o.length := by omega
   have hjl' : j ≤ o.length := by omega
   have hgi : Gs H G3 v3 ((vM o x).map V.str) := by unfold vM; rw [htw.1, htw.2]; exact g3
   rw [← hins] at hgi
   by_cases hjo : j < o.length
   ·obtain ⟨y, hy⟩ : ∃ c, o[j]? = some c := ⟨o[j], by simp [hjo]⟩
    obtain ⟨idy, oy, ey, ly, _⟩ := dG hos hy
    have hylo := qB ly
    have cy := ku (t := y) (H := G)
    have g1 : ¬ cO (norm y) (norm x) := fun g => hcont ⟨y, hy, g⟩
    simp [r0, r3, r4, r5, hjo, hos.len, ey, ly, cy, ex, lx, cx, hxlo, hylo, iH g1, hjl, hjl', s1, a1, ex, lx1, a2, s2, a3, aI, aH, ax, St.new, hw]
    exact ⟨k, by omega, i + 1, by omega, _, _, ⟨rfl, rfl⟩, by simp [r0], v3, by simp, by simp [r4], hgi⟩
   ·simp [r0, r3, r4, r5, hjo, hos.len, hjl, hjl', s1, a1, ex, lx1, a2, s2, a3, aI, aH, ax, St.new, hw]
    exact ⟨k, by omega, i + 1, by omega, _, _, ⟨rfl, rfl⟩, by simp [r0], v3, by simp, by simp [r4], hgi⟩
def ry (e : PEntry) : Prop := e.dn.length ≤ 1048576 ∧ e.attrs.length ≤ 1048576 ∧ ∀ a ∈ e.attrs, a.vals.length ≤ 1048576
theorem Es {H : List Ob} {vd va : V} {e : PEntry} (hd : bH H vd e.dn) (ha : bK H va e.attrs) (hb : ry e) :
  ∃ T w1 w2, callW C 188 [.agg [vd, va]] H = some (.agg [w1, w2], H ++ T) ∧ New H.length (H ++ T).length (H ++ T) shEntry [w1, w2] e.u := by
 suffices hs : Ret C 188 [.agg [vd, va]] H fun q H' => ∃ T w1 w2, q = .agg [w1, w2] ∧ H' = H ++ T ∧ New H.length (H ++ T).length (H ++ T) shEntry [w1, w2] e.u by
  obtain ⟨q, H', hc, T, w1, w2, rfl, rfl, hr⟩ := hs
  exact ⟨T, w1, w2, hc, hr⟩
 rw [ab7]
 have hod := hd.one
 have hoa := ha.one
 obtain ⟨w1, T1, a1, n1⟩ := ig (d := .struct [(0, 9), (1, 9)]) (by_ := 32) (z := [.str [], .str []]) (sz := 2) hd rfl rfl rfl (by decide) (by decide) (by decide) (by have := hb.1; unfold aJ; omega)
 have hb2 := hb.2.1
 have how := New.one1 n1
 simp [CX, Tryz.f188, hod, hoa, aI, aH, ax, St.new, aP, a1, aS, ay, how]
 obtain ⟨K, hK⟩ : ∃ K, K = H ++ T1 := ⟨_, rfl⟩
 rw [← hK] at n1 ⊢
 have haK : bK K va e.attrs := by rw [hK]; exact ha.ext
 refine aB (fun k σ => ∃ (i : Nat) (r : Nat → R) (G : List Ob) (w : V), i + k = e.attrs.length ∧ σ = ⟨r, 3, G⟩ ∧ r 1 = .box 0 [vd, va] ∧ r 2 = .box 1 [.slc none 0, .slc none 0] ∧ r 3 = .box 2 [w1, w] ∧ r 4 = .val (.int .i64 i) ∧ LstF K G shAttr PAttr.u w (e.attrs.take i)) ?_ e.attrs.length _ ⟨0, _, K, .slc none 0, by simp, rfl, by simp, by simp, by simp, by simp, by simpa using LstF.nil⟩
 rintro k σ ⟨i, r, G, w, hik, rfl, r1, r2, r3, r4, hG⟩
 obtain ⟨S, hS⟩ := hG.pre
 have haG : bK G va e.attrs := by rw [hS]; exact haK.ext
 have hwo := hG.one
 cases k with
 | zero =>
  have hi : i = e.attrs.length := by omega
  subst hi
  rw [List.take_length] at hG
  have n2 := hG.new ha.bound
  have hne : New H.length G.length G shEntry [w1, w] e.u := by
   refine New.st (News.cons (m := K.length) (c1 := [w1]) ?_ (News.one n2 (by rw [hS]; simp)) (by rw [hK]; simp) (by rw [hS]; simp))
   rw [hS]; exact n1.ext
  obtain ⟨T', hg, hn⟩ := (show New H.length G.length (H ++ (T1 ++ S)) shEntry [w1, w] e.u by rw [← List.append_assoc, ← hK, ← hS]; exact hne).gcA
  rw [← List.append_assoc, ← hK, ← hS] at hg
  simp [r1, r2, r3, r4, haG.len, hg, how, hwo]
  exact ⟨T', w1, w, ⟨rfl, rfl⟩, rfl, by simpa using hn⟩
 | succ k =>
  have hi : i < e.attrs.length := by omega
  obtain ⟨x, hx⟩ : ∃ c, e.attrs[i]? = some c := ⟨e.attrs[i], by simp [hi]⟩
  have hw : IntKind.i64.wrap ((i : Int) + 1) = ((i : Int) + 1) := wrap_i64 (by omega) (by omega)
  obtain ⟨id, o, wx, ex, lx, hvx, hnx, hidx, _⟩ := tJ ha hx
  have hGH : G = H ++ (T1 ++ S) := by rw [hS, hK, List.append_assoc]
  obtain ⟨l0, l1, l2⟩ := lx G ⟨_, hGH⟩
  obtain ⟨l0', l1', l2'⟩ := lx (G ++ [.mk true 1 []]) ⟨_, by rw [hGH, List.append_assoc]⟩
  have hidG : id < G.length := by rw [hGH]; simp; omega
  have hvG : AStrs G wx x.vals := by rw [hGH]; exact hvx.ext
  have hbx := hb.2.2 x (List.mem_of_getElem? hx)
  obtain ⟨wv, T2, a2, n2⟩ := ig (d := .str) (by_ := 16) (z := [.str []]) (sz := 1) hvG rfl rfl rfl (by decide) (by decide) (by decide) (by unfold aJ; omega)
  have hel : New G.length (G ++ T2).length (G ++ T2) shAttr [.str x.name, wv] x.u := New.st (News.str hnx (News.one n2 (by simp)))
  obtain ⟨w', G', a3, hG', _, _⟩ := hG.push (T := T2) (d := .struct [(0, 9), (1, 30)]) (by_ := 40) (z := [.str [], .slc none 0]) (sz := 2) hel rfl rfl (by decide) (by decide) (by decide) (by simp; unfold aJ; omega)
  rw [← dh hx] at hG'
  have hwv := New.one1 n2
  have hk : Keep G.length (G ++ [.mk true 1 []]) (G ++ T2) := Gj (Nat.le_refl _)
  have hw' := hG'.one
  simp only [List.append_assoc, List.length_append] at a3
  simp [r1, r2, r3, r4, hi, haG.len, ex, l0, l1, hidG, a2, a3, hk, fU, aI, aH, ax, St.new, aS, ay, hod, hoa, hwv, hwo, hw', hw, List.lookup]
  exact ⟨k, by omega, i + 1, by omega, _, _, ⟨rfl, rfl⟩, by simp [r1], by simp [r2], w', by simp, by simp, hG'⟩
noncomputable def gY (pre : List PAttr) (n : Str) (vs : List Str) (done : Bool) : List PAttr := pre.filter (fun a => dec (cO a.name n)) ++ (if done = true ∧ vs ≠ [] then [⟨n, dH vs⟩] else []) ++ pre.filter (fun a => dec (cO n a.name))
theorem wX {a b c : Str} (h1 : cO a b) (h2 : cO b c) : cO a c := (bI _ _).2 (List.lt_trans ((bI _ _).1 h1) ((bI _ _).1 h2))
theorem eQ {a b : Str} (h1 : cO a b) : ¬ cO b a := fun h => dL _ (wX h1 h)
theorem DR (a b : Str) : cO a b ∨ a = b ∨ cO b a := by
 by_cases h1 : cO a b
 ·exact .inl h1
 ·by_cases h2 : cO b a
  ·exact .inr (.inr h2)
  ·refine .inr (.inl (List.le_antisymm (fun hh => h2 ((bI _ _).2 hh)) (fun hh => h1 ((bI _ _).2 hh))))
section
variable {pre : List PAttr} {a : PAttr} {n : Str} {vs : List Str} {done : Bool}
theorem sF {p : PAttr → Bool} (h : ∀ b ∈ pre, p b = false) : pre.filter p = [] := List.filter_eq_nil_iff.2 fun b hb => by rw [h b hb]; decide
theorem U5 (hs : ∀ b ∈ pre, cO b.name a.name) (hd : done = true ↔ vs = [] ∨ ∃ b ∈ pre, ¬ cO b.name n) (h : cO a.name n) : gY pre n vs done ++ [a] = gY (pre ++ [a]) n vs done ∧ (done = true ↔ vs = [] ∨ ∃ b ∈ pre ++ [a], ¬ cO b.name n) := by
 have h1 : ∀ b ∈ pre, cO b.name n := fun b hb => wX (hs b hb) h
 have hno : ¬ ∃ b ∈ pre, ¬ cO b.name n := fun ⟨b, hb, hn⟩ => hn (h1 b hb)
 have hmid : (if done = true ∧ vs ≠ [] then [(⟨n, dH vs⟩ : PAttr)] else []) = [] := if_neg fun ⟨h2, h3⟩ => (hd.1 h2).elim h3 hno
 have e1 := sF (pre := pre) (p := fun a => dec (cO n a.name)) fun b hb => au (eQ (h1 b hb))
 refine ⟨?_, ?_⟩
 ·unfold gY
  rw [hmid, List.filter_append, List.filter_append, e1]
  simp [aj h, au (eQ h)]
 ·rw [hd]
  constructor
  ·rintro (h2 | ⟨b, hb, hn⟩)
   ·exact .inl h2
   ·exact absurd (h1 b hb) hn
  ·rintro (h2 | ⟨b, hb, hn⟩)
   ·exact .inl h2
   ·rcases List.mem_append.1 hb with hb | hb
    ·exact absurd (h1 b hb) hn
    ·simp at hb; subst hb; exact absurd h hn
theorem put_eq (hs : ∀ b ∈ pre, cO b.name a.name) (hd : done = true ↔ vs = [] ∨ ∃ b ∈ pre, ¬ cO b.name n) (h : a.name = n) :
  (done = true → vs = []) ∧ gY pre n vs done ++ (if done = true then [] else [⟨n, dH vs⟩]) = gY (pre ++ [a]) n vs true := by
 have h1 : ∀ b ∈ pre, cO b.name n := fun b hb => h ▸ hs b hb
 have hno : ¬ ∃ b ∈ pre, ¬ cO b.name n := fun ⟨b, hb, hn⟩ => hn (h1 b hb)
 have hv : done = true → vs = [] := fun h2 => (hd.1 h2).elim id fun h3 => absurd h3 hno
 have e1 := sF (pre := pre) (p := fun a => dec (cO n a.name)) fun b hb => au (eQ (h1 b hb))
 refine ⟨hv, ?_⟩
 unfold gY
 rw [List.filter_append, List.filter_append, e1]
 subst h
 cases done with
 | true => simp [hv rfl, au (dL a.name)]
 | false =>
  have : vs ≠ [] := fun h2 => by have := hd.2 (.inl h2); cases this
  simp [this, au (dL a.name)]
theorem VC (hs : ∀ b ∈ pre, cO b.name a.name) (hd : done = true ↔ vs = [] ∨ ∃ b ∈ pre, ¬ cO b.name n) (h : cO n a.name) :
  (gY pre n vs done ++ (if done = true then [] else [⟨n, dH vs⟩])) ++ [a] = gY (pre ++ [a]) n vs true := by
 unfold gY
 rw [List.filter_append, List.filter_append]
 cases done with
 | true => simp [aj h, au (eQ h)]
 | false =>
  have h2 : vs ≠ [] := fun h2 => by have := hd.2 (.inl h2); cases this
  have h1 : ∀ b ∈ pre, cO b.name n := fun b hb => Classical.byContradiction fun hn => by have := hd.2 (.inr ⟨b, hb, hn⟩); cases this
  have e1 := sF (pre := pre) (p := fun a => dec (cO n a.name)) fun b hb => au (eQ (h1 b hb))
  rw [e1]
  simp [h2, aj h, au (eQ h)]
theorem SH (hd : done = true ↔ vs = [] ∨ ∃ b ∈ pre, ¬ cO b.name n) : gY pre n vs done ++ (if done = true then [] else [⟨n, dH vs⟩]) = dJ pre n (dH vs) := by
 have hz : dH vs = [] ↔ vs = [] := by rw [← List.length_eq_zero_iff, lM, List.length_eq_zero_iff]
 unfold gY dJ
 cases done with
 | true =>
  by_cases h2 : vs = []
  ·simp [h2, Nc]
  ·simp [h2, hz]
 | false =>
  have h2 : vs ≠ [] := fun h2 => by have := hd.2 (.inl h2); cases this
  have h1 : ∀ b ∈ pre, cO b.name n := fun b hb => Classical.byContradiction fun hn => by have := hd.2 (.inr ⟨b, hb, hn⟩); cases this
  have e1 := sF (pre := pre) (p := fun a => dec (cO n a.name)) fun b hb => au (eQ (h1 b hb))
  rw [e1]
  simp [h2, hz]
end
theorem aaW {H : List Ob} {vd va vv : V} {e : PEntry} {n : Str} {vs : List Str} (hd : bH H vd e.dn) (ha : bK H va e.attrs) (hb : ry e) (hp : e.attrs.Pairwise fun a b => a.name < b.name) (hn : n.length ≤ maxLen) (hv : AStrs H vv vs) (hvl : vs.length ≤ 1000) :
  ∃ T w1 w2, callW C 282 [.agg [vd, va], .str n, vv] H = some (.agg [w1, w2], H ++ T) ∧ At (H ++ T) shEntry [w1, w2] (JQ e n (dH vs)).u ∧ ¬ fD H w2 := by
 suffices hs : Ret C 282 [.agg [vd, va], .str n, vv] H fun q H' => ∃ T w1 w2, q = .agg [w1, w2] ∧ H' = H ++ T ∧ At (H ++ T) shEntry [w1, w2] (JQ e n (dH vs)).u ∧ ¬ fD H w2 by
  obtain ⟨q, H', hc, T, w1, w2, rfl, rfl, hr⟩ := hs
  exact ⟨T, w1, w2, hc, hr⟩
 rw [Yv]
 have hod := hd.one
 have hoa := ha.one
 obtain ⟨T1, d1, a1, c1, n1⟩ := Es hd ha hb
 obtain ⟨K, hK⟩ : ∃ K, K = H ++ T1 := ⟨_, rfl⟩
 rw [← hK] at n1 c1
 obtain ⟨_, _, hcs, hd1, ha1⟩ := iq.1 n1.at
 cases hcs
 obtain ⟨T2, wv, c2, n2⟩ := Va (H := K ++ [.mk true 2 []]) (v := vv) (l := vs) (by rw [hK]; exact hv.ext.ext) hvl
 obtain ⟨K3, hK3⟩ : ∃ K3, K3 = K ++ [.mk true 2 []] ++ T2 := ⟨_, rfl⟩
 rw [← hK3] at n2 c2
 have hoD := hd1.one
 have hoA := ha1.one
 have hoV := New.one1 n2
 have hL0 : Lst K K3 shAttr PAttr.u (.slc (some (K.length, 0)) 0) [] := by
  rw [hK3]
  have h := Lst.init (B := K) (sh := shAttr) (f := PAttr.u)
  exact h.ext
 obtain ⟨F, f1, f2, f3⟩ := New.st (News.str hn (News.one n2 (by rw [hK3]; simp)))
 have fx : AtF K3 shAttr [.str n, wv] (⟨n, dH vs⟩ : PAttr).u F := f1
 have hvsI : ((vs.length : Int) = 0) = (vs = []) := by rw [← List.length_eq_zero_iff]; simp
 simp [F9, Tryz.f282, c1, c2, hod, hoa, hoD, hoA, hoV, hv.len, aI, aH, ax, St.new, aP, aS, ay, hvsI]
 have hbl := hb.2.1
 refine aB (fun k σ => ∃ (i : Nat) (r : Nat → R) (G : List Ob) (w : V) (done : Bool), i + k = e.attrs.length ∧ σ = ⟨r, 4, G⟩ ∧ r 1 = .val (.str n) ∧ r 6 = .box 1 [.slc none 0, .slc none 0] ∧ r 7 = .box 2 [d1, a1] ∧ r 8 = .val w ∧ r 9 = .box 3 [.str n, wv] ∧ r 10 = .val (.bool done) ∧ r 11 = .val (.int .i64 i) ∧
  Lst K G shAttr PAttr.u w (gY (e.attrs.take i) n vs done) ∧ (done = true ↔ vs = [] ∨ ∃ b ∈ e.attrs.take i, ¬ cO b.name n) ∧ AtF G shAttr [.str n, wv] (⟨n, dH vs⟩ : PAttr).u F ∧ (∀ q ∈ F, ∀ m, w ≠ .slc (some (q, 0)) m) ∧ w ≠ .slc none 0) ?_ e.attrs.length _
  ⟨0, _, K3, .slc (some (K.length, 0)) 0, decide (vs = []), by simp, rfl, by simp, by simp, by simp, by simp, by simp, by simp, by simp, by simpa [gY] using hL0, by simp, fx, fun q hq m => by have := (f3 q hq).1; simp at this ⊢; omega, by simp⟩
 rintro k σ ⟨i, r, G, w, done, hik, rfl, r1, r6, r7, r8, r9, r10, r11, hG, hdone, hx, hxw, hwn⟩
 obtain ⟨S, hS⟩ := hG.pre
 have hwo := hG.one
 have haG : bK G a1 e.attrs := by rw [hS]; exact ha1.ext
 have hxc : [V.str n, wv].length = 2 := rfl
 have hpl : ∀ d, (gY (e.attrs.take i) n vs d).length ≤ 2097160 := fun d => by
  unfold gY
  have e1 := List.length_filter_le (fun a : PAttr => dec (cO a.name n)) (e.attrs.take i)
  have e2 := List.length_filter_le (fun a : PAttr => dec (cO n a.name)) (e.attrs.take i)
  have e3 := List.length_take_le i e.attrs
  have e4 : (if d = true ∧ vs ≠ [] then [(⟨n, dH vs⟩ : PAttr)] else []).length ≤ 1 := by split <;> simp
  simp only [List.length_append]
  omega
 have hmm : ∀ k : Nat, k ≤ 2097165 → k * 40 ≤ aJ := fun k hk => by unfold aJ; omega
 cases k with
 | zero =>
  have hi : i = e.attrs.length := by omega
  subst hi
  rw [List.take_length] at hG hdone hpl
  have hend := SH hdone
  cases done with
  | true =>
   simp only [if_true, List.append_nil] at hend
   rw [hend] at hG
   have hb3 : (dJ e.attrs n (dH vs)).length ≤ maxLen := by rw [← hend]; have := hpl true; unfold maxLen; omega
   have hat : At G shEntry [d1, w] (JQ e n (dH vs)).u := iq.2 ⟨d1, w, rfl, by rw [hS]; exact hd1.ext, hG.at hb3⟩
   have hnl : ¬ fD H w := hG.notlow hwn (by rw [hK]; simp)
   have hgc : fM H G (.agg [d1, w]) = G := rH fun h => hnl h.2.1
   simp [r1, r6, r7, r8, r9, r10, r11, haG.len, hgc, hoD, hoA, hwo]
   exact ⟨T1 ++ S, d1, w, ⟨rfl, rfl⟩, by rw [hS, hK]; simp, by rw [← List.append_assoc, ← hK, ← hS]; exact hat, hnl⟩
  | false =>
   simp only [Bool.false_eq_true, if_false] at hend
   obtain ⟨w', G', p1, hG', _, _, hw', hfr, _⟩ := hG.push (T := []) (x := ⟨n, dH vs⟩) (c := [.str n, wv]) (d := .struct [(0, 9), (1, 30)]) (by_ := 40) (z := [.str [], .slc none 0]) (sz := 2) (.inl ⟨F, by rw [List.append_nil]; exact hx, hxw⟩) rfl rfl (by decide) (by decide) (by decide) (hmm _ (by have := hpl false; omega))
   rw [hend] at hG'
   obtain ⟨S', hS'⟩ := hG'.pre
   have hwo' := hG'.one
   have hb3 : (dJ e.attrs n (dH vs)).length ≤ maxLen := by rw [← hend]; have := hpl false; simp; unfold maxLen; omega
   have hat : At G' shEntry [d1, w'] (JQ e n (dH vs)).u := iq.2 ⟨d1, w', rfl, by rw [hS']; exact hd1.ext, hG'.at hb3⟩
   have hnl : ¬ fD H w' := hG'.notlow (by rw [hw']; simp) (by rw [hK]; simp)
   have hgc : fM H G' (.agg [d1, w']) = G' := rH fun h => hnl h.2.1
   simp only [List.append_nil] at p1
   simp [r1, r6, r7, r8, r9, r10, r11, haG.len, hgc, hoD, hoA, hoV, hwo, hwo', aI, aH, ax, St.new, p1]
   exact ⟨T1 ++ S', d1, w', ⟨rfl, rfl⟩, by rw [hS', hK]; simp, by rw [← List.append_assoc, ← hK, ← hS']; exact hat, hnl⟩
 | succ k =>
  have hi : i < e.attrs.length := by omega
  obtain ⟨a, hxa⟩ : ∃ c, e.attrs[i]? = some c := ⟨e.attrs[i], by simp [hi]⟩
  have hw : IntKind.i64.wrap ((i : Int) + 1) = ((i : Int) + 1) := wrap_i64 (by omega) (by omega)
  have htk := dh hxa
  have hsort : ∀ b ∈ e.attrs.take i, cO b.name a.name := fun b hb => by
   obtain ⟨j, hj, rfl⟩ := List.getElem_of_mem hb
   have hj2 : j < i ∧ j < e.attrs.length := by rw [List.length_take] at hj; omega
   rw [List.getElem_take]
   obtain ⟨hi', rfl⟩ := List.getElem?_eq_some_iff.1 hxa
   exact (bI _ _).2 (List.pairwise_iff_getElem.1 hp j i hj2.2 hi hj2.1)
  obtain ⟨id, o, wx, ex, lx, hvx, hnx, hidx, hatx⟩ := tJ ha1 hxa
  obtain ⟨l0, l1, l2⟩ := lx G ⟨_, hS⟩
  have hox := hvx.one
  rcases DR a.name n with hlt | heq | hgt
  ·obtain ⟨q1, q2⟩ := U5 hsort hdone hlt
   obtain ⟨w', G', p1, hG', _, _, hw', hfr, _⟩ := hG.push (T := []) (x := a) (c := [.str a.name, wx]) (d := .struct [(0, 9), (1, 30)]) (by_ := 40) (z := [.str [], .slc none 0]) (sz := 2) (.inr hatx) rfl rfl (by decide) (by decide) (by decide) (hmm _ (by have := hpl done; omega))
   rw [q1, ← htk] at hG'
   rw [← htk] at q2
   rw [List.append_nil] at hw' hfr
   obtain ⟨k1, k2⟩ := nX hx hxw hw' hfr
   simp only [List.append_nil] at p1
   have hne : ¬ a.name = n := fun e => dL _ (e ▸ hlt)
   cases done with
   | false =>
    simp [r1, r6, r7, r8, r9, r10, r11, hi, haG.len, ex, l0, l2, iH (eQ hlt), hne, hoD, hoA, hoV, hox, aI, aH, ax, St.new, p1, hw]
    exact ⟨k, by omega, i + 1, by omega, _, _, ⟨rfl, rfl⟩, by simp [r1], by simp [r6], by simp [r7], w', by simp, by simp [r9], .inl ⟨by simp [r10], by simp, hG', by simpa using q2, k1, k2, by rw [hw']; simp⟩⟩
   | true =>
    simp [r1, r6, r7, r8, r9, r10, r11, hi, haG.len, ex, l0, l2, iH (eQ hlt), hne, hoD, hoA, hoV, hox, aI, aH, ax, St.new, p1, hw]
    exact ⟨k, by omega, i + 1, by omega, _, _, ⟨rfl, rfl⟩, by simp [r1], by simp [r6], by simp [r7], w', by simp, by simp [r9], .inr ⟨by simp [r10], by simp, hG', by simpa using q2, k1, k2, by rw [hw']; simp⟩⟩
  ·obtain ⟨q1, q2⟩ := put_eq hsort hdone heq
   have hdone' : true = true ↔ vs = [] ∨ ∃ b ∈ e.attrs.take (i + 1), ¬ cO b.name n := ⟨fun _ => .inr ⟨a, by rw [htk]; simp, by rw [heq]; exact dL n⟩, fun _ => rfl⟩
   cases done with
   | true =>
    simp only [if_true, List.append_nil] at q2
    rw [q2, ← htk] at hG
    simp [r1, r6, r7, r8, r9, r10, r11, hi, haG.len, ex, l0, l2, heq, iH (dL n), hoD, hoA, hoV, hox, hw]
    exact ⟨k, by omega, i + 1, by omega, _, _, ⟨rfl, rfl⟩, by simp [r1], by simp [r6], by simp [r7], w, by simp [r8], by simp [r9], .inr ⟨by simp [r10], by simp, hG, by simpa using hdone', hx, hxw, hwn⟩⟩
   | false =>
    simp only [Bool.false_eq_true, if_false] at q2
    obtain ⟨w', G', p1, hG', _, _, hw', hfr, _⟩ := hG.push (T := []) (x := ⟨n, dH vs⟩) (c := [.str n, wv]) (d := .struct [(0, 9), (1, 30)]) (by_ := 40) (z := [.str [], .slc none 0]) (sz := 2) (.inl ⟨F, by rw [List.append_nil]; exact hx, hxw⟩) rfl rfl (by decide) (by decide) (by decide) (hmm _ (by have := hpl false; omega))
    rw [q2, ← htk] at hG'
    rw [List.append_nil] at hw' hfr
    obtain ⟨k1, k2⟩ := nX hx hxw hw' hfr
    simp only [List.append_nil] at p1
    simp [r1, r6, r7, r8, r9, r10, r11, hi, haG.len, ex, l0, l2, heq, iH (dL n), hoD, hoA, hoV, hox, aI, aH, ax, St.new, p1, hw]
    exact ⟨k, by omega, i + 1, by omega, _, _, ⟨rfl, rfl⟩, by simp [r1], by simp [r6], by simp [r7], w', by simp, by simp [r9], .inr ⟨by simp, by simp, hG', by simpa using hdone', k1, k2, by rw [hw']; simp⟩⟩
  ·have q2 := VC hsort hdone hgt
   have hne : ¬ a.name = n := fun e => dL _ (e ▸ hgt)
   have hdone' : true = true ↔ vs = [] ∨ ∃ b ∈ e.attrs.take (i + 1), ¬ cO b.name n := ⟨fun _ => .inr ⟨a, by rw [htk]; simp, eQ hgt⟩, fun _ => rfl⟩
   cases done with
   | true =>
    simp only [if_true, List.append_nil] at q2
    obtain ⟨w', G', p1, hG', _, _, hw', hfr, _⟩ := hG.push (T := []) (x := a) (c := [.str a.name, wx]) (d := .struct [(0, 9), (1, 30)]) (by_ := 40) (z := [.str [], .slc none 0]) (sz := 2) (.inr hatx) rfl rfl (by decide) (by decide) (by decide) (hmm _ (by have := hpl true; omega))
    rw [q2, ← htk] at hG'
    rw [List.append_nil] at hw' hfr
    obtain ⟨k1, k2⟩ := nX hx hxw hw' hfr
    simp only [List.append_nil] at p1
    simp [r1, r6, r7, r8, r9, r10, r11, hi, haG.len, ex, l0, l2, hne, hoD, hoA, hoV, hox, aI, aH, ax, St.new, p1, hw]
    exact ⟨k, by omega, i + 1, by omega, _, _, ⟨rfl, rfl⟩, by simp [r1], by simp [r6], by simp [r7], w', by simp, by simp [r9], .inr ⟨by simp [r10], by simp, hG', by simpa using hdone', k1, k2, by rw [hw']; simp⟩⟩
   | false =>
    simp only [Bool.false_eq_true, if_false] at q2
    obtain ⟨w', G', p1, hG', _, _, hw', hfr, _⟩ := hG.push (T := []) (x := ⟨n, dH vs⟩) (c := [.str n, wv]) (d := .struct [(0, 9), (1, 30)]) (by_ := 40) (z := [.str [], .slc none 0]) (sz := 2) (.inl ⟨F, by rw [List.append_nil]; exact hx, hxw⟩) rfl rfl (by decide) (by decide) (by decide) (hmm _ (by have := hpl false; omega))
    rw [List.append_nil] at hw' hfr
    obtain ⟨k1, k2⟩ := nX hx hxw hw' hfr
    obtain ⟨S', hS'⟩ := hG'.pre
    have haG' : bK G' a1 e.attrs := by rw [hS']; exact ha1.ext
    obtain ⟨l0', l1', l2'⟩ := lx G' ⟨_, hS'⟩
    obtain ⟨w'', G'', p2, hG'', _, _, hw'', hfr', _⟩ := hG'.push (T := []) (x := a) (c := [.str a.name, wx]) (d := .struct [(0, 9), (1, 30)]) (by_ := 40) (z := [.str [], .slc none 0]) (sz := 2) (.inr hatx) rfl rfl (by decide) (by decide) (by decide) (hmm _ (by have := hpl false; simp; omega))
    rw [q2, ← htk] at hG''
    rw [List.append_nil] at hw'' hfr'
    obtain ⟨k3, k4⟩ := nX k1 k2 hw'' hfr'
    simp only [List.append_nil] at p1 p2
    simp [r1, r6, r7, r8, r9, r10, r11, hi, haG.len, haG'.len, ex, l0, l2, l0', l2', hne, iJ hgt, hoD, hoA, hoV, hox, aI, aH, ax, St.new, p1, p2, hw]
    exact ⟨k, by omega, i + 1, by omega, _, _, ⟨rfl, rfl⟩, by simp [r1], by simp [r6], by simp [r7], w'', by simp, by simp [r9], .inr ⟨by simp, by simp, hG'', by simpa using hdone', k3, k4, by rw [hw'']; simp⟩⟩
theorem EntryOk.small {e : PEntry} (h : EntryOk e) : ry e := by
 obtain ⟨_, h1, h2⟩ := h
 refine ⟨by have := h1.2; omega, by have := h2.2; omega, fun a ha => ?_⟩
 obtain ⟨j, hj, rfl⟩ := List.getElem_of_mem ha
 have := (h2.1 j _ (List.getElem?_eq_getElem hj)).2.2.2.2
 omega
theorem EntryOk.rise {e : PEntry} (h : EntryOk e) : e.attrs.Pairwise fun a b => a.name < b.name := jZ (fun j x hx => (h.2.2.1 j x hx).2.1)
theorem TS {H : List Ob} {c : Int} (h : (Lit.int .i64 c).wf = true) : At H kE [.slc none 0, .slc none 0, .int .i64 c] (wO c).u :=
 mQ.2 ⟨_, _, rfl, ak.2 ⟨_, _, rfl, rfl, by simp [wO], .inl ⟨rfl, rfl⟩⟩, ak.2 ⟨_, _, rfl, rfl, by simp [wO], .inl ⟨rfl, rfl⟩⟩, h⟩
def EOut (H : List Ob) (o : PEntryOut) (q : V) (H' : List Ob) : Prop := ∃ T w1 w2, q = .agg [w1, w2, .int .i64 o.code] ∧ H' = H ++ T ∧ At (H ++ T) kE [w1, w2, .int .i64 o.code] o.u ∧ fM H (H ++ T) (.agg [w1, w2, .int .i64 o.code]) = H ++ T
theorem EOut.ill {H : List Ob} {c : Int} (h : (Lit.int .i64 c).wf = true) : EOut H (wO c) (.agg [.slc none 0, .slc none 0, .int .i64 c]) H :=
 ⟨[], .slc none 0, .slc none 0, rfl, by simp, by rw [List.append_nil]; exact TS h, by rw [List.append_nil]; exact iR⟩
end Go.Proofs.Try1
end
