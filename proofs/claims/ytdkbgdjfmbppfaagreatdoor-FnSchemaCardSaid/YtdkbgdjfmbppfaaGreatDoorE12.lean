/- Part 12 of the proof of a law: the interpreter, its soundness, and what functions of the program compute over it. Conditions: none but those that each theorem names. -/
import Derived.Test.YtdkbgdjfmbppfaaGreatDoorE11
import Derived.Test.YtdkbgdjfmbppfaaGreatDoorE09
import Derived.Test.YtdkbgdjfmbppfaaGreatDoorE10
import Derived.Test.YtdkbgdjfmbppfaaGreatDoorE06
import Derived.Test.YtdkbgdjfmbppfaaGreatDoorE07
import Derived.Test.YtdkbgdjfmbppfaaGreatDoorE08

set_option linter.all false
set_option maxRecDepth 20000
set_option maxHeartbeats 40000000
section
namespace Go.Proofs.Try1
open Go Go.Lite
theorem MZ {H : List Ob} {v v' : V} {l : List PAttr} {t s : Str} (h : bD H v l) (ho : cellsOf v' = some [v']) (ho' : aJ v' = true) : callW C 202 [.agg [v', v], .str t, .str s] H = some (.bool (dec (oU l t (norm s))), H) := by
 apply Ret.dec
 rw [Ox]
 have c1 := kQ (t := s) (H := H)
 obtain ⟨w, c2, hw⟩ := L9 (t := t) h ho ho'
 obtain ⟨r, c3, hr⟩ := Me (n := norm s) hw
 have hone := h.one
 by_cases hn : norm s = []
 ·simp [uB, Tryz.f202, c1, hn, ho, ho', hone, oU]
 ·rcases hr with ⟨k, a, h1, h2, h3, rfl⟩ | ⟨h1, rfl⟩
  ·have hk : (0 : Int) ≤ (k : Int) := by omega
   have hm : a ∈ valsOf l t := List.mem_of_getElem? h1
   have h2' : norm a = norm s := by simpa using h2
   simp [uB, Tryz.f202, c1, c2, c3, hn, ho, ho', hone, oU, hk]
   exact ⟨a, hm, h2'⟩
  ·simp [uB, Tryz.f202, c1, c2, c3, hn, ho, ho', hone, oU]
   intro x hx
   obtain ⟨j, hj, rfl⟩ := List.getElem_of_mem hx
   have := h1 j _ (List.getElem?_eq_getElem hj)
   simpa using this
theorem I9 {H : List Ob} {vl vd va : V} {l : List PClass} {e : PEntry} (hl : aP H vl l) (hd : eu H vd e.dn) (ha : bD H va e.attrs) (hdn : 0 < e.dn.length) :
  ∃ r : Int, callW C 111 [vl, .agg [vd, va]] H = some (.int .i64 r, H) ∧ (r = 0 ↔ ji l e) ∧ (r = 0 ∨ r = 12) := by
 suffices hs : Ret C 111 [vl, .agg [vd, va]] H fun q H' => (∃ r : Int, q = .int .i64 r ∧ (r = 0 ↔ ji l e) ∧ (r = 0 ∨ r = 12)) ∧ H' = H by
  obtain ⟨q, H', hc, ⟨r, rfl, hr⟩, rfl⟩ := hs
  exact ⟨r, hc, hr⟩
 rw [Pv]
 have hod := hd.one
 have hoa := ha.one
 obtain ⟨cs, ok, c1, hm⟩ := H9 (T := []) hl ha hod.2 hod.1
 rw [List.append_nil] at c1
 obtain ⟨x, hx⟩ : ∃ c, e.dn[0]? = some c := ⟨e.dn[0], by simp [hdn]⟩
 obtain ⟨id, o, e1, l0, l1, _, _⟩ := qW hd hx
 simp only [Int.ofNat_eq_natCast, Int.natCast_zero] at e1
 have hid := Fz l0
 have c2 := MZ (t := x.attr) (s := x.value) ha hod.2 hod.1
 rcases hm with ⟨rfl, c, w1, w2, w3, hc, rfl, a1, a2, a3⟩ | ⟨rfl, hc, rfl⟩
 rotate_left
 ·simp [uI, Tryz.f111, af, ae, List.lookup, c1, hod, hoa, hid]
  rintro ⟨c, h1, _⟩
  rw [hc] at h1
  cases h1
 by_cases hH : oU e.attrs x.attr (norm x.value)
 rotate_left
 ·rw [ai hH] at c2
  simp [uI, Tryz.f111, af, ae, List.lookup, c1, hod, hoa, a1.one, a2.one, a3.one, e1, l0, l1, hid, c2]
  rintro ⟨c, _, _, _, y, h1, h2⟩
  rw [hx] at h1
  cases h1
  exact hH h2
 rw [aj hH] at c2
 simp [uI, Tryz.f111, af, ae, List.lookup, c1, hod, hoa, a1.one, a2.one, a3.one, e1, l0, l1, hid, c2]
 have hb1 : c.must.length ≤ 9223372036854775807 := a1.bound
 have hb2 : e.attrs.length ≤ 9223372036854775807 := ha.bound
 have hfit : ∀ c', dW l e.attrs = some c' → c' = c := fun c' h => by rw [hc] at h; cases h; rfl
 refine aA (fun k σ => ∃ (i : Nat) (r : Nat → R), i + k = c.must.length ∧ (∀ t ∈ c.must.take i, bi PAttr.name e.attrs t ≠ none) ∧ σ = ⟨r, 2, H⟩ ∧ r 3 = .box 0 [vd, va] ∧ r 5 = .box 1 [.str c.name, w1, w2, w3] ∧ r 7 = .val (.int .i64 i)) ?_ c.must.length _ ⟨0, _, by omega, by simp, rfl, by simp, by simp, by simp⟩
 rintro k σ ⟨i, r, hik, hpre, rfl, r3, r5, r7⟩
 cases k with
 | succ k =>
  have hi : i < c.must.length := by omega
  obtain ⟨s, hs⟩ : ∃ s, c.must[i]? = some s := ⟨c.must[i], by simp [hi]⟩
  obtain ⟨id2, o2, f1, l5, _⟩ := aU a1 hs
  have hid2 := Fz l5
  obtain ⟨q, c3, hq⟩ := KU (t := s) ha hod.2
  have hw : IntKind.i64.wrap ((i : Int) + 1) = ((i : Int) + 1) := wrap_i64 (by omega) (by omega)
  rcases hq.pos with ⟨k', a, h1, rfl, h2⟩ | ⟨rfl, h2⟩
  ·have hk : ¬ ((k' : Int) < 0) := by omega
   simp [r3, r5, r7, af, ae, List.lookup, a1.len, hi, f1, l5, hid2, c3, hk, hod, hoa, hw, a1.one]
   exact ⟨k, by omega, i + 1, by omega, fun t ht => by
    rw [bg hs] at ht
    rcases List.mem_append.1 ht with h | h
    ·exact hpre t h
    ·obtain rfl := List.mem_singleton.1 h
     rw [h2]; simp, by simp⟩
  ·simp [r3, r5, r7, af, ae, List.lookup, a1.len, hi, f1, l5, hid2, c3, hod, hoa, a1.one]
   rintro ⟨c', hc', hl', _⟩
   obtain rfl := hfit c' hc'
   have := List.filter_eq_nil_iff.1 hl' s (List.mem_of_getElem? hs)
   simp [h2] at this
 | zero =>
  have hi : i = c.must.length := by omega
  subst hi
  rw [List.take_length] at hpre
  simp [r3, r5, r7, af, ae, a1.len, a1.one]
  refine aA (fun k σ => ∃ (i : Nat) (r : Nat → R), i + k = e.attrs.length ∧ (∀ a ∈ e.attrs.take i, iR c a) ∧ σ = ⟨r, 2 + i, H⟩ ∧ r 3 = .box 0 [vd, va] ∧ r 5 = .box 1 [.str c.name, w1, w2, w3] ∧ r 8 = .val (.int .i64 i)) ?_ e.attrs.length _ ⟨0, _, by omega, by simp, rfl, by simp [r3], by simp [r5], by simp⟩
  clear r3 r5 r7 r
  rintro k σ ⟨i, r, hik, hpre2, rfl, r3, r5, r8⟩
  cases k with
  | zero =>
   have hi : i = e.attrs.length := by omega
   subst hi
   rw [List.take_length] at hpre2
   simp [r3, r5, r8, ha.len, af, ae, hoa]
   exact ⟨c, hc, List.filter_eq_nil_iff.2 fun t ht => by
    have := hpre t ht
    cases h : bi PAttr.name e.attrs t with
    | none => exact absurd h this
    | some _ => simp, hpre2, x, hx, hH⟩
  | succ k =>
   have hi : i < e.attrs.length := by omega
   obtain ⟨a, hs⟩ : ∃ a, e.attrs[i]? = some a := ⟨e.attrs[i], by simp [hi]⟩
   obtain ⟨id2, o2, w, f1, m1, m2, m3, aw, _⟩ := fC ha hs
   have hw : IntKind.i64.wrap ((i : Int) + 1) = ((i : Int) + 1) := wrap_i64 (by omega) (by omega)
   have d1 := vM (t := a.name) a1
   have d2 := vM (t := a.name) a2
   have d3 := vM (t := a.name) a3
   have hstep : iR c a → ∀ t ∈ e.attrs.take (i + 1), iR c t := fun h t ht => by
    rw [bg hs] at ht
    rcases List.mem_append.1 ht with h' | h'
    ·exact hpre2 t h'
    ·obtain rfl := List.mem_singleton.1 h'
     exact h
   have hbad : ¬ iR c a → ¬ ji l e := by
    rintro h ⟨c', hc', _, hl', _⟩
    obtain rfl := hfit c' hc'
    exact h (hl' a (List.mem_of_getElem? hs))
   have hvl : (1 : Int) < (a.vals.length : Int) ↔ 1 < a.vals.length := by omega
   by_cases n1 : a.name = [99, 108, 97, 115, 115]
   ·by_cases n4 : 1 < a.vals.length
    ·by_cases n5 : a.name ∈ c.single
     ·rw [aj n5] at d3
      rw [n1] at d1 d2 d3
      simp [r3, r5, r8, ha.len, hi, f1, m1, m2, m3, d1, d2, d3, aw.len, aw.one, hod, hoa, a1.one, a2.one, a3.one, hw, af, ae, List.lookup, n1, n4, hvl]
      exact hbad fun h => h.2 ⟨n4, n5⟩
     ·rw [ai n5] at d3
      rw [n1] at d1 d2 d3
      simp [r3, r5, r8, ha.len, hi, f1, m1, m2, m3, d1, d2, d3, aw.len, aw.one, hod, hoa, a1.one, a2.one, a3.one, hw, af, ae, List.lookup, n1, n4, hvl]
      exact ⟨k, by omega, i + 1, by omega, hstep ⟨.inl n1, fun h => n5 h.2⟩, _, ⟨rfl, by omega⟩, by simp [r3], by simp [r5], by simp⟩
    ·rw [n1] at d1 d2 d3
     simp [r3, r5, r8, ha.len, hi, f1, m1, m2, m3, d1, d2, d3, aw.len, aw.one, hod, hoa, a1.one, a2.one, a3.one, hw, af, ae, List.lookup, n1, n4, hvl]
     exact ⟨k, by omega, i + 1, by omega, hstep ⟨.inl n1, fun h => n4 h.1⟩, _, ⟨rfl, by omega⟩, by simp [r3], by simp [r5], by simp⟩
   by_cases n2 : a.name ∈ c.must
   ·rw [aj n2] at d1
    by_cases n4 : 1 < a.vals.length
    ·by_cases n5 : a.name ∈ c.single
     ·rw [aj n5] at d3
      simp [r3, r5, r8, ha.len, hi, f1, m1, m2, m3, d1, d2, d3, aw.len, aw.one, hod, hoa, a1.one, a2.one, a3.one, hw, af, ae, List.lookup, n1, n4, hvl]
      exact hbad fun h => h.2 ⟨n4, n5⟩
     ·rw [ai n5] at d3
      simp [r3, r5, r8, ha.len, hi, f1, m1, m2, m3, d1, d2, d3, aw.len, aw.one, hod, hoa, a1.one, a2.one, a3.one, hw, af, ae, List.lookup, n1, n4, hvl]
      exact ⟨k, by omega, i + 1, by omega, hstep ⟨.inr (.inl n2), fun h => n5 h.2⟩, _, ⟨rfl, by omega⟩, by simp [r3], by simp [r5], by simp⟩
    ·simp [r3, r5, r8, ha.len, hi, f1, m1, m2, m3, d1, d2, d3, aw.len, aw.one, hod, hoa, a1.one, a2.one, a3.one, hw, af, ae, List.lookup, n1, n4, hvl]
     exact ⟨k, by omega, i + 1, by omega, hstep ⟨.inr (.inl n2), fun h => n4 h.1⟩, _, ⟨rfl, by omega⟩, by simp [r3], by simp [r5], by simp⟩
   rw [ai n2] at d1
   by_cases n3 : a.name ∈ c.may
   ·rw [aj n3] at d2
    by_cases n4 : 1 < a.vals.length
    ·by_cases n5 : a.name ∈ c.single
     ·rw [aj n5] at d3
      simp [r3, r5, r8, ha.len, hi, f1, m1, m2, m3, d1, d2, d3, aw.len, aw.one, hod, hoa, a1.one, a2.one, a3.one, hw, af, ae, List.lookup, n1, n4, hvl]
      exact hbad fun h => h.2 ⟨n4, n5⟩
     ·rw [ai n5] at d3
      simp [r3, r5, r8, ha.len, hi, f1, m1, m2, m3, d1, d2, d3, aw.len, aw.one, hod, hoa, a1.one, a2.one, a3.one, hw, af, ae, List.lookup, n1, n4, hvl]
      exact ⟨k, by omega, i + 1, by omega, hstep ⟨.inr (.inr n3), fun h => n5 h.2⟩, _, ⟨rfl, by omega⟩, by simp [r3], by simp [r5], by simp⟩
    ·simp [r3, r5, r8, ha.len, hi, f1, m1, m2, m3, d1, d2, d3, aw.len, aw.one, hod, hoa, a1.one, a2.one, a3.one, hw, af, ae, List.lookup, n1, n4, hvl]
     exact ⟨k, by omega, i + 1, by omega, hstep ⟨.inr (.inr n3), fun h => n4 h.1⟩, _, ⟨rfl, by omega⟩, by simp [r3], by simp [r5], by simp⟩
   ·rw [ai n3] at d2
    simp [r3, r5, r8, ha.len, hi, f1, m1, m2, m3, d1, d2, d3, aw.len, aw.one, hod, hoa, a1.one, a2.one, a3.one, hw, af, ae, List.lookup, n1, hvl]
    exact hbad fun h => by
     rcases h.1 with h | h | h
     ·exact n1 h
     ·exact n2 h
     ·exact n3 h
noncomputable abbrev keyE (e : PEntry) : Str := JX e.dn
theorem vH {l : List PAttr} (h : eY l) (must : List Str) : (must.filter fun t => !decide (0 < (valsOf l t).length)) = must.filter fun t => (bi PAttr.name l t).isNone := by
 congr 1
 funext t
 unfold valsOf
 cases hf : bi PAttr.name l t with
 | none => rfl
 | some a =>
  have hm := List.mem_of_find?_eq_some hf
  obtain ⟨j, hj, rfl⟩ := List.getElem_of_mem hm
  have := (h.1 j _ (List.getElem?_eq_getElem hj)).2.2.2.1
  simp
  omega
theorem MK {H : List Ob} {ide : Nat} {own : Bool} {vl vd va : V} {l : List PClass} {e : PEntry} (he : H[ide]? = some (.mk own 2 [vd, va])) (hl : aP H vl l) (hd : eu H vd e.dn) (ha : bD H va e.attrs) (g1 : aZ l) (g2 : EntryOk e) :
  callW C 108 [vl, .ptr (some (ide, 0))] H = some (.bool (dec (ji l e)), H) := by
 apply Ret.dec
 rw [Oz]
 have hgb : ∀ X b, eU H (H ++ X) (.bool b) = H := fun X b => lW
 have hod := hd.one
 have hoa := ha.one
 have hpw : e.attrs.Pairwise fun a b => a.name < b.name := jl (fun j x hx => (g2.2.2.1 j x hx).2.1)
 have hal : e.attrs.length ≤ 1000 := by have := g2.2.2.2; omega
 have hcl : ∀ c ∈ l, c.must.length ≤ 1000 ∧ c.may.length ≤ 1000 ∧ c.single.length ≤ 1000 := fun c hc => by
  obtain ⟨j, hj, rfl⟩ := List.getElem_of_mem hc
  have := (g1.1 j _ (List.getElem?_eq_getElem hj)).1
  have h1 := this.l1; have h2 := this.l2; have h3 := this.l3
  omega
 obtain ⟨T1, cs, ok, c3, hres⟩ := yh he ha hal hpw hl hcl
 rcases hres with ⟨rfl, c, w1, w2, w3, hc1, rfl, q1, q2, q3⟩ | ⟨rfl, hc1, rfl⟩
 rotate_left
 ·simp [uG, Tryz.f108, c3, hgb]
  rintro ⟨c, h1, _⟩
  rw [hc1] at h1
  cases h1
 have hc : c ∈ l := by
  unfold dW at hc1
  split at hc1
  ·exact List.mem_of_find?_eq_some hc1
  ·cases hc1
 have hfit : ∀ c', dW l e.attrs = some c' → c' = c := fun c' h => by rw [hc1] at h; cases h; rfl
 obtain ⟨T2, w, c4, hb⟩ := yE (H := H ++ T1) (ide := ide) (own := own) (es := 2) (vd := vd) (va := va) (aW _ _ he) (ha.ext (T := T1)) hal hpw q1 q2.one q3.one (hcl c hc).1
 rw [vH g2.2.2] at hb
 obtain ⟨F, hbF, _, _⟩ := hb
 have hw : AStrs (H ++ T1 ++ T2) w (lacks c e.attrs) := AtF.at _ hbF
 obtain ⟨K, hK⟩ : ∃ K, K = T1 ++ T2 := ⟨_, rfl⟩
 rw [List.append_assoc, ← hK] at c4 hw
 by_cases m1 : lacks c e.attrs = []
 rotate_left
 ·have hl0 : (0 : Int) < (lacks c e.attrs).length := by
   have : (lacks c e.attrs).length ≠ 0 := fun h => m1 (List.length_eq_zero_iff.1 h)
   omega
  simp [uG, Tryz.f108, c3, c4, hgb, q1.one, q2.one, q3.one, hw.len, hl0, m1]
  refine ⟨by omega, ?_⟩
  rintro ⟨c', h1, h2, _⟩
  obtain rfl := hfit c' h1
  exact m1 h2
 have he' : (H ++ K)[ide]? = some (.mk own 2 [vd, va]) := aW _ _ he
 have ld0 := bM (o := 0) (v := vd) he' rfl
 have ld1 := bM (o := 1) (v := va) he' rfl
 have haK := ha.ext (T := K)
 have hdK := hd.ext (T := K)
 have q1K : AStrs (H ++ K) w1 c.must := by have := q1.ext (T := T2); rwa [List.append_assoc, ← hK] at this
 have q2K : AStrs (H ++ K) w2 c.may := by have := q2.ext (T := T2); rwa [List.append_assoc, ← hK] at this
 have q3K : AStrs (H ++ K) w3 c.single := by have := q3.ext (T := T2); rwa [List.append_assoc, ← hK] at this
 simp [uG, Tryz.f108, c3, c4, hgb, q1.one, q2.one, q3.one, hw.len, m1, ld0, ld1, haK.len]
 have hb2 : e.attrs.length ≤ 9223372036854775807 := ha.bound
 refine aA (fun k σ => ∃ (i : Nat) (r : Nat → R), i + k = e.attrs.length ∧ (∀ a ∈ e.attrs.take i, iR c a) ∧ σ = ⟨r, 1 + i, H ++ K⟩ ∧ r 1 = .val (.ptr (some (ide, 0))) ∧ r 5 = .box 0 [.str c.name, w1, w2, w3] ∧ r 27 = .val va ∧ r 28 = .val (.int .i64 e.attrs.length) ∧ r 29 = .val (.int .i64 i)) ?_ e.attrs.length _ ⟨0, _, by omega, by simp, rfl, by simp, by simp, by simp, by simp, by simp⟩
 rintro k σ ⟨i, r, hik, hpre2, rfl, r1, r5, r27, r28, r29⟩
 cases k with
 | zero =>
  have hi : i = e.attrs.length := by omega
  subst hi
  rw [List.take_length] at hpre2
  obtain ⟨x, hx⟩ : ∃ c, e.dn[0]? = some c := ⟨e.dn[0]'g2.1, by simp⟩
  obtain ⟨id, o, e1, l0, l1, _, _⟩ := qW hdK hx
  simp only [Int.ofNat_eq_natCast, Int.natCast_zero] at e1
  have hid := EN l0
  rw [List.length_append] at hid
  have hide : ide < H.length + K.length := by have := (List.getElem?_eq_some_iff.1 he).1; omega
  have c5 := nD (t := x.value) (H := H ++ K)
  have c6 := PH (t := x.attr) (n := norm x.value) he' haK hal hpw
  simp [r1, r5, r27, r28, r29, ld0, ld1, e1, l0, l1, hid, hide, c5, c6, hgb, ae, af, List.lookup]
  by_cases hH : oU e.attrs x.attr (norm x.value)
  ·exact .inr ⟨aj hH, c, hc1, m1, hpre2, x, hx, hH⟩
  ·exact .inl ⟨ai hH, fun ⟨_, _, _, _, y, h1, h2⟩ => by rw [hx] at h1; cases h1; exact hH h2⟩
 | succ k =>
  have hi : i < e.attrs.length := by omega
  obtain ⟨a, hs⟩ : ∃ a, e.attrs[i]? = some a := ⟨e.attrs[i], by simp [hi]⟩
  obtain ⟨id2, o2, w, f1, m1, m2, m3, aw, _⟩ := fC haK hs
  have hw : IntKind.i64.wrap ((i : Int) + 1) = ((i : Int) + 1) := wrap_i64 (by omega) (by omega)
  have d1 := kG (t := a.name) q1K
  have d2 := kG (t := a.name) q2K
  have d3 := kG (t := a.name) q3K
  have hstep : iR c a → ∀ t ∈ e.attrs.take (i + 1), iR c t := fun h t ht => by
   rw [bg hs] at ht
   rcases List.mem_append.1 ht with h' | h'
   ·exact hpre2 t h'
   ·obtain rfl := List.mem_singleton.1 h'
    exact h
  have hbad : ¬ iR c a → ¬ ji l e := by
   rintro h ⟨c', hc', _, hl', _⟩
   obtain rfl := hfit c' hc'
   exact h (hl' a (List.mem_of_getElem? hs))
  have hvl : (1 : Int) < (a.vals.length : Int) ↔ 1 < a.vals.length := by omega
  by_cases n1 : a.name = [99, 108, 97, 115, 115]
  ·by_cases n4 : 1 < a.vals.length
   ·by_cases n5 : a.name ∈ c.single
    ·rw [aj n5] at d3
     rw [n1] at d1 d2 d3
     simp [r1, r5, r27, r28, r29, hi, f1, m1, m2, m3, d1, d2, d3, aw.len, aw.one, q1.one, q2.one, q3.one, hw, hgb, ae, af, List.lookup, n1, n4, hvl]
     exact hbad fun h => h.2 ⟨n4, n5⟩
    ·rw [ai n5] at d3
     rw [n1] at d1 d2 d3
     simp [r1, r5, r27, r28, r29, hi, f1, m1, m2, m3, d1, d2, d3, aw.len, aw.one, q1.one, q2.one, q3.one, hw, hgb, ae, af, List.lookup, n1, n4, hvl]
     exact ⟨k, by omega, i + 1, by omega, hstep ⟨.inl n1, fun h => n5 h.2⟩, _, ⟨rfl, by omega⟩, by simp [r1], by simp [r5], by simp [r27], by simp [r28], by simp⟩
   ·rw [n1] at d1 d2 d3
    simp [r1, r5, r27, r28, r29, hi, f1, m1, m2, m3, d1, d2, d3, aw.len, aw.one, q1.one, q2.one, q3.one, hw, hgb, ae, af, List.lookup, n1, n4, hvl]
    exact ⟨k, by omega, i + 1, by omega, hstep ⟨.inl n1, fun h => n4 h.1⟩, _, ⟨rfl, by omega⟩, by simp [r1], by simp [r5], by simp [r27], by simp [r28], by simp⟩
  by_cases n2 : a.name ∈ c.must
  ·rw [aj n2] at d1
   by_cases n4 : 1 < a.vals.length
   ·by_cases n5 : a.name ∈ c.single
    ·rw [aj n5] at d3
     simp [r1, r5, r27, r28, r29, hi, f1, m1, m2, m3, d1, d2, d3, aw.len, aw.one, q1.one, q2.one, q3.one, hw, hgb, ae, af, List.lookup, n1, n4, hvl]
     exact hbad fun h => h.2 ⟨n4, n5⟩
    ·rw [ai n5] at d3
     simp [r1, r5, r27, r28, r29, hi, f1, m1, m2, m3, d1, d2, d3, aw.len, aw.one, q1.one, q2.one, q3.one, hw, hgb, ae, af, List.lookup, n1, n4, hvl]
     exact ⟨k, by omega, i + 1, by omega, hstep ⟨.inr (.inl n2), fun h => n5 h.2⟩, _, ⟨rfl, by omega⟩, by simp [r1], by simp [r5], by simp [r27], by simp [r28], by simp⟩
   ·simp [r1, r5, r27, r28, r29, hi, f1, m1, m2, m3, d1, d2, d3, aw.len, aw.one, q1.one, q2.one, q3.one, hw, hgb, ae, af, List.lookup, n1, n4, hvl]
    exact ⟨k, by omega, i + 1, by omega, hstep ⟨.inr (.inl n2), fun h => n4 h.1⟩, _, ⟨rfl, by omega⟩, by simp [r1], by simp [r5], by simp [r27], by simp [r28], by simp⟩
  rw [ai n2] at d1
  by_cases n3 : a.name ∈ c.may
  ·rw [aj n3] at d2
   by_cases n4 : 1 < a.vals.length
   ·by_cases n5 : a.name ∈ c.single
    ·rw [aj n5] at d3
     simp [r1, r5, r27, r28, r29, hi, f1, m1, m2, m3, d1, d2, d3, aw.len, aw.one, q1.one, q2.one, q3.one, hw, hgb, ae, af, List.lookup, n1, n4, hvl]
     exact hbad fun h => h.2 ⟨n4, n5⟩
    ·rw [ai n5] at d3
     simp [r1, r5, r27, r28, r29, hi, f1, m1, m2, m3, d1, d2, d3, aw.len, aw.one, q1.one, q2.one, q3.one, hw, hgb, ae, af, List.lookup, n1, n4, hvl]
     exact ⟨k, by omega, i + 1, by omega, hstep ⟨.inr (.inr n3), fun h => n5 h.2⟩, _, ⟨rfl, by omega⟩, by simp [r1], by simp [r5], by simp [r27], by simp [r28], by simp⟩
   ·simp [r1, r5, r27, r28, r29, hi, f1, m1, m2, m3, d1, d2, d3, aw.len, aw.one, q1.one, q2.one, q3.one, hw, hgb, ae, af, List.lookup, n1, n4, hvl]
    exact ⟨k, by omega, i + 1, by omega, hstep ⟨.inr (.inr n3), fun h => n4 h.1⟩, _, ⟨rfl, by omega⟩, by simp [r1], by simp [r5], by simp [r27], by simp [r28], by simp⟩
  ·rw [ai n3] at d2
   simp [r1, r5, r27, r28, r29, hi, f1, m1, m2, m3, d1, d2, d3, aw.len, aw.one, q1.one, q2.one, q3.one, hw, hgb, ae, af, List.lookup, n1, hvl]
   exact hbad fun h => by
    rcases h.1 with h | h | h
    ·exact n1 h
    ·exact n2 h
    ·exact n3 h
theorem KF {H : List Ob} {v : V} {l : List PClass} (h : aP H v l) : callW C 107 [v] H = some (.bool (decide (400 < l.length)), H) := by
 apply Ret.eq
 rw [Nw]
 have hi : (400 : Int) < (l.length : Int) ↔ 400 < l.length := by omega
 simp [EQ, Tryz.f107, h.len, hi]


def NOut (H : List Ob) (o : PEntryOut) (q : V) (H' : List Ob) : Prop := ∃ T w1 w2, q = .agg [w1, w2, .int .i64 o.code] ∧ H' = H ++ T ∧ New H.length (H ++ T).length (H ++ T) jg [w1, w2, .int .i64 o.code] o.u
theorem NOut.ill {H : List Ob} {c : Int} (h : (Lit.int .i64 c).wf = true) : NOut H (jb c) (.agg [.slc none 0, .slc none 0, .int .i64 c]) H :=
 ⟨[], .slc none 0, .slc none 0, rfl, by simp, New.st (News.cons (c1 := [.slc none 0, .slc none 0]) (m := H.length) (New.st (News.nilS (News.nilS News.nil))) (News.int h News.nil) (Nat.le_refl _) (by simp))⟩
theorem NOut.of {H G : List Ob} {e : PEntry} {w1 w2 : V} (hT : ∃ T, G = H ++ T) (hn : New H.length G.length G gz [w1, w2] e.u) : NOut H ⟨e, 0⟩ (.agg [w1, w2, .int .i64 0]) (eU H G (.agg [w1, w2, .int .i64 0])) := by
 obtain ⟨T, rfl⟩ := hT
 have h2 : New H.length (H ++ T).length (H ++ T) jg [w1, w2, .int .i64 0] (PEntryOut.u ⟨e, 0⟩) := New.st (News.cons (c1 := [w1, w2]) (m := (H ++ T).length) hn (News.int (by decide) News.nil) (by simp) (Nat.le_refl _))
 obtain ⟨T', h3, h4⟩ := h2.gcA
 exact ⟨T', w1, w2, rfl, h3, h4⟩
def NOutB (b : Nat) (H : List Ob) (o : PEntryOut) (q : V) (H' : List Ob) : Prop := ∃ T w1 w2, q = .agg [w1, w2, .int .i64 o.code] ∧ H' = H ++ T ∧ New b (H ++ T).length (H ++ T) jg [w1, w2, .int .i64 o.code] o.u
theorem NOutB.base {H : List Ob} {X : List Ob} {o : PEntryOut} {q : V} {H' : List Ob} (h : NOutB H.length (H ++ X) o q H') : NOut H o q (eU H H' q) := by
 obtain ⟨T, w1, w2, rfl, rfl, h3⟩ := h
 rw [List.append_assoc] at h3 ⊢
 obtain ⟨T', h4, h5⟩ := h3.gcA
 exact ⟨T', w1, w2, rfl, h4, h5⟩
theorem NOutB.one {b : Nat} {H : List Ob} {o : PEntryOut} {q : V} {H' : List Ob} (h : NOutB b H o q H') : ∃ w1 w2, q = .agg [w1, w2, .int .i64 o.code] ∧ (aJ w1 = true ∧ cellsOf w1 = some [w1]) ∧ (aJ w2 = true ∧ cellsOf w2 = some [w2]) := by
 obtain ⟨T, w1, w2, rfl, rfl, h3⟩ := h
 obtain ⟨_, _, hcs, a1, a2, _⟩ := dD.1 h3.at
 cases hcs
 exact ⟨w1, w2, rfl, a1.one, a2.one⟩
theorem Jo {H : List Ob} {v : V} {l : List Str} (h : AStrs H v l) : callW C 82 [v] H = some (.bool (dec (∃ t ∈ l, 8000 < t.length)), H) := by
 apply Ret.dec
 rw [Ua]
 have hb : l.length ≤ 9223372036854775807 := h.bound
 simp [IL, Tryz.f82, h.len]
 refine aA (fun k σ => ∃ (i : Nat) (r : Nat → R), i + k = l.length ∧ σ = ⟨r, 0, H⟩ ∧ r 5 = .val v ∧ r 6 = .val (.int .i64 l.length) ∧ r 7 = .val (.int .i64 i) ∧ ∀ j x, j < i → l[j]? = some x → ¬ 8000 < x.length) ?_ l.length _ ⟨0, _, by simp, rfl, by simp, by simp, by simp, by simp⟩
 rintro k σ ⟨i, r, hik, rfl, r5, r6, r7, hall⟩
 cases k with
 | zero =>
  have hi : i = l.length := by omega
  subst hi
  have hx := fH (P := fun j (x : Str) => ¬ 8000 < x.length) hall
  simp [r5, r6, r7]
  intro x hm
  obtain ⟨j, hj, rfl⟩ := List.getElem_of_mem hm
  have := hx j _ (List.getElem?_eq_getElem hj)
  omega
 | succ k =>
  have hi : i < l.length := by omega
  obtain ⟨x, hx⟩ : ∃ c, l[i]? = some c := ⟨l[i], by simp [hi]⟩
  have hw : IntKind.i64.wrap ((i : Int) + 1) = ((i : Int) + 1) := wrap_i64 (by omega) (by omega)
  obtain ⟨id, o, e1, l0, _⟩ := aU h hx
  by_cases g1 : 8000 < x.length
  ·have g1' : (8000 : Int) < x.length := by omega
   simp [r5, r6, r7, hi, e1, l0, g1']
   exact ⟨x, List.mem_of_getElem? hx, g1⟩
  ·have g1' : ¬ (8000 : Int) < x.length := by omega
   simp [r5, r6, r7, hi, e1, l0, g1', hw]
   exact ⟨k, by omega, i + 1, by omega, by omega, fun j x hj hx' => Nat.not_lt.1 (dm (P := fun j (x : Str) => ¬ 8000 < x.length) hall hx g1 j x hj hx')⟩
theorem JS {H : List Ob} {v : V} {l : List Str} (h : AStrs H v l) (hl : l.length ≤ 1048576) :
  ∃ T w, callW C 98 [v] H = some (w, H ++ T) ∧ New H.length (H ++ T).length (H ++ T) (.slice .str) [w] (.lst (l.map qg)) := by
 suffices hs : Ret C 98 [v] H fun q H' => ∃ T, H' = H ++ T ∧ New H.length (H ++ T).length (H ++ T) (.slice .str) [q] (.lst (l.map qg)) by
  obtain ⟨q, H', hc, T, rfl, hr⟩ := hs
  exact ⟨T, q, hc, hr⟩
 rw [Om]
 obtain ⟨w, T1, a1, n1⟩ := gI (d := .str) (by_ := 16) (z := [.str []]) (sz := 1) h rfl rfl rfl (by decide) (by decide) (by decide) (by unfold aB; omega)
 obtain ⟨T', hg, hn⟩ := n1.gc1
 rcases h.sub with ⟨rfl, rfl⟩ | ⟨id, off, own, cells, rfl, _⟩
 ·simp [su, Tryz.f98]
  exact New.nil
 ·simp [su, Tryz.f98, ay, ax, ah, St.new, a1, hg]
  simpa using hn
theorem TreeOk.dns {t : PTree} (h : TreeOk t) : ∀ x ∈ t.entries, EntryOk x := fun x hx => by
 obtain ⟨j, hj, rfl⟩ := List.getElem_of_mem hx
 exact (h.2.1.2 j _ (List.getElem?_eq_getElem hj)).1
def JD (c : PClass) : Prop := c.must.length ≤ 1048576 ∧ c.may.length ≤ 1048576 ∧ c.single.length ≤ 1048576
theorem KC {H : List Ob} {v1 v2 v3 : V} {c : PClass} (h1 : AStrs H v1 c.must) (h2 : AStrs H v2 c.may) (h3 : AStrs H v3 c.single) (hn : c.name.length ≤ maxLen) (hb : JD c) :
  ∃ T w1 w2 w3, callW C 118 [.agg [.str c.name, v1, v2, v3]] H = some (.agg [.str c.name, w1, w2, w3], H ++ T) ∧ New H.length (H ++ T).length (H ++ T) jX [.str c.name, w1, w2, w3] c.u := by
 suffices hs : Ret C 118 [.agg [.str c.name, v1, v2, v3]] H fun q H' => ∃ T w1 w2 w3, q = .agg [.str c.name, w1, w2, w3] ∧ H' = H ++ T ∧ New H.length (H ++ T).length (H ++ T) jX [.str c.name, w1, w2, w3] c.u by
  obtain ⟨q, H', hc, T, w1, w2, w3, rfl, rfl, hr⟩ := hs
  exact ⟨T, w1, w2, w3, hc, hr⟩
 rw [NW]
 obtain ⟨w1, T1, a1, n1⟩ := gI (d := .str) (by_ := 16) (z := [.str []]) (sz := 1) h1 rfl rfl rfl (by decide) (by decide) (by decide) (by have := hb.1; unfold aB; omega)
 obtain ⟨A, hA⟩ : ∃ A, A = H ++ T1 := ⟨_, rfl⟩
 rw [← hA] at a1 n1
 obtain ⟨w2, T2, a2, n2⟩ := gI (d := .str) (by_ := 16) (z := [.str []]) (sz := 1) (by rw [hA]; exact h2.ext : AStrs A v2 c.may) rfl rfl rfl (by decide) (by decide) (by decide) (by have := hb.2.1; unfold aB; omega)
 obtain ⟨B, hB⟩ : ∃ B, B = A ++ T2 := ⟨_, rfl⟩
 rw [← hB] at a2 n2
 obtain ⟨w3, T3, a3, n3⟩ := gI (d := .str) (by_ := 16) (z := [.str []]) (sz := 1) (by rw [hB, hA]; exact h3.ext.ext : AStrs B v3 c.single) rfl rfl rfl (by decide) (by decide) (by decide) (by have := hb.2.2; unfold aB; omega)
 have ho1 := New.one1 n1
 have ho2 := New.one1 n2
 have ho3 := New.one1 n3
 have hAl : H.length ≤ A.length := by rw [hA]; simp
 have hBl : A.length ≤ B.length := by rw [hB]; simp
 have hne : New H.length (B ++ T3).length (B ++ T3) jX [.str c.name, w1, w2, w3] c.u :=
  New.st (News.str hn (News.cons (m := A.length) (c1 := [w1]) (by rw [hB, List.append_assoc]; exact n1.ext) (News.cons (m := B.length) (c1 := [w2]) n2.ext (News.one n3 (by simp)) hBl (by simp)) hAl (by simp; omega)))
 have hGH : B ++ T3 = H ++ (T1 ++ T2 ++ T3) := by rw [hB, hA]; simp
 rw [hGH] at hne
 obtain ⟨T', hg, hn'⟩ := hne.gcA
 rw [← hGH] at hg
 have o1 := h1.one
 have o2 := h2.one
 have o3 := h3.one
 simp [Fj, Tryz.f118, o1, o2, o3, ay, ax, ah, St.new, a1, a2, a3, ← hA, ← hB, ho1, ho2, ho3, hg, List.lookup]
 exact ⟨T', w1, w2, w3, ⟨rfl, rfl, rfl⟩, rfl, by simpa using hn'⟩
def MN (t : PTree) : Prop := (t.schema.length ≤ 1048576 ∧ ∀ c ∈ t.schema, JD c) ∧ t.entries.length ≤ 1048576 ∧ ∀ e ∈ t.entries, pJ e
end Go.Proofs.Try1
end
section
namespace Go.Proofs.Try1
open Go Go.Lite
attribute [-simp] df eP
attribute [local simp] bZ dY bW cZ bY bJ
attribute [local simp low] cu
def rM : Str := [99, 108, 97, 115, 115]
def dJ (l : List PClass) : List Str := rM :: l.flatMap fun c => c.must ++ c.may
theorem AC {G : List Ob} {t : Str} (ht : t.length ≤ maxLen) : AStrs (G ++ [.mk true 1 [.str t]]) (.slc (some (G.length, 0)) 1) [t] := by
 have := wz (G := G ++ [.mk true 1 [.str t]]) (id := G.length) (own := true) (cs := [t]) (k := 1) (by rw [get_last]; rfl) (by simp) (by unfold maxLen; omega) (by simp; exact ht)
 simpa using this
theorem iY {H : List Ob} {v : V} {xs : List PClass} (h : aP H v xs) {i : Nat} {x : PClass} (hx : xs[i]? = some x) : ∃ id o w1 w2 w3,
  (∀ (e s b : Nat) (z : List V) (ty : Nat → LT) (k : IntKind), (ty e).size = 4 → dE ⟨.slice e, s, b, z⟩ ty (.val v) (.int k i) = some (.val (.ptr (some (id, o))))) ∧
  (∀ G, (∃ S, G = H ++ S) → (∀ T : LT, T.one → ∀ r c, loadAt T ⟨r, c, G⟩ (.hp id (o + 1)) = some w1) ∧ (∀ T : LT, T.one → ∀ r c, loadAt T ⟨r, c, G⟩ (.hp id (o + 2)) = some w2) ∧
  (∀ T : LT, T.many 4 → ∀ r c, loadAt T ⟨r, c, G⟩ (.hp id o) = some (.agg [.str x.name, w1, w2, w3]))) ∧ AStrs H w1 x.must ∧ AStrs H w2 x.may ∧ AStrs H w3 x.single ∧ id < H.length := by
 obtain ⟨id, o, own, cells, e1, e2, e3, e4⟩ := ASl.idx h hx (by decide)
 obtain ⟨w1, w2, w3, e4, e7, e8, e9, e5⟩ := l7.1 e4
 refine ⟨id, o, w1, w2, w3, e1, ?_, e8, e9, e5, (List.getElem?_eq_some_iff.1 e2).1⟩
 rintro G ⟨S, rfl⟩
 have e2' := aW (T := S) _ _ e2
 exact ⟨bM e2' (by simpa using dH e4 (j := 1) rfl), bM e2' (by simpa using dH e4 (j := 2) rfl), pF e2' e3 (by decide) e4⟩
def TJ (b : Nat) (w : V) : Prop := ∀ q o n, w = .slc (some (q, o)) n → b ≤ q
end Go.Proofs.Try1
end
section
namespace Go.Proofs.Try1
open Go Go.Lite
def qE (acc : List Str) (x : Str) : List Str := if acc.getLast? = some x then acc else acc ++ [x]
def comp (l : List Str) : List Str := l.foldl qE []
theorem je {l : List Str} {x : Str} : comp (l ++ [x]) = qE (comp l) x := by simp [comp]
theorem rX {l : List Str} : ∀ n, n ≤ l.length → (comp (l.take n)).getLast? = (l.take n).getLast?
 | 0, _ => by simp [comp]
 | n + 1, h => by
  have hx : l[n]? = some l[n] := by simp
  rw [bg hx, je]
  unfold qE
  split
  ·rename_i h2; rw [h2, List.getLast?_concat]
  ·rw [List.getLast?_concat, List.getLast?_concat]
theorem lY {l : List Str} {n : Nat} (hn : 1 ≤ n) : n ≤ l.length → (l.take n).getLast? = l[n - 1]? := fun h => by
 rw [List.getLast?_eq_getElem?, List.length_take, Nat.min_eq_left h, List.getElem?_take_of_lt (by omega)]
theorem pM {l : List Str} {k : Nat} (h : ∀ i x, i + 1 < k → l[i]? = some x → l[i + 1]? ≠ some x) (hk : k ≤ l.length) : ∀ n, n ≤ k → comp (l.take n) = l.take n
 | 0, _ => by simp [comp]
 | n + 1, hn => by
  have hx : l[n]? = some (l[n]'(by omega)) := by simp
  rw [bg hx, je, pM h hk n (by omega)]
  unfold qE
  rw [if_neg]
  intro hl
  by_cases h0 : n = 0
  ·subst h0; simp at hl
  ·rw [lY (by omega) (by omega)] at hl
   have := h (n - 1) _ (by omega) hl
   rw [show n - 1 + 1 = n by omega] at this
   exact this hx
theorem uX {l : List Str} (x : Str) : ∀ n, n ≤ l.length → (x ∈ comp (l.take n) ↔ x ∈ l.take n)
 | 0, _ => by simp [comp]
 | n + 1, h => by
  have hx : l[n]? = some l[n] := by simp
  rw [bg hx, je]
  have ih := uX (l := l) x n (by omega)
  unfold qE
  split
  ·rename_i h2
   rw [List.mem_append, ih, List.mem_singleton]
   refine ⟨.inl, fun h => h.elim id fun e => ?_⟩
   subst e
   rw [← ih]
   exact List.mem_of_getLast? h2
  ·rw [List.mem_append, List.mem_append, ih]
theorem tN {l : List Str} (hs : l.Pairwise fun a b => a ≤ b) : ∀ n, n ≤ l.length → (comp (l.take n)).Pairwise fun a b => a < b
 | 0, _ => by simp [comp]
 | n + 1, h => by
  have hx : l[n]? = some l[n] := by simp
  have ih := tN hs n (by omega)
  rw [bg hx, je]
  unfold qE
  split
  ·exact ih
  ·rename_i h2
   refine List.pairwise_append.2 ⟨ih, by simp, fun y hy z hz => ?_⟩
   rw [List.mem_singleton] at hz
   subst hz
   have hy' := (uX y n (by omega)).1 hy
   have hn0 : n ≠ 0 := fun e => by subst e; simp at hy'
   rw [rX n (by omega), lY (by omega) (by omega)] at h2
   have hp := List.pairwise_iff_getElem.1 hs
   have h3 : l[n - 1] ≤ l[n] := hp (n - 1) n (by omega) (by omega) (by omega)
   have h4 : l[n - 1] ≠ l[n] := fun e => h2 (by rw [List.getElem?_eq_getElem (by omega), e])
   have h5 : y ≤ l[n - 1] := by
    obtain ⟨j, hj, rfl⟩ := List.getElem_of_mem hy'
    rw [List.getElem_take]
    simp at hj
    by_cases e : j = n - 1
    ·subst e; exact List.le_refl _
    ·exact hp j (n - 1) (by omega) (by omega) (by omega)
   have h6 : l[n - 1] < l[n] := by
    rcases mJ l[n - 1] l[n] with h | h | h
    ·exact (bf _ _).1 h
    ·exact absurd h h4
    ·exact absurd ((bf _ _).1 h) h3
   rcases mJ y l[n] with h | h | h
   ·exact (bf _ _).1 h
   ·exact absurd h6 (by rw [← h]; exact h5)
   ·exact absurd (List.lt_trans h6 (by
     rcases mJ y l[n - 1] with g | g | g
     ·exact absurd (List.lt_trans (List.lt_trans ((bf _ _).1 h) ((bf _ _).1 g)) h6) (gV _)
     ·rw [← g] at h6; exact absurd (List.lt_trans h6 ((bf _ _).1 h)) (gV _)
     ·exact absurd ((bf _ _).1 g) h5)) (gV _)
theorem Gl {l m : List Str} (hl : l.Pairwise fun a b => a < b) (hm : m.Pairwise fun a b => a < b) (h : ∀ x, x ∈ l ↔ x ∈ m) : l = m := by
 have nd : ∀ {l : List Str}, (l.Pairwise fun a b => a < b) → l.Nodup := fun h => h.imp fun h e => by rw [e] at h; exact gV _ h
 have hp : l.Perm m := (List.perm_ext_iff_of_nodup (nd hl) (nd hm)).2 h
 exact hp.eq_of_pairwise (fun a b _ _ h1 h2 => absurd (List.lt_trans h1 h2) (gV _)) hl hm
def CpJ (cs l : List Str) (k n : Nat) : Prop := (∀ j, n ≤ j + 1 → cs[j]? = l[j]?) ∧ cs.take k = comp (l.take n)
theorem CpJ.init {l : List Str} {k : Nat} {x : Str} (hx : l[k]? = some x) (hy : l[k - 1]? = some x) (hk : 1 ≤ k) (hall : ∀ i x, i + 1 < k → l[i]? = some x → l[i + 1]? ≠ some x) : CpJ l l k (k + 1) :=
 ⟨fun _ _ => rfl, by
  have hkl := (List.getElem?_eq_some_iff.1 hx).1
  rw [bg hx, je, pM hall (by omega) k (Nat.le_refl _)]
  unfold qE
  rw [if_pos]
  rw [lY hk (by omega)]; exact hy⟩
theorem CpJ.same {cs l : List Str} {k n : Nat} {a : Str} (h : CpJ cs l k n) (ha : cs[n]? = some a) (hb : cs[n - 1]? = some a) (hn : 1 ≤ n) : CpJ cs l k (n + 1) := by
 have ha' : l[n]? = some a := by rw [← h.1 n (by omega)]; exact ha
 have hb' : l[n - 1]? = some a := by rw [← h.1 (n - 1) (by omega)]; exact hb
 have hnl := (List.getElem?_eq_some_iff.1 ha').1
 refine ⟨fun j hj => h.1 j (by omega), ?_⟩
 rw [h.2, bg ha', je]
 unfold qE
 rw [if_pos]
 rw [rX n (by omega), lY hn (by omega)]; exact hb'
theorem CpJ.next {cs l : List Str} {k n : Nat} {a b : Str} (h : CpJ cs l k n) (ha : cs[n]? = some a) (hb : cs[n - 1]? = some b) (hab : ¬ a = b) (hn : 1 ≤ n) (hk : k + 1 ≤ n) : CpJ (cs.set k a) l (k + 1) (n + 1) := by
 have ha' : l[n]? = some a := by rw [← h.1 n (by omega)]; exact ha
 have hb' : l[n - 1]? = some b := by rw [← h.1 (n - 1) (by omega)]; exact hb
 have hnl := (List.getElem?_eq_some_iff.1 ha').1
 have hkl : k < cs.length := by have := (List.getElem?_eq_some_iff.1 ha).1; omega
 refine ⟨fun j hj => by rw [List.getElem?_set_ne (by omega)]; exact h.1 j (by omega), ?_⟩
 have e1 : (cs.set k a).take (k + 1) = cs.take k ++ [a] := by
  rw [bg (List.getElem?_set_self hkl)]
  congr 1
  apply List.ext_getElem?
  intro j
  by_cases hj : j < k
  ·rw [List.getElem?_take_of_lt hj, List.getElem?_take_of_lt hj, List.getElem?_set_ne (by omega)]
  ·rw [List.getElem?_eq_none (by simp; omega), List.getElem?_eq_none (by simp; omega)]
 rw [e1, bg ha', je, h.2]
 unfold qE
 rw [if_neg]
 rw [rX n (by omega), lY hn (by omega), hb']
 intro e; cases e; exact hab rfl
def CpS (G : List Ob) (id k : Nat) (l : List Str) : Prop := ∃ cs : List Str, G[id]? = some (.mk true 1 (cs.map V.str)) ∧ cs.length = l.length ∧ k ≤ cs.length ∧ cs.take k = comp l
theorem CpS.all {G : List Ob} {id : Nat} {l : List Str} (h : G[id]? = some (.mk true 1 (l.map V.str))) (ha : Apart l) : CpS G id l.length l := ⟨l, h, rfl, Nat.le_refl _, by
 have := pM (l := l) (k := l.length) (fun i x _ hx => ha i x hx) (Nat.le_refl _) l.length (Nat.le_refl _)
 rw [List.take_length] at this ⊢
 exact this.symm⟩
theorem CpS.end {G : List Ob} {id k n : Nat} {cs l : List Str} (h : CpJ cs l k n) (hn : n = l.length) (hc : cs.length = l.length) (hk : k ≤ l.length) (hid : id < G.length) : CpS (G.set id (.mk true 1 (setRange (cs.map V.str) k (ah iM (l.length - k))))) id k l := by
 refine ⟨cs.take k ++ List.replicate (l.length - k) [], ?_, by simp; omega, by simp; omega, ?_⟩
 ·rw [List.getElem?_set_self hid, tV]
  congr 2
  unfold setRange
  rw [List.map_append, List.map_take, List.drop_of_length_le (by simp; omega), List.append_nil]
 ·rw [List.take_left' (by simp; omega), h.2, hn, List.take_length]
theorem DL {G0 : List Ob} {id : Nat} {l : List Str} (h : G0[id]? = some (.mk true 1 (l.map V.str))) (hl : l.length ≤ 1000) :
  ∃ G' k, callW C 268 [.slc (some (id, 0)) l.length] G0 = some (.slc (some (id, 0)) k, G') ∧ G'.length = G0.length ∧ (∀ q, q ≠ id → G'[q]? = G0[q]?) ∧ (k = l.length ↔ Apart l) ∧ CpS G' id k l := by
 suffices hs : Ret C 268 [.slc (some (id, 0)) l.length] G0 fun w G' => ∃ k, w = .slc (some (id, 0)) k ∧ G'.length = G0.length ∧ (∀ q, q ≠ id → G'[q]? = G0[q]?) ∧ (k = l.length ↔ Apart l) ∧ CpS G' id k l by
  obtain ⟨w, G', hc, k, rfl, h1, h2, h3⟩ := hs
  exact ⟨G', k, hc, h1, h2, h3⟩
 rw [yf]
 by_cases hl2 : (l.length : Int) < 2
 ·have ha : Apart l := fun i x _ hx => by
   have := (List.getElem?_eq_some_iff.1 hx).1
   omega
  simp [jS, Tryz.f268, hl2, ha, CpS.all h ha]
 simp [jS, Tryz.f268, hl2]
 refine aA (fun m σ => ∃ (k : Nat) (r : Nat → R), k + m = l.length ∧ σ = ⟨r, 0, G0⟩ ∧ r 0 = .val (.slc (some (id, 0)) l.length) ∧ r 3 = .val (.int .i64 k) ∧ 1 ≤ k ∧ ∀ i x, i + 1 < k → l[i]? = some x → l[i + 1]? ≠ some x) ?_ (l.length - 1) _ ⟨1, _, by omega, rfl, by simp, by simp, by omega, fun i x h => by omega⟩
 rintro m σ ⟨k, r, hkm, rfl, r0, r3, hk1, hall⟩
 cases m with
 | zero =>
  have hk : k = l.length := by omega
  subst hk
  have ha : Apart l := fun i x hx hx' => hall i x (List.getElem?_eq_some_iff.1 hx').1 hx hx'
  simp [r0, r3, ha, CpS.all h ha]
 | succ m =>
  have hk : k < l.length := by omega
  have hkI : (k : Int) < l.length := by omega
  obtain ⟨x, hx⟩ : ∃ c, l[k]? = some c := ⟨l[k], by simp [hk]⟩
  obtain ⟨y, hy⟩ : ∃ c, l[k - 1]? = some c := ⟨l[k - 1]'(by omega), by simp⟩
  have hw : IntKind.i64.wrap ((k : Int) + 1) = ((k : Int) + 1) := wrap_i64 (by omega) (by omega)
  have hw1 : IntKind.i64.wrap ((k : Int) - 1) = ((k - 1 : Nat) : Int) := by rw [wrap_i64 (by omega) (by omega)]; omega
  have hk' : ((k - 1 : Nat) : Int) < l.length := by omega
  have hk'' : k - 1 < l.length := by omega
  have ldx := bM (o := k) (v := .str x) h (by simp [hx])
  have ldy := bM (o := k - 1) (v := .str y) h (by simp [hy])
  by_cases hxy : x = y
  rotate_left
  ·simp [r0, r3, hk, hk'', ldx, ldy, hw, hw1, hxy, ae]
   refine ⟨m, by omega, k + 1, by omega, by omega, by omega, fun i z hi hz => ?_⟩
   by_cases hik : i + 1 = k
   ·have : i = k - 1 := by omega
    subst this
    rw [hy] at hz
    cases hz
    rw [hik, hx]
    simpa using hxy
   ·exact hall i z (by omega) hz
  have hna : ¬ Apart l := fun ha => ha (k - 1) y hy (by rw [show k - 1 + 1 = k by omega, hx, hxy])
  have hst : aY G0 id 1 = true := by simp [aY, h]
  have hle : k ≤ l.length := by omega
  simp [r0, r3, hk, hk'', hle, ldx, ldy, hw1, hxy, hst, ae]
  refine aA (fun m σ => ∃ (k2 k' : Nat) (r : Nat → R) (G : List Ob) (cs : List Str), k2 + m = l.length - k ∧ σ = ⟨r, 0, G⟩ ∧ r 0 = .val (.slc (some (id, 0)) l.length) ∧ r 3 = .val (.int .i64 k') ∧ r 4 = .val (.slc (some (id, k)) (l.length - k)) ∧ r 5 = .val (.int .i64 k2) ∧ 1 ≤ k2 ∧ k' + 1 ≤ k + k2 ∧
   G.length = G0.length ∧ (∀ q, q ≠ id → G[q]? = G0[q]?) ∧ G[id]? = some (.mk true 1 (cs.map V.str)) ∧ cs.length = l.length ∧ CpJ cs l k' (k + k2)) ?_ (l.length - k - 1) _ ⟨1, k, _, G0, l, by omega, rfl, by simp [r0], by simp [r3], by simp, by simp, by omega, by omega, rfl, fun _ _ => rfl, h, rfl, CpJ.init hx (hxy ▸ hy) hk1 hall⟩
  clear r0 r3 r hst
  rintro m2 σ ⟨k2, k', r, G, cs, hkm2, rfl, r0, r3, r4, r5, hk2, hkk, hG1, hG2, hG3, hcs, hci⟩
  have hst : aY G id 1 = true := by simp [aY, hG3]
  have hid : id < G.length := (List.getElem?_eq_some_iff.1 hG3).1
  cases m2 with
  | zero =>
   have hk2' : ((l.length - k : Nat) : Int) = k2 := by omega
   have hk2'' : l.length - k = k2 := by omega
   have hlt : k' < l.length := by omega
   have hle' : k' ≤ l.length := by omega
   have hnz : ¬ (l.length - k' = 0) := by omega
   have hwa : ∀ r c, dB ⟨r, c, G⟩ (.hp id k') (ah iM (l.length - k')) = some ⟨r, c, G.set id (.mk true 1 (setRange (cs.map V.str) k' (ah iM (l.length - k'))))⟩ := by
    intro r c
    simp only [dB, hG3]
    rw [if_pos (by rw [kL, List.length_map]; omega)]
   have hst2 : ∀ o, aY (G.set id (.mk true 1 o)) id 1 = true := fun o => by simp [aY, hid]
   have hne : ¬ (k' = l.length) := by omega
   have hend := CpS.end (G := G) hci (by omega) hcs hle' hid
   have hgl : ∀ o w, eU G0 (G.set id o) w = G.set id o := fun o w => zH (by rw [List.length_set]; exact hG1)
   simp [r0, r3, r4, r5, hk2'', hle', hst, ay, hnz, hwa, hst2, hgl, -setRange]
   refine ⟨hG1, fun q hq => ?_, ⟨fun h => absurd h hne, fun h => absurd h hna⟩, hend⟩
   rw [List.getElem?_set_ne (Ne.symm hq)]
   exact hG2 q hq
  | succ m2 =>
   have hlt : k2 < l.length - k := by omega
   obtain ⟨a, ha⟩ : ∃ c, cs[k + k2]? = some c := ⟨cs[k + k2]'(by omega), by simp⟩
   obtain ⟨b, hb⟩ : ∃ c, cs[k + (k2 - 1)]? = some c := ⟨cs[k + (k2 - 1)]'(by omega), by simp⟩
   have ld1 := bM (o := k + k2) (v := .str a) hG3 (by simp [ha])
   have ld2 := bM (o := k + (k2 - 1)) (v := .str b) hG3 (by simp [hb])
   have hw2 : IntKind.i64.wrap ((k2 : Int) - 1) = ((k2 - 1 : Nat) : Int) := by rw [wrap_i64 (by omega) (by omega)]; omega
   have hw3 : IntKind.i64.wrap ((k2 : Int) + 1) = ((k2 : Int) + 1) := wrap_i64 (by omega) (by omega)
   have hw4 : IntKind.i64.wrap ((k' : Int) + 1) = ((k' : Int) + 1) := wrap_i64 (by omega) (by omega)
   have hlt2 : k2 - 1 < l.length - k := by omega
   have hlt3 : k' < l.length := by omega
   by_cases hab : a = b
   ·simp [r0, r3, r4, r5, hlt, hlt2, ld1, ld2, hw2, hw3, hab, ae]
    exact ⟨m2, by omega, k2 + 1, by omega, k', _, G, ⟨rfl, rfl⟩, by simp [r0], by simp [r3], by simp [r4], by simp, by omega, by omega, hG1, hG2, cs, hG3, hcs, hci.same ha (by rw [show k + k2 - 1 = k + (k2 - 1) by omega, hab]; exact hb) (by omega)⟩
   ·have st := store1 (v := .str a) (o := k') hG3 (by simp; omega) rfl rfl
    simp [r0, r3, r4, r5, hlt, hlt2, hlt3, ld1, ld2, hw2, hw3, hw4, hab, ae, st]
    exact ⟨m2, by omega, k2 + 1, by omega, k' + 1, _, _, ⟨rfl, rfl⟩, by simp [r0], by simp, by simp [r4], by simp, by omega, by omega, by simpa using hG1, fun q hq => by rw [List.getElem?_set_ne (Ne.symm hq)]; exact hG2 q hq, cs.set k' a, by rw [List.getElem?_set_self hid, List.map_set], by simpa using hcs, hci.next ha (by rw [show k + k2 - 1 = k + (k2 - 1) by omega]; exact hb) hab (by omega) (by omega)⟩
def SomeS (G : List Ob) (w : V) (l : List Str) : Prop := ∃ l', AStrs G w l' ∧ (∀ x, x ∈ l' ↔ x ∈ l) ∧ l'.Pairwise fun a b => a < b
theorem SomeS.nil {G : List Ob} : SomeS G (.slc none 0) [] := ⟨[], aC.2 ⟨_, _, rfl, rfl, by simp, .inl ⟨rfl, rfl⟩⟩, fun _ => Iff.rfl, by simp⟩
theorem SomeS.none {G : List Ob} {id : Nat} {cs : List V} (h : G[id]? = some (.mk true 1 cs)) : SomeS G (.slc (some (id, 0)) 0) [] := ⟨[], aC.2 ⟨_, _, rfl, rfl, by simp, .inr ⟨id, 0, true, cs, rfl, h, by simp, fun i x hx => by simp at hx⟩⟩, fun _ => Iff.rfl, by simp⟩
theorem SomeS.of {G : List Ob} {id k : Nat} {l : List Str} (h : CpS G id k (sorted l)) (hb : l.length ≤ 1000) (hm : ∀ s ∈ l, s.length ≤ maxLen) : SomeS G (.slc (some (id, 0)) k) l := by
 obtain ⟨cs, h1, h0, h2, h3⟩ := h
 rw [jh] at h0
 have e : comp (sorted l) = comp ((sorted l).take (sorted l).length) := by rw [List.take_length]
 have h4 : ∀ x, x ∈ cs.take k ↔ x ∈ l := fun x => by
  rw [h3, e, uX x _ (Nat.le_refl _), List.take_length]
  exact sorted_perm.mem_iff
 exact ⟨cs.take k, wz h1 h2 (by unfold maxLen; omega) fun s hs => hm s ((h4 s).1 hs), h4, by rw [h3, e]; exact tN ni _ (Nat.le_refl _)⟩
theorem JB {H : List Ob} {id : Nat} {own : Bool} {va : V} {l : List Str} (h0 : H[id]? = some (.mk own 1 [va])) (hw : AStrs H va l) (hb : l.length ≤ 1000) :
  ∃ T p n, callW C 201 [.slc (some (id, 0)) 1] H = some (.slc p n, H ++ T) ∧ (n = l.length ↔ l.Nodup) ∧ SomeS (H ++ T) (.slc p n) l ∧ J7 H.length p := by
 suffices hs : Ret C 201 [.slc (some (id, 0)) 1] H fun q H' => ∃ T p n, q = .slc p n ∧ H' = H ++ T ∧ (n = l.length ↔ l.Nodup) ∧ SomeS H' q l ∧ J7 H.length p by
  obtain ⟨q, H', hc, T, p, n, rfl, rfl, hr⟩ := hs
  exact ⟨T, p, n, hc, hr⟩
 have hmx := kR hw
 rw [LK]
 have hfl : fl [l] 1 = l := by simp [fl]
 obtain ⟨T, w, c1, hown⟩ := xh (ls := [l]) h0 rfl (fun i w l' h1 h2 => by
  cases i with
  | zero => cases h1; cases h2; exact hw
  | succ i => simp at h1) (by simp only [List.length_singleton, hfl]; exact hb) (by simp)
 simp only [List.length_singleton, hfl] at c1 hown
 rcases hown with ⟨rfl, rfl⟩ | hgs
 ·have c2 : callW C 267 [.slc none 0] (H ++ T) = some (.tup [], H ++ T) := jo (pr := gY) rfl
  have c3 : callW C 268 [.slc none 0] (H ++ T) = some (.slc none 0, H ++ T) := by
   apply Ret.eq
   rw [yf]
   simp [jS, Tryz.f268]
  simp [mf, Tryz.f201, c1, c2, c3]
  exact ⟨[], _, _, ⟨rfl, rfl⟩, by simp [eU, pK, dZ], rfl, SomeS.nil, fun _ _ h => by cases h⟩
 ·obtain ⟨T', id', hT, h1, h2, rfl⟩ := hgs
  have hT' := List.append_cancel_left hT
  subst hT'
  rw [List.length_map] at c1
  have hid : id' < (H ++ T).length := (List.getElem?_eq_some_iff.1 h2).1
  by_cases hl0 : l.length = 0
  ·have : l = [] := List.length_eq_zero_iff.1 hl0
   subst this
   have c2 : callW C 267 [.slc (some (id', 0)) 0] (H ++ T) = some (.tup [], H ++ T) := jo (pr := gY) rfl
   have c3 : callW C 268 [.slc (some (id', 0)) 0] (H ++ T) = some (.slc (some (id', 0)) 0, H ++ T) := by
    apply Ret.eq
    rw [yf]
    simp [jS, Tryz.f268]
   have hgc : eU H (H ++ T) (.slc (some (id', 0)) 0) = H ++ T := Gs.gc ⟨T, id', rfl, h1, h2, rfl⟩
   simp at c1
   simp [mf, Tryz.f201, c1, c2, c3, hgc]
   exact ⟨_, _, _, ⟨rfl, rfl⟩, rfl, rfl, SomeS.none (by simpa using h2), fun _ _ h => by cases h; exact h1⟩
  ·have c2 := yQ h2 (by omega) (by omega)
   obtain ⟨G', k, c3, k1, k2, k3, k4⟩ := DL (l := sorted l) (G0 := (H ++ T).set id' (.mk true 1 ((sorted l).map V.str))) (id := id') (by rw [List.getElem?_set_self hid]) (by rw [jh]; exact hb)
   rw [jh] at c3 k3
   rw [List.length_set] at k1
   obtain ⟨T2, hT2⟩ : ∃ T2, G' = H ++ T2 := nM (fun q hq => by
    rw [k2 q (by omega), List.getElem?_set_ne (by omega), List.getElem?_append_left hq]) (by rw [k1]; simp)
   subst hT2
   have hgc : ∀ n, eU H (H ++ T2) (.slc (some (id', 0)) n) = H ++ T2 := fun n => by
    unfold eU
    rw [if_neg]
    rintro ⟨_, own, es, cells, h⟩
    have := (List.getElem?_eq_some_iff.1 h).1
    omega
   have hnd : k = l.length ↔ l.Nodup := by
    rw [k3, tZ ni]
    exact sorted_perm.nodup_iff
   simp [mf, Tryz.f201, c1, c2, c3, hgc]
   exact ⟨T2, _, _, ⟨rfl, rfl⟩, rfl, hnd, SomeS.of k4 hb hmx, fun _ _ h => by cases h; exact h1⟩
attribute [-simp] df eP
attribute [local simp] bZ dY bW cZ bY bJ
attribute [local simp low] cu
theorem IA {H : List Ob} {v : V} {l : List PClass} (h : aP H v l) (hb : ∀ c ∈ l, c.must.length ≤ 10 ∧ c.may.length ≤ 10) (hl : l.length ≤ 6) :
  ∃ T w l', callW C 110 [v] H = some (w, H ++ T) ∧ AStrs (H ++ T) w l' ∧ (∀ x, x ∈ l' ↔ x ∈ dJ l) ∧ l'.Pairwise (fun a b => a < b) ∧ (∀ q o n, w = .slc (some (q, o)) n → H.length ≤ q) := by
 suffices hs : Ret C 110 [v] H fun w H' => ∃ T l', H' = H ++ T ∧ AStrs (H ++ T) w l' ∧ (∀ x, x ∈ l' ↔ x ∈ dJ l) ∧ l'.Pairwise (fun a b => a < b) ∧ TJ H.length w by
  obtain ⟨q, H', hc, T, l', rfl, hr⟩ := hs
  exact ⟨T, q, l', hc, hr⟩
 rw [Pj]
 have hone := h.one
 simp [EM, Tryz.f110, St.new, ay, ax, ah, h.len, hone]
 have g0 : Gs H (H ++ [.mk true 1 [.str rM]]) (.slc (some (H.length, 0)) 1) ([rM].map V.str) := ⟨_, H.length, rfl, Nat.le_refl _, get_last, rfl⟩
 have hlen : ∀ i, (dJ (l.take i)).length ≤ 1 + 20 * i := fun i => by
  induction i with
  | zero => simp [dJ]
  | succ i ih =>
   by_cases hi : i < l.length
   ·have hc : l[i]? = some l[i] := by simp [hi]
    have := hb _ (List.mem_of_getElem? hc)
    have e : dJ (l.take (i + 1)) = dJ (l.take i) ++ (l[i].must ++ l[i].may) := by unfold dJ; rw [bg hc, List.flatMap_append]; simp
    rw [e, List.length_append, List.length_append]
    omega
   ·rw [List.take_of_length_le (by omega)] at ih ⊢
    omega
 have hms : ∀ i, ∀ s ∈ dJ (l.take i), s.length ≤ maxLen := fun i s hs => by
  rcases List.mem_cons.1 hs with rfl | hs
  ·decide
  ·obtain ⟨c, hc, hs⟩ := List.mem_flatMap.1 hs
   obtain ⟨j, hj, rfl⟩ := List.getElem_of_mem (List.mem_of_mem_take hc)
   obtain ⟨_, _, _, _, _, _, _, q1, q2, _⟩ := iY h (List.getElem?_eq_getElem hj)
   rcases List.mem_append.1 hs with hs | hs
   ·exact q1.max s hs
   ·exact q2.max s hs
 refine aA (fun k σ => ∃ (i n : Nat) (r : Nat → R) (G : List Ob) (w : V), i + k = l.length ∧ σ = ⟨r, n, G⟩ ∧ r 3 = .val w ∧ r 7 = .val v ∧ r 8 = .val (.int .i64 l.length) ∧ r 9 = .val (.int .i64 i) ∧ Gs H G w ((dJ (l.take i)).map V.str)) ?_ l.length _ ⟨0, _, _, _, .slc (some (H.length, 0)) 1, by simp, rfl, by simp, by simp, by simp, by simp, by rw [List.take_zero]; exact g0⟩
 rintro k σ ⟨i, n, r, G, w, hik, rfl, r3, r7, r8, r9, hG⟩
 obtain ⟨S, hS⟩ := hG.ext
 have hlG : aP G v l := by rw [hS]; exact h.ext
 have hwo := hG.one
 cases k with
 | zero =>
  have hi : i = l.length := by omega
  subst hi
  have hle := hlen l.length
  have hm := hms l.length
  rw [List.take_length] at hG hle hm
  have hw := (hG.strs (by unfold maxLen; omega) hm).1
  obtain ⟨T, p, m, c1, _, ⟨l', hl', hmem, hsrt⟩, hnp⟩ := JB (H := G ++ [.mk true 1 [w]]) (id := G.length) (own := true) (va := w) (l := dJ l) get_last hw.ext (by omega)
  simp only [hS, List.append_assoc] at hl'
  obtain ⟨T', hg, hat⟩ := hl'.gc
  simp only [List.append_assoc] at c1
  rw [← List.append_assoc, ← hS] at hg
  simp [r3, r7, r8, r9, hwo, St.new, ay, ax, ah, c1, hg, ae, af, List.lookup]
  exact ⟨T', by simpa using hg, l', hat, hmem, hsrt, fun q o n h => by cases h; have := hnp _ _ rfl; rw [hS] at this; simp at this; omega⟩
 | succ k =>
  have hi : i < l.length := by omega
  obtain ⟨c, hc⟩ : ∃ c, l[i]? = some c := ⟨l[i], by simp [hi]⟩
  have hcb := hb c (List.mem_of_getElem? hc)
  have hle := hlen i
  have hw1 : IntKind.i64.wrap ((i : Int) + 1) = ((i : Int) + 1) := wrap_i64 (by omega) (by omega)
  obtain ⟨id, o, w1, w2, w3, e1, ll, q1, q2, q3, hid⟩ := iY h hc
  obtain ⟨l1, l2, l4⟩ := ll G ⟨_, hS⟩
  have n1 := qG q1 (G := G) ⟨_, hS⟩
  obtain ⟨x1, G1, p1, g1⟩ := hG.many (d := .str) (b := 16) (z := [.str []]) (n1 _ _ _) oN (by simp; unfold aB; omega) (by decide) (by decide) rfl
  have n2 := qG q2 g1.ext
  obtain ⟨x2, G2, p2, g2⟩ := g1.many (d := .str) (b := 16) (z := [.str []]) (n2 _ _ _) oN (by simp; unfold aB; omega) (by decide) (by decide) rfl
  have o1 := g1.one
  have o2 := g2.one
  have s1 := q1.one
  have s2 := q2.one
  have s3 := q3.one
  simp [r3, r7, r8, r9, hi, e1, l1, l2, l4, hwo, o1, o2, s1, s2, s3, St.new, ay, ax, ah, p1, p2, hw1, ae, af, List.lookup]
  exact ⟨k, by omega, i + 1, by omega, _, _, _, ⟨rfl, rfl, rfl⟩, x2, by simp, by simp [r7], by simp [r8], by simp, by rw [show dJ (l.take (i + 1)) = dJ (l.take i) ++ c.must ++ c.may by unfold dJ; rw [bg hc, List.flatMap_append]; simp]; simpa using g2⟩
end Go.Proofs.Try1
end
section
namespace Go.Proofs.Try1
open Go Go.Lite
attribute [-simp] df eP
attribute [local simp] bZ dY bW cZ bY bJ
attribute [local simp low] cu
def Ar (l : List Str) : Prop := l.Pairwise fun a b => a < b
def LowU (l : List Str) (t : Str) (i : Nat) : Prop := ∀ (j : Nat) x, j < i → l[j]? = some x → bT x t
def OY (l : List Str) (t : Str) (i : Nat) : Prop := LowU l t i ∧ ∀ x, l[i]? = some x → ¬ bT x t
theorem LowU.zero {l : List Str} {t : Str} : LowU l t 0 := fun j x h => absurd h (by omega)
theorem LowU.succ {l : List Str} {t x : Str} {i : Nat} (h : LowU l t i) (hx : l[i]? = some x) (hl : bT x t) : LowU l t (i + 1) := fun j y hj hy => by
 by_cases e : j = i
 ·subst e; rw [hx] at hy; cases hy; exact hl
 ·exact h j y (by omega) hy
theorem Ll {l : List Str} {t : Str} {i : Nat} (hr : Ar l) (h : OY l t i) (hno : ¬ ∃ x, l[i]? = some x ∧ x = t) : Ar (l.take i ++ t :: l.drop i) := by
 have hp := List.pairwise_append.1 (by rw [List.take_append_drop]; exact hr : (l.take i ++ l.drop i).Pairwise fun a b => a < b)
 have h1 : ∀ y ∈ l.take i, y < t := fun y hy => by
  obtain ⟨j, hj, rfl⟩ := List.getElem_of_mem hy
  have hj' : j < i ∧ j < l.length := by simp only [List.length_take] at hj; omega
  exact (bf _ _).1 (h.1 j _ hj'.1 (by rw [List.getElem_take]; exact List.getElem?_eq_getElem hj'.2))
 have h2 : ∀ y ∈ l.drop i, t < y := fun y hy => by
  have hi : i < l.length := by
   rcases Nat.lt_or_ge i l.length with h | h
   ·exact h
   ·rw [List.drop_of_length_le h] at hy; cases hy
  rw [List.drop_eq_getElem_cons hi] at hy
  have h3 : t < l[i] := by
   rcases mJ t l[i] with h3 | h3 | h3
   ·exact (bf _ _).1 h3
   ·exact absurd ⟨l[i], List.getElem?_eq_getElem hi, h3.symm⟩ hno
   ·exact absurd h3 (h.2 _ (List.getElem?_eq_getElem hi))
  rcases List.mem_cons.1 hy with rfl | hy
  ·exact h3
  ·have h4 := hp.2.1
   rw [List.drop_eq_getElem_cons hi] at h4
   exact List.lt_trans h3 ((List.pairwise_cons.1 h4).1 y hy)
 refine List.pairwise_append.2 ⟨hp.1, List.pairwise_cons.2 ⟨h2, hp.2.1⟩, fun a ha b hb => ?_⟩
 rcases List.mem_cons.1 hb with rfl | hb
 ·exact h1 a ha
 ·exact hp.2.2 a ha b hb
theorem yJ {H : List Ob} {v : V} {l : List Str} {t : Str} (h : AStrs H v l) (ht : t.length ≤ maxLen) (hl : l.length ≤ 1000000) :
  ∃ T w l', callW C 208 [v, .str t] H = some (w, H ++ T) ∧ AStrs (H ++ T) w l' ∧ (∀ x, x ∈ l' ↔ x = t ∨ x ∈ l) ∧ l'.length ≤ l.length + 1 ∧ (Ar l → Ar l') := by
 suffices hs : Ret C 208 [v, .str t] H fun w H' => ∃ T l', H' = H ++ T ∧ AStrs (H ++ T) w l' ∧ (∀ x, x ∈ l' ↔ x = t ∨ x ∈ l) ∧ l'.length ≤ l.length + 1 ∧ (Ar l → Ar l') by
  obtain ⟨q, H', hc, T, l', rfl, hr⟩ := hs
  exact ⟨T, q, l', hc, hr⟩
 rw [NS]
 have hone := h.one
 have hmx := h.max
 simp [FY, Tryz.f208, hone]
 refine WP.mono (Q := fun ex σ' => ∃ (i : Nat) (r : Nat → R), ex = .exit 0 ∧ σ' = ⟨r, 0, H⟩ ∧ r 0 = .val v ∧ r 1 = .val (.str t) ∧ r 5 = .val (.int .i64 i) ∧ i ≤ l.length ∧ OY l t i) ?_ ?_
 ·refine aA (fun k σ => ∃ (i : Nat) (r : Nat → R), i + k = l.length ∧ σ = ⟨r, 0, H⟩ ∧ r 0 = .val v ∧ r 1 = .val (.str t) ∧ r 5 = .val (.int .i64 i) ∧ LowU l t i) ?_ l.length _ ⟨0, _, by simp, rfl, by simp, by simp, by simp, LowU.zero⟩
  rintro k σ ⟨i, r, hik, rfl, r0, r1, r5, hall⟩
  cases k with
  | zero =>
   have hi : i = l.length := by omega
   subst hi
   simp [r0, r1, r5, h.len, ae, af, List.lookup]
   exact ⟨l.length, rfl, Nat.le_refl _, hall, fun x h => by simp at h⟩
  | succ k =>
   have hi : i < l.length := by omega
   obtain ⟨x, hx⟩ : ∃ c, l[i]? = some c := ⟨l[i], by simp [hi]⟩
   have hw : IntKind.i64.wrap ((i : Int) + 1) = ((i : Int) + 1) := wrap_i64 (by omega) (by omega)
   obtain ⟨id, o, e1, l0, _⟩ := aU h hx
   by_cases g : bT x t
   ·simp [r0, r1, r5, hi, h.len, e1, l0, iq g, hw, ae, af, List.lookup]
    exact ⟨k, by omega, i + 1, by omega, by omega, hall.succ hx g⟩
   ·simp [r0, r1, r5, hi, h.len, e1, l0, gU g, hw, ae, af, List.lookup]
    exact ⟨i, rfl, by omega, hall, fun x' h => by rw [hx] at h; cases h; exact g⟩
 ·rintro ex σ' ⟨i, r, rfl, rfl, r0, r1, r5, hil, hlow⟩
  by_cases gs : ∃ x, l[i]? = some x ∧ x = t
  ·obtain ⟨x, hx, rfl⟩ := gs
   have hi := (List.getElem?_eq_some_iff.1 hx).1
   obtain ⟨id, o, e1, l0, _⟩ := aU h hx
   simp [r0, r1, r5, hi, h.len, e1, l0, hone, ae, af, List.lookup]
   exact ⟨l, h, fun y => ⟨.inr, fun hh => hh.elim (fun e => e ▸ List.mem_of_getElem? hx) fun z => z⟩, by omega, fun h => h⟩
  obtain ⟨s1, s2, a1, a2, hcase⟩ := h.cut hil
  have n1 := qG a1 (G := H ++ [.mk true 1 []]) ⟨_, rfl⟩
  have R0 : Gs H (H ++ [.mk true 1 []]) (.slc (some (H.length, 0)) 0) (([] : List Str).map V.str) := Gs.init
  obtain ⟨x1, G1, p1, g1⟩ := R0.many (d := .str) (b := 16) (z := [.str []]) (n1 _ _ _) oN (by simp; unfold aB; omega) (by decide) (by decide) rfl
  obtain ⟨x2, G2, p2, g2⟩ := g1.push (x := .str t) (d := .str) (b := 16) (z := [.str []]) rfl (by simp; unfold aB; omega) (by decide) (by decide) rfl
  have n2 := qG a2 g2.ext
  obtain ⟨x3, G3, p3, g3⟩ := g2.many (d := .str) (b := 16) (z := [.str []]) (n2 _ _ _) oN (by simp; unfold aB; omega) (by decide) (by decide) rfl
  have hl3 : l.take i ++ [t] ++ l.drop i = l.take i ++ t :: l.drop i := by simp
  have g3' : Gs H G3 x3 ((l.take i ++ t :: l.drop i).map V.str) := by simpa using g3
  have hmem : ∀ y, y ∈ l.take i ++ t :: l.drop i ↔ y = t ∨ y ∈ l := fun y => by
   conv => rhs; rw [← List.take_append_drop i l]
   simp only [List.mem_append, List.mem_cons]
   constructor
   ·rintro (h | h | h)
    ·exact .inr (.inl h)
    ·exact .inl h
    ·exact .inr (.inr h)
   ·rintro (h | h | h)
    ·exact .inr (.inl h)
    ·exact .inl h
    ·exact .inr (.inr h)
  have hat := (g3'.strs (by simp; unfold maxLen; omega) (fun s hs => ((hmem s).1 hs).elim (fun e => e ▸ ht) (hmx s))).1
  obtain ⟨T, rfl⟩ := g3'.ext
  have hgc := g3'.gc
  have o1 := g1.one
  have o2 := g2.one
  have o3 := g3'.one
  obtain ⟨S2, hS2⟩ := g2.ext
  have fin : ∃ l', AStrs (H ++ T) x3 l' ∧ (∀ x, x ∈ l' ↔ x = t ∨ x ∈ l) ∧ l'.length ≤ l.length + 1 ∧ (Ar l → Ar l') := ⟨_, hat, hmem, by simp; omega, fun hr => Ll hr hlow gs⟩
  have hng : ¬ (∃ x, l[i]? = some x ∧ x = t) := gs
  have hoA : aJ s1 = true ∧ cellsOf s1 = some [s1] := a1.one
  have hoB : aJ s2 = true ∧ cellsOf s2 = some [s2] := a2.one
  by_cases gi : i < l.length
  ·obtain ⟨x, hx⟩ : ∃ c, l[i]? = some c := ⟨l[i], by simp [gi]⟩
   obtain ⟨id, o, e1, l0, _⟩ := aU h hx
   have hxt : ¬ x = t := fun e => gs ⟨x, hx, e⟩
   rcases hcase with ⟨_, _, _, _, h0⟩ | ⟨ids, off, hv, hs1, hs2, hst⟩
   ·rw [h0] at gi; simp at gi
   have t1 := hst (H ++ [.mk true 1 []]) ⟨_, rfl⟩
   have t2 := hst G2 ⟨S2, hS2⟩
   rw [hv] at r0 h e1
   rw [hs1] at p1
   rw [hs2] at p3
   simp [Sh.size_str] at t1 t2 p1 p2 p3
   simp [r0, r1, r5, gi, hil, h.len, e1, l0, hxt, St.new, ay, ax, ah, t1, t2, p1, p2, p3, o1, o2, o3, hgc, ae, af, List.lookup]
   exact fin
  ·have hin : i = l.length := by omega
   rcases hcase with ⟨hv, hs1, hs2, hi0, h0⟩ | ⟨ids, off, hv, hs1, hs2, hst⟩
   ·rw [hv] at r0 h
    rw [hs1] at p1
    rw [hs2] at p3
    subst h0
    have hlen := fun {e s b : Nat} {z : List V} => h.len (e := e) (s := s) (b := b) (z := z)
    simp at p1 p2 p3 hlen
    simp [r0, r1, r5, hi0, hlen, St.new, ay, ax, ah, p1, p2, p3, o1, o2, o3, hgc, ae, af, List.lookup]
    simpa using fin
   ·have t1 := hst (H ++ [.mk true 1 []]) ⟨_, rfl⟩
    have t2 := hst G2 ⟨S2, hS2⟩
    rw [hv] at r0 h
    rw [hs1] at p1
    rw [hs2] at p3
    have hlen := fun {e s b : Nat} {z : List V} => h.len (e := e) (s := s) (b := b) (z := z)
    simp [Sh.size_str] at t1 t2 p1 p2 p3 hlen
    simp [r0, r1, r5, gi, hil, hlen, St.new, ay, ax, ah, t1, t2, p1, p2, p3, o1, o2, o3, hgc, ae, af, List.lookup]
    exact fin
theorem Au {H : List Ob} {v : V} {l : List PClass} (h : aP H v l) (hb : ∀ c ∈ l, c.must.length ≤ 10 ∧ c.may.length ≤ 10) (hl : l.length ≤ 6) :
  ∃ T w l', callW C 119 [v] H = some (w, H ++ T) ∧ AStrs (H ++ T) w l' ∧ (∀ x, x ∈ l' ↔ x ∈ dJ l) ∧ Ar l' := by
 suffices hs : Ret C 119 [v] H fun w H' => ∃ T l', H' = H ++ T ∧ AStrs (H ++ T) w l' ∧ (∀ x, x ∈ l' ↔ x ∈ dJ l) ∧ Ar l' by
  obtain ⟨q, H', hc, T, l', rfl, hr⟩ := hs
  exact ⟨T, q, l', hc, hr⟩
 rw [PS]
 have hone := h.one
 simp [EX, Tryz.f119, St.new, ay, ax, ah]
 have hinit : AStrs (H ++ [.mk true 1 [.str rM]]) (.slc (some (H.length, 0)) 1) [rM] := AC (by decide)
 refine aA (fun k σ => ∃ (i : Nat) (r : Nat → R) (T : List Ob) (w : V) (ks : List Str), i + k = l.length ∧ σ = ⟨r, 0, H ++ T⟩ ∧ r 0 = .val v ∧ r 3 = .val w ∧ r 4 = .val (.int .i64 i) ∧ AStrs (H ++ T) w ks ∧ (∀ x, x ∈ ks ↔ x ∈ dJ (l.take i)) ∧ ks.length ≤ 1 + 20 * i ∧ Ar ks) ?_ l.length _ ⟨0, _, _, _, [rM], by simp, rfl, by simp, by simp, by simp, hinit, by simp [dJ], by simp, by simp [Ar]⟩
 rintro k σ ⟨i, r, T, w, ks, hik, rfl, r0, r3, r4, hw, hmem, hlen, hris⟩
 have hlT : aP (H ++ T) v l := h.ext
 have hwo := hw.one
 cases k with
 | zero =>
  have hi : i = l.length := by omega
  subst hi
  rw [List.take_length] at hmem
  obtain ⟨T', hg, hw'⟩ := hw.gc
  simp [r0, r3, r4, hlT.len, hwo, hg, ae, af, List.lookup]
  exact ⟨ks, hw', hmem, hris⟩
 | succ k =>
  have hi : i < l.length := by omega
  obtain ⟨c, hc⟩ : ∃ c, l[i]? = some c := ⟨l[i], by simp [hi]⟩
  have hcb := hb c (List.mem_of_getElem? hc)
  have hw1 : IntKind.i64.wrap ((i : Int) + 1) = ((i : Int) + 1) := wrap_i64 (by omega) (by omega)
  have hstep : ∀ m, m ∈ dJ (l.take (i + 1)) ↔ m ∈ dJ (l.take i) ∨ m ∈ c.must ∨ m ∈ c.may := fun m => by
   unfold dJ
   rw [bg hc, List.flatMap_append]
   simp [or_assoc]
  simp [r0, r3, r4, hi, hlT.len, ae, af, List.lookup]
  refine WP.mono (Q := fun ex σ' => ∃ (r : Nat → R) (T : List Ob) (w : V) (ks : List Str), ex = .exit 2 ∧ σ' = ⟨r, 0, H ++ T⟩ ∧ r 0 = .val v ∧ r 3 = .val w ∧ r 4 = .val (.int .i64 i) ∧ AStrs (H ++ T) w ks ∧ (∀ x, x ∈ ks ↔ x ∈ dJ (l.take i) ∨ x ∈ c.must) ∧ ks.length ≤ 11 + 20 * i ∧ Ar ks) ?_ ?_
  ·refine aA (fun k σ => ∃ (j : Nat) (r : Nat → R) (T : List Ob) (w : V) (ks : List Str), j + k = c.must.length ∧ σ = ⟨r, 0, H ++ T⟩ ∧ r 0 = .val v ∧ r 3 = .val w ∧ r 4 = .val (.int .i64 i) ∧ r 5 = .val (.int .i64 j) ∧ AStrs (H ++ T) w ks ∧ (∀ x, x ∈ ks ↔ x ∈ dJ (l.take i) ∨ x ∈ c.must.take j) ∧ ks.length ≤ 1 + 20 * i + j ∧ Ar ks) ?_ c.must.length _ ⟨0, _, T, w, ks, by simp, rfl, by simp [r0], by simp [r3], by simp [r4], by simp, hw, by simp [hmem], by omega, hris⟩
   clear hw hmem hlen hris hwo hlT r0 r3 r4 ks w T r
   rintro k σ ⟨j, r, T, w, ks, hjk, rfl, r0, r3, r4, r5, hw, hmem, hlen, hris⟩
   have hlT : aP (H ++ T) v l := h.ext
   have hwo := hw.one
   obtain ⟨id, o, w1, w2, w3, e1, ll, q1, q2, q3, _⟩ := iY h hc
   obtain ⟨l1, l2, _⟩ := ll (H ++ T) ⟨_, rfl⟩
   cases k with
   | zero =>
    have hj : j = c.must.length := by omega
    subst hj
    rw [List.take_length] at hmem
    simp [r0, r3, r4, r5, hi, e1, l1, q1.len, ae, af, List.lookup]
    exact ⟨_, T, ⟨rfl, rfl⟩, by simp [r0], w, by simp [r3], by simp [r4], ks, hw, hmem, by omega, hris⟩
   | succ k =>
    have hj : j < c.must.length := by omega
    obtain ⟨x, hx⟩ : ∃ x, c.must[j]? = some x := ⟨c.must[j], by simp [hj]⟩
    have hw2 : IntKind.i64.wrap ((j : Int) + 1) = ((j : Int) + 1) := wrap_i64 (by omega) (by omega)
    obtain ⟨id2, o2, f1, f0, hxl⟩ := aU (q1.ext (T := T)) hx
    obtain ⟨T2, w', ks', c1, hw', hm', hl', hr'⟩ := yJ hw hxl (by omega)
    have hwo' := hw'.one
    simp [r0, r3, r4, r5, hi, hj, e1, l1, f1, f0, q1.len, c1, hw2, hwo', ae, af, List.lookup]
    refine ⟨k, by omega, j + 1, by omega, _, T ++ T2, ⟨rfl, by simp⟩, by simp [r0], w', by simp, by simp [r4], by simp, ks', by simpa using hw', fun y => ?_, by omega, hr' hris⟩
    rw [hm' y, hmem y, bg hx, List.mem_append, List.mem_singleton]
    constructor
    ·rintro (h | h | h)
     ·exact .inr (.inr h)
     ·exact .inl h
     ·exact .inr (.inl h)
    ·rintro (h | h | h)
     ·exact .inr (.inl h)
     ·exact .inr (.inr h)
     ·exact .inl h
  ·clear hw hmem hlen hris hwo hlT r0 r3 r4 ks w T r
   rintro ex σ' ⟨r, T, w, ks, rfl, rfl, r0, r3, r4, hw, hmem, hlen, hris⟩
   simp [r0, r3, r4, ae, af, List.lookup]
   refine WP.mono (Q := fun ex σ' => ∃ (r : Nat → R) (T : List Ob) (w : V) (ks : List Str), ex = .exit 4 ∧ σ' = ⟨r, 0, H ++ T⟩ ∧ r 0 = .val v ∧ r 3 = .val w ∧ r 4 = .val (.int .i64 i) ∧ AStrs (H ++ T) w ks ∧ (∀ x, x ∈ ks ↔ (x ∈ dJ (l.take i) ∨ x ∈ c.must) ∨ x ∈ c.may) ∧ ks.length ≤ 21 + 20 * i ∧ Ar ks) ?_ ?_
   ·refine aA (fun k σ => ∃ (j : Nat) (r : Nat → R) (T : List Ob) (w : V) (ks : List Str), j + k = c.may.length ∧ σ = ⟨r, 0, H ++ T⟩ ∧ r 0 = .val v ∧ r 3 = .val w ∧ r 4 = .val (.int .i64 i) ∧ r 6 = .val (.int .i64 j) ∧ AStrs (H ++ T) w ks ∧ (∀ x, x ∈ ks ↔ (x ∈ dJ (l.take i) ∨ x ∈ c.must) ∨ x ∈ c.may.take j) ∧ ks.length ≤ 11 + 20 * i + j ∧ Ar ks) ?_ c.may.length _ ⟨0, _, T, w, ks, by simp, rfl, by simp [r0], by simp [r3], by simp [r4], by simp, hw, by simp [hmem], by omega, hris⟩
    clear hw hmem hlen hris r0 r3 r4 ks w T r
    rintro k σ ⟨j, r, T, w, ks, hjk, rfl, r0, r3, r4, r6, hw, hmem, hlen, hris⟩
    have hlT : aP (H ++ T) v l := h.ext
    have hwo := hw.one
    obtain ⟨id, o, w1, w2, w3, e1, ll, q1, q2, q3, _⟩ := iY h hc
    obtain ⟨l1, l2, _⟩ := ll (H ++ T) ⟨_, rfl⟩
    cases k with
    | zero =>
     have hj : j = c.may.length := by omega
     subst hj
     rw [List.take_length] at hmem
     simp [r0, r3, r4, r6, hi, e1, l2, q2.len, ae, af, List.lookup]
     exact ⟨_, T, ⟨rfl, rfl⟩, by simp [r0], w, by simp [r3], by simp [r4], ks, hw, hmem, by omega, hris⟩
    | succ k =>
     have hj : j < c.may.length := by omega
     obtain ⟨x, hx⟩ : ∃ x, c.may[j]? = some x := ⟨c.may[j], by simp [hj]⟩
     have hw2 : IntKind.i64.wrap ((j : Int) + 1) = ((j : Int) + 1) := wrap_i64 (by omega) (by omega)
     obtain ⟨id2, o2, f1, f0, hxl⟩ := aU (q2.ext (T := T)) hx
     obtain ⟨T2, w', ks', c1, hw', hm', hl', hr'⟩ := yJ hw hxl (by omega)
     have hwo' := hw'.one
     simp [r0, r3, r4, r6, hi, hj, e1, l2, f1, f0, q2.len, c1, hw2, hwo', ae, af, List.lookup]
     refine ⟨k, by omega, j + 1, by omega, _, T ++ T2, ⟨rfl, by simp⟩, by simp [r0], w', by simp, by simp [r4], by simp, ks', by simpa using hw', fun y => ?_, by omega, hr' hris⟩
     rw [hm' y, hmem y, bg hx, List.mem_append, List.mem_singleton]
     constructor
     ·rintro (h | h | h)
      ·exact .inr (.inr h)
      ·exact .inl h
      ·exact .inr (.inl h)
     ·rintro (h | h | h)
      ·exact .inr (.inl h)
      ·exact .inr (.inr h)
      ·exact .inl h
   ·clear hw hmem hlen hris r0 r3 r4 ks w T r
    rintro ex σ' ⟨r, T, w, ks, rfl, rfl, r0, r3, r4, hw, hmem, hlen, hris⟩
    simp [r0, r3, r4, hw1, ae, af, List.lookup]
    exact ⟨k, by omega, i + 1, by omega, _, T, ⟨rfl, rfl⟩, by simp [r0], w, by simp [r3], by simp, ks, hw, fun x => by rw [hmem x, hstep x, or_assoc], by omega, hris⟩
noncomputable def iP (l : List PClass) (e : PEntry) : Int := if 400 < l.length then 2 else if dec (aZ l) = true then (if dec (EntryOk e) = true then (if dec (ji l e) = true then 0 else 12) else 1) else 1
theorem qp {H : List Ob} {vl vd va : V} {l : List PClass} {e : PEntry} (hl : aP H vl l) (hd : eu H vd e.dn) (ha : bD H va e.attrs) : callW C 23 [vl, .agg [vd, va]] H = some (.int .i64 (iP l e), H) := by
 apply Ret.eq
 rw [Ul]
 have hod := hd.one
 have hoa := ha.one
 have hgi : ∀ X n, eU H (H ++ X) (.int .i64 n) = H := fun X n => rF
 have c0 := KF (hl.ext (T := [.mk true 2 [vd, va]]))
 have c1 := nG (hl.ext (T := [.mk true 2 [vd, va]]))
 have c2 := Aj (hd.ext (T := [.mk true 2 [vd, va]])) (ha.ext (T := [.mk true 2 [vd, va]]))
 have ld := pF (H := H ++ [.mk true 2 [vd, va]]) (o := 0) (n := 2) get_last (by simp) (by decide) rfl
 simp at ld
 unfold iP
 by_cases g0 : 400 < l.length
 ·rw [if_pos g0]
  simp [rZ, Tryz.f23, c0, g0, hod, hoa, aV, hgi]
 rw [if_neg g0]
 by_cases g1 : aZ l
 rotate_left
 ·rw [ai g1] at c1 ⊢
  simp [rZ, Tryz.f23, c0, c1, g0, ld, hod, hoa, aV, hgi]
 rw [aj g1] at c1 ⊢
 by_cases g2 : EntryOk e
 rotate_left
 ·rw [ai g2] at c2 ⊢
  simp [rZ, Tryz.f23, c0, c1, c2, g0, ld, hod, hoa, aV, hgi]
 rw [aj g2] at c2 ⊢
 have c3 := MK (H := H ++ [.mk true 2 [vd, va]]) (ide := H.length) (own := true) get_last hl.ext hd.ext ha.ext g1 g2
 by_cases g3 : ji l e
 ·rw [aj g3] at c3 ⊢
  simp [rZ, Tryz.f23, c0, c1, c2, c3, g0, ld, hod, hoa, aV, hgi]
 ·rw [ai g3] at c3 ⊢
  simp [rZ, Tryz.f23, c0, c1, c2, c3, g0, ld, hod, hoa, aV, hgi]
theorem Jn {H : List Ob} {vl vd va : V} {l : List PClass} {e : PEntry} (hl : aP H vl l) (hd : eu H vd e.dn) (ha : bD H va e.attrs) : callW C 27 [vl, .agg [vd, va]] H = some (.int .i64 (iP l e), H) := by
 apply Ret.eq
 rw [Uk]
 have hod := hd.one
 have hoa := ha.one
 have hol := hl.one
 have c1 := mY hl
 have c2 := qw hd ha
 unfold iP
 by_cases g0 : 400 < l.length
 ·have g0' : (400 : Int) < l.length := by omega
  rw [if_pos g0]
  simp [rP, Tryz.f27, hl.len, g0', hod, hoa, hol]
 have g0' : ¬ (400 : Int) < l.length := by omega
 rw [if_neg g0]
 by_cases g1 : aZ l
 rotate_left
 ·rw [ai g1] at c1 ⊢
  simp [rP, Tryz.f27, hl.len, c1, g0', hod, hoa, hol]
 rw [aj g1] at c1 ⊢
 by_cases g2 : EntryOk e
 rotate_left
 ·rw [ai g2] at c2 ⊢
  simp [rP, Tryz.f27, hl.len, c1, c2, g0', hod, hoa, hol]
 rw [aj g2] at c2 ⊢
 obtain ⟨r, c3, h1, h2⟩ := I9 hl hd ha g2.1
 by_cases g3 : ji l e
 ·rw [aj g3]
  have hr : r = 0 := h1.2 g3
  subst hr
  simp [rP, Tryz.f27, hl.len, c1, c2, c3, g0', hod, hoa, hol]
 ·rw [ai g3]
  have hr : r = 12 := h2.resolve_left fun h => g3 (h1.1 h)
  subst hr
  simp [rP, Tryz.f27, hl.len, c1, c2, c3, g0', hod, hoa, hol]
theorem jA {l : List PClass} (g : aZ l) : (∀ c ∈ l, c.must.length ≤ 10 ∧ c.may.length ≤ 10 ∧ c.single.length ≤ 20) ∧ l.length ≤ 6 := by
 refine ⟨fun c hc => ?_, g.2⟩
 obtain ⟨j, hj, rfl⟩ := List.getElem_of_mem hc
 have h := (g.1 j _ (List.getElem?_eq_getElem hj)).1
 exact ⟨h.l1, h.l2, by have := h.l3; omega⟩
theorem yC {G : List Ob} : AStrs G (.slc none 0) [] := aC.2 ⟨_, _, rfl, rfl, by simp, .inl ⟨rfl, rfl⟩⟩
def KnownQ (l : List PClass) (k : List Str) : Prop := Ar k ∧ ∀ x, x ∈ k ↔ (aZ l ∧ x ∈ dJ l)
theorem KnownQ.eq {l : List PClass} {k k' : List Str} (h : KnownQ l k) (h' : KnownQ l k') : k = k' := Gl h.1 h'.1 fun x => by rw [h.2, h'.2]
theorem KnownQ.none {l : List PClass} (h : ¬ aZ l) : KnownQ l [] := ⟨by simp [Ar], fun x => ⟨fun hx => (by cases hx), fun hx => absurd hx.1 h⟩⟩
theorem Lr {H : List Ob} {v : V} {l : List PClass} (h : aP H v l) : ∃ T w k, callW C 26 [v] H = some (w, H ++ T) ∧ AStrs (H ++ T) w k ∧ KnownQ l k := by
 suffices hs : Ret C 26 [v] H fun q H' => ∃ T k, H' = H ++ T ∧ AStrs (H ++ T) q k ∧ KnownQ l k by
  obtain ⟨q, H', hc, T, k, rfl, hr⟩ := hs
  exact ⟨T, q, k, hc, hr⟩
 rw [TB]
 have ho := h.one
 have c1 := nG h
 by_cases g : aZ l
 rotate_left
 ·rw [ai g] at c1
  simp [Dz, Tryz.f26, c1, ho]
  exact ⟨[], yC, KnownQ.none g⟩
 rw [aj g] at c1
 obtain ⟨g1, g2⟩ := jA g
 obtain ⟨T, w, k, c2, hw, hm, hr, _⟩ := IA h (fun c hc => ⟨(g1 c hc).1, (g1 c hc).2.1⟩) g2
 have hwo := hw.one
 obtain ⟨T', hg, hw'⟩ := hw.gc
 simp [Dz, Tryz.f26, c1, c2, ho, hwo, hg]
 exact ⟨k, hw', hr, fun x => by rw [hm]; exact ⟨fun h => ⟨g, h⟩, fun h => h.2⟩⟩
theorem Ku {H : List Ob} {v : V} {l : List PClass} (h : aP H v l) : ∃ T w k, callW C 32 [v] H = some (w, H ++ T) ∧ AStrs (H ++ T) w k ∧ KnownQ l k := by
 suffices hs : Ret C 32 [v] H fun q H' => ∃ T k, H' = H ++ T ∧ AStrs (H ++ T) q k ∧ KnownQ l k by
  obtain ⟨q, H', hc, T, k, rfl, hr⟩ := hs
  exact ⟨T, q, k, hc, hr⟩
 rw [TN]
 have ho := h.one
 have c1 := mY h
 have e0 : AStrs (H ++ [.mk true 1 []]) (.slc (some (H.length, 0)) 0) [] := (Gs.strs (l := []) Gs.init (by simp) (by simp)).1
 by_cases g0 : 400 < l.length
 ·have g0' : (400 : Int) < l.length := by omega
  have g : ¬ aZ l := fun h => by have := h.2; omega
  obtain ⟨T', hg, hw'⟩ := e0.gc
  simp [zi, Tryz.f32, h.len, g0', ho, ay, ax, ah, St.new]
  exact ⟨[], e0, KnownQ.none g⟩
 have g0' : ¬ (400 : Int) < l.length := by omega
 by_cases g : aZ l
 rotate_left
 ·rw [ai g] at c1
  simp [zi, Tryz.f32, h.len, g0', c1, ho, ay, ax, ah, St.new]
  exact ⟨[], e0, KnownQ.none g⟩
 rw [aj g] at c1
 obtain ⟨g1, g2⟩ := jA g
 obtain ⟨T, w, k, c2, hw, hm, hr⟩ := Au h (fun c hc => ⟨(g1 c hc).1, (g1 c hc).2.1⟩) g2
 have hwo := hw.one
 obtain ⟨T', hg, hw'⟩ := hw.gc
 simp [zi, Tryz.f32, h.len, g0', c1, c2, ho, hwo, hg]
 exact ⟨k, hw', hr, fun x => by rw [hm]; exact ⟨fun h => ⟨g, h⟩, fun h => h.2⟩⟩
noncomputable def dL (l : List PClass) (t : Str) : PClass := if 8000 < t.length then ⟨[], [], [], []⟩ else if dec (aZ l) = true then (bi PClass.name l t).getD ⟨[], [], [], []⟩ else ⟨[], [], [], []⟩
def ClsOut (H : List Ob) (c : PClass) (q : V) (H' : List Ob) : Prop := ∃ T w1 w2 w3, q = .agg [.str c.name, w1, w2, w3] ∧ H' = H ++ T ∧ AStrs (H ++ T) w1 c.must
theorem ClsOut.none {H : List Ob} {T : List Ob} : ClsOut H ⟨[], [], [], []⟩ (.agg [.str [], .slc none 0, .slc none 0, .slc none 0]) (H ++ T) := ⟨T, _, _, _, rfl, rfl, yC⟩
theorem rW {H : List Ob} {v : V} {l : List PClass} {t : Str} (h : aP H v l) (ht : t.length ≤ maxLen) : ∃ q H', callW C 30 [v, .str t] H = some (q, H') ∧ ClsOut H (dL l t) q H' := by
 suffices hs : Ret C 30 [v, .str t] H (ClsOut H (dL l t)) by
  obtain ⟨q, H', hc, hr⟩ := hs
  exact ⟨q, H', hc, hr⟩
 rw [TV]
 have ho := h.one
 have hS : AStrs (H ++ [.mk true 1 [.str t]]) (.slc (some (H.length, 0)) 1) [t] := AC ht
 have c0 := Jo hS
 have c1 := nG (h.ext (T := [.mk true 1 [.str t]]))
 have hlow : ∀ X, eU H (H ++ X) (.agg [.str [], .slc none 0, .slc none 0, .slc none 0]) = H := fun X => kw (by simp [dZ, gK])
 unfold dL
 by_cases g0 : 8000 < t.length
 ·rw [aj (by simpa using g0)] at c0
  rw [if_pos g0]
  simp [wJ, Tryz.f30, c0, ho, ay, ax, ah, St.new, aH, ak, hlow]
  have := ClsOut.none (H := H) (T := [])
  simpa using this
 rw [ai (by simpa using g0)] at c0
 rw [if_neg g0]
 by_cases g : aZ l
 rotate_left
 ·rw [ai g] at c1 ⊢
  simp [wJ, Tryz.f30, c0, c1, ho, ay, ax, ah, St.new, aH, ak, hlow]
  have := ClsOut.none (H := H) (T := [])
  simpa using this
 rw [aj g] at c1 ⊢
 obtain ⟨g1, g2⟩ := jA g
 obtain ⟨T, cs, ok, c2, hr⟩ := xP (t := t) (h.ext (T := [.mk true 1 [.str t]])) (fun c hc => by have := g1 c hc; omega)
 rw [if_pos rfl]
 simp at c2
 rcases hr with ⟨rfl, c, w1, w2, w3, hf, rfl, q1, q2, q3⟩ | ⟨rfl, hf, rfl⟩
 ·rw [hf]
  have p1 := q1.one
  have p2 := q2.one
  have p3 := q3.one
  simp [wJ, Tryz.f30, c0, c1, c2, ho, p1, p2, p3, ay, ax, ah, St.new, aH, ak]
  unfold eU
  split
  ·rename_i hc
   have hq : AStrs (H ++ (Ob.mk true 1 [.str t] :: T)) w1 c.must := by simpa using q1
   exact ⟨[], w1, w2, w3, rfl, by simp, by rw [List.append_nil]; exact nS hq hc.2.2.1⟩
  ·exact ⟨_, w1, w2, w3, rfl, rfl, by simpa using q1⟩
 ·rw [hf]
  simp [wJ, Tryz.f30, c0, c1, c2, ho, ay, ax, ah, St.new, aH, ak, hlow]
  have := ClsOut.none (H := H) (T := [])
  simpa using this
theorem Gh {H : List Ob} {v : V} {l : List PClass} {t : Str} (h : aP H v l) : ∃ q H', callW C 31 [v, .str t] H = some (q, H') ∧ ClsOut H (dL l t) q H' := by
 suffices hs : Ret C 31 [v, .str t] H (ClsOut H (dL l t)) by
  obtain ⟨q, H', hc, hr⟩ := hs
  exact ⟨q, H', hc, hr⟩
 rw [UH]
 have ho := h.one
 obtain ⟨r, c0, hr⟩ := yc (t := t) h
 have c1 := mY h
 have hlow : ∀ X, eU H X (.agg [.str [], .slc none 0, .slc none 0, .slc none 0]) = H ∨ eU H X (.agg [.str [], .slc none 0, .slc none 0, .slc none 0]) = X := fun X => by unfold eU; split; exact .inl rfl; exact .inr rfl
 have hnone : dL l t = ⟨[], [], [], []⟩ → ClsOut H (dL l t) (.agg [.str [], .slc none 0, .slc none 0, .slc none 0]) H := fun e => by
  rw [e]
  have := ClsOut.none (H := H) (T := [])
  simpa using this
 have hgs : eU H H (.agg [.str [], .slc none 0, .slc none 0, .slc none 0]) = H := vN
 by_cases g0 : 8000 < t.length
 ·have g0' : (8000 : Int) < t.length := by omega
  have e : dL l t = ⟨[], [], [], []⟩ := by unfold dL; rw [if_pos g0]
  by_cases gl : (400 : Int) < l.length
  ·simp [nR, Tryz.f31, c0, ho, h.len, gl, g0', ay, ax, ah, St.new, aH, ak, hgs]
   exact hnone e
  ·simp [nR, Tryz.f31, c0, ho, h.len, gl, g0', ay, ax, ah, St.new, aH, ak, hgs]
   exact hnone e
 have g0' : ¬ (8000 : Int) < t.length := by omega
 by_cases g : aZ l
 rotate_left
 ·have e : dL l t = ⟨[], [], [], []⟩ := by unfold dL; rw [if_neg g0, ai g]; rfl
  rw [ai g] at c1
  by_cases gl : (400 : Int) < l.length
  ·simp [nR, Tryz.f31, c0, ho, h.len, gl, g0', ay, ax, ah, St.new, aH, ak, hgs]
   exact hnone e
  ·by_cases gr : r < 0
   ·simp [nR, Tryz.f31, c0, ho, h.len, gl, g0', gr, ay, ax, ah, St.new, aH, ak, hgs]
    exact hnone e
   ·simp [nR, Tryz.f31, c0, c1, ho, h.len, gl, g0', gr, ay, ax, ah, St.new, aH, ak, hgs]
    exact hnone e
 rw [aj g] at c1
 obtain ⟨g1, g2⟩ := jA g
 have gl : ¬ (400 : Int) < l.length := by omega
 rcases hr.pos with ⟨k, c, hk, rfl, hf⟩ | ⟨rfl, hf⟩
 ·have e : dL l t = c := by unfold dL; rw [if_neg g0, aj g, if_pos rfl, hf]; rfl
  have hk0 : ¬ ((k : Int) < 0) := by omega
  obtain ⟨id, o, w1, w2, w3, e1, ll, q1, q2, q3, _⟩ := iY h hk
  have l3 := (ll H ⟨[], by simp⟩).2.2
  have p1 := q1.one
  have p2 := q2.one
  have p3 := q3.one
  have hcb := g1 c (List.mem_of_getElem? hk)
  obtain ⟨T, u1, u2, u3, c2, hn⟩ := KC (c := c) q1 q2 q3 (by
   obtain ⟨_, _, _, _, _, _, _, h4⟩ := ASl.idx h hk (by decide)
   obtain ⟨_, _, _, _, h5, _⟩ := l7.1 h4
   exact h5) ⟨by omega, by omega, by omega⟩
  obtain ⟨x1, x2, x3, hx, _, y1, y2, y3⟩ := l7.1 hn.at
  cases hx
  have p4 := y1.one
  have p5 := y2.one
  have p6 := y3.one
  rw [e]
  simp [nR, Tryz.f31, c0, c1, c2, ho, h.len, gl, g0', hk0, e1, l3, p1, p2, p3, p4, p5, p6, ay, ax, ah, St.new, aH, ak]
  unfold eU
  split
  ·rename_i hc
   exact ⟨[], u1, u2, u3, rfl, by simp, by rw [List.append_nil]; exact nS y1 hc.2.2.1⟩
  ·exact ⟨_, u1, u2, u3, rfl, rfl, y1⟩
 ·have e : dL l t = ⟨[], [], [], []⟩ := by unfold dL; rw [if_neg g0, aj g, if_pos rfl, hf]; rfl
  simp [nR, Tryz.f31, c0, ho, h.len, gl, g0', ay, ax, ah, St.new, aH, ak, hgs]
  exact hnone e
end Go.Proofs.Try1
end
section
namespace Go.Proofs.Try1
open Go Go.Lite
structure PTreeOut where
 tree : PTree
 entries : List PEntry
 code : Int
def PTreeOut.u (o : PTreeOut) : U := .st [o.tree.u, .lst (o.entries.map PEntry.u), .int o.code]
abbrev sF : Sh := .st [Dl, .slice gz, .int .i64]
def Uf (c : Int) : PTreeOut := ⟨⟨[], []⟩, [], c⟩
def TOut (H : List Ob) (o : PTreeOut) (q : V) (H' : List Ob) : Prop := ∃ T w1 w2 w3, q = .agg [w1, w2, w3, .int .i64 o.code] ∧ H' = H ++ T ∧ New H.length (H ++ T).length (H ++ T) sF [w1, w2, w3, .int .i64 o.code] o.u
theorem TOut.ill {H : List Ob} {c : Int} (h : (Lit.int .i64 c).wf = true) : TOut H (Uf c) (.agg [.slc none 0, .slc none 0, .slc none 0, .int .i64 c]) H :=
 ⟨[], .slc none 0, .slc none 0, .slc none 0, rfl, by simp, New.st (News.cons (c1 := [.slc none 0, .slc none 0]) (m := H.length) (New.st (News.nilS (News.nilS News.nil))) (News.nilS (News.int h News.nil)) (Nat.le_refl _) (by simp))⟩
theorem TOut.of {H G : List Ob} {t : PTree} {w1 w2 : V} (hT : ∃ T, G = H ++ T) (hn : New H.length G.length G Dl [w1, w2] t.u) : TOut H ⟨t, [], 0⟩ (.agg [w1, w2, .slc none 0, .int .i64 0]) (eU H G (.agg [w1, w2, .slc none 0, .int .i64 0])) := by
 obtain ⟨T, rfl⟩ := hT
 have h2 : New H.length (H ++ T).length (H ++ T) sF [w1, w2, .slc none 0, .int .i64 0] (PTreeOut.u ⟨t, [], 0⟩) := New.st (News.cons (c1 := [w1, w2]) (m := (H ++ T).length) hn (News.nilS (News.int (by decide) News.nil)) (by simp) (Nat.le_refl _))
 obtain ⟨T', h3, h4⟩ := h2.gcA
 exact ⟨T', w1, w2, .slc none 0, rfl, h3, h4⟩
theorem DnOk.drop {l : List PRdn} (hd : DnOk l) (k : Nat) : DnOk (l.drop k) :=
 ⟨fun j x hx => hd.1 (k + j) x (by rw [List.getElem?_drop] at hx; exact hx), by have := hd.2; simp; omega⟩
end Go.Proofs.Try1
end
section
namespace Go.Proofs.Try1
open Go Go.Lite
attribute [-simp] df eP
attribute [local simp] bZ dY bW cZ bY bJ
attribute [local simp low] cu





def Ns (n : Int) : Int := if n = 0 then 1 else if n = 1 then 0 else 2

def Tri (x : Int) : Prop := x = 0 ∨ x = 1 ∨ x = 2
theorem Tri.not {x : Int} (h : Tri x) : Tri (Ns x) := by
 rcases h with rfl | rfl | rfl <;> simp [Tri, Ns]

def ints (xs : List Int) : List V := xs.map fun x => .int .i64 x
theorem Bo {xs : List Int} : (ints xs).length = xs.length := by simp [ints]
def Is (H G : List Ob) (v : V) (b : List Int) : Prop := ∃ T id, G = H ++ T ∧ H.length ≤ id ∧ G[id]? = some (.mk true 1 (ints b)) ∧ v = .slc (some (id, 0)) b.length
theorem Is.init {H : List Ob} : Is H (H ++ [.mk true 1 []]) (.slc (some (H.length, 0)) 0) [] := ⟨_, H.length, rfl, Nat.le_refl _, by simp [ints], rfl⟩
theorem Is.push {H G : List Ob} {v : V} {b : List Int} (h : Is H G v b) (hb : b.length ≤ 1000) {c : Int} {z : List V} {d : LD} (hz : z.length = 1) : ∃ v' G', aT ⟨d, 1, 8, z⟩ (G ++ [.mk true 1 [.int .i64 c]]) v (.slc (some (G.length, 0)) 1) = some (v', G') ∧ Is H G' v' (b ++ [c]) := by
 obtain ⟨T, id, rfl, h1, h2, rfl⟩ := h
 have hid : id < (H ++ T).length := (List.getElem?_eq_some_iff.1 h2).1
 have hid' : id < H.length + T.length := by simpa using hid
 have hg : (H ++ T ++ [Ob.mk true 1 [.int .i64 c]])[id]? = some (.mk true 1 (ints b)) := by rw [List.getElem?_append_left hid]; exact h2
 have hnew : aI ⟨d, 1, 8, z⟩ (H ++ T ++ [Ob.mk true 1 [.int .i64 c]]) (.slc (some ((H ++ T).length, 0)) 1) = some ([.int .i64 c], 1) := by
  simp only [aI, Nat.mul_one, aQ, get_last]
  rfl
 refine ⟨.slc (some ((H ++ T ++ [Ob.mk true 1 [.int .i64 c]]).length, 0)) (b.length + 1), (H ++ T ++ [Ob.mk true 1 [.int .i64 c]]).set id .dead ++ [.mk true 1 (ints b ++ [.int .i64 c])], ?_, ?_⟩
 ·unfold aT
  rw [if_pos (by simp [fU, hz]), hnew]
  simp only [Nat.one_ne_zero, if_false, List.all_cons, List.all_nil, rV, Bool.and_true, if_true, hg]
  have e1 : ¬ (0 + (b.length + 1) * 1 ≤ (ints b).length) := by rw [Bo]; omega
  have e2 : (0 + b.length * 1 = (ints b).length ∨ b.length = 0 ∧ (ints b).length ≤ 0) ∧ (b.length + 1) * 8 ≤ aB := ⟨.inl (by rw [Bo]; simp), by unfold aB; omega⟩
  rw [if_neg e1, if_pos e2, List.drop_zero]
 ·refine ⟨T.set (id - H.length) .dead ++ [.mk true 1 [.int .i64 c]] ++ [.mk true 1 (ints b ++ [.int .i64 c])], (H ++ T ++ [Ob.mk true 1 [.int .i64 c]]).length, ?_, by simp only [List.length_append]; omega, ?_, by simp⟩
  ·rw [List.append_assoc H T, List.set_append_right _ _ h1, List.set_append_left _ _ (by omega)]
   simp
  ·have hl : ((H ++ T ++ [Ob.mk true 1 [V.int .i64 c]]).set id .dead).length = (H ++ T ++ [Ob.mk true 1 [V.int .i64 c]]).length := List.length_set
   rw [← hl, get_last]
   simp [ints]

end Go.Proofs.Try1
end
section
namespace Go.Proofs.Try1
open Go Go.Lite



end Go.Proofs.Try1
end
