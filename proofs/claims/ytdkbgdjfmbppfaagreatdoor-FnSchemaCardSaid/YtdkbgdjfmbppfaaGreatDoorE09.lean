/- Part 09 of the proof of a law: the interpreter, its soundness, and what functions of the program compute over it. Conditions: none but those that each theorem names. -/
import Derived.Test.YtdkbgdjfmbppfaaGreatDoorE08
import Derived.Test.YtdkbgdjfmbppfaaGreatDoorE05
import Derived.Test.YtdkbgdjfmbppfaaGreatDoorE07

set_option linter.all false
set_option maxRecDepth 20000
set_option maxHeartbeats 40000000
section
namespace Go.Proofs.Try1
open Go Go.Lite
theorem JZ {H : List Ob} {v : V} {l : List PAttr} (h : bD H v l) : callW C 102 [v] H = some (.bool (dec (eY l)), H) := by
 apply Ret.dec
 rw [PP]
 have hb : l.length ≤ 9223372036854775807 := h.bound
 simp [Ey, Tryz.f102]
 refine aA (fun k σ => ∃ (i : Nat) (r : Nat → R), i + k = l.length ∧ σ = ⟨r, 0, H⟩ ∧ r 0 = .val v ∧ r 3 = .val (.int .i64 i) ∧ ∀ j x, j < i → l[j]? = some x → aG x.name ∧ bK PAttr.name l j x ∧ bH x.vals) ?_ l.length _ ⟨0, _, by simp, rfl, by simp, by simp, by simp⟩
 rintro k σ ⟨i, r, hik, rfl, r0, r3, hall⟩
 cases k with
 | zero =>
  have hi : i = l.length := by omega
  subst hi
  have hx := fH (P := fun j (x : PAttr) => aG x.name ∧ bK PAttr.name l j x ∧ bH x.vals) hall
  by_cases g : l.length ≤ 8
  ·have g' : (l.length : Int) ≤ 8 := by omega
   have hv : eY l := ⟨hx, g⟩
   simp [r0, r3, h.len, g', hv]
  ·have g' : ¬ (l.length : Int) ≤ 8 := by omega
   have hv : ¬ eY l := fun h => g h.2
   simp [r0, r3, h.len, g', hv]
 | succ k =>
  have hi : i < l.length := by omega
  obtain ⟨x, hx⟩ : ∃ c, l[i]? = some c := ⟨l[i], by simp [hi]⟩
  have hw : IntKind.i64.wrap ((i : Int) + 1) = ((i : Int) + 1) := wrap_i64 (by omega) (by omega)
  obtain ⟨id, o, w, e1, l0, l1, _, hvs, _⟩ := fC h hx
  have c1 := rG (t := x.name) (H := H)
  have c2 := Ja hvs
  have hstep := fun h => dm (P := fun j (x : PAttr) => aG x.name ∧ bK PAttr.name l j x ∧ bH x.vals) hall hx h
  by_cases g1 : aG x.name
  rotate_left
  ·rw [ai g1] at c1
   have hn : ¬ eY l := fun hd => g1 (hd.1 i x hx).1
   simp [r0, r3, hi, h.len, e1, l0, c1, hn, ae]
  rw [aj g1] at c1
  by_cases hi0 : i = 0
  ·have hpv : bK PAttr.name l i x := fun y hy => by omega
   by_cases g3 : bH x.vals
   ·rw [aj g3] at c2
    have := hstep ⟨g1, hpv, g3⟩
    subst hi0
    simp at e1
    simp [r0, r3, hi, h.len, e1, l0, l1, c1, c2, ae]
    exact ⟨k, by omega, 1, by omega, by omega, this⟩
   ·rw [ai g3] at c2
    have hn : ¬ eY l := fun hd => g3 (hd.1 i x hx).2.2
    subst hi0
    simp at e1
    simp [r0, r3, hi, h.len, e1, l0, l1, c1, c2, ae, hn]
  ·have hip : 0 < i := by omega
   obtain ⟨y, hy⟩ : ∃ c, l[i - 1]? = some c := ⟨l[i - 1]'(by omega), by simp⟩
   obtain ⟨id', o', w', e1', l0', _⟩ := fC h hy
   have hw1 : IntKind.i64.wrap ((i : Int) - 1) = ((i - 1 : Nat) : Int) := by rw [wrap_i64 (by omega) (by omega)]; omega
   by_cases g2 : bT y.name x.name
   ·have hpv : bK PAttr.name l i x := fun z _ hz => by rw [hy] at hz; cases hz; exact g2
    by_cases g3 : bH x.vals
    ·rw [aj g3] at c2
     have := hstep ⟨g1, hpv, g3⟩
     simp [r0, r3, hi, h.len, e1, l0, l1, c1, c2, e1', l0', hw, hw1, hip, iq g2, ae]
     exact ⟨k, by omega, i + 1, by omega, by omega, this⟩
    ·rw [ai g3] at c2
     have hn : ¬ eY l := fun hd => g3 (hd.1 i x hx).2.2
     simp [r0, r3, hi, h.len, e1, l0, l1, c1, c2, e1', l0', hw, hw1, hip, iq g2, ae, hn]
   ·have hn : ¬ eY l := fun hd => g2 ((hd.1 i x hx).2.1 y hip hy)
    simp [r0, r3, hi, h.len, e1, l0, c1, e1', l0', hw, hw1, hip, gU g2, ae, hn]
theorem qw {H : List Ob} {v w : V} {e : PEntry} (h1 : eu H v e.dn) (h2 : bD H w e.attrs) : callW C 20 [.agg [v, w]] H = some (.bool (dec (EntryOk e)), H) := by
 apply Ret.dec
 rw [TP]
 have c1 := UT h1
 have c2 := JZ h2
 by_cases g0 : 0 < e.dn.length
 rotate_left
 ·have hn : ¬ EntryOk e := fun h => g0 h.1
  have g0' : e.dn.length = 0 := by omega
  simp [wY, Tryz.f20, h1.len, g0', hn, h1.one, h2.one]
 by_cases g1 : DnOk e.dn
 rotate_left
 ·rw [ai g1] at c1
  have hn : ¬ EntryOk e := fun h => g1 h.2.1
  simp [wY, Tryz.f20, h1.len, g0, c1, hn, h1.one, h2.one]
 rw [aj g1] at c1
 by_cases g2 : eY e.attrs
 ·rw [aj g2] at c2
  have hn : EntryOk e := ⟨g0, g1, g2⟩
  simp [wY, Tryz.f20, h1.len, g0, c1, c2, hn, h1.one, h2.one]
 ·rw [ai g2] at c2
  have hn : ¬ EntryOk e := fun h => g2 h.2.2
  simp [wY, Tryz.f20, h1.len, g0, c1, c2, hn, h1.one, h2.one]
theorem yF {H : List Ob} {v : V} {l : List Str} (h : AStrs H v l) : callW C 203 [v, .str [99, 108, 97, 115, 115]] H = some (.bool (dec (dN ∈ l)), H) := vM h
theorem KD {H : List Ob} {w1 w2 w3 : V} {c : PClass} (h1 : AStrs H w1 c.must) (h2 : AStrs H w2 c.may) (h3 : AStrs H w3 c.single) : callW C 121 [.agg [.str c.name, w1, w2, w3]] H = some (.bool (dec (ClassOk c)), H) := by
 apply Ret.dec
 rw [PE]
 have c0 := rG (t := c.name) (H := H)
 have c1 := Af h1
 have c2 := Af h2
 have c3 := Af h3
 by_cases g0 : aG c.name
 rotate_left
 ·rw [ai g0] at c0
  have hn : ¬ ClassOk c := fun h => g0 h.name
  simp [jP, Tryz.f121, c0, hn, h1.one, h2.one, h3.one]
 rw [aj g0] at c0
 by_cases g1 : (c.must.length : Int) > 10
 ·have hn : ¬ ClassOk c := fun h => by have := h.l1; omega
  simp [jP, Tryz.f121, c0, h1.len, g1, hn, h1.one, h2.one, h3.one]
 by_cases g2 : (c.may.length : Int) > 10
 ·have hn : ¬ ClassOk c := fun h => by have := h.l2; omega
  simp [jP, Tryz.f121, c0, h1.len, h2.len, g1, g2, hn, h1.one, h2.one, h3.one]
 by_cases g3 : (c.single.length : Int) > 10
 ·have hn : ¬ ClassOk c := fun h => by have := h.l3; omega
  simp [jP, Tryz.f121, c0, h1.len, h2.len, h3.len, g1, g2, g3, hn, h1.one, h2.one, h3.one]
 by_cases g4 : dI c.must
 rotate_left
 ·rw [ai g4] at c1
  have hn : ¬ ClassOk c := fun h => g4 h.n1
  simp [jP, Tryz.f121, c0, c1, h1.len, h2.len, h3.len, g1, g2, g3, hn, h1.one, h2.one, h3.one]
 rw [aj g4] at c1
 by_cases g5 : dI c.may
 rotate_left
 ·rw [ai g5] at c2
  have hn : ¬ ClassOk c := fun h => g5 h.n2
  simp [jP, Tryz.f121, c0, c1, c2, h1.len, h2.len, h3.len, g1, g2, g3, hn, h1.one, h2.one, h3.one]
 rw [aj g5] at c2
 by_cases g6 : dI c.single
 rotate_left
 ·rw [ai g6] at c3
  have hn : ¬ ClassOk c := fun h => g6 h.n3
  simp [jP, Tryz.f121, c0, c1, c2, c3, h1.len, h2.len, h3.len, g1, g2, g3, hn, h1.one, h2.one, h3.one]
 rw [aj g6] at c3
 simp [jP, Tryz.f121, c0, c1, c2, c3, h1.len, h2.len, h3.len, g1, g2, g3, h1.one, h2.one, h3.one]
 refine aA (fun k σ => ∃ (i : Nat) (r : Nat → R), i + k = c.must.length ∧ σ = ⟨r, 1, H⟩ ∧ r 1 = .box 0 [.str c.name, w1, w2, w3] ∧ r 3 = .val (.int .i64 i) ∧ ∀ j x, j < i → c.must[j]? = some x → x ∉ c.may) ?_ c.must.length _ ⟨0, _, by simp, rfl, by simp, by simp, by simp⟩
 rintro k σ ⟨i, r, hik, rfl, r1, r3, hall⟩
 cases k with
 | succ k =>
  have hi : i < c.must.length := by omega
  obtain ⟨x, hx⟩ : ∃ y, c.must[i]? = some y := ⟨c.must[i], by simp [hi]⟩
  have hw : IntKind.i64.wrap ((i : Int) + 1) = ((i : Int) + 1) := wrap_i64 (by omega) (by omega)
  obtain ⟨id, o, e1, l0, _⟩ := aU h1 hx
  have c4 := vM (t := x) h2
  by_cases g7 : x ∈ c.may
  ·rw [aj g7] at c4
   have hn : ¬ ClassOk c := fun h => h.apart x (List.mem_of_getElem? hx) g7
   simp [r1, r3, hi, h1.len, e1, l0, c4, ae, hn]
  ·rw [ai g7] at c4
   simp [r1, r3, hi, h1.len, e1, l0, c4, ae, hw]
   exact ⟨k, by omega, i + 1, by omega, by omega, dm (P := fun j (x : Str) => x ∉ c.may) hall hx g7⟩
 | zero =>
 have hi : i = c.must.length := by omega
 subst hi
 have hap : ∀ t ∈ c.must, t ∉ c.may := fun t ht => by
  obtain ⟨j, hj, rfl⟩ := List.getElem_of_mem ht
  exact hall j _ hj (List.getElem?_eq_getElem hj)
 simp [r1, r3, h1.len]
 refine aA (fun k σ => ∃ (i : Nat) (r : Nat → R), i + k = c.single.length ∧ σ = ⟨r, 1, H⟩ ∧ r 1 = .box 0 [.str c.name, w1, w2, w3] ∧ r 4 = .val (.int .i64 i) ∧ ∀ j x, j < i → c.single[j]? = some x → x ∈ c.may ∨ x ∈ c.must) ?_ c.single.length _ ⟨0, _, by simp, rfl, by simp [r1], by simp, by simp⟩
 clear hik r1 r3 hall r
 rintro k σ ⟨i, r, hik, rfl, r1, r4, hall⟩
 cases k with
 | succ k =>
  have hi : i < c.single.length := by omega
  obtain ⟨x, hx⟩ : ∃ y, c.single[i]? = some y := ⟨c.single[i], by simp [hi]⟩
  have hw : IntKind.i64.wrap ((i : Int) + 1) = ((i : Int) + 1) := wrap_i64 (by omega) (by omega)
  obtain ⟨id, o, e1, l0, _⟩ := aU h3 hx
  have c4 := vM (t := x) h2
  have c5 := vM (t := x) h1
  have hstep := fun h => dm (P := fun j (x : Str) => x ∈ c.may ∨ x ∈ c.must) hall hx h
  by_cases g7 : x ∈ c.may
  ·rw [aj g7] at c4
   have := hstep (.inl g7)
   simp [r1, r4, hi, h3.len, e1, l0, c4, ae, hw]
   exact ⟨k, by omega, i + 1, by omega, by omega, this⟩
  ·rw [ai g7] at c4
   by_cases g8 : x ∈ c.must
   ·rw [aj g8] at c5
    have := hstep (.inr g8)
    simp [r1, r4, hi, h3.len, e1, l0, c4, c5, ae, hw]
    exact ⟨k, by omega, i + 1, by omega, by omega, this⟩
   ·rw [ai g8] at c5
    have hn : ¬ ClassOk c := fun h => (h.known x (List.mem_of_getElem? hx)).elim g7 g8
    simp [r1, r4, hi, h3.len, e1, l0, c4, c5, ae, hn]
 | zero =>
 have hi : i = c.single.length := by omega
 subst hi
 have hkn : ∀ t ∈ c.single, t ∈ c.may ∨ t ∈ c.must := fun t ht => by
  obtain ⟨j, hj, rfl⟩ := List.getElem_of_mem ht
  exact hall j _ hj (List.getElem?_eq_getElem hj)
 have c6 := yF h1
 have c7 := yF h2
 by_cases g7 : dN ∈ c.must
 ·rw [aj g7] at c6
  have hn : ¬ ClassOk c := fun h => h.noMust g7
  simp [r1, r4, h3.len, c6, hn]
 ·rw [ai g7] at c6
  by_cases g8 : dN ∈ c.may
  ·rw [aj g8] at c7
   have hn : ¬ ClassOk c := fun h => h.noMay g8
   simp [r1, r4, h3.len, c6, c7, hn]
  ·rw [ai g8] at c7
   have hn : ClassOk c := ⟨g0, by omega, by omega, by omega, g4, g5, g6, hap, hkn, g7, g8⟩
   simp [r1, r4, h3.len, c6, c7, hn]
theorem mY {H : List Ob} {v : V} {l : List PClass} (h : aP H v l) : callW C 34 [v] H = some (.bool (dec (aZ l)), H) := by
 apply Ret.dec
 rw [Us]
 have hb : l.length ≤ 9223372036854775807 := h.bound
 simp [Il, Tryz.f34]
 refine aA (fun k σ => ∃ (i : Nat) (r : Nat → R), i + k = l.length ∧ σ = ⟨r, 0, H⟩ ∧ r 0 = .val v ∧ r 3 = .val (.int .i64 i) ∧ ∀ j x, j < i → l[j]? = some x → ClassOk x ∧ bK PClass.name l j x) ?_ l.length _ ⟨0, _, by simp, rfl, by simp, by simp, by simp⟩
 rintro k σ ⟨i, r, hik, rfl, r0, r3, hall⟩
 cases k with
 | zero =>
  have hi : i = l.length := by omega
  subst hi
  have hx := fH (P := fun j (x : PClass) => ClassOk x ∧ bK PClass.name l j x) hall
  by_cases g : l.length ≤ 6
  ·have g' : (l.length : Int) ≤ 6 := by omega
   have hv : aZ l := ⟨hx, g⟩
   simp [r0, r3, h.len, g', hv]
  ·have g' : ¬ (l.length : Int) ≤ 6 := by omega
   have hv : ¬ aZ l := fun h => g h.2
   simp [r0, r3, h.len, g', hv]
 | succ k =>
  have hi : i < l.length := by omega
  obtain ⟨x, hx⟩ : ∃ c, l[i]? = some c := ⟨l[i], by simp [hi]⟩
  have hw : IntKind.i64.wrap ((i : Int) + 1) = ((i : Int) + 1) := wrap_i64 (by omega) (by omega)
  obtain ⟨id, o, w1, w2, w3, e1, l0, l4, q1, q2, q3, _⟩ := iH h hx
  have c1 := KD q1 q2 q3
  have hstep := fun h => dm (P := fun j (x : PClass) => ClassOk x ∧ bK PClass.name l j x) hall hx h
  by_cases g1 : ClassOk x
  ·rw [aj g1] at c1
   by_cases hi0 : i = 0
   ·have := hstep ⟨g1, fun y hy => by omega⟩
    subst hi0
    simp at e1
    simp [r0, r3, hi, h.len, e1, l4, c1, ae]
    exact ⟨k, by omega, 1, by omega, by omega, this⟩
   ·have hip : 0 < i := by omega
    obtain ⟨y, hy⟩ : ∃ c, l[i - 1]? = some c := ⟨l[i - 1]'(by omega), by simp⟩
    obtain ⟨id', o', _, _, _, e1', l0', _⟩ := iH h hy
    have hw1 : IntKind.i64.wrap ((i : Int) - 1) = ((i - 1 : Nat) : Int) := by rw [wrap_i64 (by omega) (by omega)]; omega
    by_cases g2 : bT y.name x.name
    ·have := hstep ⟨g1, fun z _ hz => by rw [hy] at hz; cases hz; exact g2⟩
     simp [r0, r3, hi, h.len, e1, l0, l4, c1, e1', l0', hw, hw1, hip, iq g2, ae]
     exact ⟨k, by omega, i + 1, by omega, by omega, this⟩
    ·have hn : ¬ aZ l := fun hd => g2 ((hd.1 i x hx).2 y hip hy)
     simp [r0, r3, hi, h.len, e1, l0, l4, c1, e1', l0', hw, hw1, hip, gU g2, ae, hn]
  ·rw [ai g1] at c1
   have hn : ¬ aZ l := fun hd => g1 (hd.1 i x hx).1
   simp [r0, r3, hi, h.len, e1, l4, c1, hn, ae]
def gX (H : List Ob) (m : Option PClass) (cs : List V) (ok : Bool) : Prop :=
 (ok = true ∧ ∃ c w1 w2 w3, m = some c ∧ cs = [.str c.name, w1, w2, w3] ∧ AStrs H w1 c.must ∧ AStrs H w2 c.may ∧ AStrs H w3 c.single) ∨ (ok = false ∧ m = none ∧ cs = [.str [], .slc none 0, .slc none 0, .slc none 0])
theorem Jp {H : List Ob} {v v' : V} {l : List PAttr} (h : bD H v l) (ho : cellsOf v' = some [v']) (ho' : aJ v' = true) : ∃ w, callW C 100 [.agg [v', v], .str [99, 108, 97, 115, 115]] H = some (w, H) ∧ AStrs H w (valsOf l dN) := L9 h ho ho'
theorem H9 {H T : List Ob} {vl vd va : V} {l : List PClass} {as' : List PAttr} (hl : aP H vl l) (ha : bD H va as') (ho : cellsOf vd = some [vd]) (ho' : aJ vd = true) :
  ∃ cs ok, callW C 114 [vl, .agg [vd, va]] (H ++ T) = some (.tup [.agg cs, .bool ok], H ++ T) ∧ gX H (dW l as') cs ok := by
 suffices hs : Ret C 114 [vl, .agg [vd, va]] (H ++ T) fun q H' => (∃ cs ok, q = .tup [.agg cs, .bool ok] ∧ gX H (dW l as') cs ok) ∧ H' = H ++ T by
  obtain ⟨q, H', hc, ⟨cs, ok, rfl, hr⟩, rfl⟩ := hs
  exact ⟨cs, ok, hc, hr⟩
 rw [NY]
 obtain ⟨w, c1, hw⟩ := Jp (ha.ext (T := T)) ho ho'
 have hone := ha.one
 by_cases g1 : (valsOf as' dN).length = 1
 rotate_left
 ·have hm : dW l as' = none := by
   unfold dW
   split
   ·rename_i v hv; rw [hv] at g1; exact absurd rfl g1
   ·rfl
  have g1' : ¬ ((valsOf as' dN).length : Int) = 1 := by omega
  simp [uA, Tryz.f114, c1, hw.len, g1', ho, ho', hone, aH, ax]
  exact .inr ⟨rfl, hm, rfl⟩
 obtain ⟨s, hs⟩ : ∃ s, valsOf as' dN = [s] := by
  match h : valsOf as' dN, g1 with
  | [s], _ => exact ⟨s, rfl⟩
 rw [hs] at hw
 obtain ⟨id, o, e1, l0, _⟩ := aU hw (i := 0) (s := s) rfl
 simp only [Int.ofNat_eq_natCast, Int.natCast_zero] at e1
 have c2 := kQ (t := s) (H := H ++ T)
 obtain ⟨r, c3, hr⟩ := yc (t := norm s) (hl.ext (T := T))
 have hm : dW l as' = bi PClass.name l (norm s) := by unfold dW; rw [hs]
 rcases hr.pos with ⟨k, a, h1, rfl, h2⟩ | ⟨rfl, h2⟩
 ·obtain ⟨id2, o2, w1, w2, w3, f1, l4, q1, q2, q3⟩ := qM hl h1
  have l4 := l4 T
  have hk : ¬ ((k : Int) < 0) := by omega
  simp [uA, Tryz.f114, c1, hw.len, e1, l0, c2, c3, hk, f1, l4, ho, ho', hone, q1.one, q2.one, q3.one]
  exact .inl ⟨rfl, a, w1, w2, w3, by rw [hm, h2], rfl, q1, q2, q3⟩
 ·simp [uA, Tryz.f114, c1, hw.len, e1, l0, c2, c3, ho, ho', hone, aH, ax]
  exact .inr ⟨rfl, by rw [hm, h2], rfl⟩
theorem JC {H : List Ob} {id : Nat} (h : H[id]? = some (.mk true 1 [])) : AStrs H (.slc (some (id, 0)) 0) [] :=
 aC.2 ⟨_, _, rfl, rfl, by simp, .inr ⟨id, 0, true, [], rfl, h, by simp, fun i x hx => by simp at hx⟩⟩
theorem tu {l : List Str} {i : Nat} {x : Str} (h : l[i]? = some x) (p : Str → Bool) : (l.take (i + 1)).filter p = (l.take i).filter p ++ if p x then [x] else [] := by
 rw [bg h, List.filter_append]
 cases hp : p x <;> simp [hp]
theorem N8 {t : Str} {H : List Ob} (h0 : t ≠ []) (hl : t.length ≤ 1000) : ∃ q, callW C 182 [.str t, .str kset] H = some (.str q, H) ∧ (q = [] ↔ kT t) := by
 suffices hs : Ret C 182 [.str t, .str kset] H fun q H' => (∃ s, q = .str s ∧ (s = [] ↔ kT t)) ∧ H' = H by
  obtain ⟨q, H', hc, ⟨s, rfl, hr⟩, rfl⟩ := hs
  exact ⟨s, hc, hr⟩
 rw [NG]
 have hk0 : kset ≠ [] := by decide
 have hk1 : (kset.length : Int) = 37 := by decide
 have c1 := Po (t := kset) (H := H) (fun c hc => by
  rcases vw.1 hc with h | h | h
  ·have := h.2; omega
  ·have := h.2; omega
  ·omega) (by decide)
 have hz : setRange (List.replicate 256 (V.bool false)) 0 (setB kset) = setB kset := by
  unfold setRange
  rw [List.take_zero, List.nil_append, Nat.zero_add, dV, List.drop_of_length_le (by rw [List.length_replicate]; omega), List.append_nil]
 have hall : (setB kset).all aJ = true := by
  rw [List.all_eq_true]
  intro x hx
  simp only [setB, List.mem_map] at hx
  obtain ⟨_, _, rfl⟩ := hx
  rfl
 have st := MF (H := H ++ [.mk true 1 (List.replicate 256 (.bool false))]) (id := H.length) (o := 0) (l := setB kset) (cells := List.replicate 256 (.bool false)) (es := 1) get_last (by rw [dV, List.length_replicate]; omega) (by intro h; have := dV (l := kset); rw [h] at this; cases this) hall
 rw [dV, hz, iV] at st
 have hob : (H ++ [Ob.mk true 1 (setB kset)])[H.length]? = some (.mk true 1 (setB kset)) := get_last
 obtain ⟨s, c2, q1, q2, q3⟩ := PK (t := t) hob hl
 obtain ⟨s', c3, q4, q5⟩ := OI (t := s) hob q3
 have hres : s' = [] ↔ kT t := by
  rw [← q1, ← q4]
  constructor
  ·rintro rfl; intro c hc; cases hc
  ·intro h
   rcases q5 with h' | h'
   ·exact h'
   ·exact absurd h h'
 simp [E8, Tryz.f182, h0, hk0, hk1, c1, aV, st, c2, c3, -List.reduceReplicate, -setRange]
 exact hres
theorem JL {t : Str} {c : UInt8} {s : Str} (h : t = c :: s) : aG t ↔ t.length ≤ 20 ∧ xH c ∧ kT t := by
 subst h
 constructor
 ·rintro ⟨_, h1, h2⟩
  refine ⟨h1, ?_, fun d hd => ?_⟩
  ·rcases h2 0 c rfl with h | ⟨h, _⟩
   ·exact h
   ·omega
  ·obtain ⟨i, hi, rfl⟩ := List.getElem_of_mem hd
   rw [vw]
   rcases h2 i _ (List.getElem?_eq_getElem hi) with h | ⟨_, h | h⟩
   ·exact .inl h
   ·exact .inr (.inl h)
   ·exact .inr (.inr h)
 ·rintro ⟨h1, h2, h3⟩
  refine ⟨by simp, h1, fun i d hd => ?_⟩
  cases i with
  | zero => cases hd; exact .inl h2
  | succ i =>
   rcases vw.1 (h3 d (List.mem_of_getElem? hd)) with h | h | h
   ·exact .inl h
   ·exact .inr ⟨by omega, .inl h⟩
   ·exact .inr ⟨by omega, .inr h⟩
theorem Ag {t : Str} {H : List Ob} : callW C 86 [.str t] H = some (.bool (dec (aG t)), H) := by
 apply Ret.dec
 rw [UB]
 match t with
 | [] =>
  have hn : ¬ aG [] := fun h => by have := h.1; simp at this
  simp [qf, Tryz.f86, hn]
 | c :: s =>
 have hi := JL (t := c :: s) rfl
 have g0 : (1 : Int) ≤ (s.length : Int) + 1 := by omega
 by_cases g1 : ((c :: s).length : Int) ≤ 20
 rotate_left
 ·have hn : ¬ aG (c :: s) := fun h => by have := h.2.1; omega
  simp only [List.length_cons, Int.natCast_add, Int.natCast_one] at g1
  simp [qf, Tryz.f86, g0, g1, hn]
 obtain ⟨q, hc, hq⟩ := N8 (t := c :: s) (H := H) (by simp) (by omega)
 simp only [kset] at hc
 have g1' := g1
 simp only [List.length_cons, Int.natCast_add, Int.natCast_one] at g1
 by_cases g2 : (c.toNat : Int) ≥ 97
 rotate_left
 ·have hn : ¬ aG (c :: s) := fun h => by have := (hi.1 h).2.1.1; omega
  simp [qf, Tryz.f86, g0, g1, g2, hn]
 by_cases g3 : (c.toNat : Int) ≤ 122
 rotate_left
 ·have hn : ¬ aG (c :: s) := fun h => by have := (hi.1 h).2.1.2; omega
  simp [qf, Tryz.f86, g0, g1, g2, g3, hn]
 by_cases g4 : q = []
 ·have hn : aG (c :: s) := hi.2 ⟨by omega, ⟨by omega, by omega⟩, hq.1 g4⟩
  simp [qf, Tryz.f86, g0, g1, g2, g3, hc, g4, hn]
 ·have hn : ¬ aG (c :: s) := fun h => g4 (hq.2 (hi.1 h).2.2)
  simp [qf, Tryz.f86, g0, g1, g2, g3, hc, g4, hn]
theorem Ko {a b : Str} {H : List Ob} : callW C 164 [.agg [.str a, .str b]] H = some (.bool (dec (aG a ∧ aO b)), H) := by
 apply Ret.dec
 rw [Oh]
 have c1 := Ag (t := a) (H := H)
 have c2 := ET (t := b) (H := H)
 by_cases g1 : aG a
 ·rw [aj g1] at c1
  by_cases g2 : aO b
  ·rw [aj g2] at c2
   simp [uM, Tryz.f164, c1, c2, g1, g2]
  ·rw [ai g2] at c2
   simp [uM, Tryz.f164, c1, c2, g1, g2]
 ·rw [ai g1] at c1
  simp [uM, Tryz.f164, c1, g1]
theorem H7 {a b : Str} {H : List Ob} : callW C 252 [.agg [.str a, .str b]] H = some (.bool (!dec (aG a ∧ aO b)), H) := by
 apply Ret.eq
 rw [Ny]
 have c1 := Ko (a := a) (b := b) (H := H)
 simp [Gf, Tryz.f252, c1]
theorem Jl {H : List Ob} {v : V} {l : List PRdn} (h : eu H v l) : ∃ r : Int, callW C 295 [v, .fn 252 [] []] H = some (.int .i64 r, H) ∧ (0 ≤ r ↔ ¬ ∀ (j : Nat) x, l[j]? = some x → aG x.attr ∧ aO x.value) := by
 suffices hs : Ret C 295 [v, .fn 252 [] []] H fun q H' => (∃ r : Int, q = .int .i64 r ∧ (0 ≤ r ↔ ¬ ∀ (j : Nat) x, l[j]? = some x → aG x.attr ∧ aO x.value)) ∧ H' = H by
  obtain ⟨q, H', hc, ⟨r, rfl, hr⟩, rfl⟩ := hs
  exact ⟨r, hc, hr⟩
 rw [Pg]
 have hb : l.length ≤ 9223372036854775807 := h.bound
 simp [EL, Tryz.f295, h.len]
 refine aA (fun k σ => ∃ (i : Nat) (r : Nat → R), i + k = l.length ∧ σ = ⟨r, 0, H⟩ ∧ r 0 = .val v ∧ r 1 = .val (.fn 252 [] []) ∧ r 7 = .val (.int .i64 l.length) ∧ r 8 = .val (.int .i64 i) ∧ ∀ j x, j < i → l[j]? = some x → aG x.attr ∧ aO x.value) ?_ l.length _ ⟨0, _, by simp, rfl, by simp, by simp, by simp, by simp, by simp⟩
 rintro k σ ⟨i, r, hik, rfl, r0, r1, r7, r8, hall⟩
 cases k with
 | zero =>
  have hi : i = l.length := by omega
  subst hi
  have hx := fH (P := fun j (x : PRdn) => aG x.attr ∧ aO x.value) hall
  simp [r0, r1, r7, r8]
  exact fun j x hj => hx j x hj
 | succ k =>
  have hi : i < l.length := by omega
  obtain ⟨x, hx⟩ : ∃ c, l[i]? = some c := ⟨l[i], by simp [hi]⟩
  have hw : IntKind.i64.wrap ((i : Int) + 1) = ((i : Int) + 1) := wrap_i64 (by omega) (by omega)
  obtain ⟨id, o, e1, l0, l1, l2, _⟩ := qW h hx
  have c1 := H7 (a := x.attr) (b := x.value) (H := H)
  by_cases g1 : aG x.attr ∧ aO x.value
  ·rw [aj g1] at c1
   simp at c1
   simp [r0, r1, r7, r8, hi, e1, l2, c1, hw]
   exact ⟨k, by omega, i + 1, by omega, by omega, dm (P := fun j (x : PRdn) => aG x.attr ∧ aO x.value) hall hx g1⟩
  ·rw [ai g1] at c1
   simp at c1
   simp [r0, r1, r7, r8, hi, e1, l2, c1, hw]
   exact ⟨i, x, hx, fun h1 h2 => g1 ⟨h1, h2⟩⟩
theorem TM {H : List Ob} {v : V} {l : List PRdn} (h : eu H v l) : callW C 181 [v] H = some (.bool (dec (DnOk l)), H) := by
 obtain ⟨r, c1, hr⟩ := Jl h
 have c2 : callW C 251 [v, .fn 252 [] []] H = some (.bool (decide (0 ≤ r)), H) := by
  apply Ret.eq
  rw [NQ]
  simp [Ep, Tryz.f251, c1]
 apply Ret.dec
 rw [Py]
 by_cases g1 : (l.length : Int) ≤ 6
 ·by_cases g2 : 0 ≤ r
  ·have hn : ¬ DnOk l := fun h => hr.1 g2 h.1
   simp [uH, Tryz.f181, h.len, g1, c2, g2, hn]
  ·have hn : DnOk l := ⟨Classical.byContradiction fun h => g2 (hr.2 h), by omega⟩
   simp [uH, Tryz.f181, h.len, g1, c2, g2, hn]
 ·have hn : ¬ DnOk l := fun h => g1 (by have := h.2; omega)
  simp [uH, Tryz.f181, h.len, g1, hn]
theorem Iw {a b : Str} {H : List Ob} : callW C 314 [.str a, .str b] H = some (.int .i64 (Lib.compareBytes a b), H) :=
 jo (pr := qY) rfl
theorem uj {a b : Str} {H : List Ob} : callW C 294 [.str a, .str b] H = some (.int .i64 (Lib.compareBytes a b), H) := by
 apply Ret.eq
 rw [NC]
 simp [FN, Tryz.f294, Iw]
theorem Hm {a b : Str} {H : List Ob} : callW C 249 [.str a, .str b] H = some (.int .i64 (Lib.compareBytes a b), H) := by
 apply Ret.eq
 rw [OV]
 simp [Fe, Tryz.f249, uj]
theorem Ie {a b : Str} {H : List Ob} : callW C 179 [.str a, .str b] H = some (.int .i64 (Lib.compareBytes (norm a) (norm b)), H) := by
 apply Ret.eq
 rw [Nq]
 have c1 := nD (t := a) (H := H)
 have c2 := nD (t := b) (H := H)
 simp [Fa, Tryz.f179, c1, c2, Hm]
theorem Dq : ∀ (a b : Str), (Lib.compareBytes a b < 0 ↔ bT a b) ∧ (Lib.compareBytes a b = 0 ↔ a = b)
 | [], [] => by simp [Lib.compareBytes, bT, Op.bytesLess]
 | [], _ :: _ => by simp [Lib.compareBytes, bT, Op.bytesLess]
 | _ :: _, [] => by simp [Lib.compareBytes, bT, Op.bytesLess]
 | a :: as', b :: bs => by
  obtain ⟨h1, h2⟩ := Dq as' bs
  unfold bT at h1 ⊢
  simp only [Lib.compareBytes, Op.bytesLess]
  by_cases g1 : a < b
  ·have : a ≠ b := fun h => by subst h; exact absurd g1 (by simp)
   simp [g1, this]
  ·by_cases g2 : b < a
   ·have : a ≠ b := fun h => by subst h; exact absurd g2 (by simp)
    simp [g1, g2, this]
   ·have : a = b := UInt8.toNat_inj.1 (by rw [UInt8.lt_iff_toNat_lt] at g1 g2; omega)
    subst this
    simp [h1, h2]
theorem LQ {H : List Ob} {v : V} {l : List Str} (h : AStrs H v l) : callW C 250 [v] H = some (.int .i64 l.length, H) := by
 apply Ret.eq
 rw [OQ]
 simp [Gg, Tryz.f250, h.len]
theorem G7 {a b c : Int} {H : List Ob} : callW C 158 [.int .i64 a, .int .i64 b, .int .i64 c] H = some (.bool (decide (b ≤ a ∧ a ≤ c)), H) := by
 apply Ret.eq
 rw [O1]
 by_cases g1 : b ≤ a
 ·by_cases g2 : a ≤ c <;> simp [y9, Tryz.f158, g1, g2]
 ·simp [y9, Tryz.f158, g1]
theorem Md {H : List Ob} {n : Str} {v : V} {l : List Str} (h : AStrs H v l) : callW C 180 [.agg [.str n, v]] H = some (.bool (dec (aG n ∧ bH l)), H) := by
 apply Ret.dec
 rw [Og]
 have c1 := Ag (t := n) (H := H)
 have c2 := LQ h
 have c3 := G7 (a := l.length) (b := 1) (c := 4) (H := H)
 have hb : l.length ≤ 9223372036854775807 := h.bound
 by_cases g1 : aG n
 rotate_left
 ·rw [ai g1] at c1
  simp [uK, Tryz.f180, c1, g1, h.one]
 rw [aj g1] at c1
 by_cases g2 : (1 : Int) ≤ l.length ∧ (l.length : Int) ≤ 4
 rotate_left
 ·rw [decide_eq_false g2] at c3
  have hn : ¬ bH l := fun h => g2 ⟨by have := h.2.1; omega, by have := h.2.2; omega⟩
  simp [uK, Tryz.f180, c1, c2, c3, hn, h.one]
 rw [decide_eq_true g2] at c3
 simp [uK, Tryz.f180, c1, c2, c3, h.one, h.len]
 refine aA (fun k σ => ∃ (i : Nat) (r : Nat → R), i + k = l.length ∧ σ = ⟨r, 1, H⟩ ∧ r 1 = .box 0 [.str n, v] ∧ r 17 = .val v ∧ r 18 = .val (.int .i64 l.length) ∧ r 19 = .val (.int .i64 i) ∧ ∀ j x, j < i → l[j]? = some x → aO x ∧ bK norm l j x) ?_ l.length _ ⟨0, _, by simp, rfl, by simp, by simp, by simp, by simp, by simp⟩
 rintro k σ ⟨i, r, hik, rfl, r1, r17, r18, r19, hall⟩
 cases k with
 | zero =>
  have hi : i = l.length := by omega
  subst hi
  have hx := fH (P := fun j (x : Str) => aO x ∧ bK norm l j x) hall
  have hv : bH l := ⟨hx, by omega, by omega⟩
  simp [r1, r17, r18, r19, g1, hv]
 | succ k =>
  have hi : i < l.length := by omega
  obtain ⟨x, hx⟩ : ∃ c, l[i]? = some c := ⟨l[i], by simp [hi]⟩
  have hw : IntKind.i64.wrap ((i : Int) + 1) = ((i : Int) + 1) := wrap_i64 (by omega) (by omega)
  obtain ⟨id, o, e1, l0, _⟩ := aU h hx
  have c4 := ET (t := x) (H := H)
  have hstep := fun h => dm (P := fun j (x : Str) => aO x ∧ bK norm l j x) hall hx h
  by_cases g3 : aO x
  rotate_left
  ·rw [ai g3] at c4
   have hn : ¬ bH l := fun hd => g3 (hd.1 i x hx).1
   simp [r1, r17, r18, r19, hi, e1, l0, c4, hn]
  rw [aj g3] at c4
  by_cases hi0 : i = 0
  ·have := hstep ⟨g3, fun y hy => by omega⟩
   subst hi0
   simp at e1
   simp [r1, r17, r18, r19, hi, e1, l0, c4]
   exact ⟨k, by omega, 1, by omega, by omega, this⟩
  have hip : 0 < i := by omega
  obtain ⟨y, hy⟩ : ∃ c, l[i - 1]? = some c := ⟨l[i - 1]'(by omega), by simp⟩
  obtain ⟨id', o', e1', l0', _⟩ := aU h hy
  have hw1 : IntKind.i64.wrap ((i : Int) - 1) = ((i - 1 : Nat) : Int) := by rw [wrap_i64 (by omega) (by omega)]; omega
  have c5 := Ie (a := y) (b := x) (H := H)
  by_cases g4 : bT (norm y) (norm x)
  ·have := hstep ⟨g3, fun z _ hz => by rw [hy] at hz; cases hz; exact g4⟩
   have g5 : ¬ (0 ≤ Lib.compareBytes (norm y) (norm x)) := by have := (Dq (norm y) (norm x)).1.2 g4; omega
   simp [r1, r17, r18, r19, hi, e1, l0, c4, e1', l0', hw, hw1, hip, c5, g5]
   exact ⟨k, by omega, i + 1, by omega, by omega, this⟩
  ·have g5 : 0 ≤ Lib.compareBytes (norm y) (norm x) := by have := mt (Dq (norm y) (norm x)).1.1 g4; omega
   have hn : ¬ bH l := fun hd => g4 ((hd.1 i x hx).2 y hip hy)
   simp [r1, r17, r18, r19, hi, e1, l0, c4, e1', l0', hw, hw1, hip, c5, g5, hn]
theorem J6 {H : List Ob} {v : V} {l : List Str} (h : AStrs H v l) : callW C 209 [v] H = some (.bool (dec (dI l)), H) := by
 apply Ret.dec
 rw [NM]
 have hb : l.length ≤ 9223372036854775807 := h.bound
 simp [ED, Tryz.f209, h.len]
 refine aA (fun k σ => ∃ (i : Nat) (r : Nat → R), i + k = l.length ∧ σ = ⟨r, 0, H⟩ ∧ r 0 = .val v ∧ r 5 = .val v ∧ r 6 = .val (.int .i64 l.length) ∧ r 7 = .val (.int .i64 i) ∧ ∀ j x, j < i → l[j]? = some x → aG x ∧ bK (fun x => x) l j x) ?_ l.length _ ⟨0, _, by simp, rfl, by simp, by simp, by simp, by simp, by simp⟩
 rintro k σ ⟨i, r, hik, rfl, r0, r5, r6, r7, hall⟩
 cases k with
 | zero =>
  have hi : i = l.length := by omega
  subst hi
  have hx : dI l := fH (P := fun j (x : Str) => aG x ∧ bK (fun x => x) l j x) hall
  simp [r0, r5, r6, r7, hx]
 | succ k =>
  have hi : i < l.length := by omega
  obtain ⟨x, hx⟩ : ∃ c, l[i]? = some c := ⟨l[i], by simp [hi]⟩
  have hw : IntKind.i64.wrap ((i : Int) + 1) = ((i : Int) + 1) := wrap_i64 (by omega) (by omega)
  obtain ⟨id, o, e1, l0, _⟩ := aU h hx
  have c1 := Ag (t := x) (H := H)
  have hstep := fun h => dm (P := fun j (x : Str) => aG x ∧ bK (fun x => x) l j x) hall hx h
  by_cases g1 : aG x
  rotate_left
  ·rw [ai g1] at c1
   have hn : ¬ dI l := fun hd => g1 (hd i x hx).1
   simp [r0, r5, r6, r7, hi, e1, l0, c1, hn]
  rw [aj g1] at c1
  by_cases hi0 : i = 0
  ·have := hstep ⟨g1, fun y hy => by omega⟩
   subst hi0
   simp at e1
   simp [r0, r5, r6, r7, hi, e1, l0, c1]
   exact ⟨k, by omega, 1, by omega, by omega, this⟩
  have hip : 0 < i := by omega
  obtain ⟨y, hy⟩ : ∃ c, l[i - 1]? = some c := ⟨l[i - 1]'(by omega), by simp⟩
  obtain ⟨id', o', e1', l0', _⟩ := aU h hy
  have hw1 : IntKind.i64.wrap ((i : Int) - 1) = ((i - 1 : Nat) : Int) := by rw [wrap_i64 (by omega) (by omega)]; omega
  by_cases g2 : bT y x
  ·have := hstep ⟨g1, fun z _ hz => by rw [hy] at hz; cases hz; exact g2⟩
   simp [r0, r5, r6, r7, hi, e1, l0, c1, e1', l0', hw, hw1, hip, iq g2]
   exact ⟨k, by omega, i + 1, by omega, by omega, this⟩
  ·have hn : ¬ dI l := fun hd => g2 ((hd i x hx).2 y hip hy)
   simp [r0, r5, r6, r7, hi, e1, l0, c1, e1', l0', hw, hw1, hip, gU g2, hn]
theorem Aj {H : List Ob} {v w : V} {e : PEntry} (h1 : eu H v e.dn) (h2 : bD H w e.attrs) : callW C 85 [.agg [v, w]] H = some (.bool (dec (EntryOk e)), H) := by
 apply Ret.dec
 rw [TL]
 have c1 := TM h1
 have hb : e.attrs.length ≤ 9223372036854775807 := h2.bound
 by_cases g0 : e.dn.length = 0
 ·have hn : ¬ EntryOk e := fun h => by have := h.1; omega
  simp [wU, Tryz.f85, h1.len, g0, hn, h1.one, h2.one]
 have g0' : ¬ (e.dn.length : Int) = 0 := by omega
 by_cases g1 : DnOk e.dn
 rotate_left
 ·rw [ai g1] at c1
  have hn : ¬ EntryOk e := fun h => g1 h.2.1
  simp [wU, Tryz.f85, h1.len, g0, c1, hn, h1.one, h2.one]
 rw [aj g1] at c1
 by_cases g2 : (e.attrs.length : Int) > 8
 ·have hn : ¬ EntryOk e := fun h => by have := h.2.2.2; omega
  simp [wU, Tryz.f85, h1.len, h2.len, g0, g2, c1, hn, h1.one, h2.one]
 simp [wU, Tryz.f85, h1.len, h2.len, g0, g2, c1, h1.one, h2.one]
 refine aA (fun k σ => ∃ (i n : Nat) (r : Nat → R), i + k = e.attrs.length ∧ σ = ⟨r, n, H⟩ ∧ r 1 = .box 0 [v, w] ∧ 1 ≤ n ∧ r 22 = .val w ∧ r 23 = .val (.int .i64 e.attrs.length) ∧ r 24 = .val (.int .i64 i) ∧ ∀ j x, j < i → e.attrs[j]? = some x → aG x.name ∧ bK PAttr.name e.attrs j x ∧ bH x.vals) ?_ e.attrs.length _ ⟨0, 1, _, by simp, rfl, by simp, by omega, by simp, by simp, by simp, by simp⟩
 rintro k σ ⟨i, n, r, hik, rfl, r1, hn1, r22, r23, r24, hall⟩
 cases k with
 | zero =>
  have hi : i = e.attrs.length := by omega
  subst hi
  have hx := fH (P := fun j (x : PAttr) => aG x.name ∧ bK PAttr.name e.attrs j x ∧ bH x.vals) hall
  have hv : EntryOk e := ⟨by omega, g1, hx, by omega⟩
  simp [r1, r22, r23, r24, hv]
 | succ k =>
  have hi : i < e.attrs.length := by omega
  obtain ⟨x, hx⟩ : ∃ c, e.attrs[i]? = some c := ⟨e.attrs[i], by simp [hi]⟩
  have hw : IntKind.i64.wrap ((i : Int) + 1) = ((i : Int) + 1) := wrap_i64 (by omega) (by omega)
  obtain ⟨id, o, w', e1, l0, l1, l2, hvs, _⟩ := fC h2 hx
  have c2 := Md (n := x.name) hvs
  have hstep := fun h => dm (P := fun j (x : PAttr) => aG x.name ∧ bK PAttr.name e.attrs j x ∧ bH x.vals) hall hx h
  by_cases g3 : aG x.name ∧ bH x.vals
  rotate_left
  ·rw [ai g3] at c2
   have hn : ¬ EntryOk e := fun hd => g3 ⟨(hd.2.2.1 i x hx).1, (hd.2.2.1 i x hx).2.2⟩
   simp [r1, r22, r23, r24, hi, e1, l2, c2, hn, hvs.one, ae]
  rw [aj g3] at c2
  by_cases hi0 : i = 0
  ·have := hstep ⟨g3.1, fun y hy => by omega, g3.2⟩
   subst hi0
   simp at e1
   simp [r1, r22, r23, r24, hi, e1, l2, c2, hvs.one, ae]
   exact ⟨k, by omega, 1, by omega, n + 1, _, ⟨rfl, rfl⟩, by simp [r1], by omega, by simp [r22], by simp [r23], by simp, this⟩
  have hip : 0 < i := by omega
  obtain ⟨y, hy⟩ : ∃ c, e.attrs[i - 1]? = some c := ⟨e.attrs[i - 1]'(by omega), by simp⟩
  obtain ⟨id', o', _, e1', l0', _⟩ := fC h2 hy
  have hw1 : IntKind.i64.wrap ((i : Int) - 1) = ((i - 1 : Nat) : Int) := by rw [wrap_i64 (by omega) (by omega)]; omega
  by_cases g4 : bT y.name x.name
  ·have := hstep ⟨g3.1, fun z _ hz => by rw [hy] at hz; cases hz; exact g4, g3.2⟩
   simp [r1, r22, r23, r24, hi, e1, l2, c2, e1', l0', hw, hw1, hip, iq g4, hvs.one, ae]
   exact ⟨k, by omega, i + 1, by omega, n + 1, _, ⟨rfl, rfl⟩, by simp [r1], by omega, by simp [r22], by simp [r23], by simp, this⟩
  ·have hn : ¬ EntryOk e := fun hd => g4 ((hd.2.2.1 i x hx).2.1 y hip hy)
   simp [r1, r22, r23, r24, hi, e1, l2, c2, e1', l0', hw, hw1, hip, gU g4, hvs.one, ae, hn]
def Own (H G : List Ob) (w : V) (l : List Str) : Prop := (w = .slc none 0 ∧ l = []) ∨ Gs H G w (l.map V.str)
theorem kF {H T : List Ob} {v : V} {l : List Str} (h : AStrs H v l) : ∃ p, v = .slc p l.length ∧ aQ (H ++ T) p l.length = some (l.map V.str) ∧ (p = none → l = []) ∧ ∀ id off, p = some (id, off) → kV H id := by
 rcases h.sl with ⟨rfl, hl⟩ | ⟨id, off, own, cells, rfl, h2, h3, h4⟩
 ·have : l = [] := by simpa using hl
  subst this
  exact ⟨none, rfl, rfl, fun _ => rfl, fun _ _ h => by cases h⟩
 ·rw [List.length_map] at h3 ⊢
  refine ⟨some (id, off), rfl, ?_, (fun h => by cases h), (fun id' off' h => by cases h; exact ⟨_, _, _, h2⟩)⟩
  by_cases h0 : l.length = 0
  ·have : l = [] := List.length_eq_zero_iff.1 h0
   subst this
   rfl
  ·simp only [aQ, aW _ _ h2, if_neg h0]
   unfold dO
   simp only [Sh.size_str, Nat.mul_one] at h3 h4
   rw [if_pos h3]
   congr 1
   apply List.ext_getElem?
   intro j
   by_cases hj : j < l.length
   ·rw [List.getElem?_take_of_lt hj, List.getElem?_drop, List.getElem?_map]
    obtain ⟨s, hs⟩ : ∃ s, l[j]? = some s := ⟨l[j], List.getElem?_eq_getElem hj⟩
    obtain ⟨t, e1, e2, _⟩ := ed.1 (h4 j (.str s) (by rw [List.getElem?_map, hs]; rfl))
    cases e2
    rw [hs]
    have := dH e1 (j := 0) rfl
    simpa using this
   ·rw [List.getElem?_eq_none (by simp; omega), List.getElem?_eq_none (by simp; omega)]
theorem FO {H : List Ob} {v : V} {l : List Str} (h : AStrs H v l) (hl : l.length ≤ 1048576) : ∃ T w, callW C 98 [v] H = some (w, H ++ T) ∧ Own H (H ++ T) w l := by
 suffices hs : Ret C 98 [v] H fun q H' => ∃ T, H' = H ++ T ∧ Own H (H ++ T) q l by
  obtain ⟨q, H', hc, T, rfl, hr⟩ := hs
  exact ⟨T, q, hc, hr⟩
 rw [Om]
 obtain ⟨p, rfl, hc, hp, ht⟩ := kF (T := [.mk true 1 []]) h
 cases p with
 | none =>
  have := hp rfl
  subst this
  simp [su, Tryz.f98]
  exact .inl ⟨rfl, rfl⟩
 | some p =>
  by_cases h0 : l.length = 0
  ·have : l = [] := List.length_eq_zero_iff.1 h0
   subst this
   have ha : aT ⟨.str, 1, 16, [.str []]⟩ (H ++ [.mk true 1 []]) (.slc (some (H.length, 0)) 0) (.slc (some p) 0) = some (.slc (some (H.length, 0)) 0, H ++ [.mk true 1 []]) := by
    unfold aT
    rw [if_pos (by simp [fU])]
    simp [aI, aQ]
   simp [su, Tryz.f98, ay, ax, ah, St.new, ha]
   exact .inr Gs.init
  ·have hm : l.length * 16 ≤ aB := by unfold aB; omega
   have ha : aT ⟨.str, 1, 16, [.str []]⟩ (H ++ [.mk true 1 []]) (.slc (some (H.length, 0)) 0) (.slc (some p) l.length) = some (.slc (some (H.length + 1, 0)) l.length, H ++ [.dead, .mk true 1 (l.map V.str)]) := by
    unfold aT
    rw [if_pos (by simp [fU])]
    simp only [aI, Nat.mul_one, hc, if_neg h0]
    rw [if_pos (by simp)]
    simp [get_last, h0, hm]
   have hne : l ≠ [] := fun h => h0 (by rw [h]; rfl)
   have hgs : Gs H (H ++ [.dead, .mk true 1 (l.map V.str)]) (.slc (some (H.length + 1, 0)) l.length) (l.map V.str) :=
    ⟨_, H.length + 1, rfl, by omega, by rw [List.getElem?_append_right (by omega)]; simp, by simp⟩
   simp [su, Tryz.f98, ay, ax, ah, St.new, ha, hgs.gc]
   exact .inr hgs
def FirstIs (p : Str → Bool) (l : List Str) (r : Int) : Prop := (∃ (k : Nat) (x : Str), l[k]? = some x ∧ p x = true ∧ (∀ j y, j < k → l[j]? = some y → p y = false) ∧ r = k) ∨ ((∀ (j : Nat) y, l[j]? = some y → p y = false) ∧ r = -1)
theorem nP {H : List Ob} {v : V} {l : List Str} {g : Nat} {a b : List V} (h : AStrs H v l) (p : Str → Bool) (hg : ∀ x ∈ l, callW C g (a ++ ([.str x] ++ b)) H = some (.bool (p x), H)) :
  ∃ r : Int, callW C 265 [v, .fn g a b] H = some (.int .i64 r, H) ∧ FirstIs p l r := by
 suffices hs : Ret C 265 [v, .fn g a b] H fun q H' => (∃ r : Int, q = .int .i64 r ∧ FirstIs p l r) ∧ H' = H by
  obtain ⟨q, H', hc, ⟨r, rfl, hr⟩, rfl⟩ := hs
  exact ⟨r, hc, hr⟩
 rw [Nk]
 have hb : l.length ≤ 9223372036854775807 := h.bound
 simp [F7, Tryz.f265, h.len]
 refine aA (fun k σ => ∃ (i : Nat) (r : Nat → R), i + k = l.length ∧ σ = ⟨r, 0, H⟩ ∧ r 0 = .val v ∧ r 1 = .val (.fn g a b) ∧ r 7 = .val (.int .i64 l.length) ∧ r 8 = .val (.int .i64 i) ∧ ∀ j x, j < i → l[j]? = some x → p x = false) ?_ l.length _ ⟨0, _, by simp, rfl, by simp, by simp, by simp, by simp, by simp⟩
 rintro k σ ⟨i, r, hik, rfl, r0, r1, r7, r8, hall⟩
 cases k with
 | zero =>
  have hi : i = l.length := by omega
  subst hi
  have hx := fH (P := fun j (x : Str) => p x = false) hall
  simp [r0, r1, r7, r8]
  exact .inr ⟨hx, rfl⟩
 | succ k =>
  have hi : i < l.length := by omega
  obtain ⟨x, hx⟩ : ∃ c, l[i]? = some c := ⟨l[i], by simp [hi]⟩
  have hw : IntKind.i64.wrap ((i : Int) + 1) = ((i : Int) + 1) := wrap_i64 (by omega) (by omega)
  obtain ⟨id, o, e1, l0, _⟩ := aU h hx
  have c1 := hg x (List.mem_of_getElem? hx)
  simp only [List.singleton_append] at c1
  cases hp : p x with
  | false =>
   rw [hp] at c1
   simp [r0, r1, r7, r8, hi, e1, l0, c1, hw]
   exact ⟨k, by omega, i + 1, by omega, by omega, dm (P := fun j (x : Str) => p x = false) hall hx hp⟩
  | true =>
   rw [hp] at c1
   simp [r0, r1, r7, r8, hi, e1, l0, c1, hw]
   exact .inl ⟨i, x, hx, hp, hall, rfl⟩
theorem FirstIs.mem {p : Str → Bool} {l : List Str} {r : Int} (h : FirstIs p l r) : 0 ≤ r ↔ ∃ x ∈ l, p x = true := by
 rcases h with ⟨k, x, h1, h2, _, rfl⟩ | ⟨h1, rfl⟩
 ·exact ⟨fun _ => ⟨x, List.mem_of_getElem? h1, h2⟩, fun _ => by omega⟩
 ·refine ⟨fun h => by omega, fun ⟨x, hx, hp⟩ => ?_⟩
  obtain ⟨j, hj, rfl⟩ := List.getElem_of_mem hx
  rw [h1 j _ (List.getElem?_eq_getElem hj)] at hp
  cases hp
theorem nZ {H : List Ob} {v : V} {l : List Str} {g : Nat} {a b : List V} (h : AStrs H v l) (p : Str → Bool) (hg : ∀ x ∈ l, callW C g (a ++ ([.str x] ++ b)) H = some (.bool (p x), H)) :
  callW C 194 [v, .fn g a b] H = some (.bool (dec (∃ x ∈ l, p x = true)), H) := by
 obtain ⟨r, c1, hr⟩ := nP h p hg
 apply Ret.dec
 rw [O8]
 by_cases g1 : 0 ≤ r
 ·have := hr.mem.1 g1
  simp [yX, Tryz.f194, c1, g1]
  exact this
 ·have := mt hr.mem.2 g1
  simp [yX, Tryz.f194, c1, g1]
  intro x hx
  cases hp : p x with
  | false => rfl
  | true => exact absurd ⟨x, hx, hp⟩ this
theorem kG {H : List Ob} {v : V} {l : List Str} {t : Str} (h : AStrs H v l) : callW C 199 [v, .str t] H = some (.bool (dec (t ∈ l)), H) := by
 have hi : ∃ r : Int, callW C 266 [v, .str t] H = some (.int .i64 r, H) ∧ (0 ≤ r ↔ t ∈ l) := by
  suffices hs : Ret C 266 [v, .str t] H fun q H' => (∃ r : Int, q = .int .i64 r ∧ (0 ≤ r ↔ t ∈ l)) ∧ H' = H by
   obtain ⟨q, H', hc, ⟨r, rfl, hr⟩, rfl⟩ := hs
   exact ⟨r, hc, hr⟩
  rw [Ot]
  have hb : l.length ≤ 9223372036854775807 := h.bound
  simp [FX, Tryz.f266, h.len]
  refine aA (fun k σ => ∃ (i : Nat) (r : Nat → R), i + k = l.length ∧ σ = ⟨r, 0, H⟩ ∧ r 0 = .val v ∧ r 1 = .val (.str t) ∧ r 7 = .val (.int .i64 l.length) ∧ r 8 = .val (.int .i64 i) ∧ ∀ j x, j < i → l[j]? = some x → x ≠ t) ?_ l.length _ ⟨0, _, by simp, rfl, by simp, by simp, by simp, by simp, by simp⟩
  rintro k σ ⟨i, r, hik, rfl, r0, r1, r7, r8, hall⟩
  cases k with
  | zero =>
   have hi : i = l.length := by omega
   subst hi
   have hx := fH (P := fun j (x : Str) => x ≠ t) hall
   have hn : t ∉ l := fun hm => by
    obtain ⟨j, hj, e⟩ := List.getElem_of_mem hm
    exact hx j _ (List.getElem?_eq_getElem hj) e
   simp [r0, r1, r7, r8, hn]
  | succ k =>
   have hi : i < l.length := by omega
   obtain ⟨x, hx⟩ : ∃ c, l[i]? = some c := ⟨l[i], by simp [hi]⟩
   have hw : IntKind.i64.wrap ((i : Int) + 1) = ((i : Int) + 1) := wrap_i64 (by omega) (by omega)
   obtain ⟨id, o, e1, l0, _⟩ := aU h hx
   by_cases g1 : x = t
   ·have hm : t ∈ l := g1 ▸ List.mem_of_getElem? hx
    subst g1
    simp [r0, r1, r7, r8, hi, e1, l0, hm]
   ·have g1' : ¬ t = x := fun h => g1 h.symm
    simp [r0, r1, r7, r8, hi, e1, l0, g1', hw]
    exact ⟨k, by omega, i + 1, by omega, by omega, dm (P := fun j (x : Str) => x ≠ t) hall hx g1⟩
 obtain ⟨r, c1, hr⟩ := hi
 apply Ret.dec
 rw [Px]
 by_cases g1 : 0 ≤ r
 ·simp [Am, Tryz.f199, c1, g1, hr.1 g1]
 ·simp [Am, Tryz.f199, c1, g1, mt hr.2 g1]
theorem Ju {H : List Ob} {id : Nat} {own : Bool} {es : Nat} {va : V} {l : List Str} {t : Str} (h0 : H[id]? = some (.mk own es [va])) (h : AStrs H va l) : callW C 211 [.str t, .ptr (some (id, 0))] H = some (.bool (!dec (t ∈ l)), H) := by
 apply Ret.eq
 rw [NH]
 have ld := bM (o := 0) (v := va) h0 rfl
 have c1 := kG (t := t) h
 simp [EC, Tryz.f211, ld, c1]
theorem Me {H : List Ob} {v : V} {l : List Str} {n : Str} (h : AStrs H v l) : ∃ r : Int, callW C 186 [v, .str n] H = some (.int .i64 r, H) ∧ FirstIs (fun x => decide (norm x = n)) l r := by
 suffices hs : Ret C 186 [v, .str n] H fun q H' => (∃ r : Int, q = .int .i64 r ∧ FirstIs (fun x => decide (norm x = n)) l r) ∧ H' = H by
  obtain ⟨q, H', hc, ⟨r, rfl, hr⟩, rfl⟩ := hs
  exact ⟨r, hc, hr⟩
 rw [O3]
 have hb : l.length ≤ 9223372036854775807 := h.bound
 simp [Em, Tryz.f186]
 refine aA (fun k σ => ∃ (i : Nat) (r : Nat → R), i + k = l.length ∧ σ = ⟨r, 0, H⟩ ∧ r 0 = .val v ∧ r 1 = .val (.str n) ∧ r 5 = .val (.int .i64 i) ∧ ∀ j x, j < i → l[j]? = some x → norm x ≠ n) ?_ l.length _ ⟨0, _, by simp, rfl, by simp, by simp, by simp, by simp⟩
 rintro k σ ⟨i, r, hik, rfl, r0, r1, r5, hall⟩
 cases k with
 | zero =>
  have hi : i = l.length := by omega
  subst hi
  have hx := fH (P := fun j (x : Str) => norm x ≠ n) hall
  simp [r0, r1, r5, h.len]
  exact .inr ⟨fun j x hj => by simpa using hx j x hj, rfl⟩
 | succ k =>
  have hi : i < l.length := by omega
  obtain ⟨x, hx⟩ : ∃ c, l[i]? = some c := ⟨l[i], by simp [hi]⟩
  have hw : IntKind.i64.wrap ((i : Int) + 1) = ((i : Int) + 1) := wrap_i64 (by omega) (by omega)
  obtain ⟨id, o, e1, l0, _⟩ := aU h hx
  have c1 := kQ (t := x) (H := H)
  by_cases g1 : norm x = n
  ·simp [r0, r1, r5, hi, h.len, e1, l0, c1, g1]
   exact .inl ⟨i, x, hx, by simpa using g1, fun j y hj hy => by simpa using hall j y hj hy, rfl⟩
  ·simp [r0, r1, r5, hi, h.len, e1, l0, c1, g1, hw]
   exact ⟨k, by omega, i + 1, by omega, by omega, dm (P := fun j (x : Str) => norm x ≠ n) hall hx g1⟩
theorem wF {H : List Ob} {c : Int} : callW C 92 [.int .i64 c] H = some (.agg [.slc none 0, .slc none 0, .int .i64 c], H) := by
 apply Ret.eq
 rw [TZ]
 simp [IJ, Tryz.f92, aH, ax, ak]
theorem Oc {H : List Ob} {v : V} {l : List Str} (h : AStrs H v l) : callW C 94 [v] H = some (.bool (dec (kH l)), H) := by
 apply Ret.dec
 rw [Ty]
 have hb : l.length ≤ 9223372036854775807 := h.bound
 simp [Jk, Tryz.f94]
 refine aA (fun k σ => ∃ (i : Nat) (r : Nat → R), i + k = l.length ∧ σ = ⟨r, 0, H⟩ ∧ r 0 = .val v ∧ r 3 = .val (.int .i64 i) ∧ ∀ j x, j < i → l[j]? = some x → aO x ∧ ∀ q y, q < j → l[q]? = some y → norm y ≠ norm x) ?_ l.length _ ⟨0, _, by simp, rfl, by simp, by simp, by simp⟩
 rintro k σ ⟨i, r, hik, rfl, r0, r3, hall⟩
 cases k with
 | zero =>
  have hi : i = l.length := by omega
  subst hi
  have hx := fH (P := fun j (x : Str) => aO x ∧ ∀ q y, q < j → l[q]? = some y → norm y ≠ norm x) hall
  by_cases g2 : l.length ≤ 4
  ·have g2' : (l.length : Int) ≤ 4 := by omega
   have hv : kH l := ⟨hx, g2⟩
   simp [r0, r3, h.len, g2', hv]
  ·have g2' : ¬ (l.length : Int) ≤ 4 := by omega
   have hv : ¬ kH l := fun h => g2 h.2
   simp [r0, r3, h.len, g2', hv]
 | succ k =>
  have hi : i < l.length := by omega
  obtain ⟨x, hx⟩ : ∃ c, l[i]? = some c := ⟨l[i], by simp [hi]⟩
  have hw : IntKind.i64.wrap ((i : Int) + 1) = ((i : Int) + 1) := wrap_i64 (by omega) (by omega)
  obtain ⟨id, o, e1, l0, _⟩ := aU h hx
  have c1 := uu (t := x) (H := H)
  have c2 := kQ (t := x) (H := H)
  have hstep := fun h => dm (P := fun j (x : Str) => aO x ∧ ∀ q y, q < j → l[q]? = some y → norm y ≠ norm x) hall hx h
  rcases h.sub with ⟨rfl, rfl⟩ | ⟨id0, off, own, cells, rfl, hid, hcl, hsub⟩
  ·simp at hi
  have hsi : aY H id0 1 = true := by simp [aY, hid]
  have hlt : id0 < H.length := (List.getElem?_eq_some_iff.1 hid).1
  have hp := hsub 0 i (by omega) (by omega)
  simp only [Nat.zero_mul, Nat.add_zero, Nat.sub_zero, List.drop_zero] at hp
  obtain ⟨q, c3, hq⟩ := Me (n := norm x) hp
  have hil : (i : Int) ≤ l.length := by omega
  have hil' : i ≤ l.length := by omega
  by_cases g1 : aO x
  ·rw [aj g1] at c1
   by_cases g2 : 0 ≤ q
   ·obtain ⟨y, hy, hyn⟩ := hq.mem.1 g2
    have hn : ¬ kH l := fun hd => by
     obtain ⟨j, hj, rfl⟩ := List.getElem_of_mem hy
     have hj2 : j < i ∧ j < l.length := by rw [List.length_take] at hj; omega
     exact (hd.1 i x hx).2 j (l.take i)[j] hj2.1 (by rw [List.getElem_take]; exact List.getElem?_eq_getElem hj2.2) (by simpa using hyn)
    simp [r0, r3, hi, e1, l0, c1, c2, c3, hw, hsi, hlt, hil, hil', g2, hn]
   ·have hnn := mt hq.mem.2 g2
    have := hstep ⟨g1, fun j y hj hy => fun e => hnn ⟨y, List.mem_of_getElem? (i := j) (by rw [List.getElem?_take_of_lt hj]; exact hy), by simpa using e⟩⟩
    simp [r0, r3, hi, e1, l0, c1, c2, c3, hw, hsi, hlt, hil, hil', g2]
    exact ⟨k, by omega, i + 1, by omega, by omega, this⟩
  ·rw [ai g1] at c1
   have hn : ¬ kH l := fun hd => g1 (hd.1 i x hx).1
   simp [r0, r3, hi, e1, l0, c1, hn]
theorem Ii {G : List Ob} {w : V} {o : List Str} {x : Str} {j : Nat} {B : List Ob} (hG : Gs B G w (o.map V.str)) (ho : o.length ≤ 1000) (hj : j ≤ o.length) :
  ∃ id v1 G1 v2 G2 v3 G3, w = .slc (some (id, 0)) o.length ∧ aY (G ++ [.mk true 1 []]) id 1 = true ∧ aT ⟨.str, 1, 16, [.str []]⟩ (G ++ [.mk true 1 []]) (.slc (some (G.length, 0)) 0) (.slc (some (id, 0)) j) = some (v1, G1) ∧ (∃ T1, G1 = G ++ T1) ∧
   aT ⟨.str, 1, 16, [.str []]⟩ (G1 ++ [.mk true 1 [.str x]]) v1 (.slc (some (G1.length, 0)) 1) = some (v2, G2) ∧ aY G2 id 1 = true ∧
   aT ⟨.str, 1, 16, [.str []]⟩ G2 v2 (.slc (some (id, j)) (o.length - j)) = some (v3, G3) ∧ Gs B G3 v3 ((o.take j ++ x :: o.drop j).map V.str) := by
 obtain ⟨T, id, rfl, h1, h2, rfl⟩ := hG
 have hid : id < (B ++ T).length := (List.getElem?_eq_some_iff.1 h2).1
 have hu : ∀ S, (B ++ T ++ S)[id]? = some (.mk true 1 (o.map V.str)) := fun S => aW _ _ h2
 have hu1 := hu [.mk true 1 []]
 have n1 : aI ⟨.str, 1, 16, [.str []]⟩ (B ++ T ++ [.mk true 1 []]) (.slc (some (id, 0)) j) = some ((o.map V.str).take j, ((o.map V.str).take j).length) := by
  have hl : ((o.map V.str).take j).length = j := by simp; omega
  simp only [aI, Nat.mul_one, aQ, hu1, hl]
  by_cases h0 : j = 0
  ·subst h0; simp
  ·simp only [h0, if_false]
   unfold dO
   rw [if_pos (by simp; omega)]
   simp
 obtain ⟨v1, G1, a1, g1⟩ := (Gs.init (H := B ++ T)).many n1 (List.all_eq_true.2 fun a ha => by obtain ⟨s, _, rfl⟩ := List.mem_map.1 (List.mem_of_mem_take ha); rfl) (by simp; unfold aB; omega) (by decide) (by decide) rfl
 rw [List.nil_append] at g1
 obtain ⟨v2, G2, a2, g2⟩ := g1.push (x := .str x) (z := [.str []]) (d := .str) (b := 16) rfl (by simp; unfold aB; omega) (by decide) (by decide) rfl
 obtain ⟨S, rfl⟩ := g2.ext
 have n3 : aI ⟨.str, 1, 16, [.str []]⟩ (B ++ T ++ S) (.slc (some (id, j)) (o.length - j)) = some ((o.map V.str).drop j, ((o.map V.str).drop j).length) := by
  have hl : ((o.map V.str).drop j).length = o.length - j := by simp
  simp only [aI, Nat.mul_one, aQ, hu S, hl]
  by_cases h0 : o.length - j = 0
  ·rw [h0, List.drop_of_length_le (by simp; omega)]; simp
  ·simp only [h0, if_false]
   unfold dO
   rw [if_pos (by simp; omega), List.take_of_length_le (by simp)]
 obtain ⟨v3, G3, a3, g3⟩ := g2.many n3 (List.all_eq_true.2 fun a ha => by obtain ⟨s, _, rfl⟩ := List.mem_map.1 (List.mem_of_mem_drop ha); rfl) (by simp; unfold aB; omega) (by decide) (by decide) rfl
 refine ⟨id, v1, G1, v2, _, v3, G3, by simp, by unfold aY; rw [hu1]; rfl, a1, g1.ext, a2, by unfold aY; rw [hu S]; rfl, a3, ?_⟩
 have := g3.low (H := B) ⟨T, rfl⟩
 simpa [List.map_take, List.map_drop] using this
theorem LY {H : List Ob} {v : V} {l : List Str} (h : AStrs H v l) (hl : l.length ≤ 1000) : ∃ T w, callW C 200 [v] H = some (w, H ++ T) ∧ New H.length (H ++ T).length (H ++ T) (.slice .str) [w] (.lst ((bV l).map qg)) := by
 suffices hs : Ret C 200 [v] H fun q H' => ∃ T, H' = H ++ T ∧ New H.length (H ++ T).length (H ++ T) (.slice .str) [q] (.lst ((bV l).map qg)) by
  obtain ⟨q, H', hc, T, rfl, hr⟩ := hs
  exact ⟨T, q, hc, hr⟩
 rw [OH]
 have hmax := h.max
 simp [En, Tryz.f200, ay, ax, ah, St.new]
 refine aA (fun k σ => ∃ (i : Nat) (r : Nat → R) (G : List Ob) (w : V), i + k = l.length ∧ σ = ⟨r, 0, G⟩ ∧ r 0 = .val v ∧ r 3 = .val w ∧ r 4 = .val (.int .i64 i) ∧ Gs H G w (((l.take i).foldl qZ []).map V.str)) ?_ l.length _ ⟨0, _, H ++ [.mk true 1 []], .slc (some (H.length, 0)) 0, by simp, rfl, by simp, by simp, by simp, by simpa using Gs.init⟩
 rintro k σ ⟨i, r, G, w, hik, rfl, r0, r3, r4, hG⟩
 obtain ⟨T, hT⟩ := hG.ext
 have hv : AStrs G v l := by rw [hT]; exact h.ext
 have hlp := (ig (l.take i) []).length_eq
 rw [List.nil_append, List.length_take] at hlp
 obtain ⟨o, ho⟩ : ∃ o, o = (l.take i).foldl qZ [] := ⟨_, rfl⟩
 rw [← ho] at hG hlp
 have hmem : ∀ s ∈ o, s.length ≤ maxLen := fun s hs => hmax s (by
  have := (ig (l.take i) []).mem_iff (a := s)
  rw [← ho, List.nil_append] at this
  exact List.mem_of_mem_take (this.1 hs))
 have hos : AStrs G w o := (hG.strs (by unfold maxLen; omega) hmem).1
 cases k with
 | zero =>
  have hi : i = l.length := by omega
  subst hi
  rw [List.take_length] at ho
  have hn := hG.new (by unfold maxLen; omega) hmem
  simp [r0, r3, r4, hv.len, hG.gc]
  refine ⟨T, hT, ?_⟩
  rw [bV, ← ho, ← hT]
  simpa [hT] using hn
 | succ k =>
  have hi : i < l.length := by omega
  obtain ⟨x, hx⟩ : ∃ c, l[i]? = some c := ⟨l[i], by simp [hi]⟩
  have hw : IntKind.i64.wrap ((i : Int) + 1) = ((i : Int) + 1) := wrap_i64 (by omega) (by omega)
  obtain ⟨idx, ox, ex, lxT, _, hxl⟩ := lJ h hx
  have lx := lxT G ⟨T, hT⟩
  have hxlo : idx < G.length := by rw [hT, List.length_append]; omega
  have cx := kQ (t := x) (H := G)
  have hins : (l.take (i + 1)).foldl qZ [] = qZ o x := by rw [bg hx, List.foldl_append, ← ho]; rfl
  simp [r0, r3, r4, hi, hv.len]
  refine aA (fun m σ => ∃ (j : Nat) (r : Nat → R), j + m = o.length ∧ σ = ⟨r, 0, G⟩ ∧ r 0 = .val v ∧ r 3 = .val w ∧ r 4 = .val (.int .i64 i) ∧ r 5 = .val (.int .i64 j) ∧ ∀ q y, q < j → o[q]? = some y → bT (norm y) (norm x)) ?_ o.length _ ⟨0, _, by simp, rfl, by simp [r0], by simp [r3], by simp [r4], by simp, by simp⟩
  clear r0 r3 r4 r
  rintro m σ ⟨j, r, hjm, rfl, r0, r3, r4, r5, hall⟩
  by_cases hcont : ∃ y, o[j]? = some y ∧ bT (norm y) (norm x)
  ·obtain ⟨y, hy, g1⟩ := hcont
   have hjo : j < o.length := (List.getElem?_eq_some_iff.1 hy).1
   obtain ⟨idy, oy, ey, ly, _⟩ := aU hos hy
   have hylo := EN ly
   have cy := kQ (t := y) (H := G)
   have hwj : IntKind.i64.wrap ((j : Int) + 1) = ((j : Int) + 1) := wrap_i64 (by omega) (by omega)
   simp [r0, r3, r4, r5, hjo, hos.len, ey, ly, cy, ex, lx, cx, hxlo, hylo, iq g1, hwj]
   exact ⟨m - 1, by omega, j + 1, by omega, by omega, dm (P := fun q (y : Str) => bT (norm y) (norm x)) hall hy g1⟩
  ·have htw := vC (p := fun y => dec (bT (norm y) (norm x))) (l := o) (k := j) (by omega) (fun q y hq hy => aj (hall q y hq hy)) (fun y hy => ai fun g => hcont ⟨y, hy, g⟩)
   obtain ⟨id, v1, G1, v2, G2, v3, G3, rfl, s1, a1, ⟨T1, hT1⟩, a2, s2, a3, g3⟩ := Ii (x := x) hG (by omega) (show j ≤ o.length by omega)
   have lx1 := lxT G1 ⟨T ++ T1, by rw [hT1, hT, List.append_assoc]⟩
   have hjl : (j : Int) ≤ o.length := by omega
   have hjl' : j ≤ o.length := by omega
   have hgi : Gs H G3 v3 ((qZ o x).map V.str) := by unfold qZ; rw [htw.1, htw.2]; exact g3
   rw [← hins] at hgi
   by_cases hjo : j < o.length
   ·obtain ⟨y, hy⟩ : ∃ c, o[j]? = some c := ⟨o[j], by simp [hjo]⟩
    obtain ⟨idy, oy, ey, ly, _⟩ := aU hos hy
    have hylo := EN ly
    have cy := kQ (t := y) (H := G)
    have g1 : ¬ bT (norm y) (norm x) := fun g => hcont ⟨y, hy, g⟩
    simp [r0, r3, r4, r5, hjo, hos.len, ey, ly, cy, ex, lx, cx, hxlo, hylo, gU g1, hjl, hjl', s1, a1, ex, lx1, a2, s2, a3, ay, ax, ah, St.new, hw]
    exact ⟨k, by omega, i + 1, by omega, _, _, ⟨rfl, rfl⟩, by simp [r0], v3, by simp, by simp [r4], hgi⟩
   ·simp [r0, r3, r4, r5, hjo, hos.len, hjl, hjl', s1, a1, ex, lx1, a2, s2, a3, ay, ax, ah, St.new, hw]
    exact ⟨k, by omega, i + 1, by omega, _, _, ⟨rfl, rfl⟩, by simp [r0], v3, by simp, by simp [r4], hgi⟩
abbrev iM : LT := ⟨.str, 1, 16, [.str []]⟩
theorem MH {H : List Ob} {n : Nat} (hn : n ≤ 1000) : callW C 269 [.slc none 0, .int .i64 n] H = some (if n = 0 then (.slc none 0, H) else (.slc (some (H.length, 0)) 0, H ++ [.mk true 1 (ah iM n)])) := by
 have hw0 : IntKind.i64.wrap 0 = 0 := rfl
 have hwn : IntKind.i64.wrap (n : Int) = n := wrap_i64 (by omega) (by omega)
 have h1 : ¬ ((n : Int) < 0) := by omega
 by_cases h0 : n = 0
 ·subst h0
  rw [if_pos rfl]
  apply Ret.eq
  rw [LC]
  simp [yR, Tryz.f269, hw0]
 ·rw [if_neg h0]
  have h2 : (0 : Int) < n := by omega
  have h2' : 0 < n := by omega
  have h3 : (n : Int) * 16 ≤ 1099511627776 := by omega
  suffices hs : Ret C 269 [.slc none 0, .int .i64 n] H fun q H' => q = .slc (some (H.length, 0)) 0 ∧ H' = H ++ [.mk true 1 (ah iM n)] by
   obtain ⟨q, H', hc, rfl, rfl⟩ := hs
   exact hc
  rw [LC]
  simp [yR, Tryz.f269, hw0, hwn, h1, h2, h2', ay, qo, fU, aB, h3, aY]
theorem IG {H : List Ob} {ds xs zs : List V} {m : Nat} {x : V} (hx : aI iM (H ++ [.mk true 1 (ds ++ zs)]) x = some (xs, m)) (hm : xs.length = m) (hm0 : m ≠ 0) (hone : xs.all aJ = true) (hz : m ≤ zs.length) :
  aT iM (H ++ [.mk true 1 (ds ++ zs)]) (.slc (some (H.length, 0)) ds.length) x = some (.slc (some (H.length, 0)) (ds.length + m), H ++ [.mk true 1 (ds ++ xs ++ zs.drop m)]) := by
 unfold aT
 rw [if_pos (by simp [fU]), hx]
 simp only [if_neg hm0, hone, if_true, get_last]
 have e1 : 0 + (ds.length + m) * 1 ≤ (ds ++ zs).length := by simp; omega
 rw [if_pos e1, iV]
 congr 4
 unfold setRange
 rw [Nat.zero_add, Nat.mul_one, List.take_left, hm, List.drop_append]
 simp
theorem Ci {H : List Ob} {s x : V} {xs : List V} (hx : aI iM H x = some (xs, 0)) (hs : ∃ p n, s = .slc (some p) n ∨ s = .slc none 0) : aT iM H s x = some (s, H) := by
 unfold aT
 rw [if_pos (by simp [fU]), hx]
 obtain ⟨p, n, rfl | rfl⟩ := hs <;> simp
theorem kL {n : Nat} : (ah iM n).length = n := by simp [ah]
def fl (ls : List (List Str)) (i : Nat) : List Str := (ls.take i).flatten
theorem uP {ls : List (List Str)} : fl ls 0 = [] := by simp [fl]
theorem zY {ls : List (List Str)} {i : Nat} {l : List Str} (h : ls[i]? = some l) : fl ls (i + 1) = fl ls i ++ l := by
 unfold fl
 rw [bg h, List.flatten_append]
 simp
theorem Jt {ls : List (List Str)} {i : Nat} : (fl ls i).length ≤ (fl ls ls.length).length := by
 unfold fl
 have := congrArg List.length (congrArg List.flatten (List.take_append_drop i ls))
 rw [List.flatten_append, List.length_append] at this
 rw [List.take_length]
 omega
theorem xh {H : List Ob} {id : Nat} {own : Bool} {ws : List V} {ls : List (List Str)} (h0 : H[id]? = some (.mk own 1 ws)) (hl : ws.length = ls.length) (hw : ∀ (i : Nat) w l, ws[i]? = some w → ls[i]? = some l → AStrs H w l)
  (hb : (fl ls ls.length).length ≤ 1000) (hb2 : ls.length ≤ 1000) : ∃ T w, callW C 210 [.slc (some (id, 0)) ls.length] H = some (w, H ++ T) ∧ Own H (H ++ T) w (fl ls ls.length) := by
 suffices hs : Ret C 210 [.slc (some (id, 0)) ls.length] H fun q H' => ∃ T, H' = H ++ T ∧ Own H (H ++ T) q (fl ls ls.length) by
  obtain ⟨q, H', hc, T, rfl, hr⟩ := hs
  exact ⟨T, q, hc, hr⟩
 rw [NK]
 simp [Fg, Tryz.f210]
 refine aA (fun k σ => ∃ (i : Nat) (r : Nat → R), i + k = ls.length ∧ σ = ⟨r, 0, H⟩ ∧ r 0 = .val (.slc (some (id, 0)) ls.length) ∧ r 3 = .val (.int .i64 ((fl ls i).length : Nat)) ∧ r 9 = .val (.slc (some (id, 0)) ls.length) ∧ r 10 = .val (.int .i64 ls.length) ∧ r 11 = .val (.int .i64 i)) ?_ ls.length _ ⟨0, _, by simp, rfl, by simp, by simp [uP], by simp, by simp, by simp⟩
 rintro k σ ⟨i, r, hik, rfl, r0, r3, r9, r10, r11⟩
 cases k with
 | succ k =>
  have hi : i < ls.length := by omega
  obtain ⟨w, hwi⟩ : ∃ w, ws[i]? = some w := ⟨ws[i]'(by omega), List.getElem?_eq_getElem _⟩
  obtain ⟨l, hli⟩ : ∃ l, ls[i]? = some l := ⟨ls[i], List.getElem?_eq_getElem hi⟩
  have hs := hw i w l hwi hli
  have ld := bM h0 hwi
  have hf := zY hli
  have hle := Jt (ls := ls) (i := i + 1)
  have hfl := congrArg List.length hf
  rw [List.length_append] at hfl
  have hw1 : IntKind.i64.wrap ((i : Int) + 1) = ((i : Int) + 1) := wrap_i64 (by omega) (by omega)
  have hw2 : IntKind.i64.wrap (((fl ls i).length : Nat) + (l.length : Int)) = (((fl ls (i + 1)).length : Nat) : Int) := by rw [wrap_i64 (by omega) (by omega)]; omega
  have hn : ¬ ((((fl ls (i + 1)).length : Nat) : Int) < 0) := by omega
  simp [r0, r3, r9, r10, r11, hi, ld, hs.len, hw1, hw2, hn]
  exact ⟨k, by omega, i + 1, by omega, rfl, by omega⟩
 | zero =>
 have hi : i = ls.length := by omega
 subst hi
 have hg := MH (H := H) (n := (fl ls ls.length).length) hb
 generalize hN : (fl ls ls.length).length = N at r3 hg hb
 by_cases hN0 : N = 0
 ·rw [if_pos hN0] at hg
  simp [r0, r3, r9, r10, r11, hg]
  refine aA (fun k σ => ∃ (i : Nat) (r : Nat → R), i + k = ls.length ∧ σ = ⟨r, 0, H⟩ ∧ r 6 = .val (.slc none 0) ∧ r 25 = .val (.slc (some (id, 0)) ls.length) ∧ r 26 = .val (.int .i64 ls.length) ∧ r 27 = .val (.int .i64 i)) ?_ ls.length _ ⟨0, _, by simp, rfl, by simp, by simp [r0], by simp, by simp⟩
  clear hik r0 r3 r9 r10 r11 r
  rintro k σ ⟨i, r, hik, rfl, r6, r25, r26, r27⟩
  cases k with
  | zero =>
   have hi : i = ls.length := by omega
   subst hi
   simp [r6, r25, r26, r27]
   exact .inl ⟨rfl, List.length_eq_zero_iff.1 (by omega)⟩
  | succ k =>
   have hi : i < ls.length := by omega
   obtain ⟨w, hwi⟩ : ∃ w, ws[i]? = some w := ⟨ws[i]'(by omega), List.getElem?_eq_getElem _⟩
   obtain ⟨l, hli⟩ : ∃ l, ls[i]? = some l := ⟨ls[i], List.getElem?_eq_getElem hi⟩
   have hs := hw i w l hwi hli
   have ld := bM h0 hwi
   have hl0 : l.length = 0 := by
    have h1 := congrArg List.length (zY hli)
    have h2 := Jt (ls := ls) (i := i + 1)
    rw [List.length_append] at h1
    omega
   obtain ⟨p, rfl, hc, _⟩ := kF (T := []) hs
   rw [hl0] at hc ld
   have ha := Ci (s := .slc none 0) (H := H) (x := .slc p 0) (xs := []) (by simp [aI, aQ]; cases p <;> simp) ⟨(0, 0), 0, .inr rfl⟩
   have hw1 : IntKind.i64.wrap ((i : Int) + 1) = ((i : Int) + 1) := wrap_i64 (by omega) (by omega)
   simp [r6, r25, r26, r27, hi, ld, ay, ha, hw1]
   exact ⟨k, by omega, i + 1, by omega, by omega⟩
 ·rw [if_neg hN0] at hg
  simp [r0, r3, r9, r10, r11, hg]
  refine aA (fun k σ => ∃ (i : Nat) (r : Nat → R) (zs : List V), i + k = ls.length ∧ σ = ⟨r, 0, H ++ [.mk true 1 ((fl ls i).map V.str ++ zs)]⟩ ∧ (fl ls i).length + zs.length = N ∧ r 6 = .val (.slc (some (H.length, 0)) (fl ls i).length) ∧ r 25 = .val (.slc (some (id, 0)) ls.length) ∧ r 26 = .val (.int .i64 ls.length) ∧ r 27 = .val (.int .i64 i)) ?_ ls.length _ ⟨0, _, ah iM N, by simp, by rw [uP]; rfl, by simp [kL, uP], by simp [uP], by simp [r0], by simp, by simp⟩
  clear hik r0 r3 r9 r10 r11 r
  rintro k σ ⟨i, r, zs, hik, rfl, hzs, r6, r25, r26, r27⟩
  cases k with
  | zero =>
   have hi : i = ls.length := by omega
   subst hi
   have hz0 : zs = [] := List.length_eq_zero_iff.1 (by omega)
   subst hz0
   rw [List.append_nil]
   have hgs : Gs H (H ++ [.mk true 1 ((fl ls ls.length).map V.str)]) (.slc (some (H.length, 0)) (fl ls ls.length).length) ((fl ls ls.length).map V.str) := ⟨_, H.length, rfl, Nat.le_refl _, get_last, by simp⟩
   simp [r6, r25, r26, r27]
   exact .inr hgs
  | succ k =>
   have hi : i < ls.length := by omega
   obtain ⟨w, hwi⟩ : ∃ w, ws[i]? = some w := ⟨ws[i]'(by omega), List.getElem?_eq_getElem _⟩
   obtain ⟨l, hli⟩ : ∃ l, ls[i]? = some l := ⟨ls[i], List.getElem?_eq_getElem hi⟩
   have hs := hw i w l hwi hli
   have hf := zY hli
   have hfl := congrArg List.length hf
   rw [List.length_append] at hfl
   have hle := Jt (ls := ls) (i := i + 1)
   have ld := bM (H := H ++ [.mk true 1 ((fl ls i).map V.str ++ zs)]) (aW _ _ h0) hwi
   obtain ⟨p, rfl, hc, _⟩ := kF (T := [.mk true 1 ((fl ls i).map V.str ++ zs)]) hs
   have hw1 : IntKind.i64.wrap ((i : Int) + 1) = ((i : Int) + 1) := wrap_i64 (by omega) (by omega)
   have hnc : aI iM (H ++ [.mk true 1 ((fl ls i).map V.str ++ zs)]) (.slc p l.length) = some (l.map V.str, l.length) := by
    simp only [aI, Nat.mul_one, hc]
   by_cases hl0 : l.length = 0
   ·have hl1 : l = [] := List.length_eq_zero_iff.1 hl0
    subst hl1
    have ha := Ci (s := .slc (some (H.length, 0)) (fl ls i).length) hnc ⟨_, _, .inl rfl⟩
    rw [List.append_nil] at hf
    rw [← hf] at ha ld r6 hzs ⊢
    simp at ld ha
    simp [r6, r25, r26, r27, hi, ld, ay, ha, hw1]
    exact ⟨k, by omega, i + 1, by omega, _, zs, ⟨rfl, rfl⟩, by omega, by simp [r6], by simp [r25], by simp [r26], by simp⟩
   ·have ha := IG (H := H) (ds := (fl ls i).map V.str) (zs := zs) hnc (by simp) hl0 (by simp) (by omega)
    rw [List.length_map] at ha
    rw [← List.map_append, ← hf] at ha
    simp [r6, r25, r26, r27, hi, ld, ay, ha, hw1]
    exact ⟨k, by omega, i + 1, by omega, _, zs.drop l.length, ⟨rfl, rfl⟩, by simp; omega, by simp; omega, by simp [r25], by simp [r26], by simp⟩
theorem wW : ∀ (l : List Str), strsOf (l.map V.str) = some l
 | [] => rfl
 | s :: l => by simp only [List.map_cons, strsOf, wW l]
def sorted (l : List Str) : List Str := l.mergeSort fun x y => decide (x ≤ y)
theorem jh {l : List Str} : (sorted l).length = l.length := List.length_mergeSort l
theorem sorted_perm {l : List Str} : (sorted l).Perm l := List.mergeSort_perm l _
theorem yQ {G : List Ob} {id : Nat} {l : List Str} (h : G[id]? = some (.mk true 1 (l.map V.str))) (h0 : 0 < l.length) (hl : l.length ≤ 1048576) :
  callW C 267 [.slc (some (id, 0)) l.length] G = some (.tup [], G.set id (.mk true 1 ((sorted l).map V.str))) := by
 rw [jo (pr := gY) rfl]
 simp only [gY, if_neg (show ¬ l.length = 0 by omega), h]
 rw [if_pos ⟨trivial, by simp, hl⟩]
 rw [List.drop_zero, List.take_of_length_le (by simp), wW]
 simp only
 congr 4
 unfold setRange
 simp [sorted]
def Apart (l : List Str) : Prop := ∀ (i : Nat) x, l[i]? = some x → l[i + 1]? ≠ some x
theorem nM {H G : List Ob} (h : ∀ q, q < H.length → G[q]? = H[q]?) (hl : H.length ≤ G.length) : ∃ T, G = H ++ T := by
 refine ⟨G.drop H.length, ?_⟩
 apply List.ext_getElem?
 intro q
 by_cases hq : q < H.length
 ·rw [h q hq, List.getElem?_append_left hq]
 ·rw [List.getElem?_append_right (by omega), List.getElem?_drop]
  congr 1
  omega
theorem zH {H H' : List Ob} {r : V} (h : H'.length = H.length) : eU H H' r = H' := by
 unfold eU
 split
 ·rename_i hc
  obtain ⟨⟨T, rfl⟩, _⟩ := hc
  simp at h
  rw [h, List.append_nil]
 ·rfl
def CpI (cs l : List Str) (k n : Nat) : Prop := (∀ j, n ≤ j + 1 → cs[j]? = l[j]?) ∧ ∀ x, x ∈ cs.take k ↔ x ∈ l.take n
theorem CpI.init {l : List Str} {k : Nat} {x : Str} (hx : l[k]? = some x) (hy : l[k - 1]? = some x) (hk : 1 ≤ k) : CpI l l k (k + 1) :=
 ⟨fun _ _ => rfl, fun z => by
  rw [bg hx, List.mem_append, List.mem_singleton]
  have hm : x ∈ l.take k := List.mem_of_getElem? (i := k - 1) (by rw [List.getElem?_take_of_lt (by omega)]; exact hy)
  exact ⟨.inl, fun h => h.elim id fun e => e ▸ hm⟩⟩
theorem CpI.same {cs l : List Str} {k n : Nat} {a : Str} (h : CpI cs l k n) (ha : cs[n]? = some a) (hb : cs[n - 1]? = some a) (hn : 1 ≤ n) : CpI cs l k (n + 1) := by
 have ha' : l[n]? = some a := by rw [← h.1 n (by omega)]; exact ha
 have hb' : l[n - 1]? = some a := by rw [← h.1 (n - 1) (by omega)]; exact hb
 refine ⟨fun j hj => h.1 j (by omega), fun x => ?_⟩
 rw [h.2 x, bg ha', List.mem_append, List.mem_singleton]
 have hm : a ∈ l.take n := List.mem_of_getElem? (i := n - 1) (by rw [List.getElem?_take_of_lt (by omega)]; exact hb')
 exact ⟨.inl, fun h => h.elim id fun e => e ▸ hm⟩
theorem CpI.next {cs l : List Str} {k n : Nat} {a : Str} (h : CpI cs l k n) (ha : cs[n]? = some a) (hk : k + 1 ≤ n) : CpI (cs.set k a) l (k + 1) (n + 1) := by
 have ha' : l[n]? = some a := by rw [← h.1 n (by omega)]; exact ha
 have hkl : k < cs.length := by have := (List.getElem?_eq_some_iff.1 ha).1; omega
 refine ⟨fun j hj => by rw [List.getElem?_set_ne (by omega)]; exact h.1 j (by omega), fun x => ?_⟩
 have e1 : (cs.set k a).take (k + 1) = cs.take k ++ [a] := by
  rw [bg (List.getElem?_set_self hkl)]
  congr 1
  apply List.ext_getElem?
  intro j
  by_cases hj : j < k
  ·rw [List.getElem?_take_of_lt hj, List.getElem?_take_of_lt hj, List.getElem?_set_ne (by omega)]
  ·rw [List.getElem?_eq_none (by simp; omega), List.getElem?_eq_none (by simp; omega)]
 rw [e1, bg ha', List.mem_append, List.mem_append, h.2 x]
def Cp (G : List Ob) (id k : Nat) (l : List Str) : Prop := ∃ cs : List Str, G[id]? = some (.mk true 1 (cs.map V.str)) ∧ cs.length = l.length ∧ k ≤ cs.length ∧ ∀ x, x ∈ cs.take k ↔ x ∈ l
theorem Cp.all {G : List Ob} {id : Nat} {l : List Str} (h : G[id]? = some (.mk true 1 (l.map V.str))) : Cp G id l.length l := ⟨l, h, rfl, Nat.le_refl _, by simp⟩
theorem tV {n : Nat} : ah iM n = (List.replicate n ([] : Str)).map V.str := by
 induction n with
 | zero => rfl
 | succ n ih => simp [ah, List.replicate_succ] at ih ⊢
theorem Cp.end {G : List Ob} {id k n : Nat} {cs l : List Str} (h : CpI cs l k n) (hn : n = l.length) (hc : cs.length = l.length) (hk : k ≤ l.length) (hid : id < G.length) : Cp (G.set id (.mk true 1 (setRange (cs.map V.str) k (ah iM (l.length - k))))) id k l := by
 refine ⟨cs.take k ++ List.replicate (l.length - k) [], ?_, by simp; omega, by simp; omega, fun x => ?_⟩
 ·rw [List.getElem?_set_self hid, tV]
  congr 2
  unfold setRange
  rw [List.map_append, List.map_take, List.drop_of_length_le (by simp; omega), List.append_nil]
 ·rw [List.take_left' (by simp; omega), h.2 x, hn, List.take_length]
theorem GK {G0 : List Ob} {id : Nat} {l : List Str} (h : G0[id]? = some (.mk true 1 (l.map V.str))) (hl : l.length ≤ 1000) :
  ∃ G' k, callW C 268 [.slc (some (id, 0)) l.length] G0 = some (.slc (some (id, 0)) k, G') ∧ G'.length = G0.length ∧ (∀ q, q ≠ id → G'[q]? = G0[q]?) ∧ (k = l.length ↔ Apart l) ∧ Cp G' id k l := by
 suffices hs : Ret C 268 [.slc (some (id, 0)) l.length] G0 fun w G' => ∃ k, w = .slc (some (id, 0)) k ∧ G'.length = G0.length ∧ (∀ q, q ≠ id → G'[q]? = G0[q]?) ∧ (k = l.length ↔ Apart l) ∧ Cp G' id k l by
  obtain ⟨w, G', hc, k, rfl, h1, h2, h3⟩ := hs
  exact ⟨G', k, hc, h1, h2, h3⟩
 have hcp := Cp.all h
 rw [yf]
 by_cases hl2 : (l.length : Int) < 2
 ·have ha : Apart l := fun i x _ hx => by
   have := (List.getElem?_eq_some_iff.1 hx).1
   omega
  simp [jS, Tryz.f268, hl2, ha, hcp]
 simp [jS, Tryz.f268, hl2]
 refine aA (fun m σ => ∃ (k : Nat) (r : Nat → R), k + m = l.length ∧ σ = ⟨r, 0, G0⟩ ∧ r 0 = .val (.slc (some (id, 0)) l.length) ∧ r 3 = .val (.int .i64 k) ∧ 1 ≤ k ∧ ∀ i x, i + 1 < k → l[i]? = some x → l[i + 1]? ≠ some x) ?_ (l.length - 1) _ ⟨1, _, by omega, rfl, by simp, by simp, by omega, fun i x h => by omega⟩
 rintro m σ ⟨k, r, hkm, rfl, r0, r3, hk1, hall⟩
 cases m with
 | zero =>
  have hk : k = l.length := by omega
  subst hk
  have ha : Apart l := fun i x hx hx' => hall i x (List.getElem?_eq_some_iff.1 hx').1 hx hx'
  simp [r0, r3, ha, hcp]
 | succ m =>
  have hk : k < l.length := by omega
  have hkI : (k : Int) < l.length := by omega
  obtain ⟨x, hx⟩ : ∃ c, l[k]? = some c := ⟨l[k], by simp [hk]⟩
  obtain ⟨y, hy⟩ : ∃ c, l[k - 1]? = some c := ⟨l[k - 1]'(by omega), by simp⟩
  have hw : IntKind.i64.wrap ((k : Int) + 1) = ((k : Int) + 1) := wrap_i64 (by omega) (by omega)
  have hw1 : IntKind.i64.wrap ((k : Int) - 1) = ((k - 1 : Nat) : Int) := by rw [wrap_i64 (by omega) (by omega)]; omega
  have hk' : ((k - 1 : Nat) : Int) < l.length := by omega
  have hk'' : k - 1 < l.length := by omega
  have ldx := bM (o := k) (v := .str x) h (by simp [hx])
  have ldy := bM (o := k - 1) (v := .str y) h (by simp [hy])
  by_cases hxy : x = y
  rotate_left
  ·simp [r0, r3, hk, hk'', ldx, ldy, hw, hw1, hxy, ae]
   refine ⟨m, by omega, k + 1, by omega, by omega, by omega, fun i z hi hz => ?_⟩
   by_cases hik : i + 1 = k
   ·have : i = k - 1 := by omega
    subst this
    rw [hy] at hz
    cases hz
    rw [hik, hx]
    simpa using hxy
   ·exact hall i z (by omega) hz
  have hna : ¬ Apart l := fun ha => ha (k - 1) y hy (by rw [show k - 1 + 1 = k by omega, hx, hxy])
  have hst : aY G0 id 1 = true := by simp [aY, h]
  have hle : k ≤ l.length := by omega
  simp [r0, r3, hk, hk'', hle, ldx, ldy, hw1, hxy, hst, ae]
  refine aA (fun m σ => ∃ (k2 k' : Nat) (r : Nat → R) (G : List Ob) (cs : List Str), k2 + m = l.length - k ∧ σ = ⟨r, 0, G⟩ ∧ r 0 = .val (.slc (some (id, 0)) l.length) ∧ r 3 = .val (.int .i64 k') ∧ r 4 = .val (.slc (some (id, k)) (l.length - k)) ∧ r 5 = .val (.int .i64 k2) ∧ 1 ≤ k2 ∧ k' + 1 ≤ k + k2 ∧
   G.length = G0.length ∧ (∀ q, q ≠ id → G[q]? = G0[q]?) ∧ G[id]? = some (.mk true 1 (cs.map V.str)) ∧ cs.length = l.length ∧ CpI cs l k' (k + k2)) ?_ (l.length - k - 1) _ ⟨1, k, _, G0, l, by omega, rfl, by simp [r0], by simp [r3], by simp, by simp, by omega, by omega, rfl, fun _ _ => rfl, h, rfl, CpI.init hx (hxy ▸ hy) hk1⟩
  clear r0 r3 r hst
  rintro m2 σ ⟨k2, k', r, G, cs, hkm2, rfl, r0, r3, r4, r5, hk2, hkk, hG1, hG2, hG3, hcs, hci⟩
  have hst : aY G id 1 = true := by simp [aY, hG3]
  have hid : id < G.length := (List.getElem?_eq_some_iff.1 hG3).1
  cases m2 with
  | zero =>
   have hk2' : ((l.length - k : Nat) : Int) = k2 := by omega
   have hk2'' : l.length - k = k2 := by omega
   have hlt : k' < l.length := by omega
   have hle' : k' ≤ l.length := by omega
   have hnz : ¬ (l.length - k' = 0) := by omega
   have hwa : ∀ r c, dB ⟨r, c, G⟩ (.hp id k') (ah iM (l.length - k')) = some ⟨r, c, G.set id (.mk true 1 (setRange (cs.map V.str) k' (ah iM (l.length - k'))))⟩ := by
    intro r c
    simp only [dB, hG3]
    rw [if_pos (by rw [kL, List.length_map]; omega)]
   have hst2 : ∀ o, aY (G.set id (.mk true 1 o)) id 1 = true := fun o => by simp [aY, hid]
   have hne : ¬ (k' = l.length) := by omega
   have hend := Cp.end (G := G) hci (by omega) hcs hle' hid
   have hgl : ∀ o w, eU G0 (G.set id o) w = G.set id o := fun o w => zH (by rw [List.length_set]; exact hG1)
   simp [r0, r3, r4, r5, hk2'', hle', hst, ay, hnz, hwa, hst2, hgl, -setRange]
   refine ⟨hG1, fun q hq => ?_, ⟨fun h => absurd h hne, fun h => absurd h hna⟩, hend⟩
   rw [List.getElem?_set_ne (Ne.symm hq)]
   exact hG2 q hq
  | succ m2 =>
   have hlt : k2 < l.length - k := by omega
   obtain ⟨a, ha⟩ : ∃ c, cs[k + k2]? = some c := ⟨cs[k + k2]'(by omega), by simp⟩
   obtain ⟨b, hb⟩ : ∃ c, cs[k + (k2 - 1)]? = some c := ⟨cs[k + (k2 - 1)]'(by omega), by simp⟩
   have ld1 := bM (o := k + k2) (v := .str a) hG3 (by simp [ha])
   have ld2 := bM (o := k + (k2 - 1)) (v := .str b) hG3 (by simp [hb])
   have hw2 : IntKind.i64.wrap ((k2 : Int) - 1) = ((k2 - 1 : Nat) : Int) := by rw [wrap_i64 (by omega) (by omega)]; omega
   have hw3 : IntKind.i64.wrap ((k2 : Int) + 1) = ((k2 : Int) + 1) := wrap_i64 (by omega) (by omega)
   have hw4 : IntKind.i64.wrap ((k' : Int) + 1) = ((k' : Int) + 1) := wrap_i64 (by omega) (by omega)
   have hlt2 : k2 - 1 < l.length - k := by omega
   have hlt3 : k' < l.length := by omega
   by_cases hab : a = b
   ·simp [r0, r3, r4, r5, hlt, hlt2, ld1, ld2, hw2, hw3, hab, ae]
    exact ⟨m2, by omega, k2 + 1, by omega, k', _, G, ⟨rfl, rfl⟩, by simp [r0], by simp [r3], by simp [r4], by simp, by omega, by omega, hG1, hG2, cs, hG3, hcs, hci.same ha (by rw [show k + k2 - 1 = k + (k2 - 1) by omega, hab]; exact hb) (by omega)⟩
   ·have st := store1 (v := .str a) (o := k') hG3 (by simp; omega) rfl rfl
    simp [r0, r3, r4, r5, hlt, hlt2, hlt3, ld1, ld2, hw2, hw3, hw4, hab, ae, st]
    exact ⟨m2, by omega, k2 + 1, by omega, k' + 1, _, _, ⟨rfl, rfl⟩, by simp [r0], by simp, by simp [r4], by simp, by omega, by omega, by simpa using hG1, fun q hq => by rw [List.getElem?_set_ne (Ne.symm hq)]; exact hG2 q hq, cs.set k' a, by rw [List.getElem?_set_self hid, List.map_set], by simpa using hcs, hci.next ha (by omega)⟩
theorem gV (l : Str) : ¬ l < l := List.lt_irrefl l
theorem tZ {l : List Str} (h : l.Pairwise fun a b => a ≤ b) : Apart l ↔ l.Nodup := by
 constructor
 ·intro ha
  induction l with
  | nil => exact List.nodup_nil
  | cons x l ih =>
   rw [List.pairwise_cons] at h
   rw [List.nodup_cons]
   have ha' : Apart l := fun i y hy => ha (i + 1) y (by simpa using hy)
   refine ⟨fun hx => ?_, ih h.2 ha'⟩
   cases l with
   | nil => cases hx
   | cons y l =>
    have hxy : x ≠ y := fun he => ha 0 x rfl (by simp [he])
    have h1 : x ≤ y := h.1 y List.mem_cons_self
    rcases List.mem_cons.1 hx with rfl | hx
    ·exact hxy rfl
    ·have h2 : y ≤ x := (List.pairwise_cons.1 h.2).1 x hx
     exact hxy (List.le_antisymm h1 h2)
 ·intro hn i x h1 h2
  obtain ⟨hi, h1⟩ := List.getElem?_eq_some_iff.1 h1
  obtain ⟨hi2, h2⟩ := List.getElem?_eq_some_iff.1 h2
  exact List.pairwise_iff_getElem.1 hn i (i + 1) hi hi2 (by omega) (h1.trans h2.symm)
theorem ni {l : List Str} : (sorted l).Pairwise fun a b => a ≤ b := by
 have := List.pairwise_mergeSort (le := fun x y : Str => decide (x ≤ y)) (fun a b c h1 h2 => by simp at h1 h2 ⊢; exact List.le_trans h1 h2) (fun a b => by simp; exact List.le_total a b) l
 exact this.imp fun h => by simpa using h
theorem kR {H : List Ob} {v : V} {l : List Str} (h : AStrs H v l) : ∀ s ∈ l, s.length ≤ maxLen := fun s hs => by
 obtain ⟨j, hj, rfl⟩ := List.getElem_of_mem hs
 obtain ⟨_, _, _, _, h⟩ := aU h (List.getElem?_eq_getElem hj)
 exact h
def J7 (b : Nat) (p : Option (Nat × Nat)) : Prop := ∀ q o, p = some (q, o) → b ≤ q
def Some1 (G : List Ob) (w : V) (l : List Str) : Prop := ∃ l', AStrs G w l' ∧ (∀ x, x ∈ l' ↔ x ∈ l) ∧ l'.length ≤ l.length
theorem Some1.nil {G : List Ob} : Some1 G (.slc none 0) [] := ⟨[], aC.2 ⟨_, _, rfl, rfl, by simp, .inl ⟨rfl, rfl⟩⟩, fun _ => Iff.rfl, Nat.le_refl _⟩
theorem Some1.none {G : List Ob} {id : Nat} {cs : List V} (h : G[id]? = some (.mk true 1 cs)) : Some1 G (.slc (some (id, 0)) 0) [] := ⟨[], aC.2 ⟨_, _, rfl, rfl, by simp, .inr ⟨id, 0, true, cs, rfl, h, by simp, fun i x hx => by simp at hx⟩⟩, fun _ => Iff.rfl, Nat.le_refl _⟩
theorem wz {G : List Ob} {id k : Nat} {own : Bool} {cs : List Str} (h : G[id]? = some (.mk own 1 (cs.map V.str))) (hk : k ≤ cs.length) (hl : k ≤ maxLen) (hs : ∀ s ∈ cs.take k, s.length ≤ maxLen) : AStrs G (.slc (some (id, 0)) k) (cs.take k) := by
 refine aC.2 ⟨_, _, rfl, rfl, by simp; omega, .inr ⟨id, 0, own, cs.map V.str, by simp; omega, h, by simp; omega, fun i x hx => ?_⟩⟩
 rw [List.getElem?_map] at hx
 obtain ⟨s, hs', rfl⟩ := Option.map_eq_some_iff.1 hx
 have hi : i < (cs.take k).length := (List.getElem?_eq_some_iff.1 hs').1
 have hi2 : i < cs.length := by rw [List.length_take] at hi; omega
 have hc : cs[i]? = some s := by rw [List.length_take] at hi; rw [List.getElem?_take_of_lt (by omega)] at hs'; exact hs'
 refine ed.2 ⟨s, ?_, rfl, hs s (List.mem_of_getElem? hs')⟩
 rw [Sh.size_str, Nat.zero_add, Nat.mul_one, List.drop_eq_getElem_cons (by simpa using hi2)]
 obtain ⟨_, rfl⟩ := List.getElem?_eq_some_iff.1 hc
 simp
theorem Some1.of {G : List Ob} {id k : Nat} {l : List Str} (h : Cp G id k (sorted l)) (hb : l.length ≤ 1000) (hm : ∀ s ∈ l, s.length ≤ maxLen) : Some1 G (.slc (some (id, 0)) k) l := by
 obtain ⟨cs, h1, h0, h2, h3⟩ := h
 rw [jh] at h0
 have h4 : ∀ x, x ∈ cs.take k ↔ x ∈ l := fun x => (h3 x).trans sorted_perm.mem_iff
 exact ⟨cs.take k, wz h1 h2 (by unfold maxLen; omega) fun s hs => hm s ((h4 s).1 hs), h4, by simp; omega⟩
theorem Jr {H : List Ob} {id : Nat} {own : Bool} {va : V} {l : List Str} (h0 : H[id]? = some (.mk own 1 [va])) (hw : AStrs H va l) (hb : l.length ≤ 1000) :
  ∃ T p n, callW C 201 [.slc (some (id, 0)) 1] H = some (.slc p n, H ++ T) ∧ (n = l.length ↔ l.Nodup) ∧ Some1 (H ++ T) (.slc p n) l ∧ J7 H.length p := by
 suffices hs : Ret C 201 [.slc (some (id, 0)) 1] H fun q H' => ∃ T p n, q = .slc p n ∧ H' = H ++ T ∧ (n = l.length ↔ l.Nodup) ∧ Some1 H' q l ∧ J7 H.length p by
  obtain ⟨q, H', hc, T, p, n, rfl, rfl, hr⟩ := hs
  exact ⟨T, p, n, hc, hr⟩
 have hmx := kR hw
 rw [LK]
 have hfl : fl [l] 1 = l := by simp [fl]
 obtain ⟨T, w, c1, hown⟩ := xh (ls := [l]) h0 rfl (fun i w l' h1 h2 => by
  cases i with
  | zero => cases h1; cases h2; exact hw
  | succ i => simp at h1) (by simp only [List.length_singleton, hfl]; exact hb) (by simp)
 simp only [List.length_singleton, hfl] at c1 hown
 rcases hown with ⟨rfl, rfl⟩ | hgs
 ·have c2 : callW C 267 [.slc none 0] (H ++ T) = some (.tup [], H ++ T) := jo (pr := gY) rfl
  have c3 : callW C 268 [.slc none 0] (H ++ T) = some (.slc none 0, H ++ T) := by
   apply Ret.eq
   rw [yf]
   simp [jS, Tryz.f268]
  simp [mf, Tryz.f201, c1, c2, c3]
  exact ⟨[], _, _, ⟨rfl, rfl⟩, by simp [eU, pK, dZ], rfl, Some1.nil, fun _ _ h => by cases h⟩
 ·obtain ⟨T', id', hT, h1, h2, rfl⟩ := hgs
  have hT' := List.append_cancel_left hT
  subst hT'
  rw [List.length_map] at c1
  have hid : id' < (H ++ T).length := (List.getElem?_eq_some_iff.1 h2).1
  by_cases hl0 : l.length = 0
  ·have : l = [] := List.length_eq_zero_iff.1 hl0
   subst this
   have c2 : callW C 267 [.slc (some (id', 0)) 0] (H ++ T) = some (.tup [], H ++ T) := jo (pr := gY) rfl
   have c3 : callW C 268 [.slc (some (id', 0)) 0] (H ++ T) = some (.slc (some (id', 0)) 0, H ++ T) := by
    apply Ret.eq
    rw [yf]
    simp [jS, Tryz.f268]
   have hgc : eU H (H ++ T) (.slc (some (id', 0)) 0) = H ++ T := Gs.gc ⟨T, id', rfl, h1, h2, rfl⟩
   simp at c1
   simp [mf, Tryz.f201, c1, c2, c3, hgc]
   exact ⟨_, _, _, ⟨rfl, rfl⟩, rfl, rfl, Some1.none (by simpa using h2), fun _ _ h => by cases h; exact h1⟩
  ·have c2 := yQ h2 (by omega) (by omega)
   obtain ⟨G', k, c3, k1, k2, k3, k4⟩ := GK (l := sorted l) (G0 := (H ++ T).set id' (.mk true 1 ((sorted l).map V.str))) (id := id') (by rw [List.getElem?_set_self hid]) (by rw [jh]; exact hb)
   rw [jh] at c3 k3
   rw [List.length_set] at k1
   obtain ⟨T2, hT2⟩ : ∃ T2, G' = H ++ T2 := nM (fun q hq => by
    rw [k2 q (by omega), List.getElem?_set_ne (by omega), List.getElem?_append_left hq]) (by rw [k1]; simp)
   subst hT2
   have hgc : ∀ n, eU H (H ++ T2) (.slc (some (id', 0)) n) = H ++ T2 := fun n => by
    unfold eU
    rw [if_neg]
    rintro ⟨_, own, es, cells, h⟩
    have := (List.getElem?_eq_some_iff.1 h).1
    omega
   have hnd : k = l.length ↔ l.Nodup := by
    rw [k3, tZ ni]
    exact sorted_perm.nodup_iff
   simp [mf, Tryz.f201, c1, c2, c3, hgc]
   exact ⟨T2, _, _, ⟨rfl, rfl⟩, rfl, hnd, Some1.of k4 hb hmx, fun _ _ h => by cases h; exact h1⟩
theorem KX {H : List Ob} {id : Nat} {own : Bool} {va : V} {l : List Str} (h0 : H[id]? = some (.mk own 1 [va])) (hw : AStrs H va l) (hb : l.length ≤ 1000) :
  ∃ T p n, callW C 201 [.slc (some (id, 0)) 1] H = some (.slc p n, H ++ T) ∧ (n = l.length ↔ l.Nodup) := by
 obtain ⟨T, p, n, h1, h2, _⟩ := Jr h0 hw hb
 exact ⟨T, p, n, h1, h2⟩
end Go.Proofs.Try1
end
