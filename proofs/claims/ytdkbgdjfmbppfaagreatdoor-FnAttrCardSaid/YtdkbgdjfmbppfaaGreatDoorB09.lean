/- Part 09 of the proof of a law: the interpreter, its soundness, and what functions of the program compute over it. Conditions: none but those that each theorem names. -/
import Derived.Test.YtdkbgdjfmbppfaaGreatDoorB08
import Derived.Test.YtdkbgdjfmbppfaaGreatDoorB07
import Derived.Test.YtdkbgdjfmbppfaaGreatDoorB05

set_option linter.all false
set_option maxRecDepth 20000
set_option maxHeartbeats 40000000
section
namespace Go.Proofs.Try1
open Go Go.Lite
theorem SQ {H : List Ob} {v : V} {l : List PRdn} (h : aX H v l) : callW C 101 [v] H = some (.bool (dec (DnOk l)), H) := by
 apply Ret.dec
 rw [Ot]
 have hb : l.length ≤ 9223372036854775807 := h.bound
 simp [Em, Tryz.f101]
 refine aH (fun k σ => ∃ (i : Nat) (r : Nat → R), i + k = l.length ∧ σ = ⟨r, 0, H⟩ ∧ r 0 = .val v ∧ r 3 = .val (.int .i64 i) ∧ ∀ j x, j < i → l[j]? = some x → aF x.attr ∧ aA x.value) ?_ l.length _ ⟨0, _, by simp, rfl, by simp, by simp, by simp⟩
 rintro k σ ⟨i, r, hik, rfl, r0, r3, hall⟩
 cases k with
 | zero =>
  have hi : i = l.length := by omega
  subst hi
  have hx := kG (P := fun j (x : PRdn) => aF x.attr ∧ aA x.value) hall
  by_cases g : l.length ≤ 6
  ·have g' : (l.length : Int) ≤ 6 := by omega
   have hv : DnOk l := ⟨hx, g⟩
   simp [r0, r3, h.len, g', hv]
  ·have g' : ¬ (l.length : Int) ≤ 6 := by omega
   have hv : ¬ DnOk l := fun h => g h.2
   simp [r0, r3, h.len, g', hv]
 | succ k =>
  have hi : i < l.length := by omega
  obtain ⟨x, hx⟩ : ∃ c, l[i]? = some c := ⟨l[i], by simp [hi]⟩
  have hw : IntKind.i64.wrap ((i : Int) + 1) = ((i : Int) + 1) := wrap_i64 (by omega) (by omega)
  obtain ⟨id, o, e1, l0, l1, _, _⟩ := wu h hx
  have c1 := uX (t := x.attr) (H := H)
  by_cases g1 : aF x.attr
  ·rw [au g1] at c1
   have c2 := qw (t := x.value) (H := H)
   by_cases g2 : aA x.value
   ·rw [au g2] at c2
    simp [r0, r3, hi, h.len, e1, l0, l1, c1, c2, hw]
    exact ⟨k, by omega, i + 1, by omega, by omega, ig (P := fun j (x : PRdn) => aF x.attr ∧ aA x.value) hall hx ⟨g1, g2⟩⟩
   ·rw [ai g2] at c2
    have hn : ¬ DnOk l := fun hd => g2 (hd.1 i x hx).2
    simp [r0, r3, hi, h.len, e1, l0, l1, c1, c2, hn]
  ·rw [ai g1] at c1
   have hn : ¬ DnOk l := fun hd => g1 (hd.1 i x hx).1
   simp [r0, r3, hi, h.len, e1, l0, l1, c1, hn]
theorem MV {H : List Ob} {v v' : V} {l : List PAttr} {t : Str} (h : aC H v l) (ho : cellsOf v' = some [v']) : ∃ r : Int, callW C 115 [.agg [v', v], .str t] H = some (.int .i64 r, H) ∧ FirstAt PAttr.name l t r := by
 suffices hs : Ret C 115 [.agg [v', v], .str t] H fun q H' => (∃ r : Int, q = .int .i64 r ∧ FirstAt PAttr.name l t r) ∧ H' = H by
  obtain ⟨q, H', hc, ⟨r, rfl, hr⟩, rfl⟩ := hs
  exact ⟨r, hc, hr⟩
 rw [NG]
 have hb : l.length ≤ 9223372036854775807 := h.bound
 simp [EL, Tryz.f115]
 refine aH (fun k σ => ∃ (i : Nat) (r : Nat → R), i + k = l.length ∧ σ = ⟨r, 1, H⟩ ∧ r 1 = .val (.str t) ∧ r 2 = .box 0 [v', v] ∧ r 5 = .val (.int .i64 i) ∧ ∀ j x, j < i → l[j]? = some x → x.name ≠ t) ?_ l.length _ ⟨0, _, by simp, rfl, by simp, by simp, by simp, by simp⟩
 rintro k σ ⟨i, r, hik, rfl, r1, r2, r5, hall⟩
 cases k with
 | zero =>
  have hi : i = l.length := by omega
  subst hi
  have hx := kG (P := fun j (x : PAttr) => x.name ≠ t) hall
  simp [r1, r2, r5, h.len]
  exact .inr ⟨hx, rfl⟩
 | succ k =>
  have hi : i < l.length := by omega
  obtain ⟨x, hx⟩ : ∃ c, l[i]? = some c := ⟨l[i], by simp [hi]⟩
  have hw : IntKind.i64.wrap ((i : Int) + 1) = ((i : Int) + 1) := wrap_i64 (by omega) (by omega)
  obtain ⟨id, o, w, e1, l0, l1, _⟩ := dX h hx
  by_cases g1 : x.name = t
  ·simp [r1, r2, r5, hi, h.len, e1, l0, g1]
   exact .inl ⟨i, x, hx, g1, hall, rfl⟩
  ·simp [r1, r2, r5, hi, h.len, e1, l0, g1, hw]
   exact ⟨k, by omega, i + 1, by omega, by omega, ig (P := fun j (x : PAttr) => x.name ≠ t) hall hx g1⟩
theorem RP {H : List Ob} {v v' : V} {l : List PAttr} {t : Str} (h : aC H v l) (ho : cellsOf v' = some [v']) (ho' : aI v' = true) : ∃ w, callW C 100 [.agg [v', v], .str t] H = some (w, H) ∧ AStrs H w (valsOf l t) := by
 obtain ⟨r, hc, hr⟩ := MV (t := t) h ho
 suffices hs : Ret C 100 [.agg [v', v], .str t] H fun q H' => AStrs H q (valsOf l t) ∧ H' = H by
  obtain ⟨q, H', hc, hr, rfl⟩ := hs
  exact ⟨q, hc, hr⟩
 rw [LW]
 rcases hr.pos with ⟨k, a, h1, rfl, h2⟩ | ⟨rfl, h2⟩
 ·obtain ⟨id, o, w, e1, l0, l1, _, hw, _⟩ := dX h h1
  have hv : valsOf l t = a.vals := by unfold valsOf; rw [h2]
  have hk : ¬ ((k : Int) < 0) := by omega
  simp [qc, Tryz.f100, hc, hk, e1, l1, hv]
  exact hw
 ·have hv : valsOf l t = [] := by unfold valsOf; rw [h2]
  simp [qc, Tryz.f100, hc, hv]
  exact aG.2 ⟨_, _, rfl, rfl, by simp, .inl ⟨rfl, rfl⟩⟩
theorem wrap_one : IntKind.i64.wrap 1 = 1 := rfl
attribute [simp] wrap_one
theorem mM {a b : Str} (h : bG a b) : Op.bytesLess a b = true := h
theorem kE {a b : Str} (h : ¬ bG a b) : Op.bytesLess a b = false := by
 cases hb : Op.bytesLess a b with
 | false => rfl
 | true => exact absurd hb h
theorem Jl {H : List Ob} {id o : Nat} {v : V} (h : ∀ T : LT, T.one → ∀ r c, loadAt T ⟨r, c, H⟩ (.hp id o) = some v) : id < H.length := by
 have := h ⟨.str, 1, 16, [.str []]⟩ yF (fun _ => .val .undef) 0
 unfold loadAt cellsAt at this
 rw [if_neg (by decide)] at this
 cases hg : H[id]? with
 | none => simp only [hg] at this; cases this
 | some o => exact (List.getElem?_eq_some_iff.1 hg).1
theorem Jm {H : List Ob} {v : V} {l : List Str} (h : AStrs H v l) : callW C 193 [v] H = some (.bool (dec (bu l)), H) := by
 apply Ret.dec
 rw [OY]
 have hb : l.length ≤ 9223372036854775807 := h.bound
 simp [Fp, Tryz.f193]
 refine aH (fun k σ => ∃ (i : Nat) (r : Nat → R), i + k = l.length ∧ σ = ⟨r, 0, H⟩ ∧ r 0 = .val v ∧ r 3 = .val (.int .i64 i) ∧ ∀ j x, j < i → l[j]? = some x → aA x ∧ dR norm l j x) ?_ l.length _ ⟨0, _, by simp, rfl, by simp, by simp, by simp⟩
 rintro k σ ⟨i, r, hik, rfl, r0, r3, hall⟩
 cases k with
 | zero =>
  have hi : i = l.length := by omega
  subst hi
  have hx := kG (P := fun j (x : Str) => aA x ∧ dR norm l j x) hall
  by_cases g1 : 1 ≤ l.length
  ·have g1' : (1 : Int) ≤ (l.length : Int) := by omega
   by_cases g2 : l.length ≤ 4
   ·have g2' : (l.length : Int) ≤ 4 := by omega
    have hv : bu l := ⟨hx, g1, g2⟩
    simp [r0, r3, h.len, g1', g2', hv]
   ·have g2' : ¬ (l.length : Int) ≤ 4 := by omega
    have hv : ¬ bu l := fun h => g2 h.2.2
    simp [r0, r3, h.len, g1', g2', hv]
  ·have g1' : ¬ (1 : Int) ≤ (l.length : Int) := by omega
   have hv : ¬ bu l := fun h => g1 h.2.1
   simp [r0, r3, h.len, g1', hv]
 | succ k =>
  have hi : i < l.length := by omega
  obtain ⟨x, hx⟩ : ∃ c, l[i]? = some c := ⟨l[i], by simp [hi]⟩
  have hw : IntKind.i64.wrap ((i : Int) + 1) = ((i : Int) + 1) := wrap_i64 (by omega) (by omega)
  obtain ⟨id, o, e1, l0, _⟩ := cZ h hx
  have c1 := qw (t := x) (H := H)
  have c2 := iY (t := x) (H := H)
  have hstep := fun h => ig (P := fun j (x : Str) => aA x ∧ dR norm l j x) hall hx h
  by_cases g1 : aA x
  ·rw [au g1] at c1
   by_cases hi0 : i = 0
   ·have := hstep ⟨g1, fun y hy => by omega⟩
    subst hi0
    simp at e1
    simp [r0, r3, hi, h.len, e1, l0, c1]
    exact ⟨k, by omega, 1, by omega, by omega, this⟩
   ·have hip : 0 < i := by omega
    obtain ⟨y, hy⟩ : ∃ c, l[i - 1]? = some c := ⟨l[i - 1]'(by omega), by simp⟩
    obtain ⟨id', o', e1', l0', _⟩ := cZ h hy
    have c3 := iY (t := y) (H := H)
    have hw1 : IntKind.i64.wrap ((i : Int) - 1) = ((i - 1 : Nat) : Int) := by rw [wrap_i64 (by omega) (by omega)]; omega
    have hlo := Jl l0
    by_cases g2 : bG (norm y) (norm x)
    ·have := hstep ⟨g1, fun z _ hz => by rw [hy] at hz; cases hz; exact g2⟩
     simp [r0, r3, hi, h.len, e1, l0, c1, c2, c3, e1', l0', hw, hw1, hip, hlo, mM g2]
     exact ⟨k, by omega, i + 1, by omega, by omega, this⟩
    ·have hn : ¬ bu l := fun hd => g2 ((hd.1 i x hx).2 y hip hy)
     simp [r0, r3, hi, h.len, e1, l0, c1, c2, c3, e1', l0', hw, hw1, hip, hlo, kE g2, hn]
  ·rw [ai g1] at c1
   have hn : ¬ bu l := fun hd => g1 (hd.1 i x hx).1
   simp [r0, r3, hi, h.len, e1, l0, c1, hn]
theorem KZ {H : List Ob} {v : V} {l : List PAttr} (h : aC H v l) : callW C 102 [v] H = some (.bool (dec (fH l)), H) := by
 apply Ret.dec
 rw [Oj]
 have hb : l.length ≤ 9223372036854775807 := h.bound
 simp [EI, Tryz.f102]
 refine aH (fun k σ => ∃ (i : Nat) (r : Nat → R), i + k = l.length ∧ σ = ⟨r, 0, H⟩ ∧ r 0 = .val v ∧ r 3 = .val (.int .i64 i) ∧ ∀ j x, j < i → l[j]? = some x → aF x.name ∧ dR PAttr.name l j x ∧ bu x.vals) ?_ l.length _ ⟨0, _, by simp, rfl, by simp, by simp, by simp⟩
 rintro k σ ⟨i, r, hik, rfl, r0, r3, hall⟩
 cases k with
 | zero =>
  have hi : i = l.length := by omega
  subst hi
  have hx := kG (P := fun j (x : PAttr) => aF x.name ∧ dR PAttr.name l j x ∧ bu x.vals) hall
  by_cases g : l.length ≤ 8
  ·have g' : (l.length : Int) ≤ 8 := by omega
   have hv : fH l := ⟨hx, g⟩
   simp [r0, r3, h.len, g', hv]
  ·have g' : ¬ (l.length : Int) ≤ 8 := by omega
   have hv : ¬ fH l := fun h => g h.2
   simp [r0, r3, h.len, g', hv]
 | succ k =>
  have hi : i < l.length := by omega
  obtain ⟨x, hx⟩ : ∃ c, l[i]? = some c := ⟨l[i], by simp [hi]⟩
  have hw : IntKind.i64.wrap ((i : Int) + 1) = ((i : Int) + 1) := wrap_i64 (by omega) (by omega)
  obtain ⟨id, o, w, e1, l0, l1, _, hvs, _⟩ := dX h hx
  have c1 := uX (t := x.name) (H := H)
  have c2 := Jm hvs
  have hstep := fun h => ig (P := fun j (x : PAttr) => aF x.name ∧ dR PAttr.name l j x ∧ bu x.vals) hall hx h
  by_cases g1 : aF x.name
  rotate_left
  ·rw [ai g1] at c1
   have hn : ¬ fH l := fun hd => g1 (hd.1 i x hx).1
   simp [r0, r3, hi, h.len, e1, l0, c1, hn, ae]
  rw [au g1] at c1
  by_cases hi0 : i = 0
  ·have hpv : dR PAttr.name l i x := fun y hy => by omega
   by_cases g3 : bu x.vals
   ·rw [au g3] at c2
    have := hstep ⟨g1, hpv, g3⟩
    subst hi0
    simp at e1
    simp [r0, r3, hi, h.len, e1, l0, l1, c1, c2, ae]
    exact ⟨k, by omega, 1, by omega, by omega, this⟩
   ·rw [ai g3] at c2
    have hn : ¬ fH l := fun hd => g3 (hd.1 i x hx).2.2
    subst hi0
    simp at e1
    simp [r0, r3, hi, h.len, e1, l0, l1, c1, c2, ae, hn]
  ·have hip : 0 < i := by omega
   obtain ⟨y, hy⟩ : ∃ c, l[i - 1]? = some c := ⟨l[i - 1]'(by omega), by simp⟩
   obtain ⟨id', o', w', e1', l0', _⟩ := dX h hy
   have hw1 : IntKind.i64.wrap ((i : Int) - 1) = ((i - 1 : Nat) : Int) := by rw [wrap_i64 (by omega) (by omega)]; omega
   by_cases g2 : bG y.name x.name
   ·have hpv : dR PAttr.name l i x := fun z _ hz => by rw [hy] at hz; cases hz; exact g2
    by_cases g3 : bu x.vals
    ·rw [au g3] at c2
     have := hstep ⟨g1, hpv, g3⟩
     simp [r0, r3, hi, h.len, e1, l0, l1, c1, c2, e1', l0', hw, hw1, hip, mM g2, ae]
     exact ⟨k, by omega, i + 1, by omega, by omega, this⟩
    ·rw [ai g3] at c2
     have hn : ¬ fH l := fun hd => g3 (hd.1 i x hx).2.2
     simp [r0, r3, hi, h.len, e1, l0, l1, c1, c2, e1', l0', hw, hw1, hip, mM g2, ae, hn]
   ·have hn : ¬ fH l := fun hd => g2 ((hd.1 i x hx).2.1 y hip hy)
    simp [r0, r3, hi, h.len, e1, l0, c1, e1', l0', hw, hw1, hip, kE g2, ae, hn]
theorem nS {H : List Ob} {v w : V} {e : PEntry} (h1 : aX H v e.dn) (h2 : aC H w e.attrs) : callW C 20 [.agg [v, w]] H = some (.bool (dec (EntryOk e)), H) := by
 apply Ret.dec
 rw [RI]
 have c1 := SQ h1
 have c2 := KZ h2
 by_cases g0 : 0 < e.dn.length
 rotate_left
 ·have hn : ¬ EntryOk e := fun h => g0 h.1
  have g0' : e.dn.length = 0 := by omega
  simp [uV, Tryz.f20, h1.len, g0', hn, h1.one, h2.one]
 by_cases g1 : DnOk e.dn
 rotate_left
 ·rw [ai g1] at c1
  have hn : ¬ EntryOk e := fun h => g1 h.2.1
  simp [uV, Tryz.f20, h1.len, g0, c1, hn, h1.one, h2.one]
 rw [au g1] at c1
 by_cases g2 : fH e.attrs
 ·rw [au g2] at c2
  have hn : EntryOk e := ⟨g0, g1, g2⟩
  simp [uV, Tryz.f20, h1.len, g0, c1, c2, hn, h1.one, h2.one]
 ·rw [ai g2] at c2
  have hn : ¬ EntryOk e := fun h => g2 h.2.2
  simp [uV, Tryz.f20, h1.len, g0, c1, c2, hn, h1.one, h2.one]


theorem Oi {t : Str} {H : List Ob} (h0 : t ≠ []) (hl : t.length ≤ 1000) : ∃ q, callW C 182 [.str t, .str kset] H = some (.str q, H) ∧ (q = [] ↔ kH t) := by
 suffices hs : Ret C 182 [.str t, .str kset] H fun q H' => (∃ s, q = .str s ∧ (s = [] ↔ kH t)) ∧ H' = H by
  obtain ⟨q, H', hc, ⟨s, rfl, hr⟩, rfl⟩ := hs
  exact ⟨s, hc, hr⟩
 rw [NU]
 have hk0 : kset ≠ [] := by decide
 have hk1 : (kset.length : Int) = 37 := by decide
 have c1 := OH (t := kset) (H := H) (fun c hc => by
  rcases uC.1 hc with h | h | h
  ·have := h.2; omega
  ·have := h.2; omega
  ·omega) (by decide)
 have hz : setRange (List.replicate 256 (V.bool false)) 0 (setB kset) = setB kset := by
  unfold setRange
  rw [List.take_zero, List.nil_append, Nat.zero_add, dI, List.drop_of_length_le (by rw [List.length_replicate]; omega), List.append_nil]
 have hall : (setB kset).all aI = true := by
  rw [List.all_eq_true]
  intro x hx
  simp only [setB, List.mem_map] at hx
  obtain ⟨_, _, rfl⟩ := hx
  rfl
 have st := Dp (H := H ++ [.mk true 1 (List.replicate 256 (.bool false))]) (id := H.length) (o := 0) (l := setB kset) (cells := List.replicate 256 (.bool false)) (es := 1) get_last (by rw [dI, List.length_replicate]; omega) (by intro h; have := dI (l := kset); rw [h] at this; cases this) hall
 rw [dI, hz, gY] at st
 have hob : (H ++ [Ob.mk true 1 (setB kset)])[H.length]? = some (.mk true 1 (setB kset)) := get_last
 obtain ⟨s, c2, q1, q2, q3⟩ := NR (t := t) hob hl
 obtain ⟨s', c3, q4, q5⟩ := Oc (t := s) hob q3
 have hres : s' = [] ↔ kH t := by
  rw [← q1, ← q4]
  constructor
  ·rintro rfl; intro c hc; cases hc
  ·intro h
   rcases q5 with h' | h'
   ·exact h'
   ·exact absurd h h'
 simp [Fh, Tryz.f182, h0, hk0, hk1, c1, aV, st, c2, c3, -List.reduceReplicate, -setRange]
 exact hres
theorem Ja {t : Str} {c : UInt8} {s : Str} (h : t = c :: s) : aF t ↔ t.length ≤ 20 ∧ mZ c ∧ kH t := by
 subst h
 constructor
 ·rintro ⟨_, h1, h2⟩
  refine ⟨h1, ?_, fun d hd => ?_⟩
  ·rcases h2 0 c rfl with h | ⟨h, _⟩
   ·exact h
   ·omega
  ·obtain ⟨i, hi, rfl⟩ := List.getElem_of_mem hd
   rw [uC]
   rcases h2 i _ (List.getElem?_eq_getElem hi) with h | ⟨_, h | h⟩
   ·exact .inl h
   ·exact .inr (.inl h)
   ·exact .inr (.inr h)
 ·rintro ⟨h1, h2, h3⟩
  refine ⟨by simp, h1, fun i d hd => ?_⟩
  cases i with
  | zero => cases hd; exact .inl h2
  | succ i =>
   rcases uC.1 (h3 d (List.mem_of_getElem? hd)) with h | h | h
   ·exact .inl h
   ·exact .inr ⟨by omega, .inl h⟩
   ·exact .inr ⟨by omega, .inr h⟩
theorem DT {t : Str} {H : List Ob} : callW C 86 [.str t] H = some (.bool (dec (aF t)), H) := by
 apply Ret.dec
 rw [RH]
 match t with
 | [] =>
  have hn : ¬ aF [] := fun h => by have := h.1; simp at this
  simp [pF, Tryz.f86, hn]
 | c :: s =>
 have hi := Ja (t := c :: s) rfl
 have g0 : (1 : Int) ≤ (s.length : Int) + 1 := by omega
 by_cases g1 : ((c :: s).length : Int) ≤ 20
 rotate_left
 ·have hn : ¬ aF (c :: s) := fun h => by have := h.2.1; omega
  simp only [List.length_cons, Int.natCast_add, Int.natCast_one] at g1
  simp [pF, Tryz.f86, g0, g1, hn]
 obtain ⟨q, hc, hq⟩ := Oi (t := c :: s) (H := H) (by simp) (by omega)
 simp only [kset] at hc
 have g1' := g1
 simp only [List.length_cons, Int.natCast_add, Int.natCast_one] at g1
 by_cases g2 : (c.toNat : Int) ≥ 97
 rotate_left
 ·have hn : ¬ aF (c :: s) := fun h => by have := (hi.1 h).2.1.1; omega
  simp [pF, Tryz.f86, g0, g1, g2, hn]
 by_cases g3 : (c.toNat : Int) ≤ 122
 rotate_left
 ·have hn : ¬ aF (c :: s) := fun h => by have := (hi.1 h).2.1.2; omega
  simp [pF, Tryz.f86, g0, g1, g2, g3, hn]
 by_cases g4 : q = []
 ·have hn : aF (c :: s) := hi.2 ⟨by omega, ⟨by omega, by omega⟩, hq.1 g4⟩
  simp [pF, Tryz.f86, g0, g1, g2, g3, hc, g4, hn]
 ·have hn : ¬ aF (c :: s) := fun h => g4 (hq.2 (hi.1 h).2.2)
  simp [pF, Tryz.f86, g0, g1, g2, g3, hc, g4, hn]
theorem Kv {a b : Str} {H : List Ob} : callW C 164 [.agg [.str a, .str b]] H = some (.bool (dec (aF a ∧ aA b)), H) := by
 apply Ret.dec
 rw [NT]
 have c1 := DT (t := a) (H := H)
 have c2 := yE (t := b) (H := H)
 by_cases g1 : aF a
 ·rw [au g1] at c1
  by_cases g2 : aA b
  ·rw [au g2] at c2
   simp [tu, Tryz.f164, c1, c2, g1, g2]
  ·rw [ai g2] at c2
   simp [tu, Tryz.f164, c1, c2, g1, g2]
 ·rw [ai g1] at c1
  simp [tu, Tryz.f164, c1, g1]
theorem JV {a b : Str} {H : List Ob} : callW C 252 [.agg [.str a, .str b]] H = some (.bool (!dec (aF a ∧ aA b)), H) := by
 apply Ret.eq
 rw [Oa]
 have c1 := Kv (a := a) (b := b) (H := H)
 simp [Eo, Tryz.f252, c1]
theorem IG {H : List Ob} {v : V} {l : List PRdn} (h : aX H v l) : ∃ r : Int, callW C 295 [v, .fn 252 [] []] H = some (.int .i64 r, H) ∧ (0 ≤ r ↔ ¬ ∀ (j : Nat) x, l[j]? = some x → aF x.attr ∧ aA x.value) := by
 suffices hs : Ret C 295 [v, .fn 252 [] []] H fun q H' => (∃ r : Int, q = .int .i64 r ∧ (0 ≤ r ↔ ¬ ∀ (j : Nat) x, l[j]? = some x → aF x.attr ∧ aA x.value)) ∧ H' = H by
  obtain ⟨q, H', hc, ⟨r, rfl, hr⟩, rfl⟩ := hs
  exact ⟨r, hc, hr⟩
 rw [Ph]
 have hb : l.length ≤ 9223372036854775807 := h.bound
 simp [En, Tryz.f295, h.len]
 refine aH (fun k σ => ∃ (i : Nat) (r : Nat → R), i + k = l.length ∧ σ = ⟨r, 0, H⟩ ∧ r 0 = .val v ∧ r 1 = .val (.fn 252 [] []) ∧ r 7 = .val (.int .i64 l.length) ∧ r 8 = .val (.int .i64 i) ∧ ∀ j x, j < i → l[j]? = some x → aF x.attr ∧ aA x.value) ?_ l.length _ ⟨0, _, by simp, rfl, by simp, by simp, by simp, by simp, by simp⟩
 rintro k σ ⟨i, r, hik, rfl, r0, r1, r7, r8, hall⟩
 cases k with
 | zero =>
  have hi : i = l.length := by omega
  subst hi
  have hx := kG (P := fun j (x : PRdn) => aF x.attr ∧ aA x.value) hall
  simp [r0, r1, r7, r8]
  exact fun j x hj => hx j x hj
 | succ k =>
  have hi : i < l.length := by omega
  obtain ⟨x, hx⟩ : ∃ c, l[i]? = some c := ⟨l[i], by simp [hi]⟩
  have hw : IntKind.i64.wrap ((i : Int) + 1) = ((i : Int) + 1) := wrap_i64 (by omega) (by omega)
  obtain ⟨id, o, e1, l0, l1, l2, _⟩ := wu h hx
  have c1 := JV (a := x.attr) (b := x.value) (H := H)
  by_cases g1 : aF x.attr ∧ aA x.value
  ·rw [au g1] at c1
   simp at c1
   simp [r0, r1, r7, r8, hi, e1, l2, c1, hw]
   exact ⟨k, by omega, i + 1, by omega, by omega, ig (P := fun j (x : PRdn) => aF x.attr ∧ aA x.value) hall hx g1⟩
  ·rw [ai g1] at c1
   simp at c1
   simp [r0, r1, r7, r8, hi, e1, l2, c1, hw]
   exact ⟨i, x, hx, fun h1 h2 => g1 ⟨h1, h2⟩⟩
theorem Si {H : List Ob} {v : V} {l : List PRdn} (h : aX H v l) : callW C 181 [v] H = some (.bool (dec (DnOk l)), H) := by
 obtain ⟨r, c1, hr⟩ := IG h
 have c2 : callW C 251 [v, .fn 252 [] []] H = some (.bool (decide (0 ≤ r)), H) := by
  apply Ret.eq
  rw [Oh]
  simp [Ez, Tryz.f251, c1]
 apply Ret.dec
 rw [OE]
 by_cases g1 : (l.length : Int) ≤ 6
 ·by_cases g2 : 0 ≤ r
  ·have hn : ¬ DnOk l := fun h => hr.1 g2 h.1
   simp [tH, Tryz.f181, h.len, g1, c2, g2, hn]
  ·have hn : DnOk l := ⟨Classical.byContradiction fun h => g2 (hr.2 h), by omega⟩
   simp [tH, Tryz.f181, h.len, g1, c2, g2, hn]
 ·have hn : ¬ DnOk l := fun h => g1 (by have := h.2; omega)
  simp [tH, Tryz.f181, h.len, g1, hn]
theorem uw {a b : Str} {H : List Ob} : callW C 314 [.str a, .str b] H = some (.int .i64 (Lib.compareBytes a b), H) :=
 jV (pr := mP) rfl
theorem jw {a b : Str} {H : List Ob} : callW C 294 [.str a, .str b] H = some (.int .i64 (Lib.compareBytes a b), H) := by
 apply Ret.eq
 rw [Jg]
 simp [qU, Tryz.f294, uw]
theorem rG {a b : Str} {H : List Ob} : callW C 249 [.str a, .str b] H = some (.int .i64 (Lib.compareBytes a b), H) := by
 apply Ret.eq
 rw [JC]
 simp [pY, Tryz.f249, jw]
theorem i_byNorm {a b : Str} {H : List Ob} : callW C 179 [.str a, .str b] H = some (.int .i64 (Lib.compareBytes (norm a) (norm b)), H) := by
 apply Ret.eq
 rw [JB]
 have c1 := ku (t := a) (H := H)
 have c2 := ku (t := b) (H := H)
 simp [pW, Tryz.f179, c1, c2, rG]
theorem DJ : ∀ (a b : Str), (Lib.compareBytes a b < 0 ↔ bG a b) ∧ (Lib.compareBytes a b = 0 ↔ a = b)
 | [], [] => by simp [Lib.compareBytes, bG, Op.bytesLess]
 | [], _ :: _ => by simp [Lib.compareBytes, bG, Op.bytesLess]
 | _ :: _, [] => by simp [Lib.compareBytes, bG, Op.bytesLess]
 | a :: as', b :: bs => by
  obtain ⟨h1, h2⟩ := DJ as' bs
  unfold bG at h1 ⊢
  simp only [Lib.compareBytes, Op.bytesLess]
  by_cases g1 : a < b
  ·have : a ≠ b := fun h => by subst h; exact absurd g1 (by simp)
   simp [g1, this]
  ·by_cases g2 : b < a
   ·have : a ≠ b := fun h => by subst h; exact absurd g2 (by simp)
    simp [g1, g2, this]
   ·have : a = b := UInt8.toNat_inj.1 (by rw [UInt8.lt_iff_toNat_lt] at g1 g2; omega)
    subst this
    simp [h1, h2]
theorem MZ {H : List Ob} {v : V} {l : List Str} (h : AStrs H v l) : callW C 250 [v] H = some (.int .i64 l.length, H) := by
 apply Ret.eq
 rw [N9]
 simp [EG, Tryz.f250, h.len]
theorem GR {a b c : Int} {H : List Ob} : callW C 158 [.int .i64 a, .int .i64 b, .int .i64 c] H = some (.bool (decide (b ≤ a ∧ a ≤ c)), H) := by
 apply Ret.eq
 rw [OI]
 by_cases g1 : b ≤ a
 ·by_cases g2 : a ≤ c <;> simp [zO, Tryz.f158, g1, g2]
 ·simp [zO, Tryz.f158, g1]
theorem JL {H : List Ob} {n : Str} {v : V} {l : List Str} (h : AStrs H v l) : callW C 180 [.agg [.str n, v]] H = some (.bool (dec (aF n ∧ bu l)), H) := by
 apply Ret.dec
 rw [OJ]
 have c1 := DT (t := n) (H := H)
 have c2 := MZ h
 have c3 := GR (a := l.length) (b := 1) (c := 4) (H := H)
 have hb : l.length ≤ 9223372036854775807 := h.bound
 by_cases g1 : aF n
 rotate_left
 ·rw [ai g1] at c1
  simp [sS, Tryz.f180, c1, g1, h.one]
 rw [au g1] at c1
 by_cases g2 : (1 : Int) ≤ l.length ∧ (l.length : Int) ≤ 4
 rotate_left
 ·rw [decide_eq_false g2] at c3
  have hn : ¬ bu l := fun h => g2 ⟨by have := h.2.1; omega, by have := h.2.2; omega⟩
  simp [sS, Tryz.f180, c1, c2, c3, hn, h.one]
 rw [decide_eq_true g2] at c3
 simp [sS, Tryz.f180, c1, c2, c3, h.one, h.len]
 refine aH (fun k σ => ∃ (i : Nat) (r : Nat → R), i + k = l.length ∧ σ = ⟨r, 1, H⟩ ∧ r 1 = .box 0 [.str n, v] ∧ r 17 = .val v ∧ r 18 = .val (.int .i64 l.length) ∧ r 19 = .val (.int .i64 i) ∧ ∀ j x, j < i → l[j]? = some x → aA x ∧ dR norm l j x) ?_ l.length _ ⟨0, _, by simp, rfl, by simp, by simp, by simp, by simp, by simp⟩
 rintro k σ ⟨i, r, hik, rfl, r1, r17, r18, r19, hall⟩
 cases k with
 | zero =>
  have hi : i = l.length := by omega
  subst hi
  have hx := kG (P := fun j (x : Str) => aA x ∧ dR norm l j x) hall
  have hv : bu l := ⟨hx, by omega, by omega⟩
  simp [r1, r17, r18, r19, g1, hv]
 | succ k =>
  have hi : i < l.length := by omega
  obtain ⟨x, hx⟩ : ∃ c, l[i]? = some c := ⟨l[i], by simp [hi]⟩
  have hw : IntKind.i64.wrap ((i : Int) + 1) = ((i : Int) + 1) := wrap_i64 (by omega) (by omega)
  obtain ⟨id, o, e1, l0, _⟩ := cZ h hx
  have c4 := yE (t := x) (H := H)
  have hstep := fun h => ig (P := fun j (x : Str) => aA x ∧ dR norm l j x) hall hx h
  by_cases g3 : aA x
  rotate_left
  ·rw [ai g3] at c4
   have hn : ¬ bu l := fun hd => g3 (hd.1 i x hx).1
   simp [r1, r17, r18, r19, hi, e1, l0, c4, hn]
  rw [au g3] at c4
  by_cases hi0 : i = 0
  ·have := hstep ⟨g3, fun y hy => by omega⟩
   subst hi0
   simp at e1
   simp [r1, r17, r18, r19, hi, e1, l0, c4]
   exact ⟨k, by omega, 1, by omega, by omega, this⟩
  have hip : 0 < i := by omega
  obtain ⟨y, hy⟩ : ∃ c, l[i - 1]? = some c := ⟨l[i - 1]'(by omega), by simp⟩
  obtain ⟨id', o', e1', l0', _⟩ := cZ h hy
  have hw1 : IntKind.i64.wrap ((i : Int) - 1) = ((i - 1 : Nat) : Int) := by rw [wrap_i64 (by omega) (by omega)]; omega
  have c5 := i_byNorm (a := y) (b := x) (H := H)
  by_cases g4 : bG (norm y) (norm x)
  ·have := hstep ⟨g3, fun z _ hz => by rw [hy] at hz; cases hz; exact g4⟩
   have g5 : ¬ (0 ≤ Lib.compareBytes (norm y) (norm x)) := by have := (DJ (norm y) (norm x)).1.2 g4; omega
   simp [r1, r17, r18, r19, hi, e1, l0, c4, e1', l0', hw, hw1, hip, c5, g5]
   exact ⟨k, by omega, i + 1, by omega, by omega, this⟩
  ·have g5 : 0 ≤ Lib.compareBytes (norm y) (norm x) := by have := mt (DJ (norm y) (norm x)).1.1 g4; omega
   have hn : ¬ bu l := fun hd => g4 ((hd.1 i x hx).2 y hip hy)
   simp [r1, r17, r18, r19, hi, e1, l0, c4, e1', l0', hw, hw1, hip, c5, g5, hn]
theorem ql {H : List Ob} {v w : V} {e : PEntry} (h1 : aX H v e.dn) (h2 : aC H w e.attrs) : callW C 85 [.agg [v, w]] H = some (.bool (dec (EntryOk e)), H) := by
 apply Ret.dec
 rw [Rq]
 have c1 := Si h1
 have hb : e.attrs.length ≤ 9223372036854775807 := h2.bound
 by_cases g0 : e.dn.length = 0
 ·have hn : ¬ EntryOk e := fun h => by have := h.1; omega
  simp [vC, Tryz.f85, h1.len, g0, hn, h1.one, h2.one]
 have g0' : ¬ (e.dn.length : Int) = 0 := by omega
 by_cases g1 : DnOk e.dn
 rotate_left
 ·rw [ai g1] at c1
  have hn : ¬ EntryOk e := fun h => g1 h.2.1
  simp [vC, Tryz.f85, h1.len, g0, c1, hn, h1.one, h2.one]
 rw [au g1] at c1
 by_cases g2 : (e.attrs.length : Int) > 8
 ·have hn : ¬ EntryOk e := fun h => by have := h.2.2.2; omega
  simp [vC, Tryz.f85, h1.len, h2.len, g0, g2, c1, hn, h1.one, h2.one]
 simp [vC, Tryz.f85, h1.len, h2.len, g0, g2, c1, h1.one, h2.one]
 refine aH (fun k σ => ∃ (i n : Nat) (r : Nat → R), i + k = e.attrs.length ∧ σ = ⟨r, n, H⟩ ∧ r 1 = .box 0 [v, w] ∧ 1 ≤ n ∧ r 22 = .val w ∧ r 23 = .val (.int .i64 e.attrs.length) ∧ r 24 = .val (.int .i64 i) ∧ ∀ j x, j < i → e.attrs[j]? = some x → aF x.name ∧ dR PAttr.name e.attrs j x ∧ bu x.vals) ?_ e.attrs.length _ ⟨0, 1, _, by simp, rfl, by simp, by omega, by simp, by simp, by simp, by simp⟩
 rintro k σ ⟨i, n, r, hik, rfl, r1, hn1, r22, r23, r24, hall⟩
 cases k with
 | zero =>
  have hi : i = e.attrs.length := by omega
  subst hi
  have hx := kG (P := fun j (x : PAttr) => aF x.name ∧ dR PAttr.name e.attrs j x ∧ bu x.vals) hall
  have hv : EntryOk e := ⟨by omega, g1, hx, by omega⟩
  simp [r1, r22, r23, r24, hv]
 | succ k =>
  have hi : i < e.attrs.length := by omega
  obtain ⟨x, hx⟩ : ∃ c, e.attrs[i]? = some c := ⟨e.attrs[i], by simp [hi]⟩
  have hw : IntKind.i64.wrap ((i : Int) + 1) = ((i : Int) + 1) := wrap_i64 (by omega) (by omega)
  obtain ⟨id, o, w', e1, l0, l1, l2, hvs, _⟩ := dX h2 hx
  have c2 := JL (n := x.name) hvs
  have hstep := fun h => ig (P := fun j (x : PAttr) => aF x.name ∧ dR PAttr.name e.attrs j x ∧ bu x.vals) hall hx h
  by_cases g3 : aF x.name ∧ bu x.vals
  rotate_left
  ·rw [ai g3] at c2
   have hn : ¬ EntryOk e := fun hd => g3 ⟨(hd.2.2.1 i x hx).1, (hd.2.2.1 i x hx).2.2⟩
   simp [r1, r22, r23, r24, hi, e1, l2, c2, hn, hvs.one, ae]
  rw [au g3] at c2
  by_cases hi0 : i = 0
  ·have := hstep ⟨g3.1, fun y hy => by omega, g3.2⟩
   subst hi0
   simp at e1
   simp [r1, r22, r23, r24, hi, e1, l2, c2, hvs.one, ae]
   exact ⟨k, by omega, 1, by omega, n + 1, _, ⟨rfl, rfl⟩, by simp [r1], by omega, by simp [r22], by simp [r23], by simp, this⟩
  have hip : 0 < i := by omega
  obtain ⟨y, hy⟩ : ∃ c, e.attrs[i - 1]? = some c := ⟨e.attrs[i - 1]'(by omega), by simp⟩
  obtain ⟨id', o', _, e1', l0', _⟩ := dX h2 hy
  have hw1 : IntKind.i64.wrap ((i : Int) - 1) = ((i - 1 : Nat) : Int) := by rw [wrap_i64 (by omega) (by omega)]; omega
  by_cases g4 : bG y.name x.name
  ·have := hstep ⟨g3.1, fun z _ hz => by rw [hy] at hz; cases hz; exact g4, g3.2⟩
   simp [r1, r22, r23, r24, hi, e1, l2, c2, e1', l0', hw, hw1, hip, mM g4, hvs.one, ae]
   exact ⟨k, by omega, i + 1, by omega, n + 1, _, ⟨rfl, rfl⟩, by simp [r1], by omega, by simp [r22], by simp [r23], by simp, this⟩
  ·have hn : ¬ EntryOk e := fun hd => g4 ((hd.2.2.1 i x hx).2.1 y hip hy)
   simp [r1, r22, r23, r24, hi, e1, l2, c2, e1', l0', hw, hw1, hip, kE g4, hvs.one, ae, hn]
def Own (H G : List Ob) (w : V) (l : List Str) : Prop := (w = .slc none 0 ∧ l = []) ∨ Gs H G w (l.map V.str)
theorem vI {H T : List Ob} {v : V} {l : List Str} (h : AStrs H v l) : ∃ p, v = .slc p l.length ∧ aO (H ++ T) p l.length = some (l.map V.str) ∧ (p = none → l = []) ∧ ∀ id off, p = some (id, off) → kT H id := by
 rcases h.sl with ⟨rfl, hl⟩ | ⟨id, off, own, cells, rfl, h2, h3, h4⟩
 ·have : l = [] := by simpa using hl
  subst this
  exact ⟨none, rfl, rfl, fun _ => rfl, fun _ _ h => by cases h⟩
 ·rw [List.length_map] at h3 ⊢
  refine ⟨some (id, off), rfl, ?_, (fun h => by cases h), (fun id' off' h => by cases h; exact ⟨_, _, _, h2⟩)⟩
  by_cases h0 : l.length = 0
  ·have : l = [] := List.length_eq_zero_iff.1 h0
   subst this
   rfl
  ·simp only [aO, bg _ _ h2, if_neg h0]
   unfold cO
   simp only [Sh.size_str, Nat.mul_one] at h3 h4
   rw [if_pos h3]
   congr 1
   apply List.ext_getElem?
   intro j
   by_cases hj : j < l.length
   ·rw [List.getElem?_take_of_lt hj, List.getElem?_drop, List.getElem?_map]
    obtain ⟨s, hs⟩ : ∃ s, l[j]? = some s := ⟨l[j], List.getElem?_eq_getElem hj⟩
    obtain ⟨t, e1, e2, _⟩ := dw.1 (h4 j (.str s) (by rw [List.getElem?_map, hs]; rfl))
    cases e2
    rw [hs]
    have := dm e1 (j := 0) rfl
    simpa using this
   ·rw [List.getElem?_eq_none (by simp; omega), List.getElem?_eq_none (by simp; omega)]
theorem Kw {H : List Ob} {v : V} {l : List Str} (h : AStrs H v l) (hl : l.length ≤ 1048576) : ∃ T w, callW C 98 [v] H = some (w, H ++ T) ∧ Own H (H ++ T) w l := by
 suffices hs : Ret C 98 [v] H fun q H' => ∃ T, H' = H ++ T ∧ Own H (H ++ T) q l by
  obtain ⟨q, H', hc, T, rfl, hr⟩ := hs
  exact ⟨T, q, hc, hr⟩
 rw [NZ]
 obtain ⟨p, rfl, hc, hp, ht⟩ := vI (T := [.mk true 1 []]) h
 cases p with
 | none =>
  have := hp rfl
  subst this
  simp [qY, Tryz.f98]
  exact .inl ⟨rfl, rfl⟩
 | some p =>
  by_cases h0 : l.length = 0
  ·have : l = [] := List.length_eq_zero_iff.1 h0
   subst this
   have ha : aU ⟨.str, 1, 16, [.str []]⟩ (H ++ [.mk true 1 []]) (.slc (some (H.length, 0)) 0) (.slc (some p) 0) = some (.slc (some (H.length, 0)) 0, H ++ [.mk true 1 []]) := by
    unfold aU
    rw [if_pos (by simp [gV])]
    simp [aQ, aO]
   simp [qY, Tryz.f98, aB, ay, ak, St.new, ha]
   exact .inr Gs.init
  ·have hm : l.length * 16 ≤ ax := by unfold ax; omega
   have ha : aU ⟨.str, 1, 16, [.str []]⟩ (H ++ [.mk true 1 []]) (.slc (some (H.length, 0)) 0) (.slc (some p) l.length) = some (.slc (some (H.length + 1, 0)) l.length, H ++ [.dead, .mk true 1 (l.map V.str)]) := by
    unfold aU
    rw [if_pos (by simp [gV])]
    simp only [aQ, Nat.mul_one, hc, if_neg h0]
    rw [if_pos (by simp)]
    simp [get_last, h0, hm]
   have hne : l ≠ [] := fun h => h0 (by rw [h]; rfl)
   have hgs : Gs H (H ++ [.dead, .mk true 1 (l.map V.str)]) (.slc (some (H.length + 1, 0)) l.length) (l.map V.str) :=
    ⟨_, H.length + 1, rfl, by omega, by rw [List.getElem?_append_right (by omega)]; simp, by simp⟩
   simp [qY, Tryz.f98, aB, ay, ak, St.new, ha, hgs.gc]
   exact .inr hgs
def FirstIs (p : Str → Bool) (l : List Str) (r : Int) : Prop := (∃ (k : Nat) (x : Str), l[k]? = some x ∧ p x = true ∧ (∀ j y, j < k → l[j]? = some y → p y = false) ∧ r = k) ∨ ((∀ (j : Nat) y, l[j]? = some y → p y = false) ∧ r = -1)
theorem A7 {H : List Ob} {v : V} {l : List Str} {g : Nat} {a b : List V} (h : AStrs H v l) (p : Str → Bool) (hg : ∀ x ∈ l, callW C g (a ++ ([.str x] ++ b)) H = some (.bool (p x), H)) :
  ∃ r : Int, callW C 265 [v, .fn g a b] H = some (.int .i64 r, H) ∧ FirstIs p l r := by
 suffices hs : Ret C 265 [v, .fn g a b] H fun q H' => (∃ r : Int, q = .int .i64 r ∧ FirstIs p l r) ∧ H' = H by
  obtain ⟨q, H', hc, ⟨r, rfl, hr⟩, rfl⟩ := hs
  exact ⟨r, hc, hr⟩
 rw [Pg]
 have hb : l.length ≤ 9223372036854775807 := h.bound
 simp [EC, Tryz.f265, h.len]
 refine aH (fun k σ => ∃ (i : Nat) (r : Nat → R), i + k = l.length ∧ σ = ⟨r, 0, H⟩ ∧ r 0 = .val v ∧ r 1 = .val (.fn g a b) ∧ r 7 = .val (.int .i64 l.length) ∧ r 8 = .val (.int .i64 i) ∧ ∀ j x, j < i → l[j]? = some x → p x = false) ?_ l.length _ ⟨0, _, by simp, rfl, by simp, by simp, by simp, by simp, by simp⟩
 rintro k σ ⟨i, r, hik, rfl, r0, r1, r7, r8, hall⟩
 cases k with
 | zero =>
  have hi : i = l.length := by omega
  subst hi
  have hx := kG (P := fun j (x : Str) => p x = false) hall
  simp [r0, r1, r7, r8]
  exact .inr ⟨hx, rfl⟩
 | succ k =>
  have hi : i < l.length := by omega
  obtain ⟨x, hx⟩ : ∃ c, l[i]? = some c := ⟨l[i], by simp [hi]⟩
  have hw : IntKind.i64.wrap ((i : Int) + 1) = ((i : Int) + 1) := wrap_i64 (by omega) (by omega)
  obtain ⟨id, o, e1, l0, _⟩ := cZ h hx
  have c1 := hg x (List.mem_of_getElem? hx)
  simp only [List.singleton_append] at c1
  cases hp : p x with
  | false =>
   rw [hp] at c1
   simp [r0, r1, r7, r8, hi, e1, l0, c1, hw]
   exact ⟨k, by omega, i + 1, by omega, by omega, ig (P := fun j (x : Str) => p x = false) hall hx hp⟩
  | true =>
   rw [hp] at c1
   simp [r0, r1, r7, r8, hi, e1, l0, c1, hw]
   exact .inl ⟨i, x, hx, hp, hall, rfl⟩
theorem FirstIs.mem {p : Str → Bool} {l : List Str} {r : Int} (h : FirstIs p l r) : 0 ≤ r ↔ ∃ x ∈ l, p x = true := by
 rcases h with ⟨k, x, h1, h2, _, rfl⟩ | ⟨h1, rfl⟩
 ·exact ⟨fun _ => ⟨x, List.mem_of_getElem? h1, h2⟩, fun _ => by omega⟩
 ·refine ⟨fun h => by omega, fun ⟨x, hx, hp⟩ => ?_⟩
  obtain ⟨j, hj, rfl⟩ := List.getElem_of_mem hx
  rw [h1 j _ (List.getElem?_eq_getElem hj)] at hp
  cases hp
theorem vX {H : List Ob} {v : V} {l : List Str} {g : Nat} {a b : List V} (h : AStrs H v l) (p : Str → Bool) (hg : ∀ x ∈ l, callW C g (a ++ ([.str x] ++ b)) H = some (.bool (p x), H)) :
  callW C 194 [v, .fn g a b] H = some (.bool (dec (∃ x ∈ l, p x = true)), H) := by
 obtain ⟨r, c1, hr⟩ := A7 h p hg
 apply Ret.dec
 rw [Px]
 by_cases g1 : 0 ≤ r
 ·have := hr.mem.1 g1
  simp [yL, Tryz.f194, c1, g1]
  exact this
 ·have := mt hr.mem.2 g1
  simp [yL, Tryz.f194, c1, g1]
  intro x hx
  cases hp : p x with
  | false => rfl
  | true => exact absurd ⟨x, hx, hp⟩ this
theorem O7 {H : List Ob} {v : V} {l : List Str} {n : Str} (h : AStrs H v l) : ∃ r : Int, callW C 186 [v, .str n] H = some (.int .i64 r, H) ∧ FirstIs (fun x => decide (norm x = n)) l r := by
 suffices hs : Ret C 186 [v, .str n] H fun q H' => (∃ r : Int, q = .int .i64 r ∧ FirstIs (fun x => decide (norm x = n)) l r) ∧ H' = H by
  obtain ⟨q, H', hc, ⟨r, rfl, hr⟩, rfl⟩ := hs
  exact ⟨r, hc, hr⟩
 rw [O6]
 have hb : l.length ≤ 9223372036854775807 := h.bound
 simp [Ff, Tryz.f186]
 refine aH (fun k σ => ∃ (i : Nat) (r : Nat → R), i + k = l.length ∧ σ = ⟨r, 0, H⟩ ∧ r 0 = .val v ∧ r 1 = .val (.str n) ∧ r 5 = .val (.int .i64 i) ∧ ∀ j x, j < i → l[j]? = some x → norm x ≠ n) ?_ l.length _ ⟨0, _, by simp, rfl, by simp, by simp, by simp, by simp⟩
 rintro k σ ⟨i, r, hik, rfl, r0, r1, r5, hall⟩
 cases k with
 | zero =>
  have hi : i = l.length := by omega
  subst hi
  have hx := kG (P := fun j (x : Str) => norm x ≠ n) hall
  simp [r0, r1, r5, h.len]
  exact .inr ⟨fun j x hj => by simpa using hx j x hj, rfl⟩
 | succ k =>
  have hi : i < l.length := by omega
  obtain ⟨x, hx⟩ : ∃ c, l[i]? = some c := ⟨l[i], by simp [hi]⟩
  have hw : IntKind.i64.wrap ((i : Int) + 1) = ((i : Int) + 1) := wrap_i64 (by omega) (by omega)
  obtain ⟨id, o, e1, l0, _⟩ := cZ h hx
  have c1 := iY (t := x) (H := H)
  by_cases g1 : norm x = n
  ·simp [r0, r1, r5, hi, h.len, e1, l0, c1, g1]
   exact .inl ⟨i, x, hx, by simpa using g1, fun j y hj hy => by simpa using hall j y hj hy, rfl⟩
  ·simp [r0, r1, r5, hi, h.len, e1, l0, c1, g1, hw]
   exact ⟨k, by omega, i + 1, by omega, by omega, ig (P := fun j (x : Str) => norm x ≠ n) hall hx g1⟩
theorem uT {H : List Ob} {c : Int} : callW C 92 [.int .i64 c] H = some (.agg [.slc none 0, .slc none 0, .int .i64 c], H) := by
 apply Ret.eq
 rw [TG]
 simp [IC, Tryz.f92, aP, ay, ah]
theorem PD {H : List Ob} {v : V} {l : List Str} (h : AStrs H v l) : callW C 94 [v] H = some (.bool (dec (gm l)), H) := by
 apply Ret.dec
 rw [RV]
 have hb : l.length ≤ 9223372036854775807 := h.bound
 simp [JD, Tryz.f94]
 refine aH (fun k σ => ∃ (i : Nat) (r : Nat → R), i + k = l.length ∧ σ = ⟨r, 0, H⟩ ∧ r 0 = .val v ∧ r 3 = .val (.int .i64 i) ∧ ∀ j x, j < i → l[j]? = some x → aA x ∧ ∀ q y, q < j → l[q]? = some y → norm y ≠ norm x) ?_ l.length _ ⟨0, _, by simp, rfl, by simp, by simp, by simp⟩
 rintro k σ ⟨i, r, hik, rfl, r0, r3, hall⟩
 cases k with
 | zero =>
  have hi : i = l.length := by omega
  subst hi
  have hx := kG (P := fun j (x : Str) => aA x ∧ ∀ q y, q < j → l[q]? = some y → norm y ≠ norm x) hall
  by_cases g2 : l.length ≤ 4
  ·have g2' : (l.length : Int) ≤ 4 := by omega
   have hv : gm l := ⟨hx, g2⟩
   simp [r0, r3, h.len, g2', hv]
  ·have g2' : ¬ (l.length : Int) ≤ 4 := by omega
   have hv : ¬ gm l := fun h => g2 h.2
   simp [r0, r3, h.len, g2', hv]
 | succ k =>
  have hi : i < l.length := by omega
  obtain ⟨x, hx⟩ : ∃ c, l[i]? = some c := ⟨l[i], by simp [hi]⟩
  have hw : IntKind.i64.wrap ((i : Int) + 1) = ((i : Int) + 1) := wrap_i64 (by omega) (by omega)
  obtain ⟨id, o, e1, l0, _⟩ := cZ h hx
  have c1 := qw (t := x) (H := H)
  have c2 := iY (t := x) (H := H)
  have hstep := fun h => ig (P := fun j (x : Str) => aA x ∧ ∀ q y, q < j → l[q]? = some y → norm y ≠ norm x) hall hx h
  rcases h.sub with ⟨rfl, rfl⟩ | ⟨id0, off, own, cells, rfl, hid, hcl, hsub⟩
  ·simp at hi
  have hsi : bQ H id0 1 = true := by simp [bQ, hid]
  have hlt : id0 < H.length := (List.getElem?_eq_some_iff.1 hid).1
  have hp := hsub 0 i (by omega) (by omega)
  simp only [Nat.zero_mul, Nat.add_zero, Nat.sub_zero, List.drop_zero] at hp
  obtain ⟨q, c3, hq⟩ := O7 (n := norm x) hp
  have hil : (i : Int) ≤ l.length := by omega
  have hil' : i ≤ l.length := by omega
  by_cases g1 : aA x
  ·rw [au g1] at c1
   by_cases g2 : 0 ≤ q
   ·obtain ⟨y, hy, hyn⟩ := hq.mem.1 g2
    have hn : ¬ gm l := fun hd => by
     obtain ⟨j, hj, rfl⟩ := List.getElem_of_mem hy
     have hj2 : j < i ∧ j < l.length := by rw [List.length_take] at hj; omega
     exact (hd.1 i x hx).2 j (l.take i)[j] hj2.1 (by rw [List.getElem_take]; exact List.getElem?_eq_getElem hj2.2) (by simpa using hyn)
    simp [r0, r3, hi, e1, l0, c1, c2, c3, hw, hsi, hlt, hil, hil', g2, hn]
   ·have hnn := mt hq.mem.2 g2
    have := hstep ⟨g1, fun j y hj hy => fun e => hnn ⟨y, List.mem_of_getElem? (i := j) (by rw [List.getElem?_take_of_lt hj]; exact hy), by simpa using e⟩⟩
    simp [r0, r3, hi, e1, l0, c1, c2, c3, hw, hsi, hlt, hil, hil', g2]
    exact ⟨k, by omega, i + 1, by omega, by omega, this⟩
  ·rw [ai g1] at c1
   have hn : ¬ gm l := fun hd => g1 (hd.1 i x hx).1
   simp [r0, r3, hi, e1, l0, c1, hn]
theorem Jq {G : List Ob} {w : V} {o : List Str} {x : Str} {j : Nat} {B : List Ob} (hG : Gs B G w (o.map V.str)) (ho : o.length ≤ 1000) (hj : j ≤ o.length) :
  ∃ id v1 G1 v2 G2 v3 G3, w = .slc (some (id, 0)) o.length ∧ bQ (G ++ [.mk true 1 []]) id 1 = true ∧ aU ⟨.str, 1, 16, [.str []]⟩ (G ++ [.mk true 1 []]) (.slc (some (G.length, 0)) 0) (.slc (some (id, 0)) j) = some (v1, G1) ∧ (∃ T1, G1 = G ++ T1) ∧
   aU ⟨.str, 1, 16, [.str []]⟩ (G1 ++ [.mk true 1 [.str x]]) v1 (.slc (some (G1.length, 0)) 1) = some (v2, G2) ∧ bQ G2 id 1 = true ∧
   aU ⟨.str, 1, 16, [.str []]⟩ G2 v2 (.slc (some (id, j)) (o.length - j)) = some (v3, G3) ∧ Gs B G3 v3 ((o.take j ++ x :: o.drop j).map V.str) := by
 obtain ⟨T, id, rfl, h1, h2, rfl⟩ := hG
 have hid : id < (B ++ T).length := (List.getElem?_eq_some_iff.1 h2).1
 have hu : ∀ S, (B ++ T ++ S)[id]? = some (.mk true 1 (o.map V.str)) := fun S => bg _ _ h2
 have hu1 := hu [.mk true 1 []]
 have n1 : aQ ⟨.str, 1, 16, [.str []]⟩ (B ++ T ++ [.mk true 1 []]) (.slc (some (id, 0)) j) = some ((o.map V.str).take j, ((o.map V.str).take j).length) := by
  have hl : ((o.map V.str).take j).length = j := by simp; omega
  simp only [aQ, Nat.mul_one, aO, hu1, hl]
  by_cases h0 : j = 0
  ·subst h0; simp
  ·simp only [h0, if_false]
   unfold cO
   rw [if_pos (by simp; omega)]
   simp
 obtain ⟨v1, G1, a1, g1⟩ := (Gs.init (H := B ++ T)).many n1 (List.all_eq_true.2 fun a ha => by obtain ⟨s, _, rfl⟩ := List.mem_map.1 (List.mem_of_mem_take ha); rfl) (by simp; unfold ax; omega) (by decide) (by decide) rfl
 rw [List.nil_append] at g1
 obtain ⟨v2, G2, a2, g2⟩ := g1.push (x := .str x) (z := [.str []]) (d := .str) (b := 16) rfl (by simp; unfold ax; omega) (by decide) (by decide) rfl
 obtain ⟨S, rfl⟩ := g2.ext
 have n3 : aQ ⟨.str, 1, 16, [.str []]⟩ (B ++ T ++ S) (.slc (some (id, j)) (o.length - j)) = some ((o.map V.str).drop j, ((o.map V.str).drop j).length) := by
  have hl : ((o.map V.str).drop j).length = o.length - j := by simp
  simp only [aQ, Nat.mul_one, aO, hu S, hl]
  by_cases h0 : o.length - j = 0
  ·rw [h0, List.drop_of_length_le (by simp; omega)]; simp
  ·simp only [h0, if_false]
   unfold cO
   rw [if_pos (by simp; omega), List.take_of_length_le (by simp)]
 obtain ⟨v3, G3, a3, g3⟩ := g2.many n3 (List.all_eq_true.2 fun a ha => by obtain ⟨s, _, rfl⟩ := List.mem_map.1 (List.mem_of_mem_drop ha); rfl) (by simp; unfold ax; omega) (by decide) (by decide) rfl
 refine ⟨id, v1, G1, v2, _, v3, G3, by simp, by unfold bQ; rw [hu1]; rfl, a1, g1.ext, a2, by unfold bQ; rw [hu S]; rfl, a3, ?_⟩
 have := g3.low (H := B) ⟨T, rfl⟩
 simpa [List.map_take, List.map_drop] using this
theorem MX {H : List Ob} {v : V} {l : List Str} (h : AStrs H v l) (hl : l.length ≤ 1000) : ∃ T w, callW C 200 [v] H = some (w, H ++ T) ∧ New H.length (H ++ T).length (H ++ T) (.slice .str) [w] (.lst ((bD l).map kD)) := by
 suffices hs : Ret C 200 [v] H fun q H' => ∃ T, H' = H ++ T ∧ New H.length (H ++ T).length (H ++ T) (.slice .str) [q] (.lst ((bD l).map kD)) by
  obtain ⟨q, H', hc, T, rfl, hr⟩ := hs
  exact ⟨T, q, hc, hr⟩
 rw [OT]
 have hmax := h.max
 simp [Es, Tryz.f200, aB, ay, ak, St.new]
 refine aH (fun k σ => ∃ (i : Nat) (r : Nat → R) (G : List Ob) (w : V), i + k = l.length ∧ σ = ⟨r, 0, G⟩ ∧ r 0 = .val v ∧ r 3 = .val w ∧ r 4 = .val (.int .i64 i) ∧ Gs H G w (((l.take i).foldl pX []).map V.str)) ?_ l.length _ ⟨0, _, H ++ [.mk true 1 []], .slc (some (H.length, 0)) 0, by simp, rfl, by simp, by simp, by simp, by simpa using Gs.init⟩
 rintro k σ ⟨i, r, G, w, hik, rfl, r0, r3, r4, hG⟩
 obtain ⟨T, hT⟩ := hG.ext
 have hv : AStrs G v l := by rw [hT]; exact h.ext
 have hlp := (iw (l.take i) []).length_eq
 rw [List.nil_append, List.length_take] at hlp
 obtain ⟨o, ho⟩ : ∃ o, o = (l.take i).foldl pX [] := ⟨_, rfl⟩
 rw [← ho] at hG hlp
 have hmem : ∀ s ∈ o, s.length ≤ maxLen := fun s hs => hmax s (by
  have := (iw (l.take i) []).mem_iff (a := s)
  rw [← ho, List.nil_append] at this
  exact List.mem_of_mem_take (this.1 hs))
 have hos : AStrs G w o := (hG.strs (by unfold maxLen; omega) hmem).1
 cases k with
 | zero =>
  have hi : i = l.length := by omega
  subst hi
  rw [List.take_length] at ho
  have hn := hG.new (by unfold maxLen; omega) hmem
  simp [r0, r3, r4, hv.len, hG.gc]
  refine ⟨T, hT, ?_⟩
  rw [bD, ← ho, ← hT]
  simpa [hT] using hn
 | succ k =>
  have hi : i < l.length := by omega
  obtain ⟨x, hx⟩ : ∃ c, l[i]? = some c := ⟨l[i], by simp [hi]⟩
  have hw : IntKind.i64.wrap ((i : Int) + 1) = ((i : Int) + 1) := wrap_i64 (by omega) (by omega)
  obtain ⟨idx, ox, ex, lxT, _, hxl⟩ := qV h hx
  have lx := lxT G ⟨T, hT⟩
  have hxlo : idx < G.length := by rw [hT, List.length_append]; omega
  have cx := iY (t := x) (H := G)
  have hins : (l.take (i + 1)).foldl pX [] = pX o x := by rw [fA hx, List.foldl_append, ← ho]; rfl
  simp [r0, r3, r4, hi, hv.len]
  refine aH (fun m σ => ∃ (j : Nat) (r : Nat → R), j + m = o.length ∧ σ = ⟨r, 0, G⟩ ∧ r 0 = .val v ∧ r 3 = .val w ∧ r 4 = .val (.int .i64 i) ∧ r 5 = .val (.int .i64 j) ∧ ∀ q y, q < j → o[q]? = some y → bG (norm y) (norm x)) ?_ o.length _ ⟨0, _, by simp, rfl, by simp [r0], by simp [r3], by simp [r4], by simp, by simp⟩
  clear r0 r3 r4 r
  rintro m σ ⟨j, r, hjm, rfl, r0, r3, r4, r5, hall⟩
  by_cases hcont : ∃ y, o[j]? = some y ∧ bG (norm y) (norm x)
  ·obtain ⟨y, hy, g1⟩ := hcont
   have hjo : j < o.length := (List.getElem?_eq_some_iff.1 hy).1
   obtain ⟨idy, oy, ey, ly, _⟩ := cZ hos hy
   have hylo := Jl ly
   have cy := iY (t := y) (H := G)
   have hwj : IntKind.i64.wrap ((j : Int) + 1) = ((j : Int) + 1) := wrap_i64 (by omega) (by omega)
   simp [r0, r3, r4, r5, hjo, hos.len, ey, ly, cy, ex, lx, cx, hxlo, hylo, mM g1, hwj]
   exact ⟨m - 1, by omega, j + 1, by omega, by omega, ig (P := fun q (y : Str) => bG (norm y) (norm x)) hall hy g1⟩
  ·have htw := uy (p := fun y => dec (bG (norm y) (norm x))) (l := o) (k := j) (by omega) (fun q y hq hy => au (hall q y hq hy)) (fun y hy => ai fun g => hcont ⟨y, hy, g⟩)
   obtain ⟨id, v1, G1, v2, G2, v3, G3, rfl, s1, a1, ⟨T1, hT1⟩, a2, s2, a3, g3⟩ := Jq (x := x) hG (by omega) (show j ≤ o.length by omega)
   have lx1 := lxT G1 ⟨T ++ T1, by rw [hT1, hT, List.append_assoc]⟩
   have hjl : (j : Int) ≤ o.length := by omega
   have hjl' : j ≤ o.length := by omega
   have hgi : Gs H G3 v3 ((pX o x).map V.str) := by unfold pX; rw [htw.1, htw.2]; exact g3
   rw [← hins] at hgi
   by_cases hjo : j < o.length
   ·obtain ⟨y, hy⟩ : ∃ c, o[j]? = some c := ⟨o[j], by simp [hjo]⟩
    obtain ⟨idy, oy, ey, ly, _⟩ := cZ hos hy
    have hylo := Jl ly
    have cy := iY (t := y) (H := G)
    have g1 : ¬ bG (norm y) (norm x) := fun g => hcont ⟨y, hy, g⟩
    simp [r0, r3, r4, r5, hjo, hos.len, ey, ly, cy, ex, lx, cx, hxlo, hylo, kE g1, hjl, hjl', s1, a1, ex, lx1, a2, s2, a3, aB, ay, ak, St.new, hw]
    exact ⟨k, by omega, i + 1, by omega, _, _, ⟨rfl, rfl⟩, by simp [r0], v3, by simp, by simp [r4], hgi⟩
   ·simp [r0, r3, r4, r5, hjo, hos.len, hjl, hjl', s1, a1, ex, lx1, a2, s2, a3, aB, ay, ak, St.new, hw]
    exact ⟨k, by omega, i + 1, by omega, _, _, ⟨rfl, rfl⟩, by simp [r0], v3, by simp, by simp [r4], hgi⟩
abbrev LV : LT := ⟨.str, 1, 16, [.str []]⟩
def fl (ls : List (List Str)) (i : Nat) : List Str := (ls.take i).flatten
theorem wH : ∀ (l : List Str), strsOf (l.map V.str) = some l
 | [] => rfl
 | s :: l => by simp only [List.map_cons, strsOf, wH l]
def sorted (l : List Str) : List Str := l.mergeSort fun x y => decide (x ≤ y)
theorem Dj {l : List Str} : (sorted l).length = l.length := List.length_mergeSort l
theorem sorted_perm {l : List Str} : (sorted l).Perm l := List.mergeSort_perm l _
def Apart (l : List Str) : Prop := ∀ (i : Nat) x, l[i]? = some x → l[i + 1]? ≠ some x
def CpI (cs l : List Str) (k n : Nat) : Prop := (∀ j, n ≤ j + 1 → cs[j]? = l[j]?) ∧ ∀ x, x ∈ cs.take k ↔ x ∈ l.take n
theorem CpI.init {l : List Str} {k : Nat} {x : Str} (hx : l[k]? = some x) (hy : l[k - 1]? = some x) (hk : 1 ≤ k) : CpI l l k (k + 1) :=
 ⟨fun _ _ => rfl, fun z => by
  rw [fA hx, List.mem_append, List.mem_singleton]
  have hm : x ∈ l.take k := List.mem_of_getElem? (i := k - 1) (by rw [List.getElem?_take_of_lt (by omega)]; exact hy)
  exact ⟨.inl, fun h => h.elim id fun e => e ▸ hm⟩⟩
theorem CpI.same {cs l : List Str} {k n : Nat} {a : Str} (h : CpI cs l k n) (ha : cs[n]? = some a) (hb : cs[n - 1]? = some a) (hn : 1 ≤ n) : CpI cs l k (n + 1) := by
 have ha' : l[n]? = some a := by rw [← h.1 n (by omega)]; exact ha
 have hb' : l[n - 1]? = some a := by rw [← h.1 (n - 1) (by omega)]; exact hb
 refine ⟨fun j hj => h.1 j (by omega), fun x => ?_⟩
 rw [h.2 x, fA ha', List.mem_append, List.mem_singleton]
 have hm : a ∈ l.take n := List.mem_of_getElem? (i := n - 1) (by rw [List.getElem?_take_of_lt (by omega)]; exact hb')
 exact ⟨.inl, fun h => h.elim id fun e => e ▸ hm⟩
theorem CpI.next {cs l : List Str} {k n : Nat} {a : Str} (h : CpI cs l k n) (ha : cs[n]? = some a) (hk : k + 1 ≤ n) : CpI (cs.set k a) l (k + 1) (n + 1) := by
 have ha' : l[n]? = some a := by rw [← h.1 n (by omega)]; exact ha
 have hkl : k < cs.length := by have := (List.getElem?_eq_some_iff.1 ha).1; omega
 refine ⟨fun j hj => by rw [List.getElem?_set_ne (by omega)]; exact h.1 j (by omega), fun x => ?_⟩
 have e1 : (cs.set k a).take (k + 1) = cs.take k ++ [a] := by
  rw [fA (List.getElem?_set_self hkl)]
  congr 1
  apply List.ext_getElem?
  intro j
  by_cases hj : j < k
  ·rw [List.getElem?_take_of_lt hj, List.getElem?_take_of_lt hj, List.getElem?_set_ne (by omega)]
  ·rw [List.getElem?_eq_none (by simp; omega), List.getElem?_eq_none (by simp; omega)]
 rw [e1, fA ha', List.mem_append, List.mem_append, h.2 x]
def Cp (G : List Ob) (id k : Nat) (l : List Str) : Prop := ∃ cs : List Str, G[id]? = some (.mk true 1 (cs.map V.str)) ∧ cs.length = l.length ∧ k ≤ cs.length ∧ ∀ x, x ∈ cs.take k ↔ x ∈ l
theorem Cp.all {G : List Ob} {id : Nat} {l : List Str} (h : G[id]? = some (.mk true 1 (l.map V.str))) : Cp G id l.length l := ⟨l, h, rfl, Nat.le_refl _, by simp⟩
theorem BJ {n : Nat} : ak LV n = (List.replicate n ([] : Str)).map V.str := by
 induction n with
 | zero => rfl
 | succ n ih => simp [ak, List.replicate_succ] at ih ⊢
theorem Cp.end {G : List Ob} {id k n : Nat} {cs l : List Str} (h : CpI cs l k n) (hn : n = l.length) (hc : cs.length = l.length) (hk : k ≤ l.length) (hid : id < G.length) : Cp (G.set id (.mk true 1 (setRange (cs.map V.str) k (ak LV (l.length - k))))) id k l := by
 refine ⟨cs.take k ++ List.replicate (l.length - k) [], ?_, by simp; omega, by simp; omega, fun x => ?_⟩
 ·rw [List.getElem?_set_self hid, BJ]
  congr 2
  unfold setRange
  rw [List.map_append, List.map_take, List.drop_of_length_le (by simp; omega), List.append_nil]
 ·rw [List.take_left' (by simp; omega), h.2 x, hn, List.take_length]
def Some1 (G : List Ob) (w : V) (l : List Str) : Prop := ∃ l', AStrs G w l' ∧ (∀ x, x ∈ l' ↔ x ∈ l) ∧ l'.length ≤ l.length
theorem Some1.nil {G : List Ob} : Some1 G (.slc none 0) [] := ⟨[], aG.2 ⟨_, _, rfl, rfl, by simp, .inl ⟨rfl, rfl⟩⟩, fun _ => Iff.rfl, Nat.le_refl _⟩
theorem Some1.none {G : List Ob} {id : Nat} {cs : List V} (h : G[id]? = some (.mk true 1 cs)) : Some1 G (.slc (some (id, 0)) 0) [] := ⟨[], aG.2 ⟨_, _, rfl, rfl, by simp, .inr ⟨id, 0, true, cs, rfl, h, by simp, fun i x hx => by simp at hx⟩⟩, fun _ => Iff.rfl, Nat.le_refl _⟩
theorem JJ {G : List Ob} {id k : Nat} {own : Bool} {cs : List Str} (h : G[id]? = some (.mk own 1 (cs.map V.str))) (hk : k ≤ cs.length) (hl : k ≤ maxLen) (hs : ∀ s ∈ cs.take k, s.length ≤ maxLen) : AStrs G (.slc (some (id, 0)) k) (cs.take k) := by
 refine aG.2 ⟨_, _, rfl, rfl, by simp; omega, .inr ⟨id, 0, own, cs.map V.str, by simp; omega, h, by simp; omega, fun i x hx => ?_⟩⟩
 rw [List.getElem?_map] at hx
 obtain ⟨s, hs', rfl⟩ := Option.map_eq_some_iff.1 hx
 have hi : i < (cs.take k).length := (List.getElem?_eq_some_iff.1 hs').1
 have hi2 : i < cs.length := by rw [List.length_take] at hi; omega
 have hc : cs[i]? = some s := by rw [List.length_take] at hi; rw [List.getElem?_take_of_lt (by omega)] at hs'; exact hs'
 refine dw.2 ⟨s, ?_, rfl, hs s (List.mem_of_getElem? hs')⟩
 rw [Sh.size_str, Nat.zero_add, Nat.mul_one, List.drop_eq_getElem_cons (by simpa using hi2)]
 obtain ⟨_, rfl⟩ := List.getElem?_eq_some_iff.1 hc
 simp
theorem Some1.of {G : List Ob} {id k : Nat} {l : List Str} (h : Cp G id k (sorted l)) (hb : l.length ≤ 1000) (hm : ∀ s ∈ l, s.length ≤ maxLen) : Some1 G (.slc (some (id, 0)) k) l := by
 obtain ⟨cs, h1, h0, h2, h3⟩ := h
 rw [Dj] at h0
 have h4 : ∀ x, x ∈ cs.take k ↔ x ∈ l := fun x => (h3 x).trans sorted_perm.mem_iff
 exact ⟨cs.take k, JJ h1 h2 (by unfold maxLen; omega) fun s hs => hm s ((h4 s).1 hs), h4, by simp; omega⟩
theorem Own.strs {H G : List Ob} {w : V} {l : List Str} (h : Own H G w l) (hl : l.length ≤ maxLen) (hs : ∀ s ∈ l, s.length ≤ maxLen) : AStrs G w l := by
 rcases h with ⟨rfl, rfl⟩ | h
 ·exact aG.2 ⟨_, _, rfl, rfl, by simp, .inl ⟨rfl, rfl⟩⟩
 ·exact (h.strs hl hs).1
theorem Own.one {H G : List Ob} {w : V} {l : List Str} (h : Own H G w l) : aI w = true ∧ cellsOf w = some [w] := by
 rcases h with ⟨rfl, rfl⟩ | h
 ·exact ⟨rfl, rfl⟩
 ·exact h.one
theorem bi : ∀ (a b : Str), bG a b ↔ a < b
 | a, [] => by simp [bG, Op.bytesLess]
 | [], b :: bs => by simp [bG, Op.bytesLess]
 | a :: as', b :: bs => by
  have := bi as' bs
  unfold bG at this ⊢
  simp [Op.bytesLess, List.cons_lt_cons_iff, this]
noncomputable def oz (a b : Str) : Int := if dec (bG a b) = true then -1 else if dec (bG b a) = true then 1 else 0
theorem sV {a b : Str} : oz a b < 0 ↔ bG a b := by
 unfold oz
 by_cases h : bG a b
 ·rw [au h]; simp [h]
 ·rw [ai h]
  by_cases h' : bG b a
  ·rw [au h']; simp [h]
  ·rw [ai h']; simp [h]
theorem pV {a b : Str} : oz a b = 0 ↔ a = b := by
 unfold oz
 by_cases h : bG a b
 ·rw [au h]
  have : a ≠ b := fun e => by subst e; exact List.lt_irrefl _ ((bi a a).1 h)
  simp [this]
 ·rw [ai h]
  by_cases h' : bG b a
  ·rw [au h']
   have : a ≠ b := fun e => by subst e; exact List.lt_irrefl _ ((bi a a).1 h')
   simp [this]
  ·rw [ai h']
   have h1 : b ≤ a := fun hh => h ((bi a b).2 hh)
   have h2 : a ≤ b := fun hh => h' ((bi b a).2 hh)
   simp [List.le_antisymm h2 h1]
theorem OW {a b : Str} {H : List Ob} : callW C 222 [.str a, .str b] H = some (.int .i64 (oz a b), H) := by
 have c0 : ∀ x : Str, callW C 274 [.str x] H = some (.bool false, H) := fun x => by
  apply Ret.eq
  rw [Oe]
  simp [EY, Tryz.f274]
 apply Ret.eq
 rw [Pn]
 by_cases g1 : bG a b
 ·have : oz a b = -1 := by unfold oz; rw [au g1]; rfl
  simp [tC, Tryz.f222, c0, mM g1, this]
 ·by_cases g2 : bG b a
  ·have hne : a ≠ b := fun e => by subst e; exact g1 g2
   have : oz a b = 1 := by unfold oz; rw [ai g1, au g2]; rfl
   simp [tC, Tryz.f222, c0, kE g1, hne, this]
  ·have : oz a b = 0 := by unfold oz; rw [ai g1, ai g2]; rfl
   have he := pV.1 this
   simp [tC, Tryz.f222, c0, kE g1, he, this]
   subst he
   simp [kE g1, this]
theorem qx {n t : Str} {w : V} {H : List Ob} (ho : cellsOf w = some [w]) : callW C 261 [.agg [.str n, w], .str t] H = some (.int .i64 (oz n t), H) := by
 apply Ret.eq
 rw [OX]
 simp [EU, Tryz.f261, OW]
theorem lW {α : Type} {key : α → Str} : ∀ {l : List α}, (∀ (j : Nat) x, l[j]? = some x → dR key l j x) → l.Pairwise fun a b => key a < key b
 | [], _ => .nil
 | [x], _ => by simp
 | x :: y :: l, h => by
  have h' : ∀ (j : Nat) z, (y :: l)[j]? = some z → dR key (y :: l) j z := fun j z hz v hj hv => by
   refine h (j + 1) z (by simpa using hz) v (by omega) ?_
   rw [show j + 1 - 1 = (j - 1) + 1 by omega]
   simpa using hv
  have ih := lW h'
  have hxy : key x < key y := (bi _ _).1 (h 1 y rfl x (by omega) rfl)
  rw [List.pairwise_cons]
  refine ⟨fun z hz => ?_, ih⟩
  rcases List.mem_cons.1 hz with rfl | hz
  ·exact hxy
  ·exact List.lt_trans hxy ((List.pairwise_cons.1 ih).1 z hz)
theorem Il {H : List Ob} {v : V} {l : List PAttr} {t : Str} (h : aC H v l) (hl : l.length ≤ 1000) (hp : l.Pairwise fun a b => a.name < b.name) :
  ∃ (i : Nat) (ok : Bool), callW C 260 [v, .str t, .fn 261 [] []] H = some (.tup [.int .i64 i, .bool ok], H) ∧
   (ok = true → ∃ a, l[i]? = some a ∧ a.name = t) ∧ (ok = false → ∀ a ∈ l, a.name ≠ t) := by
 suffices hs : Ret C 260 [v, .str t, .fn 261 [] []] H fun q H' =>
   (∃ (i : Nat) (ok : Bool), q = .tup [.int .i64 i, .bool ok] ∧ (ok = true → ∃ a, l[i]? = some a ∧ a.name = t) ∧ (ok = false → ∀ a ∈ l, a.name ≠ t)) ∧ H' = H by
  obtain ⟨q, H', hc, ⟨i, ok, rfl, h1, h2⟩, rfl⟩ := hs
  exact ⟨i, ok, hc, h1, h2⟩
 rw [LY]
 simp [yU, Tryz.f260, h.len]
 refine aH (fun k σ => ∃ (i j : Nat) (r : Nat → R), j - i = k ∧ i ≤ j ∧ j ≤ l.length ∧ σ = ⟨r, 0, H⟩ ∧ r 0 = .val v ∧ r 1 = .val (.str t) ∧ r 2 = .val (.fn 261 [] []) ∧ r 8 = .val (.int .i64 l.length) ∧ r 9 = .val (.int .i64 i) ∧ r 10 = .val (.int .i64 j) ∧
  (∀ q a, q < i → l[q]? = some a → bG a.name t) ∧ (∀ q a, j ≤ q → l[q]? = some a → ¬ bG a.name t)) ?_ l.length _ ⟨0, l.length, _, by omega, by omega, by omega, rfl, by simp, by simp, by simp, by simp, by simp, by simp, fun q a h => by omega, fun q a h1 h2 => by have := (List.getElem?_eq_some_iff.1 h2).1; omega⟩
 rintro k σ ⟨i, j, r, hk, hij, hjl, rfl, r0, r1, r2, r8, r9, r10, hlo, hhi⟩
 cases k with
 | succ k =>
  have hlt : (i : Int) < j := by omega
  have hlt' : i < j := by omega
  have hw1 : IntKind.i64.wrap ((i : Int) + j) = (i : Int) + j := wrap_i64 (by omega) (by omega)
  have hw2 : IntKind.u64.wrap ((i : Int) + j) = (i : Int) + j := by unfold IntKind.wrap; simp [IntKind.bits, IntKind.signed]; omega
  have hq : ((i : Int) + j).fdiv 2 = (((i + j) / 2 : Nat) : Int) := by rw [Int.fdiv_eq_ediv_of_nonneg _ (by omega)]; omega
  obtain ⟨m, hm⟩ : ∃ m, m = (i + j) / 2 := ⟨_, rfl⟩
  rw [← hm] at hq
  have hw3 : IntKind.i64.wrap (m : Int) = m := wrap_i64 (by omega) (by omega)
  have hw4 : IntKind.i64.wrap ((m : Int) + 1) = (m : Int) + 1 := wrap_i64 (by omega) (by omega)
  have hml : m < l.length := by omega
  obtain ⟨a, ha⟩ : ∃ a, l[m]? = some a := ⟨l[m], List.getElem?_eq_getElem hml⟩
  obtain ⟨id, o, w, e1, l0, l1, l2, hvs, _⟩ := dX h ha
  have c1 := qx (n := a.name) (t := t) (w := w) (H := H) hvs.one.2
  have hord : ∀ q b, l[q]? = some b → (q < m → b.name < a.name) ∧ (m < q → a.name < b.name) := fun q b hb => by
   obtain ⟨hq1, hb⟩ := List.getElem?_eq_some_iff.1 hb
   obtain ⟨_, ha⟩ := List.getElem?_eq_some_iff.1 ha
   have := List.pairwise_iff_getElem.1 hp
   exact ⟨fun hh => by have := this q m hq1 hml hh; rwa [hb, ha] at this, fun hh => by have := this m q hml hq1 hh; rwa [hb, ha] at this⟩
  by_cases g1 : bG a.name t
  ·have g1' := sV.2 g1
   simp [r0, r1, r2, r8, r9, r10, hlt, hlt', hw1, hw2, hq, hw3, hw4, e1, l2, c1, g1', gX, IntKind.bits]
   refine ⟨j - (m + 1), by omega, m + 1, j, by omega, by omega, by omega, by omega, rfl, fun q b hq1 hb => ?_, hhi⟩
   by_cases hqm : q = m
   ·subst hqm; rw [ha] at hb; cases hb; exact g1
   ·exact (bi _ _).2 (List.lt_trans ((hord q b hb).1 (by omega)) ((bi _ _).1 g1))
  ·have g1' : ¬ oz a.name t < 0 := mt sV.1 g1
   simp [r0, r1, r2, r8, r9, r10, hlt, hlt', hw1, hw2, hq, hw3, hw4, e1, l2, c1, g1', gX, IntKind.bits]
   refine ⟨m - i, by omega, i, m, by omega, by omega, by omega, rfl, rfl, hlo, fun q b hq1 hb hlt2 => ?_⟩
   by_cases hqm : q = m
   ·subst hqm; rw [ha] at hb; cases hb; exact g1 hlt2
   ·exact g1 ((bi _ _).2 (List.lt_trans ((hord q b hb).2 (by omega)) ((bi _ _).1 hlt2)))
 | zero =>
  have hij' : i = j := by omega
  subst hij'
  by_cases hil : i < l.length
  ·have hilI : (i : Int) < l.length := by omega
   obtain ⟨a, ha⟩ : ∃ a, l[i]? = some a := ⟨l[i], List.getElem?_eq_getElem hil⟩
   obtain ⟨id, o, w, e1, l0, l1, l2, hvs, _⟩ := dX h ha
   have c1 := qx (n := a.name) (t := t) (w := w) (H := H) hvs.one.2
   by_cases g1 : a.name = t
   ·have g1' := pV.2 g1
    simp [r0, r1, r2, r8, r9, r10, hil, e1, l2, c1, g1']
    exact ⟨i, rfl, a, ha, g1⟩
   ·have g1' : ¬ oz a.name t = 0 := mt pV.1 g1
    simp [r0, r1, r2, r8, r9, r10, hil, e1, l2, c1, g1']
    refine ⟨⟨i, rfl⟩, fun b hb hbt => ?_⟩
    obtain ⟨q, hq1, rfl⟩ := List.getElem_of_mem hb
    have hqe := List.getElem?_eq_getElem hq1
    rcases Nat.lt_trichotomy q i with hh | hh | hh
    ·have := hlo q _ hh hqe
     rw [hbt] at this
     exact List.lt_irrefl _ ((bi _ _).1 this)
    ·subst hh; rw [ha] at hqe; cases hqe; exact g1 hbt
    ·have h1 := hhi i a (by omega) ha
     obtain ⟨_, ha'⟩ := List.getElem?_eq_some_iff.1 ha
     have h2 := List.pairwise_iff_getElem.1 hp i q hil hq1 hh
     rw [ha', hbt] at h2
     exact h1 ((bi _ _).2 h2)
  ·simp [r0, r1, r2, r8, r9, r10, hil]
   refine ⟨⟨i, rfl⟩, fun b hb hbt => ?_⟩
   obtain ⟨q, hq1, rfl⟩ := List.getElem_of_mem hb
   have := hlo q _ (by omega) (List.getElem?_eq_getElem hq1)
   rw [hbt] at this
   exact List.lt_irrefl _ ((bi _ _).1 this)
def l7 (e : PEntry) : Prop := e.dn.length ≤ 1048576 ∧ e.attrs.length ≤ 1048576 ∧ ∀ a ∈ e.attrs, a.vals.length ≤ 1048576
theorem IY {H : List Ob} {vd va : V} {e : PEntry} (hd : aX H vd e.dn) (ha : aC H va e.attrs) (hb : l7 e) :
  ∃ T w1 w2, callW C 90 [.agg [vd, va]] H = some (.agg [w1, w2], H ++ T) ∧ New H.length (H ++ T).length (H ++ T) bK [w1, w2] e.u := by
 suffices hs : Ret C 90 [.agg [vd, va]] H fun q H' => ∃ T w1 w2, q = .agg [w1, w2] ∧ H' = H ++ T ∧ New H.length (H ++ T).length (H ++ T) bK [w1, w2] e.u by
  obtain ⟨q, H', hc, T, w1, w2, rfl, rfl, hr⟩ := hs
  exact ⟨T, w1, w2, hc, hr⟩
 rw [RG]
 have hod := hd.one
 have hoa := ha.one
 obtain ⟨w1, T1, a1, n1⟩ := iR (d := .struct [(0, 9), (1, 9)]) (by_ := 32) (z := [.str [], .str []]) (sz := 2) hd rfl rfl rfl (by decide) (by decide) (by decide) (by have := hb.1; unfold ax; omega)
 have hb2 := hb.2.1
 have how := New.one1 n1
 simp [IP, Tryz.f90, hod, hoa, aB, ay, ak, St.new, aV, a1, aP, ah, how]
 obtain ⟨K, hK⟩ : ∃ K, K = H ++ T1 := ⟨_, rfl⟩
 rw [← hK] at n1 ⊢
 have haK : aC K va e.attrs := by rw [hK]; exact ha.ext
 refine aH (fun k σ => ∃ (i : Nat) (r : Nat → R) (G : List Ob) (w : V), i + k = e.attrs.length ∧ σ = ⟨r, 3, G⟩ ∧ r 1 = .box 0 [vd, va] ∧ r 2 = .box 1 [.slc none 0, .slc none 0] ∧ r 3 = .box 2 [w1, w] ∧ r 4 = .val (.int .i64 i) ∧ LstF K G shAttr PAttr.u w (e.attrs.take i)) ?_ e.attrs.length _ ⟨0, _, K, .slc none 0, by simp, rfl, by simp, by simp, by simp, by simp, by simpa using LstF.nil⟩
 rintro k σ ⟨i, r, G, w, hik, rfl, r1, r2, r3, r4, hG⟩
 obtain ⟨S, hS⟩ := hG.pre
 have haG : aC G va e.attrs := by rw [hS]; exact haK.ext
 have hwo := hG.one
 cases k with
 | zero =>
  have hi : i = e.attrs.length := by omega
  subst hi
  rw [List.take_length] at hG
  have n2 := hG.new ha.bound
  have hne : New H.length G.length G bK [w1, w] e.u := by
   refine New.st (News.cons (m := K.length) (c1 := [w1]) ?_ (News.one n2 (by rw [hS]; simp)) (by rw [hK]; simp) (by rw [hS]; simp))
   rw [hS]; exact n1.ext
  obtain ⟨T', hg, hn⟩ := (show New H.length G.length (H ++ (T1 ++ S)) bK [w1, w] e.u by rw [← List.append_assoc, ← hK, ← hS]; exact hne).gcA
  rw [← List.append_assoc, ← hK, ← hS] at hg
  simp [r1, r2, r3, r4, haG.len, hg, how, hwo]
  exact ⟨T', w1, w, ⟨rfl, rfl⟩, rfl, by simpa using hn⟩
 | succ k =>
  have hi : i < e.attrs.length := by omega
  obtain ⟨x, hx⟩ : ∃ c, e.attrs[i]? = some c := ⟨e.attrs[i], by simp [hi]⟩
  have hw : IntKind.i64.wrap ((i : Int) + 1) = ((i : Int) + 1) := wrap_i64 (by omega) (by omega)
  obtain ⟨id, o, wx, ex, lx, hvx, hnx, hidx, _⟩ := dN ha hx
  have hGH : G = H ++ (T1 ++ S) := by rw [hS, hK, List.append_assoc]
  obtain ⟨l0, l1, l2⟩ := lx G ⟨_, hGH⟩
  obtain ⟨l0', l1', l2'⟩ := lx (G ++ [.mk true 1 []]) ⟨_, by rw [hGH, List.append_assoc]⟩
  have hidG : id < G.length := by rw [hGH]; simp; omega
  have hvG : AStrs G wx x.vals := by rw [hGH]; exact hvx.ext
  have hbx := hb.2.2 x (List.mem_of_getElem? hx)
  obtain ⟨wv, T2, a2, n2⟩ := iR (d := .str) (by_ := 16) (z := [.str []]) (sz := 1) hvG rfl rfl rfl (by decide) (by decide) (by decide) (by unfold ax; omega)
  have hel : New G.length (G ++ T2).length (G ++ T2) shAttr [.str x.name, wv] x.u := New.st (News.str hnx (News.one n2 (by simp)))
  obtain ⟨w', G', a3, hG', _, _⟩ := hG.push (T := T2) (d := .struct [(0, 9), (1, 27)]) (by_ := 40) (z := [.str [], .slc none 0]) (sz := 2) hel rfl rfl (by decide) (by decide) (by decide) (by simp; unfold ax; omega)
  rw [← fA hx] at hG'
  have hwv := New.one1 n2
  have hk : Keep G.length (G ++ [.mk true 1 []]) (G ++ T2) := Ho (Nat.le_refl _)
  have hw' := hG'.one
  simp only [List.append_assoc, List.length_append] at a3
  simp [r1, r2, r3, r4, hi, haG.len, ex, l0, l1, hidG, a2, a3, hk, kV, aB, ay, ak, St.new, aP, ah, hod, hoa, hwv, hwo, hw', hw, List.lookup]
  exact ⟨k, by omega, i + 1, by omega, _, _, ⟨rfl, rfl⟩, by simp [r1], by simp [r2], w', by simp, by simp, hG'⟩
noncomputable def eU (pre : List PAttr) (n : Str) (vs : List Str) (done : Bool) : List PAttr := pre.filter (fun a => dec (bG a.name n)) ++ (if done = true ∧ vs ≠ [] then [⟨n, bD vs⟩] else []) ++ pre.filter (fun a => dec (bG n a.name))
theorem xI {a b c : Str} (h1 : bG a b) (h2 : bG b c) : bG a c := (bi _ _).2 (List.lt_trans ((bi _ _).1 h1) ((bi _ _).1 h2))
theorem bY {a b : Str} (h1 : bG a b) : ¬ bG b a := fun h => bC _ (xI h1 h)
theorem tN (a b : Str) : bG a b ∨ a = b ∨ bG b a := by
 by_cases h1 : bG a b
 ·exact .inl h1
 ·by_cases h2 : bG b a
  ·exact .inr (.inr h2)
  ·refine .inr (.inl (List.le_antisymm (fun hh => h2 ((bi _ _).2 hh)) (fun hh => h1 ((bi _ _).2 hh))))
section
variable {pre : List PAttr} {a : PAttr} {n : Str} {vs : List Str} {done : Bool}
theorem nR {p : PAttr → Bool} (h : ∀ b ∈ pre, p b = false) : pre.filter p = [] := List.filter_eq_nil_iff.2 fun b hb => by rw [h b hb]; decide
theorem MP (hs : ∀ b ∈ pre, bG b.name a.name) (hd : done = true ↔ vs = [] ∨ ∃ b ∈ pre, ¬ bG b.name n) (h : bG a.name n) : eU pre n vs done ++ [a] = eU (pre ++ [a]) n vs done ∧ (done = true ↔ vs = [] ∨ ∃ b ∈ pre ++ [a], ¬ bG b.name n) := by
 have h1 : ∀ b ∈ pre, bG b.name n := fun b hb => xI (hs b hb) h
 have hno : ¬ ∃ b ∈ pre, ¬ bG b.name n := fun ⟨b, hb, hn⟩ => hn (h1 b hb)
 have hmid : (if done = true ∧ vs ≠ [] then [(⟨n, bD vs⟩ : PAttr)] else []) = [] := if_neg fun ⟨h2, h3⟩ => (hd.1 h2).elim h3 hno
 have e1 := nR (pre := pre) (p := fun a => dec (bG n a.name)) fun b hb => ai (bY (h1 b hb))
 refine ⟨?_, ?_⟩
 ·unfold eU
  rw [hmid, List.filter_append, List.filter_append, e1]
  simp [au h, ai (bY h)]
 ·rw [hd]
  constructor
  ·rintro (h2 | ⟨b, hb, hn⟩)
   ·exact .inl h2
   ·exact absurd (h1 b hb) hn
  ·rintro (h2 | ⟨b, hb, hn⟩)
   ·exact .inl h2
   ·rcases List.mem_append.1 hb with hb | hb
    ·exact absurd (h1 b hb) hn
    ·simp at hb; subst hb; exact absurd h hn
theorem put_eq (hs : ∀ b ∈ pre, bG b.name a.name) (hd : done = true ↔ vs = [] ∨ ∃ b ∈ pre, ¬ bG b.name n) (h : a.name = n) :
  (done = true → vs = []) ∧ eU pre n vs done ++ (if done = true then [] else [⟨n, bD vs⟩]) = eU (pre ++ [a]) n vs true := by
 have h1 : ∀ b ∈ pre, bG b.name n := fun b hb => h ▸ hs b hb
 have hno : ¬ ∃ b ∈ pre, ¬ bG b.name n := fun ⟨b, hb, hn⟩ => hn (h1 b hb)
 have hv : done = true → vs = [] := fun h2 => (hd.1 h2).elim id fun h3 => absurd h3 hno
 have e1 := nR (pre := pre) (p := fun a => dec (bG n a.name)) fun b hb => ai (bY (h1 b hb))
 refine ⟨hv, ?_⟩
 unfold eU
 rw [List.filter_append, List.filter_append, e1]
 subst h
 cases done with
 | true => simp [hv rfl, ai (bC a.name)]
 | false =>
  have : vs ≠ [] := fun h2 => by have := hd.2 (.inl h2); cases this
  simp [this, ai (bC a.name)]
theorem Nj (hs : ∀ b ∈ pre, bG b.name a.name) (hd : done = true ↔ vs = [] ∨ ∃ b ∈ pre, ¬ bG b.name n) (h : bG n a.name) :
  (eU pre n vs done ++ (if done = true then [] else [⟨n, bD vs⟩])) ++ [a] = eU (pre ++ [a]) n vs true := by
 unfold eU
 rw [List.filter_append, List.filter_append]
 cases done with
 | true => simp [au h, ai (bY h)]
 | false =>
  have h2 : vs ≠ [] := fun h2 => by have := hd.2 (.inl h2); cases this
  have h1 : ∀ b ∈ pre, bG b.name n := fun b hb => Classical.byContradiction fun hn => by have := hd.2 (.inr ⟨b, hb, hn⟩); cases this
  have e1 := nR (pre := pre) (p := fun a => dec (bG n a.name)) fun b hb => ai (bY (h1 b hb))
  rw [e1]
  simp [h2, au h, ai (bY h)]
theorem Ku (hd : done = true ↔ vs = [] ∨ ∃ b ∈ pre, ¬ bG b.name n) : eU pre n vs done ++ (if done = true then [] else [⟨n, bD vs⟩]) = aY pre n (bD vs) := by
 have hz : bD vs = [] ↔ vs = [] := by rw [← List.length_eq_zero_iff, jS, List.length_eq_zero_iff]
 unfold eU aY
 cases done with
 | true =>
  by_cases h2 : vs = []
  ·simp [h2, FY]
  ·simp [h2, hz]
 | false =>
  have h2 : vs ≠ [] := fun h2 => by have := hd.2 (.inl h2); cases this
  have h1 : ∀ b ∈ pre, bG b.name n := fun b hb => Classical.byContradiction fun hn => by have := hd.2 (.inr ⟨b, hb, hn⟩); cases this
  have e1 := nR (pre := pre) (p := fun a => dec (bG n a.name)) fun b hb => ai (bY (h1 b hb))
  rw [e1]
  simp [h2, hz]
end
theorem L9 {H : List Ob} {vd va vv : V} {e : PEntry} {n : Str} {vs : List Str} (hd : aX H vd e.dn) (ha : aC H va e.attrs) (hb : l7 e) (hp : e.attrs.Pairwise fun a b => a.name < b.name) (hn : n.length ≤ maxLen) (hv : AStrs H vv vs) (hvl : vs.length ≤ 1000) :
  ∃ T w1 w2, callW C 109 [.agg [vd, va], .str n, vv] H = some (.agg [w1, w2], H ++ T) ∧ At (H ++ T) bK [w1, w2] (o9 e n (bD vs)).u ∧ ¬ eF H w2 ∧ EnR H.length (H ++ T) w1 w2 (o9 e n (bD vs)) := by
 suffices hs : Ret C 109 [.agg [vd, va], .str n, vv] H fun q H' => ∃ T w1 w2, q = .agg [w1, w2] ∧ H' = H ++ T ∧ At (H ++ T) bK [w1, w2] (o9 e n (bD vs)).u ∧ ¬ eF H w2 ∧ EnR H.length (H ++ T) w1 w2 (o9 e n (bD vs)) by
  obtain ⟨q, H', hc, T, w1, w2, rfl, rfl, hr⟩ := hs
  exact ⟨T, w1, w2, hc, hr⟩
 rw [NF]
 have hod := hd.one
 have hoa := ha.one
 obtain ⟨T1, d1, a1, c1, n1⟩ := IY hd ha hb
 obtain ⟨K, hK⟩ : ∃ K, K = H ++ T1 := ⟨_, rfl⟩
 rw [← hK] at n1 c1
 obtain ⟨_, _, hcs, hd1, ha1⟩ := fC.1 n1.at
 cases hcs
 obtain ⟨T2, wv, c2, n2⟩ := MX (H := K ++ [.mk true 2 []]) (v := vv) (l := vs) (by rw [hK]; exact hv.ext.ext) hvl
 obtain ⟨K3, hK3⟩ : ∃ K3, K3 = K ++ [.mk true 2 []] ++ T2 := ⟨_, rfl⟩
 rw [← hK3] at n2 c2
 have hoD := hd1.one
 have hoA := ha1.one
 have hoV := New.one1 n2
 have hL0 : Lst K K3 shAttr PAttr.u (.slc (some (K.length, 0)) 0) [] := by
  rw [hK3]
  have h := Lst.init (B := K) (sh := shAttr) (f := PAttr.u)
  exact h.ext
 obtain ⟨F, f1, f2, f3⟩ := New.st (News.str hn (News.one n2 (by rw [hK3]; simp)))
 have fx : AtF K3 shAttr [.str n, wv] (⟨n, bD vs⟩ : PAttr).u F := f1
 have hvsI : ((vs.length : Int) = 0) = (vs = []) := by rw [← List.length_eq_zero_iff]; simp
 simp [EZ, Tryz.f109, c1, c2, hod, hoa, hoD, hoA, hoV, hv.len, aB, ay, ak, St.new, aV, aP, ah, hvsI]
 have hbl := hb.2.1
 refine aH (fun k σ => ∃ (i : Nat) (r : Nat → R) (G : List Ob) (w : V) (done : Bool), i + k = e.attrs.length ∧ σ = ⟨r, 4, G⟩ ∧ r 1 = .val (.str n) ∧ r 6 = .box 1 [.slc none 0, .slc none 0] ∧ r 7 = .box 2 [d1, a1] ∧ r 8 = .val w ∧ r 9 = .box 3 [.str n, wv] ∧ r 10 = .val (.bool done) ∧ r 11 = .val (.int .i64 i) ∧
  Lst K G shAttr PAttr.u w (eU (e.attrs.take i) n vs done) ∧ (done = true ↔ vs = [] ∨ ∃ b ∈ e.attrs.take i, ¬ bG b.name n) ∧ AtF G shAttr [.str n, wv] (⟨n, bD vs⟩ : PAttr).u F ∧ (∀ q ∈ F, ∀ m, w ≠ .slc (some (q, 0)) m) ∧ w ≠ .slc none 0) ?_ e.attrs.length _
  ⟨0, _, K3, .slc (some (K.length, 0)) 0, decide (vs = []), by simp, rfl, by simp, by simp, by simp, by simp, by simp, by simp, by simp, by simpa [eU] using hL0, by simp, fx, fun q hq m => by have := (f3 q hq).1; simp at this ⊢; omega, by simp⟩
 rintro k σ ⟨i, r, G, w, done, hik, rfl, r1, r6, r7, r8, r9, r10, r11, hG, hdone, hx, hxw, hwn⟩
 obtain ⟨S, hS⟩ := hG.pre
 have hwo := hG.one
 have haG : aC G a1 e.attrs := by rw [hS]; exact ha1.ext
 have hxc : [V.str n, wv].length = 2 := rfl
 have hpl : ∀ d, (eU (e.attrs.take i) n vs d).length ≤ 2097160 := fun d => by
  unfold eU
  have e1 := List.length_filter_le (fun a : PAttr => dec (bG a.name n)) (e.attrs.take i)
  have e2 := List.length_filter_le (fun a : PAttr => dec (bG n a.name)) (e.attrs.take i)
  have e3 := List.length_take_le i e.attrs
  have e4 : (if d = true ∧ vs ≠ [] then [(⟨n, bD vs⟩ : PAttr)] else []).length ≤ 1 := by split <;> simp
  simp only [List.length_append]
  omega
 have hmm : ∀ k : Nat, k ≤ 2097165 → k * 40 ≤ ax := fun k hk => by unfold ax; omega
 cases k with
 | zero =>
  have hi : i = e.attrs.length := by omega
  subst hi
  rw [List.take_length] at hG hdone hpl
  have hend := Ku hdone
  cases done with
  | true =>
   simp only [if_true, List.append_nil] at hend
   rw [hend] at hG
   have hb3 : (aY e.attrs n (bD vs)).length ≤ maxLen := by rw [← hend]; have := hpl true; unfold maxLen; omega
   have hat : At G bK [d1, w] (o9 e n (bD vs)).u := fC.2 ⟨d1, w, rfl, by rw [hS]; exact hd1.ext, hG.at hb3⟩
   have hnl : ¬ eF H w := hG.notlow hwn (by rw [hK]; simp)
   have hgc : eY H G (.agg [d1, w]) = G := eP fun h => hnl h.2.1
   simp [r1, r6, r7, r8, r9, r10, r11, haG.len, hgc, hoD, hoA, hwo]
   exact ⟨T1 ++ S, d1, w, ⟨rfl, rfl⟩, by rw [hS, hK]; simp, by rw [← List.append_assoc, ← hK, ← hS]; exact hat, hnl, by rw [← List.append_assoc, ← hK, ← hS]; exact (Lst.enr hG hd1).wide (by rw [hK]; simp)⟩
  | false =>
   simp only [Bool.false_eq_true, if_false] at hend
   obtain ⟨w', G', p1, hG', _, _, hw', hfr, _⟩ := hG.push (T := []) (x := ⟨n, bD vs⟩) (c := [.str n, wv]) (d := .struct [(0, 9), (1, 27)]) (by_ := 40) (z := [.str [], .slc none 0]) (sz := 2) (.inl ⟨F, by rw [List.append_nil]; exact hx, hxw⟩) rfl rfl (by decide) (by decide) (by decide) (hmm _ (by have := hpl false; omega))
   rw [hend] at hG'
   obtain ⟨S', hS'⟩ := hG'.pre
   have hwo' := hG'.one
   have hb3 : (aY e.attrs n (bD vs)).length ≤ maxLen := by rw [← hend]; have := hpl false; simp; unfold maxLen; omega
   have hat : At G' bK [d1, w'] (o9 e n (bD vs)).u := fC.2 ⟨d1, w', rfl, by rw [hS']; exact hd1.ext, hG'.at hb3⟩
   have hnl : ¬ eF H w' := hG'.notlow (by rw [hw']; simp) (by rw [hK]; simp)
   have hgc : eY H G' (.agg [d1, w']) = G' := eP fun h => hnl h.2.1
   simp only [List.append_nil] at p1
   simp [r1, r6, r7, r8, r9, r10, r11, haG.len, hgc, hoD, hoA, hoV, hwo, hwo', aB, ay, ak, St.new, p1]
   exact ⟨T1 ++ S', d1, w', ⟨rfl, rfl⟩, by rw [hS', hK]; simp, by rw [← List.append_assoc, ← hK, ← hS']; exact hat, hnl, by rw [← List.append_assoc, ← hK, ← hS']; exact (Lst.enr hG' hd1).wide (by rw [hK]; simp)⟩
 | succ k =>
  have hi : i < e.attrs.length := by omega
  obtain ⟨a, hxa⟩ : ∃ c, e.attrs[i]? = some c := ⟨e.attrs[i], by simp [hi]⟩
  have hw : IntKind.i64.wrap ((i : Int) + 1) = ((i : Int) + 1) := wrap_i64 (by omega) (by omega)
  have htk := fA hxa
  have hsort : ∀ b ∈ e.attrs.take i, bG b.name a.name := fun b hb => by
   obtain ⟨j, hj, rfl⟩ := List.getElem_of_mem hb
   have hj2 : j < i ∧ j < e.attrs.length := by rw [List.length_take] at hj; omega
   rw [List.getElem_take]
   obtain ⟨hi', rfl⟩ := List.getElem?_eq_some_iff.1 hxa
   exact (bi _ _).2 (List.pairwise_iff_getElem.1 hp j i hj2.2 hi hj2.1)
  obtain ⟨id, o, wx, ex, lx, hvx, hnx, hidx, hatx⟩ := dN ha1 hxa
  obtain ⟨l0, l1, l2⟩ := lx G ⟨_, hS⟩
  have hox := hvx.one
  rcases tN a.name n with hlt | heq | hgt
  ·obtain ⟨q1, q2⟩ := MP hsort hdone hlt
   obtain ⟨w', G', p1, hG', _, _, hw', hfr, _⟩ := hG.push (T := []) (x := a) (c := [.str a.name, wx]) (d := .struct [(0, 9), (1, 27)]) (by_ := 40) (z := [.str [], .slc none 0]) (sz := 2) (.inr hatx) rfl rfl (by decide) (by decide) (by decide) (hmm _ (by have := hpl done; omega))
   rw [q1, ← htk] at hG'
   rw [← htk] at q2
   rw [List.append_nil] at hw' hfr
   obtain ⟨k1, k2⟩ := lQ hx hxw hw' hfr
   simp only [List.append_nil] at p1
   have hne : ¬ a.name = n := fun e => bC _ (e ▸ hlt)
   cases done with
   | false =>
    simp [r1, r6, r7, r8, r9, r10, r11, hi, haG.len, ex, l0, l2, kE (bY hlt), hne, hoD, hoA, hoV, hox, aB, ay, ak, St.new, p1, hw]
    exact ⟨k, by omega, i + 1, by omega, _, _, ⟨rfl, rfl⟩, by simp [r1], by simp [r6], by simp [r7], w', by simp, by simp [r9], .inl ⟨by simp [r10], by simp, hG', by simpa using q2, k1, k2, by rw [hw']; simp⟩⟩
   | true =>
    simp [r1, r6, r7, r8, r9, r10, r11, hi, haG.len, ex, l0, l2, kE (bY hlt), hne, hoD, hoA, hoV, hox, aB, ay, ak, St.new, p1, hw]
    exact ⟨k, by omega, i + 1, by omega, _, _, ⟨rfl, rfl⟩, by simp [r1], by simp [r6], by simp [r7], w', by simp, by simp [r9], .inr ⟨by simp [r10], by simp, hG', by simpa using q2, k1, k2, by rw [hw']; simp⟩⟩
  ·obtain ⟨q1, q2⟩ := put_eq hsort hdone heq
   have hdone' : true = true ↔ vs = [] ∨ ∃ b ∈ e.attrs.take (i + 1), ¬ bG b.name n := ⟨fun _ => .inr ⟨a, by rw [htk]; simp, by rw [heq]; exact bC n⟩, fun _ => rfl⟩
   cases done with
   | true =>
    simp only [if_true, List.append_nil] at q2
    rw [q2, ← htk] at hG
    simp [r1, r6, r7, r8, r9, r10, r11, hi, haG.len, ex, l0, l2, heq, kE (bC n), hoD, hoA, hoV, hox, hw]
    exact ⟨k, by omega, i + 1, by omega, _, _, ⟨rfl, rfl⟩, by simp [r1], by simp [r6], by simp [r7], w, by simp [r8], by simp [r9], .inr ⟨by simp [r10], by simp, hG, by simpa using hdone', hx, hxw, hwn⟩⟩
   | false =>
    simp only [Bool.false_eq_true, if_false] at q2
    obtain ⟨w', G', p1, hG', _, _, hw', hfr, _⟩ := hG.push (T := []) (x := ⟨n, bD vs⟩) (c := [.str n, wv]) (d := .struct [(0, 9), (1, 27)]) (by_ := 40) (z := [.str [], .slc none 0]) (sz := 2) (.inl ⟨F, by rw [List.append_nil]; exact hx, hxw⟩) rfl rfl (by decide) (by decide) (by decide) (hmm _ (by have := hpl false; omega))
    rw [q2, ← htk] at hG'
    rw [List.append_nil] at hw' hfr
    obtain ⟨k1, k2⟩ := lQ hx hxw hw' hfr
    simp only [List.append_nil] at p1
    simp [r1, r6, r7, r8, r9, r10, r11, hi, haG.len, ex, l0, l2, heq, kE (bC n), hoD, hoA, hoV, hox, aB, ay, ak, St.new, p1, hw]
    exact ⟨k, by omega, i + 1, by omega, _, _, ⟨rfl, rfl⟩, by simp [r1], by simp [r6], by simp [r7], w', by simp, by simp [r9], .inr ⟨by simp, by simp, hG', by simpa using hdone', k1, k2, by rw [hw']; simp⟩⟩
  ·have q2 := Nj hsort hdone hgt
   have hne : ¬ a.name = n := fun e => bC _ (e ▸ hgt)
   have hdone' : true = true ↔ vs = [] ∨ ∃ b ∈ e.attrs.take (i + 1), ¬ bG b.name n := ⟨fun _ => .inr ⟨a, by rw [htk]; simp, bY hgt⟩, fun _ => rfl⟩
   cases done with
   | true =>
    simp only [if_true, List.append_nil] at q2
    obtain ⟨w', G', p1, hG', _, _, hw', hfr, _⟩ := hG.push (T := []) (x := a) (c := [.str a.name, wx]) (d := .struct [(0, 9), (1, 27)]) (by_ := 40) (z := [.str [], .slc none 0]) (sz := 2) (.inr hatx) rfl rfl (by decide) (by decide) (by decide) (hmm _ (by have := hpl true; omega))
    rw [q2, ← htk] at hG'
    rw [List.append_nil] at hw' hfr
    obtain ⟨k1, k2⟩ := lQ hx hxw hw' hfr
    simp only [List.append_nil] at p1
    simp [r1, r6, r7, r8, r9, r10, r11, hi, haG.len, ex, l0, l2, hne, hoD, hoA, hoV, hox, aB, ay, ak, St.new, p1, hw]
    exact ⟨k, by omega, i + 1, by omega, _, _, ⟨rfl, rfl⟩, by simp [r1], by simp [r6], by simp [r7], w', by simp, by simp [r9], .inr ⟨by simp [r10], by simp, hG', by simpa using hdone', k1, k2, by rw [hw']; simp⟩⟩
   | false =>
    simp only [Bool.false_eq_true, if_false] at q2
    obtain ⟨w', G', p1, hG', _, _, hw', hfr, _⟩ := hG.push (T := []) (x := ⟨n, bD vs⟩) (c := [.str n, wv]) (d := .struct [(0, 9), (1, 27)]) (by_ := 40) (z := [.str [], .slc none 0]) (sz := 2) (.inl ⟨F, by rw [List.append_nil]; exact hx, hxw⟩) rfl rfl (by decide) (by decide) (by decide) (hmm _ (by have := hpl false; omega))
    rw [List.append_nil] at hw' hfr
    obtain ⟨k1, k2⟩ := lQ hx hxw hw' hfr
    obtain ⟨S', hS'⟩ := hG'.pre
    have haG' : aC G' a1 e.attrs := by rw [hS']; exact ha1.ext
    obtain ⟨l0', l1', l2'⟩ := lx G' ⟨_, hS'⟩
    obtain ⟨w'', G'', p2, hG'', _, _, hw'', hfr', _⟩ := hG'.push (T := []) (x := a) (c := [.str a.name, wx]) (d := .struct [(0, 9), (1, 27)]) (by_ := 40) (z := [.str [], .slc none 0]) (sz := 2) (.inr hatx) rfl rfl (by decide) (by decide) (by decide) (hmm _ (by have := hpl false; simp; omega))
    rw [q2, ← htk] at hG''
    rw [List.append_nil] at hw'' hfr'
    obtain ⟨k3, k4⟩ := lQ k1 k2 hw'' hfr'
    simp only [List.append_nil] at p1 p2
    simp [r1, r6, r7, r8, r9, r10, r11, hi, haG.len, haG'.len, ex, l0, l2, l0', l2', hne, mM hgt, hoD, hoA, hoV, hox, aB, ay, ak, St.new, p1, p2, hw]
    exact ⟨k, by omega, i + 1, by omega, _, _, ⟨rfl, rfl⟩, by simp [r1], by simp [r6], by simp [r7], w'', by simp, by simp [r9], .inr ⟨by simp, by simp, hG'', by simpa using hdone', k3, k4, by rw [hw'']; simp⟩⟩
theorem EntryOk.small {e : PEntry} (h : EntryOk e) : l7 e := by
 obtain ⟨_, h1, h2⟩ := h
 refine ⟨by have := h1.2; omega, by have := h2.2; omega, fun a ha => ?_⟩
 obtain ⟨j, hj, rfl⟩ := List.getElem_of_mem ha
 have := (h2.1 j _ (List.getElem?_eq_getElem hj)).2.2.2.2
 omega
theorem EntryOk.rise {e : PEntry} (h : EntryOk e) : e.attrs.Pairwise fun a b => a.name < b.name := lW (fun j x hx => (h.2.2.1 j x hx).2.1)
theorem KT {H : List Ob} {c : Int} (h : (Lit.int .i64 c).wf = true) : At H fQ [.slc none 0, .slc none 0, .int .i64 c] (gz c).u :=
 dS.2 ⟨_, _, rfl, aG.2 ⟨_, _, rfl, rfl, by simp [gz], .inl ⟨rfl, rfl⟩⟩, aG.2 ⟨_, _, rfl, rfl, by simp [gz], .inl ⟨rfl, rfl⟩⟩, h⟩
def EOut (H : List Ob) (o : PEntryOut) (q : V) (H' : List Ob) : Prop := ∃ T w1 w2, q = .agg [w1, w2, .int .i64 o.code] ∧ H' = H ++ T ∧ At (H ++ T) fQ [w1, w2, .int .i64 o.code] o.u ∧ eY H (H ++ T) (.agg [w1, w2, .int .i64 o.code]) = H ++ T ∧ (o.code = 0 → ¬ eF H w2) ∧ (o.code ≠ 0 → w1 = .slc none 0 ∧ w2 = .slc none 0 ∧ T = []) ∧ (o.code = 0 → EnR H.length (H ++ T) w1 w2 o.entry)
theorem EOut.ill {H : List Ob} {c : Int} (h : (Lit.int .i64 c).wf = true ∧ c ≠ 0) : EOut H (gz c) (.agg [.slc none 0, .slc none 0, .int .i64 c]) H :=
 ⟨[], .slc none 0, .slc none 0, rfl, by simp, by rw [List.append_nil]; exact KT h.1, by rw [List.append_nil]; exact qI, fun hc => absurd hc h.2, fun _ => ⟨rfl, rfl, rfl⟩, fun hc => absurd hc h.2⟩
theorem Oy {H : List Ob} {vd va vv : V} {e : PEntry} {n : Str} {vs : List Str} (hd : aX H vd e.dn) (ha : aC H va e.attrs) (hb : l7 e) (hp : e.attrs.Pairwise fun a b => a.name < b.name) (hn : n.length ≤ maxLen) (hv : AStrs H vv vs) (hvl : vs.length ≤ 1000) :
  ∃ q H', callW C 95 [.agg [vd, va], .str n, vv] H = some (q, H') ∧ EOut H (fJ e n vs) q H' := by
 suffices hs : Ret C 95 [.agg [vd, va], .str n, vv] H fun q H' => EOut H (fJ e n vs) q H' by
  obtain ⟨q, H', hc, hr⟩ := hs
  exact ⟨q, H', hc, hr⟩
 rw [SH]
 have hod := hd.one
 have hoa := ha.one
 obtain ⟨r, c1, hr⟩ := MV (t := n) ha hod.2
 have c2 := uT (H := H) (c := 9)
 by_cases g : vs ≠ [] ∧ 8 ≤ e.attrs.length ∧ bT PAttr.name e.attrs n = none
 ·have hz : 0 < vs.length := List.length_pos_iff.2 g.1
  have hz' : ¬ vs = [] := g.1
  have h8 : (8 : Int) ≤ e.attrs.length := by have := g.2.1; omega
  have hr0 : r = -1 := by
   rcases hr.pos with ⟨k, a, h1, h2, h3⟩ | ⟨h1, _⟩
   ·rw [g.2.2] at h3; cases h3
   ·exact h1
  subst hr0
  have hpo : fJ e n vs = gz 9 := if_pos g
  rw [hpo]
  simp [wB, Tryz.f95, c1, c2, hod, hoa, hv.len, ha.len, hz, h8]
  exact EOut.ill (by decide)
 ·have hpo : fJ e n vs = ⟨o9 e n (bD vs), 0⟩ := if_neg g
  obtain ⟨T, w1, w2, c3, hat, hnl, hen⟩ := L9 hd ha hb hp hn hv hvl
  obtain ⟨v1, v2, hcs, a1, a2⟩ := fC.1 hat
  cases hcs
  have ho1 := a1.one
  have ho2 := a2.one
  have hgc : eY H (H ++ T) (.agg [w1, w2, .int .i64 0]) = H ++ T := eP fun h => hnl h.2.1
  rw [hpo]
  have fin : EOut H ⟨o9 e n (bD vs), 0⟩ (.agg [w1, w2, .int .i64 0]) (H ++ T) := ⟨T, w1, w2, rfl, rfl, dS.2 ⟨_, _, rfl, a1, a2, show (Lit.int .i64 0).wf = true by decide⟩, hgc, fun _ => hnl, fun h => absurd rfl h, fun _ => hen⟩
  by_cases g1 : vs = []
  ·subst g1
   simp [wB, Tryz.f95, c1, c2, c3, hod, hoa, hv.len, ha.len, aP, ah, ay, ho1, ho2, hgc]
   exact fin
  have hz : 0 < vs.length := List.length_pos_iff.2 g1
  by_cases g2 : 8 ≤ e.attrs.length
  ·have h8 : (8 : Int) ≤ e.attrs.length := by omega
   have hr0 : ¬ r < 0 := by
    rcases hr.pos with ⟨k, a, h1, h2, h3⟩ | ⟨h1, h3⟩
    ·omega
    ·exact absurd ⟨g1, g2, h3⟩ g
   simp [wB, Tryz.f95, c1, c2, c3, hod, hoa, hv.len, ha.len, hz, h8, hr0, aP, ah, ay, ho1, ho2, hgc]
   exact fin
  ·have h8 : ¬ (8 : Int) ≤ e.attrs.length := by omega
   simp [wB, Tryz.f95, c1, c2, c3, hod, hoa, hv.len, ha.len, hz, h8, aP, ah, ay, ho1, ho2, hgc]
   exact fin
theorem FP {H : List Ob} {vd va vv : V} {e : PEntry} {n : Str} {vs : List Str} (hd : aX H vd e.dn) (ha : aC H va e.attrs) (hn : n.length ≤ maxLen) (hv : AStrs H vv vs) :
  ∃ q H', callW C 14 [.agg [vd, va], .str n, vv] H = some (q, H') ∧ EOut H (aT e n vs) q H' := by
 suffices hs : Ret C 14 [.agg [vd, va], .str n, vv] H fun q H' => EOut H (aT e n vs) q H' by
  obtain ⟨q, H', hc, hr⟩ := hs
  exact ⟨q, H', hc, hr⟩
 rw [SV]
 have hod := hd.one
 have hoa := ha.one
 have c1 := uT (H := H) (c := 2)
 have c2 := uT (H := H) (c := 1)
 have c3 := nS hd ha
 have c4 := uX (t := n) (H := H)
 have c5 := PD hv
 by_cases g1 : 8000 < n.length ∨ 400 < vs.length
 ·have ho : aT e n vs = gz 2 := if_pos g1
  rw [ho]
  by_cases g2 : 8000 < n.length
  ·have g2' : (8000 : Int) < n.length := by omega
   simp [oV, Tryz.f14, c1, hod, hoa, hv.len, g2']
   exact EOut.ill (by decide)
  ·have g2' : ¬ (8000 : Int) < n.length := by omega
   have g3' : (400 : Int) < vs.length := by omega
   simp [oV, Tryz.f14, c1, hod, hoa, hv.len, g2', g3']
   exact EOut.ill (by decide)
 ·have g2' : ¬ (8000 : Int) < n.length := by omega
  have g3' : ¬ (400 : Int) < vs.length := by omega
  have ho0 : aT e n vs = if dec (EntryOk e ∧ aF n ∧ gm vs) = true then fJ e n vs else gz 1 := if_neg g1
  have hill : ¬ (EntryOk e ∧ aF n ∧ gm vs) → aT e n vs = gz 1 := fun h => by rw [ho0, ai h]; rfl
  by_cases h1 : EntryOk e
  rotate_left
  ·rw [ai h1] at c3
   rw [hill fun h => h1 h.1]
   simp [oV, Tryz.f14, c2, c3, hod, hoa, hv.len, g2', g3']
   exact EOut.ill (by decide)
  rw [au h1] at c3
  by_cases h2 : aF n
  rotate_left
  ·rw [ai h2] at c4
   rw [hill fun h => h2 h.2.1]
   simp [oV, Tryz.f14, c2, c3, c4, hod, hoa, hv.len, g2', g3']
   exact EOut.ill (by decide)
  rw [au h2] at c4
  by_cases h3 : gm vs
  rotate_left
  ·rw [ai h3] at c5
   rw [hill fun h => h3 h.2.2]
   simp [oV, Tryz.f14, c2, c3, c4, c5, hod, hoa, hv.len, g2', g3']
   exact EOut.ill (by decide)
  rw [au h3] at c5
  have ho : aT e n vs = fJ e n vs := by rw [ho0, au ⟨h1, h2, h3⟩]; rfl
  rw [ho]
  obtain ⟨q, H', c6, T, w1, w2, rfl, rfl, hat, hgc, hnl⟩ := Oy hd ha (EntryOk.small h1) (EntryOk.rise h1) hn hv (by omega)
  obtain ⟨_, _, hcs, a1, a2, hwf⟩ := dS.1 hat
  cases hcs
  have ho1 := a1.one
  have ho2 := a2.one
  simp [oV, Tryz.f14, c3, c4, c5, c6, hod, hoa, hv.len, g2', g3', ho1, ho2, hgc]
  exact ⟨T, w1, w2, rfl, rfl, hat, hgc, hnl⟩
end Go.Proofs.Try1
end
