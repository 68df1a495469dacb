/- Part 11 of the proof of a law: the interpreter, its soundness, and what functions of the program compute over it. Conditions: none but those that each theorem names. -/
import Derived.Test.YtamgeahibepfnaaGreatDoorM10
import Derived.Test.YtamgeahibepfnaaGreatDoorM05
import Derived.Test.YtamgeahibepfnaaGreatDoorM08

set_option linter.all false
set_option maxRecDepth 20000
set_option maxHeartbeats 40000000
section
namespace Go.Proofs.Try1
open Go Go.Lite
theorem zq {a b : Str} {H : List Ob} : callW C 382 [.str a, .str b] H = some (.int .i64 (Lib.compareBytes a b), H) :=
 gX (pr := qg) rfl
theorem kV {a b : Str} {H : List Ob} : callW C 349 [.str a, .str b] H = some (.int .i64 (Lib.compareBytes a b), H) := by
 apply Ret.eq
 rw [QN]
 simp [pG, Tryz.f349, zq]
theorem xw {a b : Str} {H : List Ob} : callW C 313 [.str a, .str b] H = some (.int .i64 (Lib.compareBytes a b), H) := by
 apply Ret.eq
 rw [Rq]
 simp [pJ, Tryz.f313, kV]
theorem i_byNorm {a b : Str} {H : List Ob} : callW C 238 [.str a, .str b] H = some (.int .i64 (Lib.compareBytes (norm a) (norm b)), H) := by
 apply Ret.eq
 rw [RJ]
 have c1 := kC (t := a) (H := H)
 have c2 := kC (t := b) (H := H)
 simp [pW, Tryz.f238, c1, c2, xw]
theorem KC : ∀ (a b : Str), (Lib.compareBytes a b < 0 ↔ cO a b) ∧ (Lib.compareBytes a b = 0 ↔ a = b)
 | [], [] => by simp [Lib.compareBytes, cO, Op.bytesLess]
 | [], _ :: _ => by simp [Lib.compareBytes, cO, Op.bytesLess]
 | _ :: _, [] => by simp [Lib.compareBytes, cO, Op.bytesLess]
 | a :: as', b :: bs => by
  obtain ⟨h1, h2⟩ := KC as' bs
  unfold cO at h1 ⊢
  simp only [Lib.compareBytes, Op.bytesLess]
  by_cases g1 : a < b
  ·have : a ≠ b := fun h => by subst h; exact absurd g1 (by simp)
   simp [g1, this]
  ·by_cases g2 : b < a
   ·have : a ≠ b := fun h => by subst h; exact absurd g2 (by simp)
    simp [g1, g2, this]
   ·have : a = b := UInt8.toNat_inj.1 (by rw [UInt8.lt_iff_toNat_lt] at g1 g2; omega)
    subst this
    simp [h1, h2]
theorem UT {H : List Ob} {v : V} {l : List Str} (h : AStrs H v l) : callW C 237 [v] H = some (.int .i64 l.length, H) := by
 apply Ret.eq
 rw [aeM]
 simp [FI, Tryz.f237, h.len]
theorem NT {a b c : Int} {H : List Ob} : callW C 178 [.int .i64 a, .int .i64 b, .int .i64 c] H = some (.bool (decide (b ≤ a ∧ a ≤ c)), H) := by
 apply Ret.eq
 rw [ad8]
 by_cases g1 : b ≤ a
 ·by_cases g2 : a ≤ c <;> simp [yC, Tryz.f178, g1, g2]
 ·simp [yC, Tryz.f178, g1]
theorem U2 {H : List Ob} {n : Str} {v : V} {l : List Str} (h : AStrs H v l) : callW C 146 [.agg [.str n, v]] H = some (.bool (dec (aX n ∧ bT l)), H) := by
 apply Ret.dec
 rw [adt]
 have c1 := FT (t := n) (H := H)
 have c2 := UT h
 have c3 := NT (a := l.length) (b := 1) (c := 4) (H := H)
 have hb : l.length ≤ 9223372036854775807 := h.bound
 by_cases g1 : aX n
 rotate_left
 ·rw [au g1] at c1
  simp [uy, Tryz.f146, c1, g1, h.one]
 rw [aj g1] at c1
 by_cases g2 : (1 : Int) ≤ l.length ∧ (l.length : Int) ≤ 4
 rotate_left
 ·rw [decide_eq_false g2] at c3
  have hn : ¬ bT l := fun h => g2 ⟨by have := h.2.1; omega, by have := h.2.2; omega⟩
  simp [uy, Tryz.f146, c1, c2, c3, hn, h.one]
 rw [decide_eq_true g2] at c3
 simp [uy, Tryz.f146, c1, c2, c3, h.one, h.len]
 refine aB (fun k σ => ∃ (i : Nat) (r : Nat → R), i + k = l.length ∧ σ = ⟨r, 1, H⟩ ∧ r 1 = .box 0 [.str n, v] ∧ r 17 = .val v ∧ r 18 = .val (.int .i64 l.length) ∧ r 19 = .val (.int .i64 i) ∧ ∀ j x, j < i → l[j]? = some x → bf x ∧ bV norm l j x) ?_ l.length _ ⟨0, _, by simp, rfl, by simp, by simp, by simp, by simp, by simp⟩
 rintro k σ ⟨i, r, hik, rfl, r1, r17, r18, r19, hall⟩
 cases k with
 | zero =>
  have hi : i = l.length := by omega
  subst hi
  have hx := fF (P := fun j (x : Str) => bf x ∧ bV norm l j x) hall
  have hv : bT l := ⟨hx, by omega, by omega⟩
  simp [r1, r17, r18, r19, g1, hv]
 | succ k =>
  have hi : i < l.length := by omega
  obtain ⟨x, hx⟩ : ∃ c, l[i]? = some c := ⟨l[i], by simp [hi]⟩
  have hw : IntKind.i64.wrap ((i : Int) + 1) = ((i : Int) + 1) := wrap_i64 (by omega) (by omega)
  obtain ⟨id, o, e1, l0, _⟩ := dG h hx
  have c4 := DD (t := x) (H := H)
  have hstep := fun h => dC (P := fun j (x : Str) => bf x ∧ bV norm l j x) hall hx h
  by_cases g3 : bf x
  rotate_left
  ·rw [au g3] at c4
   have hn : ¬ bT l := fun hd => g3 (hd.1 i x hx).1
   simp [r1, r17, r18, r19, hi, e1, l0, c4, hn]
  rw [aj g3] at c4
  by_cases hi0 : i = 0
  ·have := hstep ⟨g3, fun y hy => by omega⟩
   subst hi0
   simp at e1
   simp [r1, r17, r18, r19, hi, e1, l0, c4]
   exact ⟨k, by omega, 1, by omega, by omega, this⟩
  have hip : 0 < i := by omega
  obtain ⟨y, hy⟩ : ∃ c, l[i - 1]? = some c := ⟨l[i - 1]'(by omega), by simp⟩
  obtain ⟨id', o', e1', l0', _⟩ := dG h hy
  have hw1 : IntKind.i64.wrap ((i : Int) - 1) = ((i - 1 : Nat) : Int) := by rw [wrap_i64 (by omega) (by omega)]; omega
  have c5 := i_byNorm (a := y) (b := x) (H := H)
  by_cases g4 : cO (norm y) (norm x)
  ·have := hstep ⟨g3, fun z _ hz => by rw [hy] at hz; cases hz; exact g4⟩
   have g5 : ¬ (0 ≤ Lib.compareBytes (norm y) (norm x)) := by have := (KC (norm y) (norm x)).1.2 g4; omega
   simp [r1, r17, r18, r19, hi, e1, l0, c4, e1', l0', hw, hw1, hip, c5, g5]
   exact ⟨k, by omega, i + 1, by omega, by omega, this⟩
  ·have g5 : 0 ≤ Lib.compareBytes (norm y) (norm x) := by have := mt (KC (norm y) (norm x)).1.1 g4; omega
   have hn : ¬ bT l := fun hd => g4 ((hd.1 i x hx).2 y hip hy)
   simp [r1, r17, r18, r19, hi, e1, l0, c4, e1', l0', hw, hw1, hip, c5, g5, hn]
theorem SG {H : List Ob} {v : V} {l : List Str} (h : AStrs H v l) : callW C 66 [v] H = some (.bool (dec (eG l)), H) := by
 apply Ret.dec
 rw [akG]
 have hb : l.length ≤ 9223372036854775807 := h.bound
 simp [Ko, Tryz.f66, h.len]
 refine aB (fun k σ => ∃ (i : Nat) (r : Nat → R), i + k = l.length ∧ σ = ⟨r, 0, H⟩ ∧ r 0 = .val v ∧ r 5 = .val v ∧ r 6 = .val (.int .i64 l.length) ∧ r 7 = .val (.int .i64 i) ∧ ∀ j x, j < i → l[j]? = some x → aX x ∧ bV (fun x => x) l j x) ?_ l.length _ ⟨0, _, by simp, rfl, by simp, by simp, by simp, by simp, by simp⟩
 rintro k σ ⟨i, r, hik, rfl, r0, r5, r6, r7, hall⟩
 cases k with
 | zero =>
  have hi : i = l.length := by omega
  subst hi
  have hx : eG l := fF (P := fun j (x : Str) => aX x ∧ bV (fun x => x) l j x) hall
  simp [r0, r5, r6, r7, hx]
 | succ k =>
  have hi : i < l.length := by omega
  obtain ⟨x, hx⟩ : ∃ c, l[i]? = some c := ⟨l[i], by simp [hi]⟩
  have hw : IntKind.i64.wrap ((i : Int) + 1) = ((i : Int) + 1) := wrap_i64 (by omega) (by omega)
  obtain ⟨id, o, e1, l0, _⟩ := dG h hx
  have c1 := FT (t := x) (H := H)
  have hstep := fun h => dC (P := fun j (x : Str) => aX x ∧ bV (fun x => x) l j x) hall hx h
  by_cases g1 : aX x
  rotate_left
  ·rw [au g1] at c1
   have hn : ¬ eG l := fun hd => g1 (hd i x hx).1
   simp [r0, r5, r6, r7, hi, e1, l0, c1, hn]
  rw [aj g1] at c1
  by_cases hi0 : i = 0
  ·have := hstep ⟨g1, fun y hy => by omega⟩
   subst hi0
   simp at e1
   simp [r0, r5, r6, r7, hi, e1, l0, c1]
   exact ⟨k, by omega, 1, by omega, by omega, this⟩
  have hip : 0 < i := by omega
  obtain ⟨y, hy⟩ : ∃ c, l[i - 1]? = some c := ⟨l[i - 1]'(by omega), by simp⟩
  obtain ⟨id', o', e1', l0', _⟩ := dG h hy
  have hw1 : IntKind.i64.wrap ((i : Int) - 1) = ((i - 1 : Nat) : Int) := by rw [wrap_i64 (by omega) (by omega)]; omega
  by_cases g2 : cO y x
  ·have := hstep ⟨g1, fun z _ hz => by rw [hy] at hz; cases hz; exact g2⟩
   simp [r0, r5, r6, r7, hi, e1, l0, c1, e1', l0', hw, hw1, hip, iJ g2]
   exact ⟨k, by omega, i + 1, by omega, by omega, this⟩
  ·have hn : ¬ eG l := fun hd => g2 ((hd i x hx).2 y hip hy)
   simp [r0, r5, r6, r7, hi, e1, l0, c1, e1', l0', hw, hw1, hip, iH g2, hn]
theorem Ti {H : List Ob} {v w : V} {e : PEntry} (h1 : bH H v e.dn) (h2 : bK H w e.attrs) : callW C 65 [.agg [v, w]] H = some (.bool (dec (EntryOk e)), H) := by
 apply Ret.dec
 rw [akH]
 have c1 := Ve h1
 have hb : e.attrs.length ≤ 9223372036854775807 := h2.bound
 by_cases g0 : e.dn.length = 0
 ·have hn : ¬ EntryOk e := fun h => by have := h.1; omega
  simp [xg, Tryz.f65, h1.len, g0, hn, h1.one, h2.one]
 have g0' : ¬ (e.dn.length : Int) = 0 := by omega
 by_cases g1 : DnOk e.dn
 rotate_left
 ·rw [au g1] at c1
  have hn : ¬ EntryOk e := fun h => g1 h.2.1
  simp [xg, Tryz.f65, h1.len, g0, c1, hn, h1.one, h2.one]
 rw [aj g1] at c1
 by_cases g2 : (e.attrs.length : Int) > 8
 ·have hn : ¬ EntryOk e := fun h => by have := h.2.2.2; omega
  simp [xg, Tryz.f65, h1.len, h2.len, g0, g2, c1, hn, h1.one, h2.one]
 simp [xg, Tryz.f65, h1.len, h2.len, g0, g2, c1, h1.one, h2.one]
 refine aB (fun k σ => ∃ (i n : Nat) (r : Nat → R), i + k = e.attrs.length ∧ σ = ⟨r, n, H⟩ ∧ r 1 = .box 0 [v, w] ∧ 1 ≤ n ∧ r 22 = .val w ∧ r 23 = .val (.int .i64 e.attrs.length) ∧ r 24 = .val (.int .i64 i) ∧ ∀ j x, j < i → e.attrs[j]? = some x → aX x.name ∧ bV PAttr.name e.attrs j x ∧ bT x.vals) ?_ e.attrs.length _ ⟨0, 1, _, by simp, rfl, by simp, by omega, by simp, by simp, by simp, by simp⟩
 rintro k σ ⟨i, n, r, hik, rfl, r1, hn1, r22, r23, r24, hall⟩
 cases k with
 | zero =>
  have hi : i = e.attrs.length := by omega
  subst hi
  have hx := fF (P := fun j (x : PAttr) => aX x.name ∧ bV PAttr.name e.attrs j x ∧ bT x.vals) hall
  have hv : EntryOk e := ⟨by omega, g1, hx, by omega⟩
  simp [r1, r22, r23, r24, hv]
 | succ k =>
  have hi : i < e.attrs.length := by omega
  obtain ⟨x, hx⟩ : ∃ c, e.attrs[i]? = some c := ⟨e.attrs[i], by simp [hi]⟩
  have hw : IntKind.i64.wrap ((i : Int) + 1) = ((i : Int) + 1) := wrap_i64 (by omega) (by omega)
  obtain ⟨id, o, w', e1, l0, l1, l2, hvs, _⟩ := fB h2 hx
  have c2 := U2 (n := x.name) hvs
  have hstep := fun h => dC (P := fun j (x : PAttr) => aX x.name ∧ bV PAttr.name e.attrs j x ∧ bT x.vals) hall hx h
  by_cases g3 : aX x.name ∧ bT x.vals
  rotate_left
  ·rw [au g3] at c2
   have hn : ¬ EntryOk e := fun hd => g3 ⟨(hd.2.2.1 i x hx).1, (hd.2.2.1 i x hx).2.2⟩
   simp [r1, r22, r23, r24, hi, e1, l2, c2, hn, hvs.one, ae]
  rw [aj g3] at c2
  by_cases hi0 : i = 0
  ·have := hstep ⟨g3.1, fun y hy => by omega, g3.2⟩
   subst hi0
   simp at e1
   simp [r1, r22, r23, r24, hi, e1, l2, c2, hvs.one, ae]
   exact ⟨k, by omega, 1, by omega, n + 1, _, ⟨rfl, rfl⟩, by simp [r1], by omega, by simp [r22], by simp [r23], by simp, this⟩
  have hip : 0 < i := by omega
  obtain ⟨y, hy⟩ : ∃ c, e.attrs[i - 1]? = some c := ⟨e.attrs[i - 1]'(by omega), by simp⟩
  obtain ⟨id', o', _, e1', l0', _⟩ := fB h2 hy
  have hw1 : IntKind.i64.wrap ((i : Int) - 1) = ((i - 1 : Nat) : Int) := by rw [wrap_i64 (by omega) (by omega)]; omega
  by_cases g4 : cO y.name x.name
  ·have := hstep ⟨g3.1, fun z _ hz => by rw [hy] at hz; cases hz; exact g4, g3.2⟩
   simp [r1, r22, r23, r24, hi, e1, l2, c2, e1', l0', hw, hw1, hip, iJ g4, hvs.one, ae]
   exact ⟨k, by omega, i + 1, by omega, n + 1, _, ⟨rfl, rfl⟩, by simp [r1], by omega, by simp [r22], by simp [r23], by simp, this⟩
  ·have hn : ¬ EntryOk e := fun hd => g4 ((hd.2.2.1 i x hx).2.1 y hip hy)
   simp [r1, r22, r23, r24, hi, e1, l2, c2, e1', l0', hw, hw1, hip, iH g4, hvs.one, ae, hn]
def Own (H G : List Ob) (w : V) (l : List Str) : Prop := (w = .slc none 0 ∧ l = []) ∨ Gs H G w (l.map V.str)
theorem pX {H T : List Ob} {v : V} {l : List Str} (h : AStrs H v l) : ∃ p, v = .slc p l.length ∧ bg (H ++ T) p l.length = some (l.map V.str) ∧ (p = none → l = []) ∧ ∀ id off, p = some (id, off) → oz H id := by
 rcases h.sl with ⟨rfl, hl⟩ | ⟨id, off, own, cells, rfl, h2, h3, h4⟩
 ·have : l = [] := by simpa using hl
  subst this
  exact ⟨none, rfl, rfl, fun _ => rfl, fun _ _ h => by cases h⟩
 ·rw [List.length_map] at h3 ⊢
  refine ⟨some (id, off), rfl, ?_, (fun h => by cases h), (fun id' off' h => by cases h; exact ⟨_, _, _, h2⟩)⟩
  by_cases h0 : l.length = 0
  ·have : l = [] := List.length_eq_zero_iff.1 h0
   subst this
   rfl
  ·simp only [bg, aZ _ _ h2, if_neg h0]
   unfold dS
   simp only [Sh.size_str, Nat.mul_one] at h3 h4
   rw [if_pos h3]
   congr 1
   apply List.ext_getElem?
   intro j
   by_cases hj : j < l.length
   ·rw [List.getElem?_take_of_lt hj, List.getElem?_drop, List.getElem?_map]
    obtain ⟨s, hs⟩ : ∃ s, l[j]? = some s := ⟨l[j], List.getElem?_eq_getElem hj⟩
    obtain ⟨t, e1, e2, _⟩ := bP.1 (h4 j (.str s) (by rw [List.getElem?_map, hs]; rfl))
    cases e2
    rw [hs]
    have := bF e1 (j := 0) rfl
    simpa using this
   ·rw [List.getElem?_eq_none (by simp; omega), List.getElem?_eq_none (by simp; omega)]
theorem CQ {H : List Ob} {v : V} {l : List Str} (h : AStrs H v l) (hl : l.length ≤ 1000000) : ∃ T w, callW C 277 [v] H = some (w, H ++ T) ∧ Own H (H ++ T) w l := by
 suffices hs : Ret C 277 [v] H fun q H' => ∃ T, H' = H ++ T ∧ Own H (H ++ T) q l by
  obtain ⟨q, H', hc, T, rfl, hr⟩ := hs
  exact ⟨T, q, hc, hr⟩
 rw [UF]
 obtain ⟨p, rfl, hc, hp, ht⟩ := pX (T := [.mk true 1 []]) h
 cases p with
 | none =>
  have := hp rfl
  subst this
  simp [oH, Tryz.f277]
  exact .inl ⟨rfl, rfl⟩
 | some p =>
  by_cases h0 : l.length = 0
  ·have : l = [] := List.length_eq_zero_iff.1 h0
   subst this
   have ha : bi ⟨.str, 1, 16, [.str []]⟩ (H ++ [.mk true 1 []]) (.slc (some (H.length, 0)) 0) (.slc (some p) 0) = some (.slc (some (H.length, 0)) 0, H ++ [.mk true 1 []]) := by
    unfold bi
    rw [if_pos (by simp [fJ])]
    simp [aO, bg]
   simp [oH, Tryz.f277, aI, aH, ax, St.new, ha]
   exact .inr Gs.init
  ·have hm : l.length * 16 ≤ aJ := by unfold aJ; omega
   have ha : bi ⟨.str, 1, 16, [.str []]⟩ (H ++ [.mk true 1 []]) (.slc (some (H.length, 0)) 0) (.slc (some p) l.length) = some (.slc (some (H.length + 1, 0)) l.length, H ++ [.dead, .mk true 1 (l.map V.str)]) := by
    unfold bi
    rw [if_pos (by simp [fJ])]
    simp only [aO, Nat.mul_one, hc, if_neg h0]
    rw [if_pos (by simp)]
    simp [get_last, h0, hm]
   have hne : l ≠ [] := fun h => h0 (by rw [h]; rfl)
   have hgs : Gs H (H ++ [.dead, .mk true 1 (l.map V.str)]) (.slc (some (H.length + 1, 0)) l.length) (l.map V.str) :=
    ⟨_, H.length + 1, rfl, by omega, by rw [List.getElem?_append_right (by omega)]; simp, by simp⟩
   simp [oH, Tryz.f277, aI, aH, ax, St.new, ha, hgs.gc]
   exact .inr hgs
def FirstIs (p : Str → Bool) (l : List Str) (r : Int) : Prop := (∃ (k : Nat) (x : Str), l[k]? = some x ∧ p x = true ∧ (∀ j y, j < k → l[j]? = some y → p y = false) ∧ r = k) ∨ ((∀ (j : Nat) y, l[j]? = some y → p y = false) ∧ r = -1)
theorem qI {H : List Ob} {v : V} {l : List Str} {g : Nat} {a b : List V} (h : AStrs H v l) (p : Str → Bool) (hg : ∀ x ∈ l, callW C g (a ++ ([.str x] ++ b)) H = some (.bool (p x), H)) :
  ∃ r : Int, callW C 336 [v, .fn g a b] H = some (.int .i64 r, H) ∧ FirstIs p l r := by
 suffices hs : Ret C 336 [v, .fn g a b] H fun q H' => (∃ r : Int, q = .int .i64 r ∧ FirstIs p l r) ∧ H' = H by
  obtain ⟨q, H', hc, ⟨r, rfl, hr⟩, rfl⟩ := hs
  exact ⟨r, hc, hr⟩
 rw [aeq]
 have hb : l.length ≤ 9223372036854775807 := h.bound
 simp [Eb, Tryz.f336, h.len]
 refine aB (fun k σ => ∃ (i : Nat) (r : Nat → R), i + k = l.length ∧ σ = ⟨r, 0, H⟩ ∧ r 0 = .val v ∧ r 1 = .val (.fn g a b) ∧ r 7 = .val (.int .i64 l.length) ∧ r 8 = .val (.int .i64 i) ∧ ∀ j x, j < i → l[j]? = some x → p x = false) ?_ l.length _ ⟨0, _, by simp, rfl, by simp, by simp, by simp, by simp, by simp⟩
 rintro k σ ⟨i, r, hik, rfl, r0, r1, r7, r8, hall⟩
 cases k with
 | zero =>
  have hi : i = l.length := by omega
  subst hi
  have hx := fF (P := fun j (x : Str) => p x = false) hall
  simp [r0, r1, r7, r8]
  exact .inr ⟨hx, rfl⟩
 | succ k =>
  have hi : i < l.length := by omega
  obtain ⟨x, hx⟩ : ∃ c, l[i]? = some c := ⟨l[i], by simp [hi]⟩
  have hw : IntKind.i64.wrap ((i : Int) + 1) = ((i : Int) + 1) := wrap_i64 (by omega) (by omega)
  obtain ⟨id, o, e1, l0, _⟩ := dG h hx
  have c1 := hg x (List.mem_of_getElem? hx)
  simp only [List.singleton_append] at c1
  cases hp : p x with
  | false =>
   rw [hp] at c1
   simp [r0, r1, r7, r8, hi, e1, l0, c1, hw]
   exact ⟨k, by omega, i + 1, by omega, by omega, dC (P := fun j (x : Str) => p x = false) hall hx hp⟩
  | true =>
   rw [hp] at c1
   simp [r0, r1, r7, r8, hi, e1, l0, c1, hw]
   exact .inl ⟨i, x, hx, hp, hall, rfl⟩
theorem FirstIs.mem {p : Str → Bool} {l : List Str} {r : Int} (h : FirstIs p l r) : 0 ≤ r ↔ ∃ x ∈ l, p x = true := by
 rcases h with ⟨k, x, h1, h2, _, rfl⟩ | ⟨h1, rfl⟩
 ·exact ⟨fun _ => ⟨x, List.mem_of_getElem? h1, h2⟩, fun _ => by omega⟩
 ·refine ⟨fun h => by omega, fun ⟨x, hx, hp⟩ => ?_⟩
  obtain ⟨j, hj, rfl⟩ := List.getElem_of_mem hx
  rw [h1 j _ (List.getElem?_eq_getElem hj)] at hp
  cases hp
theorem qF {H : List Ob} {v : V} {l : List Str} {g : Nat} {a b : List V} (h : AStrs H v l) (p : Str → Bool) (hg : ∀ x ∈ l, callW C g (a ++ ([.str x] ++ b)) H = some (.bool (p x), H)) :
  callW C 286 [v, .fn g a b] H = some (.bool (dec (∃ x ∈ l, p x = true)), H) := by
 obtain ⟨r, c1, hr⟩ := qI h p hg
 apply Ret.dec
 rw [aea]
 by_cases g1 : 0 ≤ r
 ·have := hr.mem.1 g1
  simp [yH, Tryz.f286, c1, g1]
  exact this
 ·have := mt hr.mem.2 g1
  simp [yH, Tryz.f286, c1, g1]
  intro x hx
  cases hp : p x with
  | false => rfl
  | true => exact absurd ⟨x, hx, hp⟩ this
theorem mg {H : List Ob} {v : V} {l : List Str} {t : Str} (h : AStrs H v l) : callW C 142 [v, .str t] H = some (.bool (dec (t ∈ l)), H) := by
 have hi : ∃ r : Int, callW C 234 [v, .str t] H = some (.int .i64 r, H) ∧ (0 ≤ r ↔ t ∈ l) := by
  suffices hs : Ret C 234 [v, .str t] H fun q H' => (∃ r : Int, q = .int .i64 r ∧ (0 ≤ r ↔ t ∈ l)) ∧ H' = H by
   obtain ⟨q, H', hc, ⟨r, rfl, hr⟩, rfl⟩ := hs
   exact ⟨r, hc, hr⟩
  rw [afj]
  have hb : l.length ≤ 9223372036854775807 := h.bound
  simp [EJ, Tryz.f234, h.len]
  refine aB (fun k σ => ∃ (i : Nat) (r : Nat → R), i + k = l.length ∧ σ = ⟨r, 0, H⟩ ∧ r 0 = .val v ∧ r 1 = .val (.str t) ∧ r 7 = .val (.int .i64 l.length) ∧ r 8 = .val (.int .i64 i) ∧ ∀ j x, j < i → l[j]? = some x → x ≠ t) ?_ l.length _ ⟨0, _, by simp, rfl, by simp, by simp, by simp, by simp, by simp⟩
  rintro k σ ⟨i, r, hik, rfl, r0, r1, r7, r8, hall⟩
  cases k with
  | zero =>
   have hi : i = l.length := by omega
   subst hi
   have hx := fF (P := fun j (x : Str) => x ≠ t) hall
   have hn : t ∉ l := fun hm => by
    obtain ⟨j, hj, e⟩ := List.getElem_of_mem hm
    exact hx j _ (List.getElem?_eq_getElem hj) e
   simp [r0, r1, r7, r8, hn]
  | succ k =>
   have hi : i < l.length := by omega
   obtain ⟨x, hx⟩ : ∃ c, l[i]? = some c := ⟨l[i], by simp [hi]⟩
   have hw : IntKind.i64.wrap ((i : Int) + 1) = ((i : Int) + 1) := wrap_i64 (by omega) (by omega)
   obtain ⟨id, o, e1, l0, _⟩ := dG h hx
   by_cases g1 : x = t
   ·have hm : t ∈ l := g1 ▸ List.mem_of_getElem? hx
    subst g1
    simp [r0, r1, r7, r8, hi, e1, l0, hm]
   ·have g1' : ¬ t = x := fun h => g1 h.symm
    simp [r0, r1, r7, r8, hi, e1, l0, g1', hw]
    exact ⟨k, by omega, i + 1, by omega, by omega, dC (P := fun j (x : Str) => x ≠ t) hall hx g1⟩
 obtain ⟨r, c1, hr⟩ := hi
 apply Ret.dec
 rw [aeO]
 by_cases g1 : 0 ≤ r
 ·simp [yA, Tryz.f142, c1, g1, hr.1 g1]
 ·simp [yA, Tryz.f142, c1, g1, mt hr.2 g1]
theorem OW {H : List Ob} {id : Nat} {own : Bool} {es : Nat} {va : V} {l : List Str} {t : Str} (h0 : H[id]? = some (.mk own es [va])) (h : AStrs H va l) : callW C 325 [.str t, .ptr (some (id, 0))] H = some (.bool (!dec (t ∈ l)), H) := by
 apply Ret.eq
 rw [abj]
 have ld := aY (o := 0) (v := va) h0 rfl
 have c1 := mg (t := t) h
 simp [DL, Tryz.f325, ld, c1]
theorem aeG {H : List Ob} {v : V} {l : List Str} {n : Str} (h : AStrs H v l) : ∃ r : Int, callW C 279 [v, .str n] H = some (.int .i64 r, H) ∧ FirstIs (fun x => decide (norm x = n)) l r := by
 suffices hs : Ret C 279 [v, .str n] H fun q H' => (∃ r : Int, q = .int .i64 r ∧ FirstIs (fun x => decide (norm x = n)) l r) ∧ H' = H by
  obtain ⟨q, H', hc, ⟨r, rfl, hr⟩, rfl⟩ := hs
  exact ⟨r, hc, hr⟩
 rw [adn]
 have hb : l.length ≤ 9223372036854775807 := h.bound
 simp [FM, Tryz.f279]
 refine aB (fun k σ => ∃ (i : Nat) (r : Nat → R), i + k = l.length ∧ σ = ⟨r, 0, H⟩ ∧ r 0 = .val v ∧ r 1 = .val (.str n) ∧ r 5 = .val (.int .i64 i) ∧ ∀ j x, j < i → l[j]? = some x → norm x ≠ n) ?_ l.length _ ⟨0, _, by simp, rfl, by simp, by simp, by simp, by simp⟩
 rintro k σ ⟨i, r, hik, rfl, r0, r1, r5, hall⟩
 cases k with
 | zero =>
  have hi : i = l.length := by omega
  subst hi
  have hx := fF (P := fun j (x : Str) => norm x ≠ n) hall
  simp [r0, r1, r5, h.len]
  exact .inr ⟨fun j x hj => by simpa using hx j x hj, rfl⟩
 | succ k =>
  have hi : i < l.length := by omega
  obtain ⟨x, hx⟩ : ∃ c, l[i]? = some c := ⟨l[i], by simp [hi]⟩
  have hw : IntKind.i64.wrap ((i : Int) + 1) = ((i : Int) + 1) := wrap_i64 (by omega) (by omega)
  obtain ⟨id, o, e1, l0, _⟩ := dG h hx
  have c1 := ku (t := x) (H := H)
  by_cases g1 : norm x = n
  ·simp [r0, r1, r5, hi, h.len, e1, l0, c1, g1]
   exact .inl ⟨i, x, hx, by simpa using g1, fun j y hj hy => by simpa using hall j y hj hy, rfl⟩
  ·simp [r0, r1, r5, hi, h.len, e1, l0, c1, g1, hw]
   exact ⟨k, by omega, i + 1, by omega, by omega, dC (P := fun j (x : Str) => norm x ≠ n) hall hx g1⟩
theorem Dw {H : List Ob} {id o : Nat} {x : V} (h : ∀ T : LT, T.one → ∀ r c, loadAt T ⟨r, c, H⟩ (.hp id o) = some x) : id < H.length := by
 by_cases hi : id < H.length
 ·exact hi
 ·have h1 := h ⟨.str, 1, 16, [.str []]⟩ Fg (fun _ => .val .undef) 0
  have h2 : H[id]? = none := List.getElem?_eq_none (by omega)
  simp [loadAt, cellsAt, h2] at h1
theorem qL {H : List Ob} {v : V} {l : List PRdn} (h : bH H v l) (hd : DnOk l) : callW C 161 [v] H = some (.str (aK l), H) := by
 apply Ret.eq
 rw [YN]
 have hb := hd.2
 have hw0 : IntKind.i64.wrap ((l.length : Int) - 1) = (l.length : Int) - 1 := wrap_i64 (by omega) (by omega)
 simp [EX, Tryz.f161, h.len, hw0]
 refine aB (fun m σ => ∃ (r : Nat → R), m ≤ l.length ∧ σ = ⟨r, 0, H⟩ ∧ r 0 = .val v ∧ r 3 = .val (.str (sJ l m)) ∧ r 4 = .val (.int .i64 ((m : Int) - 1))) ?_ l.length _ ⟨_, by omega, rfl, by simp, by simp [Ri], by simp⟩
 rintro m σ ⟨r, hm, rfl, r0, r3, r4⟩
 cases m with
 | zero =>
  simp at r4
  simp [r0, r3, r4, NP]
 | succ m =>
  have hi : m < l.length := by omega
  obtain ⟨x, hx⟩ : ∃ c, l[m]? = some c := ⟨l[m], by simp [hi]⟩
  have r4' : r 4 = .val (.int .i64 m) := by rw [r4]; congr 2; omega
  have hw : IntKind.i64.wrap ((m : Int) - 1) = (m : Int) - 1 := wrap_i64 (by omega) (by omega)
  obtain ⟨id, o, e1, l0, l1, _, _⟩ := qV h hx
  have c1 := ku (t := x.value) (H := H)
  have k1 := QT hd (m + 1)
  have k2 := (hd.1 m x hx).1.2.1
  have k3 := uT (t := x.value)
  have kst := Ou hx
  have b1 : (sJ l (m + 1)).length + 1 ≤ maxStr := by unfold maxStr; omega
  have b2 : (sJ l (m + 1)).length + (x.attr.length + 1) ≤ maxStr := by unfold maxStr; omega
  have b3 : (sJ l (m + 1)).length + (x.attr.length + 1 + 1) ≤ maxStr := by unfold maxStr; omega
  have b4 : (sJ l (m + 1)).length + (x.attr.length + ((norm x.value).length + 1) + 1) ≤ maxStr := by unfold maxStr; omega
  have hid := Dw l0
  have b5 : (sJ l (m + 1)).length + 1 + x.attr.length ≤ maxStr := by unfold maxStr; omega
  have b6 : (sJ l (m + 1)).length + (x.attr.length + 1) + 1 ≤ maxStr := by unfold maxStr; omega
  have b7 : (sJ l (m + 1)).length + (x.attr.length + 1 + 1) + (norm x.value).length ≤ maxStr := by unfold maxStr; omega
  simp [r0, r3, r4', e1, l0, l1, c1, hw, xu, b1, b2, b3, b4, b5, b6, b7, hid]
  exact ⟨m, by omega, by omega, by rw [kst]; simp [iL], rfl⟩
abbrev kZ : LT := ⟨.str, 1, 16, [.str []]⟩
theorem Vb {H : List Ob} {n : Nat} (hn : n ≤ 1000) : callW C 235 [.slc none 0, .int .i64 n] H = some (if n = 0 then (.slc none 0, H) else (.slc (some (H.length, 0)) 0, H ++ [.mk true 1 (ax kZ n)])) := by
 have hw0 : IntKind.i64.wrap 0 = 0 := rfl
 have hwn : IntKind.i64.wrap (n : Int) = n := wrap_i64 (by omega) (by omega)
 have h1 : ¬ ((n : Int) < 0) := by omega
 by_cases h0 : n = 0
 ·subst h0
  rw [if_pos rfl]
  apply Ret.eq
  rw [UE]
  simp [yz, Tryz.f235, hw0]
 ·rw [if_neg h0]
  have h2 : (0 : Int) < n := by omega
  have h2' : 0 < n := by omega
  have h3 : (n : Int) * 16 ≤ 1099511627776 := by omega
  suffices hs : Ret C 235 [.slc none 0, .int .i64 n] H fun q H' => q = .slc (some (H.length, 0)) 0 ∧ H' = H ++ [.mk true 1 (ax kZ n)] by
   obtain ⟨q, H', hc, rfl, rfl⟩ := hs
   exact hc
  rw [UE]
  simp [yz, Tryz.f235, hw0, hwn, h1, h2, h2', aI, wz, fJ, aJ, h3, aT]
theorem Q8 {H : List Ob} {ds xs zs : List V} {m : Nat} {x : V} (hx : aO kZ (H ++ [.mk true 1 (ds ++ zs)]) x = some (xs, m)) (hm : xs.length = m) (hm0 : m ≠ 0) (hone : xs.all aN = true) (hz : m ≤ zs.length) :
  bi kZ (H ++ [.mk true 1 (ds ++ zs)]) (.slc (some (H.length, 0)) ds.length) x = some (.slc (some (H.length, 0)) (ds.length + m), H ++ [.mk true 1 (ds ++ xs ++ zs.drop m)]) := by
 unfold bi
 rw [if_pos (by simp [fJ]), hx]
 simp only [if_neg hm0, hone, if_true, get_last]
 have e1 : 0 + (ds.length + m) * 1 ≤ (ds ++ zs).length := by simp; omega
 rw [if_pos e1, qO]
 congr 4
 unfold setRange
 rw [Nat.zero_add, Nat.mul_one, List.take_left, hm, List.drop_append]
 simp
theorem GU {H : List Ob} {s x : V} {xs : List V} (hx : aO kZ H x = some (xs, 0)) (hs : ∃ p n, s = .slc (some p) n ∨ s = .slc none 0) : bi kZ H s x = some (s, H) := by
 unfold bi
 rw [if_pos (by simp [fJ]), hx]
 obtain ⟨p, n, rfl | rfl⟩ := hs <;> simp
theorem qx {n : Nat} : (ax kZ n).length = n := by simp [ax]
def fl (ls : List (List Str)) (i : Nat) : List Str := (ls.take i).flatten
theorem yx {ls : List (List Str)} : fl ls 0 = [] := by simp [fl]
theorem CZ {ls : List (List Str)} {i : Nat} {l : List Str} (h : ls[i]? = some l) : fl ls (i + 1) = fl ls i ++ l := by
 unfold fl
 rw [dh h, List.flatten_append]
 simp
theorem OY {ls : List (List Str)} {i : Nat} : (fl ls i).length ≤ (fl ls ls.length).length := by
 unfold fl
 have := congrArg List.length (congrArg List.flatten (List.take_append_drop i ls))
 rw [List.flatten_append, List.length_append] at this
 rw [List.take_length]
 omega
theorem H6 {H : List Ob} {id : Nat} {own : Bool} {ws : List V} {ls : List (List Str)} (h0 : H[id]? = some (.mk own 1 ws)) (hl : ws.length = ls.length) (hw : ∀ (i : Nat) w l, ws[i]? = some w → ls[i]? = some l → AStrs H w l)
  (hb : (fl ls ls.length).length ≤ 1000) (hb2 : ls.length ≤ 1000) : ∃ T w, callW C 143 [.slc (some (id, 0)) ls.length] H = some (w, H ++ T) ∧ Own H (H ++ T) w (fl ls ls.length) := by
 suffices hs : Ret C 143 [.slc (some (id, 0)) ls.length] H fun q H' => ∃ T, H' = H ++ T ∧ Own H (H ++ T) q (fl ls ls.length) by
  obtain ⟨q, H', hc, T, rfl, hr⟩ := hs
  exact ⟨T, q, hc, hr⟩
 rw [af2]
 simp [Eg, Tryz.f143]
 refine aB (fun k σ => ∃ (i : Nat) (r : Nat → R), i + k = ls.length ∧ σ = ⟨r, 0, H⟩ ∧ r 0 = .val (.slc (some (id, 0)) ls.length) ∧ r 3 = .val (.int .i64 ((fl ls i).length : Nat)) ∧ r 9 = .val (.slc (some (id, 0)) ls.length) ∧ r 10 = .val (.int .i64 ls.length) ∧ r 11 = .val (.int .i64 i)) ?_ ls.length _ ⟨0, _, by simp, rfl, by simp, by simp [yx], by simp, by simp, by simp⟩
 rintro k σ ⟨i, r, hik, rfl, r0, r3, r9, r10, r11⟩
 cases k with
 | succ k =>
  have hi : i < ls.length := by omega
  obtain ⟨w, hwi⟩ : ∃ w, ws[i]? = some w := ⟨ws[i]'(by omega), List.getElem?_eq_getElem _⟩
  obtain ⟨l, hli⟩ : ∃ l, ls[i]? = some l := ⟨ls[i], List.getElem?_eq_getElem hi⟩
  have hs := hw i w l hwi hli
  have ld := aY h0 hwi
  have hf := CZ hli
  have hle := OY (ls := ls) (i := i + 1)
  have hfl := congrArg List.length hf
  rw [List.length_append] at hfl
  have hw1 : IntKind.i64.wrap ((i : Int) + 1) = ((i : Int) + 1) := wrap_i64 (by omega) (by omega)
  have hw2 : IntKind.i64.wrap (((fl ls i).length : Nat) + (l.length : Int)) = (((fl ls (i + 1)).length : Nat) : Int) := by rw [wrap_i64 (by omega) (by omega)]; omega
  have hn : ¬ ((((fl ls (i + 1)).length : Nat) : Int) < 0) := by omega
  simp [r0, r3, r9, r10, r11, hi, ld, hs.len, hw1, hw2, hn]
  exact ⟨k, by omega, i + 1, by omega, rfl, by omega⟩
 | zero =>
 have hi : i = ls.length := by omega
 subst hi
 have hg := Vb (H := H) (n := (fl ls ls.length).length) hb
 generalize hN : (fl ls ls.length).length = N at r3 hg hb
 by_cases hN0 : N = 0
 ·rw [if_pos hN0] at hg
  simp [r0, r3, r9, r10, r11, hg]
  refine aB (fun k σ => ∃ (i : Nat) (r : Nat → R), i + k = ls.length ∧ σ = ⟨r, 0, H⟩ ∧ r 6 = .val (.slc none 0) ∧ r 25 = .val (.slc (some (id, 0)) ls.length) ∧ r 26 = .val (.int .i64 ls.length) ∧ r 27 = .val (.int .i64 i)) ?_ ls.length _ ⟨0, _, by simp, rfl, by simp, by simp [r0], by simp, by simp⟩
  clear hik r0 r3 r9 r10 r11 r
  rintro k σ ⟨i, r, hik, rfl, r6, r25, r26, r27⟩
  cases k with
  | zero =>
   have hi : i = ls.length := by omega
   subst hi
   simp [r6, r25, r26, r27]
   exact .inl ⟨rfl, List.length_eq_zero_iff.1 (by omega)⟩
  | succ k =>
   have hi : i < ls.length := by omega
   obtain ⟨w, hwi⟩ : ∃ w, ws[i]? = some w := ⟨ws[i]'(by omega), List.getElem?_eq_getElem _⟩
   obtain ⟨l, hli⟩ : ∃ l, ls[i]? = some l := ⟨ls[i], List.getElem?_eq_getElem hi⟩
   have hs := hw i w l hwi hli
   have ld := aY h0 hwi
   have hl0 : l.length = 0 := by
    have h1 := congrArg List.length (CZ hli)
    have h2 := OY (ls := ls) (i := i + 1)
    rw [List.length_append] at h1
    omega
   obtain ⟨p, rfl, hc, _⟩ := pX (T := []) hs
   rw [hl0] at hc ld
   have ha := GU (s := .slc none 0) (H := H) (x := .slc p 0) (xs := []) (by simp [aO, bg]; cases p <;> simp) ⟨(0, 0), 0, .inr rfl⟩
   have hw1 : IntKind.i64.wrap ((i : Int) + 1) = ((i : Int) + 1) := wrap_i64 (by omega) (by omega)
   simp [r6, r25, r26, r27, hi, ld, aI, ha, hw1]
   exact ⟨k, by omega, i + 1, by omega, by omega⟩
 ·rw [if_neg hN0] at hg
  simp [r0, r3, r9, r10, r11, hg]
  refine aB (fun k σ => ∃ (i : Nat) (r : Nat → R) (zs : List V), i + k = ls.length ∧ σ = ⟨r, 0, H ++ [.mk true 1 ((fl ls i).map V.str ++ zs)]⟩ ∧ (fl ls i).length + zs.length = N ∧ r 6 = .val (.slc (some (H.length, 0)) (fl ls i).length) ∧ r 25 = .val (.slc (some (id, 0)) ls.length) ∧ r 26 = .val (.int .i64 ls.length) ∧ r 27 = .val (.int .i64 i)) ?_ ls.length _ ⟨0, _, ax kZ N, by simp, by rw [yx]; rfl, by simp [qx, yx], by simp [yx], by simp [r0], by simp, by simp⟩
  clear hik r0 r3 r9 r10 r11 r
  rintro k σ ⟨i, r, zs, hik, rfl, hzs, r6, r25, r26, r27⟩
  cases k with
  | zero =>
   have hi : i = ls.length := by omega
   subst hi
   have hz0 : zs = [] := List.length_eq_zero_iff.1 (by omega)
   subst hz0
   rw [List.append_nil]
   have hgs : Gs H (H ++ [.mk true 1 ((fl ls ls.length).map V.str)]) (.slc (some (H.length, 0)) (fl ls ls.length).length) ((fl ls ls.length).map V.str) := ⟨_, H.length, rfl, Nat.le_refl _, get_last, by simp⟩
   simp [r6, r25, r26, r27]
   exact .inr hgs
  | succ k =>
   have hi : i < ls.length := by omega
   obtain ⟨w, hwi⟩ : ∃ w, ws[i]? = some w := ⟨ws[i]'(by omega), List.getElem?_eq_getElem _⟩
   obtain ⟨l, hli⟩ : ∃ l, ls[i]? = some l := ⟨ls[i], List.getElem?_eq_getElem hi⟩
   have hs := hw i w l hwi hli
   have hf := CZ hli
   have hfl := congrArg List.length hf
   rw [List.length_append] at hfl
   have hle := OY (ls := ls) (i := i + 1)
   have ld := aY (H := H ++ [.mk true 1 ((fl ls i).map V.str ++ zs)]) (aZ _ _ h0) hwi
   obtain ⟨p, rfl, hc, _⟩ := pX (T := [.mk true 1 ((fl ls i).map V.str ++ zs)]) hs
   have hw1 : IntKind.i64.wrap ((i : Int) + 1) = ((i : Int) + 1) := wrap_i64 (by omega) (by omega)
   have hnc : aO kZ (H ++ [.mk true 1 ((fl ls i).map V.str ++ zs)]) (.slc p l.length) = some (l.map V.str, l.length) := by
    simp only [aO, Nat.mul_one, hc]
   by_cases hl0 : l.length = 0
   ·have hl1 : l = [] := List.length_eq_zero_iff.1 hl0
    subst hl1
    have ha := GU (s := .slc (some (H.length, 0)) (fl ls i).length) hnc ⟨_, _, .inl rfl⟩
    rw [List.append_nil] at hf
    rw [← hf] at ha ld r6 hzs ⊢
    simp at ld ha
    simp [r6, r25, r26, r27, hi, ld, aI, ha, hw1]
    exact ⟨k, by omega, i + 1, by omega, _, zs, ⟨rfl, rfl⟩, by omega, by simp [r6], by simp [r25], by simp [r26], by simp⟩
   ·have ha := Q8 (H := H) (ds := (fl ls i).map V.str) (zs := zs) hnc (by simp) hl0 (by simp) (by omega)
    rw [List.length_map] at ha
    rw [← List.map_append, ← hf] at ha
    simp [r6, r25, r26, r27, hi, ld, aI, ha, hw1]
    exact ⟨k, by omega, i + 1, by omega, _, zs.drop l.length, ⟨rfl, rfl⟩, by simp; omega, by simp; omega, by simp [r25], by simp [r26], by simp⟩
theorem uh : ∀ (l : List Str), strsOf (l.map V.str) = some l
 | [] => rfl
 | s :: l => by simp only [List.map_cons, strsOf, uh l]
def sorted (l : List Str) : List Str := l.mergeSort fun x y => decide (x ≤ y)
theorem tY {l : List Str} : (sorted l).length = l.length := List.length_mergeSort l
theorem sorted_perm {l : List Str} : (sorted l).Perm l := List.mergeSort_perm l _
theorem Oc {G : List Ob} {id : Nat} {l : List Str} (h : G[id]? = some (.mk true 1 (l.map V.str))) (h0 : 0 < l.length) (hl : l.length ≤ 1000000) :
  callW C 311 [.slc (some (id, 0)) l.length] G = some (.tup [], G.set id (.mk true 1 ((sorted l).map V.str))) := by
 rw [gX (pr := kS) rfl]
 simp only [kS, if_neg (show ¬ l.length = 0 by omega), h]
 rw [if_pos ⟨trivial, by simp, hl⟩]
 rw [List.drop_zero, List.take_of_length_le (by simp), uh]
 simp only
 congr 4
 unfold setRange
 simp [sorted]
def Apart (l : List Str) : Prop := ∀ (i : Nat) x, l[i]? = some x → l[i + 1]? ≠ some x
theorem qM {H G : List Ob} (h : ∀ q, q < H.length → G[q]? = H[q]?) (hl : H.length ≤ G.length) : ∃ T, G = H ++ T := by
 refine ⟨G.drop H.length, ?_⟩
 apply List.ext_getElem?
 intro q
 by_cases hq : q < H.length
 ·rw [h q hq, List.getElem?_append_left hq]
 ·rw [List.getElem?_append_right (by omega), List.getElem?_drop]
  congr 1
  omega
theorem Lt {H H' : List Ob} {r : V} (h : H'.length = H.length) : fM H H' r = H' := by
 unfold fM
 split
 ·rename_i hc
  obtain ⟨⟨T, rfl⟩, _⟩ := hc
  simp at h
  rw [h, List.append_nil]
 ·rfl
def CpI (cs l : List Str) (k n : Nat) : Prop := (∀ j, n ≤ j + 1 → cs[j]? = l[j]?) ∧ ∀ x, x ∈ cs.take k ↔ x ∈ l.take n
theorem CpI.init {l : List Str} {k : Nat} {x : Str} (hx : l[k]? = some x) (hy : l[k - 1]? = some x) (hk : 1 ≤ k) : CpI l l k (k + 1) :=
 ⟨fun _ _ => rfl, fun z => by
  rw [dh hx, List.mem_append, List.mem_singleton]
  have hm : x ∈ l.take k := List.mem_of_getElem? (i := k - 1) (by rw [List.getElem?_take_of_lt (by omega)]; exact hy)
  exact ⟨.inl, fun h => h.elim id fun e => e ▸ hm⟩⟩
theorem CpI.same {cs l : List Str} {k n : Nat} {a : Str} (h : CpI cs l k n) (ha : cs[n]? = some a) (hb : cs[n - 1]? = some a) (hn : 1 ≤ n) : CpI cs l k (n + 1) := by
 have ha' : l[n]? = some a := by rw [← h.1 n (by omega)]; exact ha
 have hb' : l[n - 1]? = some a := by rw [← h.1 (n - 1) (by omega)]; exact hb
 refine ⟨fun j hj => h.1 j (by omega), fun x => ?_⟩
 rw [h.2 x, dh ha', List.mem_append, List.mem_singleton]
 have hm : a ∈ l.take n := List.mem_of_getElem? (i := n - 1) (by rw [List.getElem?_take_of_lt (by omega)]; exact hb')
 exact ⟨.inl, fun h => h.elim id fun e => e ▸ hm⟩
theorem CpI.next {cs l : List Str} {k n : Nat} {a : Str} (h : CpI cs l k n) (ha : cs[n]? = some a) (hk : k + 1 ≤ n) : CpI (cs.set k a) l (k + 1) (n + 1) := by
 have ha' : l[n]? = some a := by rw [← h.1 n (by omega)]; exact ha
 have hkl : k < cs.length := by have := (List.getElem?_eq_some_iff.1 ha).1; omega
 refine ⟨fun j hj => by rw [List.getElem?_set_ne (by omega)]; exact h.1 j (by omega), fun x => ?_⟩
 have e1 : (cs.set k a).take (k + 1) = cs.take k ++ [a] := by
  rw [dh (List.getElem?_set_self hkl)]
  congr 1
  apply List.ext_getElem?
  intro j
  by_cases hj : j < k
  ·rw [List.getElem?_take_of_lt hj, List.getElem?_take_of_lt hj, List.getElem?_set_ne (by omega)]
  ·rw [List.getElem?_eq_none (by simp; omega), List.getElem?_eq_none (by simp; omega)]
 rw [e1, dh ha', List.mem_append, List.mem_append, h.2 x]
def Cp (G : List Ob) (id k : Nat) (l : List Str) : Prop := ∃ cs : List Str, G[id]? = some (.mk true 1 (cs.map V.str)) ∧ cs.length = l.length ∧ k ≤ cs.length ∧ ∀ x, x ∈ cs.take k ↔ x ∈ l
theorem Cp.all {G : List Ob} {id : Nat} {l : List Str} (h : G[id]? = some (.mk true 1 (l.map V.str))) : Cp G id l.length l := ⟨l, h, rfl, Nat.le_refl _, by simp⟩
theorem Ii {n : Nat} : ax kZ n = (List.replicate n ([] : Str)).map V.str := by
 induction n with
 | zero => rfl
 | succ n ih => simp [ax, List.replicate_succ] at ih ⊢
theorem Cp.end {G : List Ob} {id k n : Nat} {cs l : List Str} (h : CpI cs l k n) (hn : n = l.length) (hc : cs.length = l.length) (hk : k ≤ l.length) (hid : id < G.length) : Cp (G.set id (.mk true 1 (setRange (cs.map V.str) k (ax kZ (l.length - k))))) id k l := by
 refine ⟨cs.take k ++ List.replicate (l.length - k) [], ?_, by simp; omega, by simp; omega, fun x => ?_⟩
 ·rw [List.getElem?_set_self hid, Ii]
  congr 2
  unfold setRange
  rw [List.map_append, List.map_take, List.drop_of_length_le (by simp; omega), List.append_nil]
 ·rw [List.take_left' (by simp; omega), h.2 x, hn, List.take_length]
theorem Nr {G0 : List Ob} {id : Nat} {l : List Str} (h : G0[id]? = some (.mk true 1 (l.map V.str))) (hl : l.length ≤ 1000) :
  ∃ G' k, callW C 312 [.slc (some (id, 0)) l.length] G0 = some (.slc (some (id, 0)) k, G') ∧ G'.length = G0.length ∧ (∀ q, q ≠ id → G'[q]? = G0[q]?) ∧ (k = l.length ↔ Apart l) ∧ Cp G' id k l := by
 suffices hs : Ret C 312 [.slc (some (id, 0)) l.length] G0 fun w G' => ∃ k, w = .slc (some (id, 0)) k ∧ G'.length = G0.length ∧ (∀ q, q ≠ id → G'[q]? = G0[q]?) ∧ (k = l.length ↔ Apart l) ∧ Cp G' id k l by
  obtain ⟨w, G', hc, k, rfl, h1, h2, h3⟩ := hs
  exact ⟨G', k, hc, h1, h2, h3⟩
 have hcp := Cp.all h
 rw [OH]
 by_cases hl2 : (l.length : Int) < 2
 ·have ha : Apart l := fun i x _ hx => by
   have := (List.getElem?_eq_some_iff.1 hx).1
   omega
  simp [rM, Tryz.f312, hl2, ha, hcp]
 simp [rM, Tryz.f312, hl2]
 refine aB (fun m σ => ∃ (k : Nat) (r : Nat → R), k + m = l.length ∧ σ = ⟨r, 0, G0⟩ ∧ r 0 = .val (.slc (some (id, 0)) l.length) ∧ r 3 = .val (.int .i64 k) ∧ 1 ≤ k ∧ ∀ i x, i + 1 < k → l[i]? = some x → l[i + 1]? ≠ some x) ?_ (l.length - 1) _ ⟨1, _, by omega, rfl, by simp, by simp, by omega, fun i x h => by omega⟩
 rintro m σ ⟨k, r, hkm, rfl, r0, r3, hk1, hall⟩
 cases m with
 | zero =>
  have hk : k = l.length := by omega
  subst hk
  have ha : Apart l := fun i x hx hx' => hall i x (List.getElem?_eq_some_iff.1 hx').1 hx hx'
  simp [r0, r3, ha, hcp]
 | succ m =>
  have hk : k < l.length := by omega
  have hkI : (k : Int) < l.length := by omega
  obtain ⟨x, hx⟩ : ∃ c, l[k]? = some c := ⟨l[k], by simp [hk]⟩
  obtain ⟨y, hy⟩ : ∃ c, l[k - 1]? = some c := ⟨l[k - 1]'(by omega), by simp⟩
  have hw : IntKind.i64.wrap ((k : Int) + 1) = ((k : Int) + 1) := wrap_i64 (by omega) (by omega)
  have hw1 : IntKind.i64.wrap ((k : Int) - 1) = ((k - 1 : Nat) : Int) := by rw [wrap_i64 (by omega) (by omega)]; omega
  have hk' : ((k - 1 : Nat) : Int) < l.length := by omega
  have hk'' : k - 1 < l.length := by omega
  have ldx := aY (o := k) (v := .str x) h (by simp [hx])
  have ldy := aY (o := k - 1) (v := .str y) h (by simp [hy])
  by_cases hxy : x = y
  rotate_left
  ·simp [r0, r3, hk, hk'', ldx, ldy, hw, hw1, hxy, ae]
   refine ⟨m, by omega, k + 1, by omega, by omega, by omega, fun i z hi hz => ?_⟩
   by_cases hik : i + 1 = k
   ·have : i = k - 1 := by omega
    subst this
    rw [hy] at hz
    cases hz
    rw [hik, hx]
    simpa using hxy
   ·exact hall i z (by omega) hz
  have hna : ¬ Apart l := fun ha => ha (k - 1) y hy (by rw [show k - 1 + 1 = k by omega, hx, hxy])
  have hst : aT G0 id 1 = true := by simp [aT, h]
  have hle : k ≤ l.length := by omega
  simp [r0, r3, hk, hk'', hle, ldx, ldy, hw1, hxy, hst, ae]
  refine aB (fun m σ => ∃ (k2 k' : Nat) (r : Nat → R) (G : List Ob) (cs : List Str), k2 + m = l.length - k ∧ σ = ⟨r, 0, G⟩ ∧ r 0 = .val (.slc (some (id, 0)) l.length) ∧ r 3 = .val (.int .i64 k') ∧ r 4 = .val (.slc (some (id, k)) (l.length - k)) ∧ r 5 = .val (.int .i64 k2) ∧ 1 ≤ k2 ∧ k' + 1 ≤ k + k2 ∧
   G.length = G0.length ∧ (∀ q, q ≠ id → G[q]? = G0[q]?) ∧ G[id]? = some (.mk true 1 (cs.map V.str)) ∧ cs.length = l.length ∧ CpI cs l k' (k + k2)) ?_ (l.length - k - 1) _ ⟨1, k, _, G0, l, by omega, rfl, by simp [r0], by simp [r3], by simp, by simp, by omega, by omega, rfl, fun _ _ => rfl, h, rfl, CpI.init hx (hxy ▸ hy) hk1⟩
  clear r0 r3 r hst
  rintro m2 σ ⟨k2, k', r, G, cs, hkm2, rfl, r0, r3, r4, r5, hk2, hkk, hG1, hG2, hG3, hcs, hci⟩
  have hst : aT G id 1 = true := by simp [aT, hG3]
  have hid : id < G.length := (List.getElem?_eq_some_iff.1 hG3).1
  cases m2 with
  | zero =>
   have hk2' : ((l.length - k : Nat) : Int) = k2 := by omega
   have hk2'' : l.length - k = k2 := by omega
   have hlt : k' < l.length := by omega
   have hle' : k' ≤ l.length := by omega
   have hnz : ¬ (l.length - k' = 0) := by omega
   have hwa : ∀ r c, dK ⟨r, c, G⟩ (.hp id k') (ax kZ (l.length - k')) = some ⟨r, c, G.set id (.mk true 1 (setRange (cs.map V.str) k' (ax kZ (l.length - k'))))⟩ := by
    intro r c
    simp only [dK, hG3]
    rw [if_pos (by rw [qx, List.length_map]; omega)]
   have hst2 : ∀ o, aT (G.set id (.mk true 1 o)) id 1 = true := fun o => by simp [aT, hid]
   have hne : ¬ (k' = l.length) := by omega
   have hend := Cp.end (G := G) hci (by omega) hcs hle' hid
   have hgl : ∀ o w, fM G0 (G.set id o) w = G.set id o := fun o w => Lt (by rw [List.length_set]; exact hG1)
   simp [r0, r3, r4, r5, hk2'', hle', hst, aI, hnz, hwa, hst2, hgl, -setRange]
   refine ⟨hG1, fun q hq => ?_, ⟨fun h => absurd h hne, fun h => absurd h hna⟩, hend⟩
   rw [List.getElem?_set_ne (Ne.symm hq)]
   exact hG2 q hq
  | succ m2 =>
   have hlt : k2 < l.length - k := by omega
   obtain ⟨a, ha⟩ : ∃ c, cs[k + k2]? = some c := ⟨cs[k + k2]'(by omega), by simp⟩
   obtain ⟨b, hb⟩ : ∃ c, cs[k + (k2 - 1)]? = some c := ⟨cs[k + (k2 - 1)]'(by omega), by simp⟩
   have ld1 := aY (o := k + k2) (v := .str a) hG3 (by simp [ha])
   have ld2 := aY (o := k + (k2 - 1)) (v := .str b) hG3 (by simp [hb])
   have hw2 : IntKind.i64.wrap ((k2 : Int) - 1) = ((k2 - 1 : Nat) : Int) := by rw [wrap_i64 (by omega) (by omega)]; omega
   have hw3 : IntKind.i64.wrap ((k2 : Int) + 1) = ((k2 : Int) + 1) := wrap_i64 (by omega) (by omega)
   have hw4 : IntKind.i64.wrap ((k' : Int) + 1) = ((k' : Int) + 1) := wrap_i64 (by omega) (by omega)
   have hlt2 : k2 - 1 < l.length - k := by omega
   have hlt3 : k' < l.length := by omega
   by_cases hab : a = b
   ·simp [r0, r3, r4, r5, hlt, hlt2, ld1, ld2, hw2, hw3, hab, ae]
    exact ⟨m2, by omega, k2 + 1, by omega, k', _, G, ⟨rfl, rfl⟩, by simp [r0], by simp [r3], by simp [r4], by simp, by omega, by omega, hG1, hG2, cs, hG3, hcs, hci.same ha (by rw [show k + k2 - 1 = k + (k2 - 1) by omega, hab]; exact hb) (by omega)⟩
   ·have st := store1 (v := .str a) (o := k') hG3 (by simp; omega) rfl rfl
    simp [r0, r3, r4, r5, hlt, hlt2, hlt3, ld1, ld2, hw2, hw3, hw4, hab, ae, st]
    exact ⟨m2, by omega, k2 + 1, by omega, k' + 1, _, _, ⟨rfl, rfl⟩, by simp [r0], by simp, by simp [r4], by simp, by omega, by omega, by simpa using hG1, fun q hq => by rw [List.getElem?_set_ne (Ne.symm hq)]; exact hG2 q hq, cs.set k' a, by rw [List.getElem?_set_self hid, List.map_set], by simpa using hcs, hci.next ha (by omega)⟩
theorem HY {l : List Str} (h : l.Pairwise fun a b => a ≤ b) : Apart l ↔ l.Nodup := by
 constructor
 ·intro ha
  induction l with
  | nil => exact List.nodup_nil
  | cons x l ih =>
   rw [List.pairwise_cons] at h
   rw [List.nodup_cons]
   have ha' : Apart l := fun i y hy => ha (i + 1) y (by simpa using hy)
   refine ⟨fun hx => ?_, ih h.2 ha'⟩
   cases l with
   | nil => cases hx
   | cons y l =>
    have hxy : x ≠ y := fun he => ha 0 x rfl (by simp [he])
    have h1 : x ≤ y := h.1 y List.mem_cons_self
    rcases List.mem_cons.1 hx with rfl | hx
    ·exact hxy rfl
    ·have h2 : y ≤ x := (List.pairwise_cons.1 h.2).1 x hx
     exact hxy (List.le_antisymm h1 h2)
 ·intro hn i x h1 h2
  obtain ⟨hi, h1⟩ := List.getElem?_eq_some_iff.1 h1
  obtain ⟨hi2, h2⟩ := List.getElem?_eq_some_iff.1 h2
  exact List.pairwise_iff_getElem.1 hn i (i + 1) hi hi2 (by omega) (h1.trans h2.symm)
theorem IC {l : List Str} : (sorted l).Pairwise fun a b => a ≤ b := by
 have := List.pairwise_mergeSort (le := fun x y : Str => decide (x ≤ y)) (fun a b c h1 h2 => by simp at h1 h2 ⊢; exact List.le_trans h1 h2) (fun a b => by simp; exact List.le_total a b) l
 exact this.imp fun h => by simpa using h
theorem nM {H : List Ob} {v : V} {l : List Str} (h : AStrs H v l) : ∀ s ∈ l, s.length ≤ maxLen := fun s hs => by
 obtain ⟨j, hj, rfl⟩ := List.getElem_of_mem hs
 obtain ⟨_, _, _, _, h⟩ := dG h (List.getElem?_eq_getElem hj)
 exact h
def adU (b : Nat) (p : Option (Nat × Nat)) : Prop := ∀ q o, p = some (q, o) → b ≤ q
def Some1 (G : List Ob) (w : V) (l : List Str) : Prop := ∃ l', AStrs G w l' ∧ (∀ x, x ∈ l' ↔ x ∈ l) ∧ l'.length ≤ l.length
theorem Some1.nil {G : List Ob} : Some1 G (.slc none 0) [] := ⟨[], ak.2 ⟨_, _, rfl, rfl, by simp, .inl ⟨rfl, rfl⟩⟩, fun _ => Iff.rfl, Nat.le_refl _⟩
theorem Some1.none {G : List Ob} {id : Nat} {cs : List V} (h : G[id]? = some (.mk true 1 cs)) : Some1 G (.slc (some (id, 0)) 0) [] := ⟨[], ak.2 ⟨_, _, rfl, rfl, by simp, .inr ⟨id, 0, true, cs, rfl, h, by simp, fun i x hx => by simp at hx⟩⟩, fun _ => Iff.rfl, Nat.le_refl _⟩
theorem OC {G : List Ob} {id k : Nat} {own : Bool} {cs : List Str} (h : G[id]? = some (.mk own 1 (cs.map V.str))) (hk : k ≤ cs.length) (hl : k ≤ maxLen) (hs : ∀ s ∈ cs.take k, s.length ≤ maxLen) : AStrs G (.slc (some (id, 0)) k) (cs.take k) := by
 refine ak.2 ⟨_, _, rfl, rfl, by simp; omega, .inr ⟨id, 0, own, cs.map V.str, by simp; omega, h, by simp; omega, fun i x hx => ?_⟩⟩
 rw [List.getElem?_map] at hx
 obtain ⟨s, hs', rfl⟩ := Option.map_eq_some_iff.1 hx
 have hi : i < (cs.take k).length := (List.getElem?_eq_some_iff.1 hs').1
 have hi2 : i < cs.length := by rw [List.length_take] at hi; omega
 have hc : cs[i]? = some s := by rw [List.length_take] at hi; rw [List.getElem?_take_of_lt (by omega)] at hs'; exact hs'
 refine bP.2 ⟨s, ?_, rfl, hs s (List.mem_of_getElem? hs')⟩
 rw [Sh.size_str, Nat.zero_add, Nat.mul_one, List.drop_eq_getElem_cons (by simpa using hi2)]
 obtain ⟨_, rfl⟩ := List.getElem?_eq_some_iff.1 hc
 simp
theorem Some1.of {G : List Ob} {id k : Nat} {l : List Str} (h : Cp G id k (sorted l)) (hb : l.length ≤ 1000) (hm : ∀ s ∈ l, s.length ≤ maxLen) : Some1 G (.slc (some (id, 0)) k) l := by
 obtain ⟨cs, h1, h0, h2, h3⟩ := h
 rw [tY] at h0
 have h4 : ∀ x, x ∈ cs.take k ↔ x ∈ l := fun x => (h3 x).trans sorted_perm.mem_iff
 exact ⟨cs.take k, OC h1 h2 (by unfold maxLen; omega) fun s hs => hm s ((h4 s).1 hs), h4, by simp; omega⟩
theorem OA {H : List Ob} {id : Nat} {own : Bool} {va : V} {l : List Str} (h0 : H[id]? = some (.mk own 1 [va])) (hw : AStrs H va l) (hb : l.length ≤ 1000) :
  ∃ T p n, callW C 236 [.slc (some (id, 0)) 1] H = some (.slc p n, H ++ T) ∧ (n = l.length ↔ l.Nodup) ∧ Some1 (H ++ T) (.slc p n) l ∧ adU H.length p := by
 suffices hs : Ret C 236 [.slc (some (id, 0)) 1] H fun q H' => ∃ T p n, q = .slc p n ∧ H' = H ++ T ∧ (n = l.length ↔ l.Nodup) ∧ Some1 H' q l ∧ adU H.length p by
  obtain ⟨q, H', hc, T, p, n, rfl, rfl, hr⟩ := hs
  exact ⟨T, p, n, hc, hr⟩
 have hmx := nM hw
 rw [abt]
 have hfl : fl [l] 1 = l := by simp [fl]
 obtain ⟨T, w, c1, hown⟩ := H6 (ls := [l]) h0 rfl (fun i w l' h1 h2 => by
  cases i with
  | zero => cases h1; cases h2; exact hw
  | succ i => simp at h1) (by simp only [List.length_singleton, hfl]; exact hb) (by simp)
 simp only [List.length_singleton, hfl] at c1 hown
 rcases hown with ⟨rfl, rfl⟩ | hgs
 ·have c2 : callW C 311 [.slc none 0] (H ++ T) = some (.tup [], H ++ T) := gX (pr := kS) rfl
  have c3 : callW C 312 [.slc none 0] (H ++ T) = some (.slc none 0, H ++ T) := by
   apply Ret.eq
   rw [OH]
   simp [rM, Tryz.f312]
  simp [wH, Tryz.f236, c1, c2, c3]
  exact ⟨[], _, _, ⟨rfl, rfl⟩, by simp [fM, zy, fD], rfl, Some1.nil, fun _ _ h => by cases h⟩
 ·obtain ⟨T', id', hT, h1, h2, rfl⟩ := hgs
  have hT' := List.append_cancel_left hT
  subst hT'
  rw [List.length_map] at c1
  have hid : id' < (H ++ T).length := (List.getElem?_eq_some_iff.1 h2).1
  by_cases hl0 : l.length = 0
  ·have : l = [] := List.length_eq_zero_iff.1 hl0
   subst this
   have c2 : callW C 311 [.slc (some (id', 0)) 0] (H ++ T) = some (.tup [], H ++ T) := gX (pr := kS) rfl
   have c3 : callW C 312 [.slc (some (id', 0)) 0] (H ++ T) = some (.slc (some (id', 0)) 0, H ++ T) := by
    apply Ret.eq
    rw [OH]
    simp [rM, Tryz.f312]
   have hgc : fM H (H ++ T) (.slc (some (id', 0)) 0) = H ++ T := Gs.gc ⟨T, id', rfl, h1, h2, rfl⟩
   simp at c1
   simp [wH, Tryz.f236, c1, c2, c3, hgc]
   exact ⟨_, _, _, ⟨rfl, rfl⟩, rfl, rfl, Some1.none (by simpa using h2), fun _ _ h => by cases h; exact h1⟩
  ·have c2 := Oc h2 (by omega) (by omega)
   obtain ⟨G', k, c3, k1, k2, k3, k4⟩ := Nr (l := sorted l) (G0 := (H ++ T).set id' (.mk true 1 ((sorted l).map V.str))) (id := id') (by rw [List.getElem?_set_self hid]) (by rw [tY]; exact hb)
   rw [tY] at c3 k3
   rw [List.length_set] at k1
   obtain ⟨T2, hT2⟩ : ∃ T2, G' = H ++ T2 := qM (fun q hq => by
    rw [k2 q (by omega), List.getElem?_set_ne (by omega), List.getElem?_append_left hq]) (by rw [k1]; simp)
   subst hT2
   have hgc : ∀ n, fM H (H ++ T2) (.slc (some (id', 0)) n) = H ++ T2 := fun n => by
    unfold fM
    rw [if_neg]
    rintro ⟨_, own, es, cells, h⟩
    have := (List.getElem?_eq_some_iff.1 h).1
    omega
   have hnd : k = l.length ↔ l.Nodup := by
    rw [k3, HY IC]
    exact sorted_perm.nodup_iff
   simp [wH, Tryz.f236, c1, c2, c3, hgc]
   exact ⟨T2, _, _, ⟨rfl, rfl⟩, rfl, hnd, Some1.of k4 hb hmx, fun _ _ h => by cases h; exact h1⟩
theorem SQ {H : List Ob} {id : Nat} {own : Bool} {va : V} {l : List Str} (h0 : H[id]? = some (.mk own 1 [va])) (hw : AStrs H va l) (hb : l.length ≤ 1000) :
  ∃ T p n, callW C 236 [.slc (some (id, 0)) 1] H = some (.slc p n, H ++ T) ∧ (n = l.length ↔ l.Nodup) := by
 obtain ⟨T, p, n, h1, h2, _⟩ := OA h0 hw hb
 exact ⟨T, p, n, h1, h2⟩
theorem Own.strs {H G : List Ob} {w : V} {l : List Str} (h : Own H G w l) (hl : l.length ≤ maxLen) (hs : ∀ s ∈ l, s.length ≤ maxLen) : AStrs G w l := by
 rcases h with ⟨rfl, rfl⟩ | h
 ·exact ak.2 ⟨_, _, rfl, rfl, by simp, .inl ⟨rfl, rfl⟩⟩
 ·exact (h.strs hl hs).1
theorem rV {H X Y : List Ob} : Keep H.length (H ++ X) (H ++ Y) := fun id hid => by rw [List.getElem?_append_left hid, List.getElem?_append_left hid]
theorem wK {H Y : List Ob} : Keep H.length H (H ++ Y) := fun id hid => by rw [List.getElem?_append_left hid]
theorem Own.one {H G : List Ob} {w : V} {l : List Str} (h : Own H G w l) : aN w = true ∧ cellsOf w = some [w] := by
 rcases h with ⟨rfl, rfl⟩ | h
 ·exact ⟨rfl, rfl⟩
 ·exact h.one
theorem bI : ∀ (a b : Str), cO a b ↔ a < b
 | a, [] => by simp [cO, Op.bytesLess]
 | [], b :: bs => by simp [cO, Op.bytesLess]
 | a :: as', b :: bs => by
  have := bI as' bs
  unfold cO at this ⊢
  simp [Op.bytesLess, List.cons_lt_cons_iff, this]
theorem Az : ∀ {l : List Str}, eG l → l.Pairwise fun a b => a < b
 | [], _ => .nil
 | [x], _ => by simp
 | x :: y :: l, h => by
  have h' : eG (y :: l) := fun j z hz => by
   obtain ⟨h1, h2⟩ := h (j + 1) z (by simpa using hz)
   refine ⟨h1, fun v hj hv => h2 v (by omega) ?_⟩
   rw [show j + 1 - 1 = (j - 1) + 1 by omega]
   simpa using hv
  have ih := Az h'
  have hxy : x < y := (bI x y).1 ((h 1 y rfl).2 x (by omega) rfl)
  rw [List.pairwise_cons]
  refine ⟨fun z hz => ?_, ih⟩
  rcases List.mem_cons.1 hz with rfl | hz
  ·exact hxy
  ·exact List.lt_trans hxy ((List.pairwise_cons.1 ih).1 z hz)
theorem x9 {l : List Str} (h : eG l) : l.Nodup := (Az h).imp fun h e => by subst e; exact List.lt_irrefl _ h
theorem Us {H : List Ob} {w1 w2 w3 : V} {c : PClass} (h1 : AStrs H w1 c.must) (h2 : AStrs H w2 c.may) (h3 : AStrs H w3 c.single) : callW C 256 [.agg [.str c.name, w1, w2, w3]] H = some (.bool (dec (ClassOk c)), H) := by
 apply Ret.dec
 rw [acv]
 simp [EK, Tryz.f256, h1.one, h2.one, h3.one, aI, aH, ax, St.new]
 refine aB (fun k σ => ∃ (i : Nat) (r : Nat → R), i + k = 3 ∧ σ = ⟨r, 1, H ++ [.mk true 1 [w1, w2, w3]]⟩ ∧ r 1 = .box 0 [.str c.name, w1, w2, w3] ∧ r 12 = .val (.slc (some (H.length, 0)) 3) ∧ r 13 = .val (.int .i64 3) ∧ r 14 = .val (.int .i64 i) ∧ ∀ j l, j < i → [c.must, c.may, c.single][j]? = some l → l.length ≤ 10 ∧ eG l) ?_ 3 _ ⟨0, _, by simp, rfl, by simp, by simp, by simp, by simp, by simp⟩
 rintro k σ ⟨i, r, hik, rfl, r1, r12, r13, r14, hall⟩
 cases k with
 | succ k =>
  have hi : i < 3 := by omega
  have hiI : (i : Int) < 3 := by omega
  obtain ⟨l, w, hli, hwi, hs, hcl⟩ : ∃ l w, [c.must, c.may, c.single][i]? = some l ∧ [w1, w2, w3][i]? = some w ∧ AStrs H w l ∧ (ClassOk c → l.length ≤ 10 ∧ eG l) := by
   match i, hi with
   | 0, _ => exact ⟨_, _, rfl, rfl, h1, fun h => ⟨h.l1, h.n1⟩⟩
   | 1, _ => exact ⟨_, _, rfl, rfl, h2, fun h => ⟨h.l2, h.n2⟩⟩
   | 2, _ => exact ⟨_, _, rfl, rfl, h3, fun h => ⟨h.l3, h.n3⟩⟩
  have ld := aY (H := H ++ [.mk true 1 [w1, w2, w3]]) (o := i) get_last hwi
  have hw : IntKind.i64.wrap ((i : Int) + 1) = ((i : Int) + 1) := wrap_i64 (by omega) (by omega)
  have c1 := SG (hs.ext (T := [.mk true 1 [w1, w2, w3]]))
  by_cases g1 : (l.length : Int) > 10
  ·have hn : ¬ ClassOk c := fun h => by have := (hcl h).1; omega
   simp [r1, r12, r13, r14, hiI, hi, ld, (hs.ext (T := [.mk true 1 [w1, w2, w3]])).len, g1, hn]
  by_cases g2 : eG l
  ·rw [aj g2] at c1
   simp [r1, r12, r13, r14, hiI, hi, ld, (hs.ext (T := [.mk true 1 [w1, w2, w3]])).len, g1, c1, hw]
   exact ⟨k, by omega, i + 1, by omega, by omega, dC (P := fun j (l : List Str) => l.length ≤ 10 ∧ eG l) hall hli ⟨by omega, g2⟩⟩
  ·rw [au g2] at c1
   have hn : ¬ ClassOk c := fun h => g2 (hcl h).2
   simp [r1, r12, r13, r14, hiI, hi, ld, (hs.ext (T := [.mk true 1 [w1, w2, w3]])).len, g1, c1, hn]
 | zero =>
 have hi : i = 3 := by omega
 subst hi
 obtain ⟨m1, m2⟩ := hall 0 c.must (by omega) rfl
 obtain ⟨m3, m4⟩ := hall 1 c.may (by omega) rfl
 obtain ⟨m5, m6⟩ := hall 2 c.single (by omega) rfl
 have hfl : fl [c.must, c.may] 2 = c.must ++ c.may := by simp [fl]
 obtain ⟨T, w, c1, hown⟩ := H6 (H := H ++ [.mk true 1 [w1, w2, w3]] ++ [.mk true 1 [w1, w2]]) (id := H.length + 1) (ls := [c.must, c.may]) (ws := [w1, w2]) (own := true) (by rw [List.getElem?_append_right (by simp)]; simp) rfl (fun i v l g1 g2 => by
  match i with
  | 0 => cases g1; cases g2; exact h1.ext.ext
  | 1 => cases g1; cases g2; exact h2.ext.ext
  | i + 2 => simp at g1) (by simp only [List.length_cons, List.length_nil, Nat.reduceAdd, hfl, List.length_append]; omega) (by simp)
 simp only [List.length_cons, List.length_nil, Nat.reduceAdd, hfl, List.append_assoc, List.cons_append, List.nil_append] at c1 hown
 have how := hown.one
 have st := store1 (H := H ++ .mk true 1 [w1, w2, w3] :: .mk true 1 [w1, w2] :: (T ++ [.mk true 1 [.slc none 0]])) (id := H.length + (T.length + 1 + 1)) (es := 1) (cells := [.slc none 0]) (v := w) (o := 0) (by rw [List.getElem?_append_right (by omega)]; simp) (by simp) how.2 how.1
 have hmem : (H ++ Ob.mk true 1 [w1, w2, w3] :: Ob.mk true 1 [w1, w2] :: (T ++ [Ob.mk true 1 [V.slc none 0]])).length = H.length + (T.length + 1 + 1) + 1 := by simp; omega
 have hold : ∀ (q : Nat) o, (H ++ Ob.mk true 1 [w1, w2, w3] :: Ob.mk true 1 [w1, w2] :: T)[q]? = some o → ((H ++ Ob.mk true 1 [w1, w2, w3] :: Ob.mk true 1 [w1, w2] :: (T ++ [Ob.mk true 1 [V.slc none 0]])).set (H.length + (T.length + 1 + 1)) (Ob.mk true 1 ([V.slc none 0].set 0 w)))[q]? = some o := fun q o hq => by
  have hql := (List.getElem?_eq_some_iff.1 hq).1
  simp at hql
  rw [List.getElem?_set_ne (by omega), show H ++ Ob.mk true 1 [w1, w2, w3] :: Ob.mk true 1 [w1, w2] :: (T ++ [Ob.mk true 1 [V.slc none 0]]) = (H ++ Ob.mk true 1 [w1, w2, w3] :: Ob.mk true 1 [w1, w2] :: T) ++ [Ob.mk true 1 [V.slc none 0]] by simp]
  exact aZ _ _ hq
 have hobj : ((H ++ Ob.mk true 1 [w1, w2, w3] :: Ob.mk true 1 [w1, w2] :: (T ++ [Ob.mk true 1 [V.slc none 0]])).set (H.length + (T.length + 1 + 1)) (Ob.mk true 1 ([V.slc none 0].set 0 w)))[H.length + (T.length + 1 + 1)]? = some (Ob.mk true 1 [w]) := by
  rw [List.getElem?_set_self (by omega)]
  rfl
 obtain ⟨H3, hH3⟩ : ∃ H3, H3 = (H ++ Ob.mk true 1 [w1, w2, w3] :: Ob.mk true 1 [w1, w2] :: (T ++ [Ob.mk true 1 [V.slc none 0]])).set (H.length + (T.length + 1 + 1)) (Ob.mk true 1 ([V.slc none 0].set 0 w)) := ⟨_, rfl⟩
 rw [← hH3] at st hobj hold
 obtain ⟨T3, hT3⟩ : ∃ T3, H3 = H ++ T3 := by
  refine ⟨(Ob.mk true 1 [w1, w2, w3] :: Ob.mk true 1 [w1, w2] :: (T ++ [Ob.mk true 1 [V.slc none 0]])).set (T.length + 1 + 1) (Ob.mk true 1 ([V.slc none 0].set 0 w)), ?_⟩
  rw [hH3, List.set_append_right _ _ (by omega), Nat.add_sub_cancel_left]
 simp [r1, r12, r13, r14, h1.one, h2.one, h3.one, aI, aH, ax, St.new, c1, aP, st, -ag]
 generalize H.length + (T.length + 1 + 1) = id5 at hobj
 have hall3 : AStrs H3 w (c.must ++ c.may) := (hown.strs (by rw [List.length_append]; unfold maxLen; omega) (fun s hs => by
  rcases List.mem_append.1 hs with hs | hs
  ·exact nM h1 s hs
  ·exact nM h2 s hs)).up hold
 have hid5 : id5 < H3.length := (List.getElem?_eq_some_iff.1 hobj).1
 have h33 : AStrs H3 w3 c.single := by rw [hT3]; exact h3.ext
 have hgc1 : ∀ b, fM H H3 (.bool b) = H := fun b => by rw [hT3]; exact lQ
 have hgc2 : ∀ b X, fM H (H3 ++ X) (.bool b) = H := fun b X => by rw [hT3, List.append_assoc]; exact lQ
 clear hH3 hold hT3 st c1 hown hmem
 have ld := aY (o := 0) hobj rfl
 have c2 := FT (t := c.name) (H := H3)
 have hok : ClassOk c ↔ aX c.name ∧ (c.must ++ c.may).Nodup ∧ gz ∉ c.must ++ c.may ∧ ∀ t ∈ c.single, t ∈ c.must ++ c.may := by
  constructor
  ·intro h
   refine ⟨h.name, ?_, ?_, ?_⟩
   ·rw [List.nodup_append]
    exact ⟨x9 h.n1, x9 h.n2, fun a ha b hb hab => h.apart a ha (hab ▸ hb)⟩
   ·rw [List.mem_append]; exact fun h' => h'.elim h.noMust h.noMay
   ·intro t ht; rw [List.mem_append]; exact (h.known t ht).symm
  ·rintro ⟨k1, k2, k3, k4⟩
   rw [List.nodup_append] at k2
   rw [List.mem_append] at k3
   exact ⟨k1, m1, m3, m5, m2, m4, m6, fun t ht ht' => k2.2.2 t ht t ht' rfl, fun t ht => (List.mem_append.1 (k4 t ht)).symm, fun h => k3 (.inl h), fun h => k3 (.inr h)⟩
 by_cases g1 : aX c.name
 rotate_left
 ·rw [au g1] at c2
  have hn : ¬ ClassOk c := fun h => g1 h.name
  simp [r1, hid5, c2, hn, hgc1, hgc2, List.lookup]
 rw [aj g1] at c2
 obtain ⟨T4, p, n, c3, hn⟩ := SQ (H := H3 ++ [Ob.mk true 1 [w]]) (id := H3.length) get_last hall3.ext (by rw [List.length_append]; omega)
 simp only [List.append_assoc, List.cons_append, List.nil_append] at c3
 have hln := fun {e s b : Nat} {z : List V} => hall3.len (e := e) (s := s) (b := b) (z := z)
 by_cases g2 : (n : Int) = (c.must ++ c.may).length
 rotate_left
 ·have hno : ¬ ClassOk c := fun h => g2 (by have := hn.2 (hok.1 h).2.1; omega)
  simp only [List.length_append, Int.natCast_add] at g2 hln
  simp [r1, hid5, c2, c3, ld, hln, g2, aI, aH, ax, St.new, rV, wK, hall3.one, hno, hgc1, hgc2, List.lookup]
 have c4 : callW C 142 [w, .str [99, 108, 97, 115, 115]] (H3 ++ Ob.mk true 1 [w] :: T4) = some (.bool (dec (gz ∈ c.must ++ c.may)), H3 ++ Ob.mk true 1 [w] :: T4) := mg hall3.ext
 have ld2 := aY (H := H3 ++ Ob.mk true 1 [w] :: T4) (o := 0) (v := w) (aZ _ _ hobj) rfl
 have g2' : (c.must ++ c.may).Nodup := hn.1 (by omega)
 by_cases g3 : gz ∈ c.must ++ c.may
 ·rw [aj g3] at c4
  have hno : ¬ ClassOk c := fun h => (hok.1 h).2.2.1 g3
  simp only [List.length_append, Int.natCast_add] at g2 hln
  simp [r1, hid5, c2, c3, c4, ld, ld2, hln, g2, aI, aH, ax, St.new, rV, wK, hall3.one, hno, hgc1, hgc2, List.lookup]
 rw [au g3] at c4
 have c5 := qF (H := H3 ++ Ob.mk true 1 [w] :: T4) (g := 325) (a := []) (b := [.ptr (some (id5, 0))]) h33.ext (fun x => !dec (x ∈ c.must ++ c.may)) (fun x _ => OW (aZ _ _ hobj) hall3.ext)
 by_cases g4 : ∃ x ∈ c.single, (!dec (x ∈ c.must ++ c.may)) = true
 ·rw [aj g4] at c5
  have hno : ¬ ClassOk c := fun h => by
   obtain ⟨x, hx, hd⟩ := g4
   rw [aj ((hok.1 h).2.2.2 x hx)] at hd
   cases hd
  simp only [List.length_append, Int.natCast_add] at g2 hln
  simp [r1, hid5, c2, c3, c4, c5, ld, ld2, hln, g2, aI, aH, ax, St.new, rV, wK, hall3.one, hno, hgc1, hgc2, List.lookup, h3.one]
 ·rw [au g4] at c5
  have hyes : ClassOk c := hok.2 ⟨g1, g2', g3, fun t ht => Classical.byContradiction fun h => g4 ⟨t, ht, by rw [au h]; rfl⟩⟩
  simp only [List.length_append, Int.natCast_add] at g2 hln
  simp [r1, hid5, c2, c3, c4, c5, ld, ld2, hln, g2, aI, aH, ax, St.new, rV, wK, hall3.one, hyes, hgc1, hgc2, List.lookup, h3.one]
theorem GZ {H : List Ob} {v : V} {l : List PClass} (h : aW H v l) : callW C 168 [v] H = some (.bool (dec (eU l)), H) := by
 apply Ret.dec
 rw [afx]
 have hb : l.length ≤ 9223372036854775807 := h.bound
 by_cases g0 : (l.length : Int) > 6
 ·have hn : ¬ eU l := fun h => by have := h.2; omega
  simp [yw, Tryz.f168, h.len, g0, hn]
 simp [yw, Tryz.f168, h.len, g0]
 refine aB (fun k σ => ∃ (i n : Nat) (r : Nat → R), i + k = l.length ∧ σ = ⟨r, n, H⟩ ∧ r 0 = .val v ∧ r 8 = .val v ∧ r 9 = .val (.int .i64 l.length) ∧ r 10 = .val (.int .i64 i) ∧ ∀ j x, j < i → l[j]? = some x → ClassOk x ∧ bV PClass.name l j x) ?_ l.length _ ⟨0, 0, _, by simp, rfl, by simp, by simp, by simp, by simp, by simp⟩
 rintro k σ ⟨i, n, r, hik, rfl, r0, r8, r9, r10, hall⟩
 cases k with
 | zero =>
  have hi : i = l.length := by omega
  subst hi
  have hx := fF (P := fun j (x : PClass) => ClassOk x ∧ bV PClass.name l j x) hall
  have hv : eU l := ⟨hx, by omega⟩
  simp [r0, r8, r9, r10, hv]
 | succ k =>
  have hi : i < l.length := by omega
  obtain ⟨x, hx⟩ : ∃ c, l[i]? = some c := ⟨l[i], by simp [hi]⟩
  have hw : IntKind.i64.wrap ((i : Int) + 1) = ((i : Int) + 1) := wrap_i64 (by omega) (by omega)
  obtain ⟨id, o, w1, w2, w3, e1, l0, l4, q1, q2, q3, _⟩ := gK h hx
  have c1 := Us q1 q2 q3
  have hstep := fun h => dC (P := fun j (x : PClass) => ClassOk x ∧ bV PClass.name l j x) hall hx h
  by_cases g1 : ClassOk x
  rotate_left
  ·rw [au g1] at c1
   have hn : ¬ eU l := fun hd => g1 (hd.1 i x hx).1
   simp [r0, r8, r9, r10, hi, e1, l4, c1, hn, ae, q1.one, q2.one, q3.one]
  rw [aj g1] at c1
  by_cases hi0 : i = 0
  ·have := hstep ⟨g1, fun y hy => by omega⟩
   subst hi0
   simp at e1
   simp [r0, r8, r9, r10, hi, e1, l4, c1, ae, q1.one, q2.one, q3.one]
   exact ⟨k, by omega, 1, by omega, n + 1, _, ⟨rfl, rfl⟩, by simp [r0], by simp [r8], by simp [r9], by simp, this⟩
  have hip : 0 < i := by omega
  obtain ⟨y, hy⟩ : ∃ c, l[i - 1]? = some c := ⟨l[i - 1]'(by omega), by simp⟩
  obtain ⟨id', o', _, _, _, e1', l0', _⟩ := gK h hy
  have hw1 : IntKind.i64.wrap ((i : Int) - 1) = ((i - 1 : Nat) : Int) := by rw [wrap_i64 (by omega) (by omega)]; omega
  by_cases g2 : cO y.name x.name
  ·have := hstep ⟨g1, fun z _ hz => by rw [hy] at hz; cases hz; exact g2⟩
   simp [r0, r8, r9, r10, hi, e1, l0, l4, c1, e1', l0', hw, hw1, hip, iJ g2, ae, q1.one, q2.one, q3.one]
   exact ⟨k, by omega, i + 1, by omega, n + 1, _, ⟨rfl, rfl⟩, by simp [r0], by simp [r8], by simp [r9], by simp, this⟩
  ·have hn : ¬ eU l := fun hd => g2 ((hd.1 i x hx).2 y hip hy)
   simp [r0, r8, r9, r10, hi, e1, l0, l4, c1, e1', l0', hw, hw1, hip, iH g2, ae, q1.one, q2.one, q3.one, hn]
noncomputable def oQ (a b : Str) : Int := if dec (cO a b) = true then -1 else if dec (cO b a) = true then 1 else 0
theorem rW {a b : Str} : oQ a b < 0 ↔ cO a b := by
 unfold oQ
 by_cases h : cO a b
 ·rw [aj h]; simp [h]
 ·rw [au h]
  by_cases h' : cO b a
  ·rw [aj h']; simp [h]
  ·rw [au h']; simp [h]
theorem oK {a b : Str} : oQ a b = 0 ↔ a = b := by
 unfold oQ
 by_cases h : cO a b
 ·rw [aj h]
  have : a ≠ b := fun e => by subst e; exact List.lt_irrefl _ ((bI a a).1 h)
  simp [this]
 ·rw [au h]
  by_cases h' : cO b a
  ·rw [aj h']
   have : a ≠ b := fun e => by subst e; exact List.lt_irrefl _ ((bI a a).1 h')
   simp [this]
  ·rw [au h']
   have h1 : b ≤ a := fun hh => h ((bI a b).2 hh)
   have h2 : a ≤ b := fun hh => h' ((bI b a).2 hh)
   simp [List.le_antisymm h2 h1]
theorem UD {a b : Str} {H : List Ob} : callW C 275 [.str a, .str b] H = some (.int .i64 (oQ a b), H) := by
 have c0 : ∀ x : Str, callW C 333 [.str x] H = some (.bool false, H) := fun x => by
  apply Ret.eq
  rw [aeF]
  simp [D9, Tryz.f333]
 apply Ret.eq
 rw [aeb]
 by_cases g1 : cO a b
 ·have : oQ a b = -1 := by unfold oQ; rw [aj g1]; rfl
  simp [uY, Tryz.f275, c0, iJ g1, this]
 ·by_cases g2 : cO b a
  ·have hne : a ≠ b := fun e => by subst e; exact g1 g2
   have : oQ a b = 1 := by unfold oQ; rw [au g1, aj g2]; rfl
   simp [uY, Tryz.f275, c0, iH g1, hne, this]
  ·have : oQ a b = 0 := by unfold oQ; rw [au g1, au g2]; rfl
   have he := oK.1 this
   simp [uY, Tryz.f275, c0, iH g1, he, this]
   subst he
   simp [iH g1, this]
theorem uF {n t : Str} {w : V} {H : List Ob} (ho : cellsOf w = some [w]) : callW C 358 [.agg [.str n, w], .str t] H = some (.int .i64 (oQ n t), H) := by
 apply Ret.eq
 rw [Ye]
 simp [Ep, Tryz.f358, UD]
theorem jZ {α : Type} {key : α → Str} : ∀ {l : List α}, (∀ (j : Nat) x, l[j]? = some x → bV key l j x) → l.Pairwise fun a b => key a < key b
 | [], _ => .nil
 | [x], _ => by simp
 | x :: y :: l, h => by
  have h' : ∀ (j : Nat) z, (y :: l)[j]? = some z → bV key (y :: l) j z := fun j z hz v hj hv => by
   refine h (j + 1) z (by simpa using hz) v (by omega) ?_
   rw [show j + 1 - 1 = (j - 1) + 1 by omega]
   simpa using hv
  have ih := jZ h'
  have hxy : key x < key y := (bI _ _).1 (h 1 y rfl x (by omega) rfl)
  rw [List.pairwise_cons]
  refine ⟨fun z hz => ?_, ih⟩
  rcases List.mem_cons.1 hz with rfl | hz
  ·exact hxy
  ·exact List.lt_trans hxy ((List.pairwise_cons.1 ih).1 z hz)
theorem O5 {H : List Ob} {v : V} {l : List PAttr} {t : Str} (h : bK H v l) (hl : l.length ≤ 1000) (hp : l.Pairwise fun a b => a.name < b.name) :
  ∃ (i : Nat) (ok : Bool), callW C 357 [v, .str t, .fn 358 [] []] H = some (.tup [.int .i64 i, .bool ok], H) ∧
   (ok = true → ∃ a, l[i]? = some a ∧ a.name = t) ∧ (ok = false → ∀ a ∈ l, a.name ≠ t) := by
 suffices hs : Ret C 357 [v, .str t, .fn 358 [] []] H fun q H' =>
   (∃ (i : Nat) (ok : Bool), q = .tup [.int .i64 i, .bool ok] ∧ (ok = true → ∃ a, l[i]? = some a ∧ a.name = t) ∧ (ok = false → ∀ a ∈ l, a.name ≠ t)) ∧ H' = H by
  obtain ⟨q, H', hc, ⟨i, ok, rfl, h1, h2⟩, rfl⟩ := hs
  exact ⟨i, ok, hc, h1, h2⟩
 rw [UH]
 simp [yR, Tryz.f357, h.len]
 refine aB (fun k σ => ∃ (i j : Nat) (r : Nat → R), j - i = k ∧ i ≤ j ∧ j ≤ l.length ∧ σ = ⟨r, 0, H⟩ ∧ r 0 = .val v ∧ r 1 = .val (.str t) ∧ r 2 = .val (.fn 358 [] []) ∧ r 8 = .val (.int .i64 l.length) ∧ r 9 = .val (.int .i64 i) ∧ r 10 = .val (.int .i64 j) ∧
  (∀ q a, q < i → l[q]? = some a → cO a.name t) ∧ (∀ q a, j ≤ q → l[q]? = some a → ¬ cO a.name t)) ?_ l.length _ ⟨0, l.length, _, by omega, by omega, by omega, rfl, by simp, by simp, by simp, by simp, by simp, by simp, fun q a h => by omega, fun q a h1 h2 => by have := (List.getElem?_eq_some_iff.1 h2).1; omega⟩
 rintro k σ ⟨i, j, r, hk, hij, hjl, rfl, r0, r1, r2, r8, r9, r10, hlo, hhi⟩
 cases k with
 | succ k =>
  have hlt : (i : Int) < j := by omega
  have hlt' : i < j := by omega
  have hw1 : IntKind.i64.wrap ((i : Int) + j) = (i : Int) + j := wrap_i64 (by omega) (by omega)
  have hw2 : IntKind.u64.wrap ((i : Int) + j) = (i : Int) + j := by unfold IntKind.wrap; simp [IntKind.bits, IntKind.signed]; omega
  have hq : ((i : Int) + j).fdiv 2 = (((i + j) / 2 : Nat) : Int) := by rw [Int.fdiv_eq_ediv_of_nonneg _ (by omega)]; omega
  obtain ⟨m, hm⟩ : ∃ m, m = (i + j) / 2 := ⟨_, rfl⟩
  rw [← hm] at hq
  have hw3 : IntKind.i64.wrap (m : Int) = m := wrap_i64 (by omega) (by omega)
  have hw4 : IntKind.i64.wrap ((m : Int) + 1) = (m : Int) + 1 := wrap_i64 (by omega) (by omega)
  have hml : m < l.length := by omega
  obtain ⟨a, ha⟩ : ∃ a, l[m]? = some a := ⟨l[m], List.getElem?_eq_getElem hml⟩
  obtain ⟨id, o, w, e1, l0, l1, l2, hvs, _⟩ := fB h ha
  have c1 := uF (n := a.name) (t := t) (w := w) (H := H) hvs.one.2
  have hord : ∀ q b, l[q]? = some b → (q < m → b.name < a.name) ∧ (m < q → a.name < b.name) := fun q b hb => by
   obtain ⟨hq1, hb⟩ := List.getElem?_eq_some_iff.1 hb
   obtain ⟨_, ha⟩ := List.getElem?_eq_some_iff.1 ha
   have := List.pairwise_iff_getElem.1 hp
   exact ⟨fun hh => by have := this q m hq1 hml hh; rwa [hb, ha] at this, fun hh => by have := this m q hml hq1 hh; rwa [hb, ha] at this⟩
  by_cases g1 : cO a.name t
  ·have g1' := rW.2 g1
   simp [r0, r1, r2, r8, r9, r10, hlt, hlt', hw1, hw2, hq, hw3, hw4, e1, l2, c1, g1', jh, IntKind.bits]
   refine ⟨j - (m + 1), by omega, m + 1, j, by omega, by omega, by omega, by omega, rfl, fun q b hq1 hb => ?_, hhi⟩
   by_cases hqm : q = m
   ·subst hqm; rw [ha] at hb; cases hb; exact g1
   ·exact (bI _ _).2 (List.lt_trans ((hord q b hb).1 (by omega)) ((bI _ _).1 g1))
  ·have g1' : ¬ oQ a.name t < 0 := mt rW.1 g1
   simp [r0, r1, r2, r8, r9, r10, hlt, hlt', hw1, hw2, hq, hw3, hw4, e1, l2, c1, g1', jh, IntKind.bits]
   refine ⟨m - i, by omega, i, m, by omega, by omega, by omega, rfl, rfl, hlo, fun q b hq1 hb hlt2 => ?_⟩
   by_cases hqm : q = m
   ·subst hqm; rw [ha] at hb; cases hb; exact g1 hlt2
   ·exact g1 ((bI _ _).2 (List.lt_trans ((hord q b hb).2 (by omega)) ((bI _ _).1 hlt2)))
 | zero =>
  have hij' : i = j := by omega
  subst hij'
  by_cases hil : i < l.length
  ·have hilI : (i : Int) < l.length := by omega
   obtain ⟨a, ha⟩ : ∃ a, l[i]? = some a := ⟨l[i], List.getElem?_eq_getElem hil⟩
   obtain ⟨id, o, w, e1, l0, l1, l2, hvs, _⟩ := fB h ha
   have c1 := uF (n := a.name) (t := t) (w := w) (H := H) hvs.one.2
   by_cases g1 : a.name = t
   ·have g1' := oK.2 g1
    simp [r0, r1, r2, r8, r9, r10, hil, e1, l2, c1, g1']
    exact ⟨i, rfl, a, ha, g1⟩
   ·have g1' : ¬ oQ a.name t = 0 := mt oK.1 g1
    simp [r0, r1, r2, r8, r9, r10, hil, e1, l2, c1, g1']
    refine ⟨⟨i, rfl⟩, fun b hb hbt => ?_⟩
    obtain ⟨q, hq1, rfl⟩ := List.getElem_of_mem hb
    have hqe := List.getElem?_eq_getElem hq1
    rcases Nat.lt_trichotomy q i with hh | hh | hh
    ·have := hlo q _ hh hqe
     rw [hbt] at this
     exact List.lt_irrefl _ ((bI _ _).1 this)
    ·subst hh; rw [ha] at hqe; cases hqe; exact g1 hbt
    ·have h1 := hhi i a (by omega) ha
     obtain ⟨_, ha'⟩ := List.getElem?_eq_some_iff.1 ha
     have h2 := List.pairwise_iff_getElem.1 hp i q hil hq1 hh
     rw [ha', hbt] at h2
     exact h1 ((bI _ _).2 h2)
  ·simp [r0, r1, r2, r8, r9, r10, hil]
   refine ⟨⟨i, rfl⟩, fun b hb hbt => ?_⟩
   obtain ⟨q, hq1, rfl⟩ := List.getElem_of_mem hb
   have := hlo q _ (by omega) (List.getElem?_eq_getElem hq1)
   rw [hbt] at this
   exact List.lt_irrefl _ ((bI _ _).1 this)
theorem pz {α : Type} {key : α → Str} {l : List α} {t : Str} {i : Nat} {a : α} (hp : l.Pairwise fun a b => key a < key b) (h : l[i]? = some a) (hk : key a = t) : bz key l t = some a := by
 unfold bz
 rw [List.find?_eq_some_iff_getElem]
 obtain ⟨hi, h⟩ := List.getElem?_eq_some_iff.1 h
 refine ⟨by simp [hk], i, hi, h, fun j hj => ?_⟩
 have := List.pairwise_iff_getElem.1 hp j i (by omega) hi hj
 rw [h, hk] at this
 have hne : key l[j] ≠ t := fun e => by rw [e] at this; exact List.lt_irrefl _ this
 simp [hne]
theorem Ap {α : Type} {key : α → Str} {l : List α} {t : Str} (h : ∀ a ∈ l, key a ≠ t) : bz key l t = none := by
 unfold bz
 rw [List.find?_eq_none]
 intro x hx
 simpa using h x hx
theorem UY {H : List Ob} {ide : Nat} {own : Bool} {es : Nat} {vd va : V} {l : List PAttr} {t : Str} (he : H[ide]? = some (.mk own es [vd, va])) (h : bK H va l) (hl : l.length ≤ 1000) (hp : l.Pairwise fun a b => a.name < b.name) :
  ∃ (i : Nat) (ok : Bool), callW C 337 [.ptr (some (ide, 0)), .str t] H = some (.tup [.int .i64 i, .bool ok], H) ∧
   (ok = true → ∃ a, l[i]? = some a ∧ a.name = t) ∧ (ok = false → ∀ a ∈ l, a.name ≠ t) := by
 obtain ⟨i, ok, c1, h1, h2⟩ := O5 (t := t) h hl hp
 refine ⟨i, ok, ?_, h1, h2⟩
 apply Ret.eq
 rw [UM]
 have ld := aY (o := 1) (v := va) he rfl
 simp [yV, Tryz.f337, ld, c1]
theorem uz {H : List Ob} {ide : Nat} {own : Bool} {es : Nat} {vd va : V} {l : List PAttr} {t : Str} (he : H[ide]? = some (.mk own es [vd, va])) (h : bK H va l) (hl : l.length ≤ 1000) (hp : l.Pairwise fun a b => a.name < b.name) :
  ∃ w, callW C 287 [.ptr (some (ide, 0)), .str t] H = some (w, H) ∧ AStrs H w (valsOf l t) := by
 obtain ⟨i, ok, c1, h1, h2⟩ := UY (t := t) he h hl hp
 suffices hs : Ret C 287 [.ptr (some (ide, 0)), .str t] H fun q H' => AStrs H q (valsOf l t) ∧ H' = H by
  obtain ⟨q, H', hc, hr, rfl⟩ := hs
  exact ⟨q, hc, hr⟩
 rw [aaq]
 have ld := aY (o := 1) (v := va) he rfl
 cases ok with
 | false =>
  have hv : valsOf l t = [] := by unfold valsOf; rw [Ap (h2 rfl)]
  simp [yF, Tryz.f287, c1, hv]
  exact ak.2 ⟨_, _, rfl, rfl, by simp, .inl ⟨rfl, rfl⟩⟩
 | true =>
  obtain ⟨a, ha, hat⟩ := h1 rfl
  obtain ⟨id, o, w, e1, l0, l1, _, hw, _⟩ := fB h ha
  have hv : valsOf l t = a.vals := by unfold valsOf; rw [pz hp ha hat]
  simp [yF, Tryz.f287, c1, ld, e1, l1, hv]
  exact hw
theorem Uj {H : List Ob} {ide idp : Nat} {own own' : Bool} {es es' : Nat} {vd va : V} {l : List PAttr} {t : Str} (he : H[ide]? = some (.mk own es [vd, va])) (hq : H[idp]? = some (.mk own' es' [.ptr (some (ide, 0))])) (h : bK H va l) (hl : l.length ≤ 1000) (hp : l.Pairwise fun a b => a.name < b.name) :
  callW C 344 [.str t, .ptr (some (idp, 0))] H = some (.bool (decide (0 < (valsOf l t).length)), H) := by
 obtain ⟨w, c1, hw⟩ := uz (t := t) he h hl hp
 apply Ret.eq
 rw [acC]
 have ld := aY (o := 0) (v := .ptr (some (ide, 0))) hq rfl
 simp [EE, Tryz.f344, ld, c1, hw.len]
theorem TJ {H : List Ob} {idn : Nat} {own : Bool} {es : Nat} {n t : Str} {w1 w2 w3 : V} (hq : H[idn]? = some (.mk own es [.str t])) (h1 : cellsOf w1 = some [w1]) :
  callW C 356 [.agg [.str n, w1, w2, w3], .ptr (some (idn, 0))] H = some (.bool (decide (n = t)), H) := by
 apply Ret.eq
 rw [aeW]
 have ld := aY (o := 0) (v := .str t) hq rfl
 simp [Fb, Tryz.f356, ld]
theorem zY {H : List Ob} {idn : Nat} {own : Bool} {es : Nat} {v : V} {l : List PClass} {t : Str} (hq : H[idn]? = some (.mk own es [.str t])) (h : aW H v l) :
  ∃ r : Int, callW C 355 [v, .fn 356 [] [.ptr (some (idn, 0))]] H = some (.int .i64 r, H) ∧ FirstAt PClass.name l t r := by
 suffices hs : Ret C 355 [v, .fn 356 [] [.ptr (some (idn, 0))]] H fun q H' => (∃ r : Int, q = .int .i64 r ∧ FirstAt PClass.name l t r) ∧ H' = H by
  obtain ⟨q, H', hc, ⟨r, rfl, hr⟩, rfl⟩ := hs
  exact ⟨r, hc, hr⟩
 rw [adm]
 have hb : l.length ≤ 9223372036854775807 := h.bound
 simp [DU, Tryz.f355, h.len]
 refine aB (fun k σ => ∃ (i : Nat) (r : Nat → R), i + k = l.length ∧ σ = ⟨r, 0, H⟩ ∧ r 0 = .val v ∧ r 1 = .val (.fn 356 [] [.ptr (some (idn, 0))]) ∧ r 7 = .val (.int .i64 l.length) ∧ r 8 = .val (.int .i64 i) ∧ ∀ j x, j < i → l[j]? = some x → x.name ≠ t) ?_ l.length _ ⟨0, _, by simp, rfl, by simp, by simp, by simp, by simp, by simp⟩
 rintro k σ ⟨i, r, hik, rfl, r0, r1, r7, r8, hall⟩
 cases k with
 | zero =>
  have hi : i = l.length := by omega
  subst hi
  have hx := fF (P := fun j (x : PClass) => x.name ≠ t) hall
  simp [r0, r1, r7, r8]
  exact .inr ⟨hx, rfl⟩
 | succ k =>
  have hi : i < l.length := by omega
  obtain ⟨x, hx⟩ : ∃ c, l[i]? = some c := ⟨l[i], by simp [hi]⟩
  have hw : IntKind.i64.wrap ((i : Int) + 1) = ((i : Int) + 1) := wrap_i64 (by omega) (by omega)
  obtain ⟨id, o, w1, w2, w3, e1, l0, l4, q1, q2, q3, _⟩ := gK h hx
  have c1 := TJ (n := x.name) (w1 := w1) (w2 := w2) (w3 := w3) hq q1.one.2
  by_cases g1 : x.name = t
  ·rw [decide_eq_true g1] at c1
   simp [r0, r1, r7, r8, hi, e1, l4, c1]
   exact .inl ⟨i, x, hx, g1, hall, rfl⟩
  ·rw [decide_eq_false g1] at c1
   simp [r0, r1, r7, r8, hi, e1, l4, c1, hw]
   exact ⟨k, by omega, i + 1, by omega, by omega, dC (P := fun j (x : PClass) => x.name ≠ t) hall hx g1⟩
theorem Am {H T : List Ob} {w : V} {l : List Str} (h : AStrs (H ++ T) w l) (hl : fD H w) : AStrs H w l := by
 obtain ⟨w', us, hw, hu, hb, hs⟩ := ak.1 h.at
 cases hw
 cases hu
 refine ak.2 ⟨_, _, rfl, rfl, hb, ?_⟩
 rcases hs with h | ⟨id, off, own, cells, rfl, h2, h3, h4⟩
 ·exact .inl h
 ·obtain ⟨_, _, _, h5⟩ := hl
  have hid := (List.getElem?_eq_some_iff.1 h5).1
  rw [List.getElem?_append_left hid] at h2
  refine .inr ⟨id, off, own, cells, rfl, h2, h3, fun i x hx => ?_⟩
  have := h4 i x hx
  rw [bP] at this ⊢
  exact this
theorem zQ {H T : List Ob} {m : Option PClass} {cs : List V} {ok : Bool} (h : jk (H ++ T) m cs ok) : ∃ T', fM H (H ++ T) (.tup [.agg cs, .bool ok]) = H ++ T' ∧ jk (H ++ T') m cs ok := by
 by_cases hl : fD H (.tup [.agg cs, .bool ok])
 ·refine ⟨[], by rw [iZ hl, List.append_nil], ?_⟩
  rw [List.append_nil]
  rcases h with ⟨rfl, c, w1, w2, w3, h1, rfl, h2, h3, h4⟩ | h
  ·simp only [fD, gJ, and_true, true_and] at hl
   exact .inl ⟨rfl, c, w1, w2, w3, h1, rfl, Am h2 hl.1, Am h3 hl.2.1, Am h4 hl.2.2⟩
  ·exact .inr h
 ·refine ⟨T, ?_, h⟩
  unfold fM
  rw [if_neg fun h => hl h.2]
theorem Aa {H : List Ob} {v : V} {l : List Str} (h : AStrs H v l) (hl : l.length ≤ 1000000) : ∃ T w, callW C 277 [v] H = some (w, H ++ T) ∧ Own H (H ++ T) w l ∧ AStrs (H ++ T) w l ∧ aN w = true ∧ cellsOf w = some [w] := by
 obtain ⟨T, w, h1, h2⟩ := CQ h hl
 exact ⟨T, w, h1, h2, h2.strs (by unfold maxLen; omega) (nM h), h2.one⟩
theorem Nj {H : List Ob} {v : V} {l : List PClass} {t : Str} (h : aW H v l) (hb : ∀ c ∈ l, c.must.length ≤ 1000 ∧ c.may.length ≤ 1000 ∧ c.single.length ≤ 1000) :
  ∃ T cs ok, callW C 335 [v, .str t] H = some (.tup [.agg cs, .bool ok], H ++ T) ∧ jk (H ++ T) (bz PClass.name l t) cs ok := by
 suffices hs : Ret C 335 [v, .str t] H fun q H' => ∃ T cs ok, q = .tup [.agg cs, .bool ok] ∧ H' = H ++ T ∧ jk (H ++ T) (bz PClass.name l t) cs ok by
  obtain ⟨q, H', hc, T, cs, ok, rfl, rfl, hr⟩ := hs
  exact ⟨T, cs, ok, hc, hr⟩
 rw [UL]
 obtain ⟨r, c1, hr⟩ := zY (H := H ++ [.mk true 1 [.str t]]) (idn := H.length) (t := t) get_last h.ext
 rcases hr.pos with ⟨k, a, h1, rfl, h2⟩ | ⟨rfl, h2⟩
 ·obtain ⟨id, o, w1, w2, w3, e1, l4, q1, q2, q3⟩ := qm h h1
  have l4 := l4 [.mk true 1 [.str t]]
  obtain ⟨b1, b2, b3⟩ := hb a (List.mem_of_getElem? h1)
  have hk : ¬ ((k : Int) < 0) := by omega
  obtain ⟨T1, x1, d1, _, s1, o1⟩ := Aa (q1.ext (T := [.mk true 1 [.str t]])) (by omega)
  obtain ⟨T2, x2, d2, _, s2, o2⟩ := Aa (q2.ext.ext (T := T1) (H := H ++ [.mk true 1 [.str t]])) (by omega)
  obtain ⟨T3, x3, d3, _, s3, o3⟩ := Aa (q3.ext.ext.ext (T := T2) (H := H ++ [.mk true 1 [.str t]] ++ T1)) (by omega)
  have hres : jk (H ++ ([.mk true 1 [.str t]] ++ (T1 ++ (T2 ++ T3)))) (bz PClass.name l t) [.str a.name, x1, x2, x3] true := by
   refine .inl ⟨rfl, a, x1, x2, x3, h2, rfl, ?_, ?_, ?_⟩
   ·have := s1.ext (T := T2 ++ T3); simpa only [List.append_assoc] using this
   ·have := s2.ext (T := T3); simpa only [List.append_assoc] using this
   ·simpa only [List.append_assoc] using s3
  obtain ⟨T', hg, hres⟩ := zQ hres
  simp only [List.append_assoc, List.cons_append, List.nil_append] at d1 d2 d3 hg
  simp [uZ, Tryz.f335, c1, hk, e1, l4, d1, d2, d3, o1, o2, o3, q1.one, q2.one, q3.one, aP, aS, aH, ay, List.lookup, hg]
  exact hres
 ·have hres : jk (H ++ [.mk true 1 [.str t]]) (bz PClass.name l t) [.str [], .slc none 0, .slc none 0, .slc none 0] false := .inr ⟨rfl, h2, rfl⟩
  obtain ⟨T', hg, hres⟩ := zQ hres
  simp [uZ, Tryz.f335, c1, aP, aS, aH, ay, hg]
  exact hres
theorem MQ {H : List Ob} {ide : Nat} {own : Bool} {es : Nat} {vd va : V} {l : List PAttr} (he : H[ide]? = some (.mk own es [vd, va])) (h : bK H va l) (hl : l.length ≤ 1000) (hp : l.Pairwise fun a b => a.name < b.name) :
  ∃ w, callW C 287 [.ptr (some (ide, 0)), .str [99, 108, 97, 115, 115]] H = some (w, H) ∧ AStrs H w (valsOf l gz) := uz he h hl hp
theorem NE {H : List Ob} {ide : Nat} {own : Bool} {es : Nat} {vd va vl : V} {l : List PClass} {as' : List PAttr} (he : H[ide]? = some (.mk own es [vd, va])) (h : bK H va as') (hl : as'.length ≤ 1000) (hp : as'.Pairwise fun a b => a.name < b.name)
  (hc : aW H vl l) (hb : ∀ c ∈ l, c.must.length ≤ 1000 ∧ c.may.length ≤ 1000 ∧ c.single.length ≤ 1000) :
  ∃ T cs ok, callW C 293 [vl, .ptr (some (ide, 0))] H = some (.tup [.agg cs, .bool ok], H ++ T) ∧ jk (H ++ T) (jf l as') cs ok := by
 suffices hs : Ret C 293 [vl, .ptr (some (ide, 0))] H fun q H' => ∃ T cs ok, q = .tup [.agg cs, .bool ok] ∧ H' = H ++ T ∧ jk (H ++ T) (jf l as') cs ok by
  obtain ⟨q, H', hc, T, cs, ok, rfl, rfl, hr⟩ := hs
  exact ⟨T, cs, ok, hc, hr⟩
 rw [ae5]
 obtain ⟨w, c1, hw⟩ := MQ he h hl hp
 by_cases g1 : (valsOf as' gz).length = 1
 rotate_left
 ·have hm : jf l as' = none := by
   unfold jf
   split
   ·rename_i v hv; rw [hv] at g1; exact absurd rfl g1
   ·rfl
  have g1' : ¬ ((valsOf as' gz).length : Int) = 1 := by omega
  simp [yP, Tryz.f293, c1, hw.len, g1', aS, aH]
  exact .inr ⟨rfl, hm, rfl⟩
 obtain ⟨s, hs⟩ : ∃ s, valsOf as' gz = [s] := by
  match h : valsOf as' gz, g1 with
  | [s], _ => exact ⟨s, rfl⟩
 rw [hs] at hw
 obtain ⟨id, o, e1, l0, _⟩ := dG hw (i := 0) (s := s) rfl
 simp only [Int.ofNat_eq_natCast, Int.natCast_zero] at e1
 have c2 := kC (t := s) (H := H)
 obtain ⟨T, cs, ok, c3, hres⟩ := Nj (t := norm s) hc hb
 have hm : jf l as' = bz PClass.name l (norm s) := by unfold jf; rw [hs]
 rw [← hm] at hres
 have hcs : cs.length = 4 ∧ cs.all aN = true := by
  rcases hres with ⟨_, c, w1, w2, w3, _, rfl, h1, h2, h3⟩ | ⟨_, _, rfl⟩
  ·exact ⟨rfl, by simp [h1.one, h2.one, h3.one]⟩
  ·exact ⟨rfl, rfl⟩
 obtain ⟨T', hg, hres⟩ := zQ hres
 obtain ⟨x1, x2, x3, x4, rfl⟩ : ∃ x1 x2 x3 x4, cs = [x1, x2, x3, x4] := by
  match cs, hcs.1 with
  | [x1, x2, x3, x4], _ => exact ⟨_, _, _, _, rfl⟩
 have hone := hcs.2
 simp at hone
 cases ok <;> simp [yP, Tryz.f293, c1, hw.len, e1, l0, c2, c3, hone, hg] <;> exact hres
theorem Bg {H : List Ob} {v : V} {l : List PRdn} (h : bH H v l) (hd : DnOk l) : callW C 170 [v] H = some (.str (aK l), H) := by
 rw [gX (show C.prim 170 = some uf from rfl)]
 exact N7 h hd.small.1 hd.small.2
theorem Rk {H : List Ob} {id : Nat} {own : Bool} {es : Nat} {t n : Str} (hq : H[id]? = some (.mk own es [.str n])) : callW C 288 [.str t, .ptr (some (id, 0))] H = some (.bool (dec (norm t = n)), H) := by
 apply Ret.dec
 rw [YP]
 have ld := aY (o := 0) (v := .str n) hq rfl
 have c1 := kC (t := t) (H := H)
 have hid : id < H.length := (List.getElem?_eq_some_iff.1 hq).1
 simp [EQ, Tryz.f288, ld, c1, hid]
 exact (Classical.em _).symm
theorem O6 {H : List Ob} {ide : Nat} {own : Bool} {es : Nat} {vd va : V} {l : List PAttr} {t n : Str} (he : H[ide]? = some (.mk own es [vd, va])) (h : bK H va l) (hl : l.length ≤ 1000) (hp : l.Pairwise fun a b => a.name < b.name) :
  callW C 210 [.ptr (some (ide, 0)), .str t, .str n] H = some (.bool (dec (mr l t n)), H) := by
 apply Ret.dec
 rw [VM]
 have ld := aY (H := H ++ [.mk true 1 [.str n]]) (o := 0) (v := .str n) get_last rfl
 have hgb : ∀ X b, fM H (H ++ X) (.bool b) = H := fun X b => lQ
 by_cases hn : n = []
 ·subst hn
  simp [yI, Tryz.f210, aP, ld, mr, hgb]
 ·obtain ⟨w, c1, hw⟩ := uz (H := H ++ [.mk true 1 [.str n]]) (t := t) (aZ _ _ he) h.ext hl hp
  have c2 := qF hw (fun x => dec (norm x = n)) (g := 288) (a := []) (b := [.ptr (some (H.length, 0))]) (fun x _ => Rk get_last)
  simp [yI, Tryz.f210, aP, ld, hn, c1, c2, hgb, mr]
  have e : (∃ x, x ∈ valsOf l t ∧ dec (norm x = n) = true) ↔ ∃ v, v ∈ valsOf l t ∧ norm v = n := by simp only [eX]
  rw [Lh e]
  by_cases hx : ∃ v, v ∈ valsOf l t ∧ norm v = n
  ·exact .inr ⟨aj hx, hx⟩
  ·exact .inl ⟨au hx, fun x hx1 hx2 => hx ⟨x, hx1, hx2⟩⟩
end Go.Proofs.Try1
end
