/- Part 11 of the proof of a law: the interpreter, its soundness, and what functions of the program compute over it. Conditions: none but those that each theorem names. -/
import Derived.Test.YtipjjjlomghdfaaGreatDoorU10
import Derived.Test.YtipjjjlomghdfaaGreatDoorU08
import Derived.Test.YtipjjjlomghdfaaGreatDoorU05

set_option linter.all false
set_option maxRecDepth 20000
set_option maxHeartbeats 40000000
section
namespace Go.Proofs.Try1
open Go Go.Lite
def ag (s w : Str) : Prop := w.length ≤ s.length ∧ s.drop (s.length - w.length) = w
theorem hasSuffix {s w : Str} {H : List Ob} (hs : s.length ≤ 1000000) (hw : w.length ≤ 1000000) : callW C 336 [.str s, .str w] H = some (.bool (dec (ag s w)), H) := by
 apply Ret.dec
 rw [wK]
 by_cases h1 : (s.length : Int) ≥ w.length
 ·have hw1 : IntKind.i64.wrap ((s.length : Int) - w.length) = (s.length : Int) - w.length := wrap_i64 (by omega) (by omega)
  have h2 : (w.length : Int) ≤ (s.length : Int) := h1
  have h3 : ((s.length : Int) - w.length).toNat = s.length - w.length := by omega
  have h4 : (0 : Int) ≤ (s.length : Int) - w.length := by omega
  have h5 : w.length ≤ s.length := by omega
  by_cases h6 : s.drop (s.length - w.length) = w
  ·have hn : ag s w := ⟨h5, h6⟩
   simp [aN, Tryz.f336, h1, h2, h3, h4, h5, hw1, h6, hn]
  ·have hn : ¬ ag s w := fun h => h6 h.2
   simp [aN, Tryz.f336, h1, h2, h3, h4, h5, hw1, h6, hn]
 ·have hn : ¬ ag s w := fun h => h1 (by have := h.1; omega)
  simp [aN, Tryz.f336, h1, hn]
noncomputable def ax (s w : Str) : Str := if dec (ag s w) = true then s.take (s.length - w.length) else s
theorem dH {s w : Str} {H : List Ob} (hs : s.length ≤ 1000000) (hw : w.length ≤ 1000000) : callW C 315 [.str s, .str w] H = some (.str (ax s w), H) := by
 apply Ret.eq
 rw [xU]
 have hc := hasSuffix (H := H) hs hw
 by_cases h : ag s w
 ·rw [dec_pos h] at hc
  have h0 := h.1
  have hw1 : IntKind.i64.wrap ((s.length : Int) - w.length) = (s.length : Int) - w.length := wrap_i64 (by omega) (by omega)
  have h2 : (w.length : Int) ≤ (s.length : Int) := by omega
  have h3 : ((s.length : Int) - w.length).toNat = s.length - w.length := by omega
  have ht : ax s w = s.take (s.length - w.length) := by unfold ax; rw [dec_pos h]; rfl
  simp [bg, Tryz.f315, hc, hw1, h2, h3, ht]
 ·rw [dec_neg h] at hc
  have ht : ax s w = s := by unfold ax; rw [dec_neg h]; rfl
  simp [bg, Tryz.f315, hc, ht]
theorem dY {s : Str} : ax s [32] = nfin s := by
 have he : ag s [32] ↔ endSp s = true := by
  unfold ag endSp
  cases hl : s.getLast? with
  | none =>
   have : s = [] := by simpa using hl
   subst this
   simp
  | some d =>
   have hne : s ≠ [] := by rintro rfl; simp at hl
   have h1 : 1 ≤ s.length := List.length_pos_iff.2 hne
   rw [List.getLast?_eq_getElem?] at hl
   have h2 : s.drop (s.length - 1) = [d] := by
    apply List.ext_getElem?
    intro j
    rw [List.getElem?_drop]
    cases j with
    | zero => simpa using hl
    | succ j => simp; omega
   simp [h1, h2]
 unfold ax nfin
 by_cases h : endSp s = true
 ·rw [dec_pos (he.2 h), if_pos rfl, if_pos h, List.dropLast_eq_take]
  rfl
 ·rw [dec_neg (mt he.1 h), if_neg (by simp), if_neg h]
theorem oO {s : Str} {H : List Ob} (hs : s.length ≤ 1000000) : callW C 272 [.str s, .str [32]] H = some (.str (nfin s), H) := by
 apply Ret.eq
 rw [xC]
 have hc := dH (H := H) hs (w := [32]) (by simp)
 rw [dY] at hc
 simp [dw, Tryz.f272, hc]
theorem bi {t : Str} {H : List Ob} : callW C 199 [.str t] H = some (.str (norm t), H) := by
 apply Ret.eq
 rw [wS]
 by_cases g1 : (t.length : Int) > 100
 ·have : norm t = [] := by unfold norm; rw [if_neg (by omega)]
  simp [aP, Tryz.f199, g1, this]
 have hp := lu (t := t) (H := H) (by omega)
 by_cases g2 : Plain t
 rotate_left
 ·rw [dec_neg g2] at hp
  have : norm t = [] := by unfold norm; rw [dec_neg g2]; simp
  simp [aP, Tryz.f199, g1, hp, this]
 rw [dec_pos g2] at hp
 have hn : norm t = nfin (t.foldl nstep []) := by unfold norm; rw [if_pos ⟨by omega, dec_pos g2⟩]
 have hbz : ∀ i, ((t.take i).foldl nstep []).length ≤ 100 := fun i => by
  have := foldl_len (t.take i) []
  simp at this
  omega
 simp [aP, Tryz.f199, g1, hp, elemT, fillL, zerosL, St.new]
 refine WP_loop (fun k σ => ∃ (i : Nat) (r : Nat → R) (G : List Ob) (v : V), i + k = t.length ∧ σ = ⟨r, 0, G⟩ ∧ r 0 = .val (.str t) ∧ r 3 = .val v ∧ r 16 = .val (.int .i64 t.length) ∧ r 17 = .val (.int .i64 i) ∧ Bs H G v ((t.take i).foldl nstep [])) ?_ t.length _ ⟨0, _, _, _, by simp, rfl, by simp, by simp, by simp, by simp, Bs.init⟩
 rintro k σ ⟨i, r, G, v, hik, rfl, r0, r3, r16, r17, hB⟩
 have hbl := hbz i
 generalize hb : (t.take i).foldl nstep [] = b at hB hbl
 have hw1 : IntKind.i64.wrap ((b.length : Int) - 1) = (b.length : Int) - 1 := wrap_i64 (by omega) (by omega)
 cases k with
 | zero =>
  have hi : i = t.length := by omega
  subst hi
  rw [List.take_length] at hb
  rw [hb] at hn
  obtain ⟨TT, rfl⟩ := hB.ext
  obtain ⟨id, rfl, hst, hsl⟩ := hB.cut (n := b.length) (Nat.le_refl _)
  rw [List.take_length] at hsl
  have hts := oO (s := b) (H := H ++ TT) (by omega)
  simp [r0, r3, r16, r17, hsl, isByte, bys_mapM, hn, hts]
 | succ k =>
  have hi : i < t.length := by omega
  obtain ⟨c, hc⟩ : ∃ c, t[i]? = some c := ⟨t[i], by simp [hi]⟩
  have hc' : t[i] = c := (List.getElem?_eq_some_iff.1 hc).2
  have hw : IntKind.i64.wrap ((i : Int) + 1) = ((i : Int) + 1) := wrap_i64 (by omega) (by omega)
  have hfs := bD hc nstep []
  rw [hb] at hfs
  have hgo : ∀ G' v', Bs H G' v' (nstep b c) → ∃ k', k' < k + 1 ∧ ∃ i', i' + k' = t.length ∧ (i : Int) + 1 = i' ∧ Bs H G' v' ((t.take i').foldl nstep []) := fun G' v' h =>
   ⟨k, by omega, i + 1, by omega, by omega, by rw [hfs]; exact h⟩
  by_cases hup : 65 ≤ c.toNat ∧ c.toNat ≤ 90
  ·have hu1 : (c.toNat : Int) ≥ 65 := by omega
   have hu2 : (c.toNat : Int) ≤ 90 := by omega
   have hlw := eH hup.1 hup.2
   have hl32 : ¬ ((lowC c).toNat : Int) = 32 := by rw [bT hup.1 hup.2]; omega
   have hns : nstep b c = b ++ [lowC c] := by unfold nstep; rw [if_neg (fun h => hl32 (by rw [bI.1 h.1]; rfl))]
   obtain ⟨v', G', ha, hB'⟩ := hB.push (by omega) (c := lowC c) (d := .int .u8) (z := [.int .u8 0]) rfl
   rw [← hns] at hB'
   simp [r0, r3, r16, r17, hi, hc', hu1, hu2, hlw, hl32, elemT, fillL, zerosL, St.new, badArg, ha, hw]
   obtain ⟨k', q1, i', q2, q3, q4⟩ := hgo G' v' hB'
   exact ⟨k', q1, i', q2, _, _, ⟨rfl, rfl⟩, by simp [r0], _, by simp [r3], by simp [r16], by simp [q3], q4⟩
  have hlc := fB hup
  have hu : (¬ (c.toNat : Int) ≥ 65) ∨ ((c.toNat : Int) ≥ 65 ∧ ¬ (c.toNat : Int) ≤ 90) := by omega
  by_cases h32 : c = 32
  ·have h32' : (c.toNat : Int) = 32 := by rw [h32]; rfl
   have hu1 : ¬ (c.toNat : Int) ≥ 65 := by omega
   by_cases hb0 : b = []
   ·have hns : nstep b c = b := by unfold nstep; rw [if_pos ⟨by rw [hlc, h32], .inl hb0⟩]
    rw [hns] at hgo
    have hbl0 : b.length = 0 := by rw [hb0]; rfl
    simp [r0, r3, r16, r17, hi, hc', h32', hB.len, hbl0, hw]
    obtain ⟨k', q1, i', q2, q3, q4⟩ := hgo G v hB
    exact ⟨k', q1, i', q2, _, _, ⟨rfl, rfl⟩, by simp [r0], _, by simp [r3], by simp [r16], by simp [q3], q4⟩
   ·obtain ⟨d, hd⟩ := aV hb0
    have hb1 : 0 < b.length := List.length_pos_iff.2 hb0
    have hb3 : (1 : Int) ≤ (b.length : Int) := by omega
    have hb5 : (b.length : Int) - 1 < (b.length : Int) := by omega
    have hb4 : ((b.length : Int) - 1).toNat = b.length - 1 := by omega
    obtain ⟨id, hv, hld⟩ := hB.last hd
    subst hv
    by_cases hd32 : d = 32
    ·have hns : nstep b c = b := by unfold nstep; rw [if_pos ⟨by rw [hlc, h32], .inr ((ae hd).2 hd32)⟩]
     rw [hns] at hgo
     have hd' : (d.toNat : Int) = 32 := by rw [hd32]; rfl
     simp [r0, r3, r16, r17, hi, hc', h32', hb0, hb1, hb3, hb4, hb5, hw1, hld, hd', hw]
     obtain ⟨k', q1, i', q2, q3, q4⟩ := hgo G _ hB
     exact ⟨k', q1, i', q2, _, _, ⟨rfl, rfl⟩, by simp [r0], _, by simp [r3], by simp [r16], by simp [q3], q4⟩
    ·have hns : nstep b c = b ++ [c] := by unfold nstep; rw [if_neg (fun h => h.2.elim hb0 (fun h => hd32 ((ae hd).1 h))), hlc]
     have hd' : ¬ (d.toNat : Int) = 32 := by have := mt bI.2 hd32; omega
     obtain ⟨v', G', ha, hB'⟩ := hB.push (by omega) (c := c) (d := .int .u8) (z := [.int .u8 0]) rfl
     rw [← hns] at hB'
     rw [h32'] at ha
     simp [r0, r3, r16, r17, hi, hc', h32', hb0, hb1, hb3, hb4, hb5, hw1, hld, hd', elemT, fillL, zerosL, St.new, badArg, ha, hw]
     obtain ⟨k', q1, i', q2, q3, q4⟩ := hgo G' v' hB'
     exact ⟨k', q1, i', q2, _, _, ⟨rfl, rfl⟩, by simp [r0], _, by simp [r3], by simp [r16], by simp [q3], q4⟩
  ·have h32' : ¬ (c.toNat : Int) = 32 := by have := mt bI.2 h32; omega
   have hns : nstep b c = b ++ [c] := by unfold nstep; rw [if_neg (fun h => h32 (hlc ▸ h.1)), hlc]
   obtain ⟨v', G', ha, hB'⟩ := hB.push (by omega) (c := c) (d := .int .u8) (z := [.int .u8 0]) rfl
   rw [← hns] at hB'
   obtain ⟨k', q1, i', q2, q3, q4⟩ := hgo G' v' hB'
   rcases hu with hu | ⟨hu, hu2⟩
   ·simp [r0, r3, r16, r17, hi, hc', hu, h32', elemT, fillL, zerosL, St.new, badArg, ha, hw]
    exact ⟨k', q1, i', q2, _, _, ⟨rfl, rfl⟩, by simp [r0], _, by simp [r3], by simp [r16], by simp [q3], q4⟩
   ·simp [r0, r3, r16, r17, hi, hc', hu, hu2, h32', elemT, fillL, zerosL, St.new, badArg, ha, hw]
    exact ⟨k', q1, i', q2, _, _, ⟨rfl, rfl⟩, by simp [r0], _, by simp [r3], by simp [r16], by simp [q3], q4⟩
theorem kT {t : Str} {H : List Ob} : callW C 217 [.str t] H = some (.bool (dec (ValueOk t)), H) := by
 apply Ret.dec
 rw [zl]
 have hn := bW (t := t) (H := H)
 by_cases g1 : (t.length : Int) ≥ 1
 ·by_cases g2 : (t.length : Int) ≤ 40
  ·by_cases g3 : norm t = []
   ·have hv : ¬ ValueOk t := fun h => h.2.2 g3
    simp [aF, Tryz.f217, g1, g2, hn, g3, hv]
   ·have hv : ValueOk t := ⟨by omega, by omega, g3⟩
    simp [aF, Tryz.f217, g1, g2, hn, g3, hv]
  ·have : ¬ ValueOk t := fun h => by have := h.2.1; omega
   simp [aF, Tryz.f217, g1, g2, this]
 ·have : ¬ ValueOk t := fun h => by have := h.1; omega
  simp [aF, Tryz.f217, g1, this]
theorem kW {t : Str} {H : List Ob} : callW C 293 [.str t] H = some (.bool (dec (ValueOk t)), H) := by
 apply Ret.dec
 rw [x9]
 have hn := bi (t := t) (H := H)
 by_cases g1 : (t.length : Int) ≥ 1
 ·by_cases g2 : (t.length : Int) ≤ 40
  ·by_cases g3 : norm t = []
   ·have hv : ¬ ValueOk t := fun h => h.2.2 g3
    simp [aB, Tryz.f293, g1, g2, hn, g3, hv]
   ·have hv : ValueOk t := ⟨by omega, by omega, g3⟩
    simp [aB, Tryz.f293, g1, g2, hn, g3, hv]
  ·have : ¬ ValueOk t := fun h => by have := h.2.1; omega
   simp [aB, Tryz.f293, g1, g2, this]
 ·have : ¬ ValueOk t := fun h => by have := h.1; omega
  simp [aB, Tryz.f293, g1, this]
theorem Ag {H : List Ob} {v : V} {l : List PRdn} (h : ARdns H v l) : callW C 129 [v] H = some (.bool (dec (DnOk l)), H) := by
 apply Ret.dec
 rw [Jv]
 have hb : l.length ≤ 9223372036854775807 := h.bound
 simp [uF, Tryz.f129]
 refine WP_loop (fun k σ => ∃ (i : Nat) (r : Nat → R), i + k = l.length ∧ σ = ⟨r, 0, H⟩ ∧ r 0 = .val v ∧ r 3 = .val (.int .i64 i) ∧ ∀ j x, j < i → l[j]? = some x → NameOk x.attr ∧ ValueOk x.value) ?_ l.length _ ⟨0, _, by simp, rfl, by simp, by simp, by simp⟩
 rintro k σ ⟨i, r, hik, rfl, r0, r3, hall⟩
 cases k with
 | zero =>
  have hi : i = l.length := by omega
  subst hi
  have hx := at_all (P := fun j (x : PRdn) => NameOk x.attr ∧ ValueOk x.value) hall
  by_cases g : l.length ≤ 6
  ·have g' : (l.length : Int) ≤ 6 := by omega
   have hv : DnOk l := ⟨hx, g⟩
   simp [r0, r3, h.len, g', hv]
  ·have g' : ¬ (l.length : Int) ≤ 6 := by omega
   have hv : ¬ DnOk l := fun h => g h.2
   simp [r0, r3, h.len, g', hv]
 | succ k =>
  have hi : i < l.length := by omega
  obtain ⟨x, hx⟩ : ∃ c, l[i]? = some c := ⟨l[i], by simp [hi]⟩
  have hw : IntKind.i64.wrap ((i : Int) + 1) = ((i : Int) + 1) := wrap_i64 (by omega) (by omega)
  obtain ⟨id, o, e1, l0, l1, _, _⟩ := rdns_idx h hx
  have c1 := dZ (t := x.attr) (H := H)
  by_cases g1 : NameOk x.attr
  ·rw [dec_pos g1] at c1
   have c2 := kT (t := x.value) (H := H)
   by_cases g2 : ValueOk x.value
   ·rw [dec_pos g2] at c2
    simp [r0, r3, hi, h.len, e1, l0, l1, c1, c2, hw]
    exact ⟨k, by omega, i + 1, by omega, by omega, at_step (P := fun j (x : PRdn) => NameOk x.attr ∧ ValueOk x.value) hall hx ⟨g1, g2⟩⟩
   ·rw [dec_neg g2] at c2
    have hn : ¬ DnOk l := fun hd => g2 (hd.1 i x hx).2
    simp [r0, r3, hi, h.len, e1, l0, l1, c1, c2, hn]
  ·rw [dec_neg g1] at c1
   have hn : ¬ DnOk l := fun hd => g1 (hd.1 i x hx).1
   simp [r0, r3, hi, h.len, e1, l0, l1, c1, hn]
theorem jc {H : List Ob} {v : V} {l : List Str} {t : Str} (h : AStrs H v l) : callW C 132 [v, .str t] H = some (.bool (dec (t ∈ l)), H) := by
 apply Ret.dec
 rw [Hu]
 have hb : l.length ≤ 9223372036854775807 := h.bound
 simp [rE, Tryz.f132]
 refine WP_loop (fun k σ => ∃ (i : Nat) (r : Nat → R), i + k = l.length ∧ σ = ⟨r, 0, H⟩ ∧ r 0 = .val v ∧ r 1 = .val (.str t) ∧ r 5 = .val (.int .i64 i) ∧ ∀ j x, j < i → l[j]? = some x → x ≠ t) ?_ l.length _ ⟨0, _, by simp, rfl, by simp, by simp, by simp, by simp⟩
 rintro k σ ⟨i, r, hik, rfl, r0, r1, r5, hall⟩
 cases k with
 | zero =>
  have hi : i = l.length := by omega
  subst hi
  have hx := at_all (P := fun j (x : Str) => x ≠ t) hall
  have hn : t ∉ l := fun hm => by
   obtain ⟨j, hj, e⟩ := List.getElem_of_mem hm
   exact hx j _ (List.getElem?_eq_getElem hj) e
  simp [r0, r1, r5, h.len, hn]
 | succ k =>
  have hi : i < l.length := by omega
  obtain ⟨x, hx⟩ : ∃ c, l[i]? = some c := ⟨l[i], by simp [hi]⟩
  have hw : IntKind.i64.wrap ((i : Int) + 1) = ((i : Int) + 1) := wrap_i64 (by omega) (by omega)
  obtain ⟨id, o, e1, l0, _⟩ := strs_idx h hx
  by_cases g1 : x = t
  ·have hm : t ∈ l := g1 ▸ List.mem_of_getElem? hx
   subst g1
   simp [r0, r1, r5, hi, h.len, e1, l0, hm]
  ·simp [r0, r1, r5, hi, h.len, e1, l0, g1, hw]
   exact ⟨k, by omega, i + 1, by omega, by omega, at_step (P := fun j (x : Str) => x ≠ t) hall hx g1⟩
theorem Ip {H : List Ob} {v v' : V} {l : List PAttr} {t : Str} (h : AAttrs H v l) (ho : cellsOf v' = some [v']) : ∃ r : Int, callW C 185 [.agg [v', v], .str t] H = some (.int .i64 r, H) ∧ FirstAt PAttr.name l t r := by
 suffices hs : Ret C 185 [.agg [v', v], .str t] H fun q H' => (∃ r : Int, q = .int .i64 r ∧ FirstAt PAttr.name l t r) ∧ H' = H by
  obtain ⟨q, H', hc, ⟨r, rfl, hr⟩, rfl⟩ := hs
  exact ⟨r, hc, hr⟩
 rw [FV]
 have hb : l.length ≤ 9223372036854775807 := h.bound
 simp [rH, Tryz.f185]
 refine WP_loop (fun k σ => ∃ (i : Nat) (r : Nat → R), i + k = l.length ∧ σ = ⟨r, 1, H⟩ ∧ r 1 = .val (.str t) ∧ r 2 = .box 0 [v', v] ∧ r 5 = .val (.int .i64 i) ∧ ∀ j x, j < i → l[j]? = some x → x.name ≠ t) ?_ l.length _ ⟨0, _, by simp, rfl, by simp, by simp, by simp, by simp⟩
 rintro k σ ⟨i, r, hik, rfl, r1, r2, r5, hall⟩
 cases k with
 | zero =>
  have hi : i = l.length := by omega
  subst hi
  have hx := at_all (P := fun j (x : PAttr) => x.name ≠ t) hall
  simp [r1, r2, r5, h.len]
  exact .inr ⟨hx, rfl⟩
 | succ k =>
  have hi : i < l.length := by omega
  obtain ⟨x, hx⟩ : ∃ c, l[i]? = some c := ⟨l[i], by simp [hi]⟩
  have hw : IntKind.i64.wrap ((i : Int) + 1) = ((i : Int) + 1) := wrap_i64 (by omega) (by omega)
  obtain ⟨id, o, w, e1, l0, l1, _⟩ := attrs_idx h hx
  by_cases g1 : x.name = t
  ·simp [r1, r2, r5, hi, h.len, e1, l0, g1]
   exact .inl ⟨i, x, hx, g1, hall, rfl⟩
  ·simp [r1, r2, r5, hi, h.len, e1, l0, g1, hw]
   exact ⟨k, by omega, i + 1, by omega, by omega, at_step (P := fun j (x : PAttr) => x.name ≠ t) hall hx g1⟩
theorem vM {H : List Ob} {v : V} {l : List PClass} {t : Str} (h : AClasses H v l) : ∃ r : Int, callW C 261 [v, .str t] H = some (.int .i64 r, H) ∧ FirstAt PClass.name l t r := by
 suffices hs : Ret C 261 [v, .str t] H fun q H' => (∃ r : Int, q = .int .i64 r ∧ FirstAt PClass.name l t r) ∧ H' = H by
  obtain ⟨q, H', hc, ⟨r, rfl, hr⟩, rfl⟩ := hs
  exact ⟨r, hc, hr⟩
 rw [Ff]
 have hb : l.length ≤ 9223372036854775807 := h.bound
 simp [tK, Tryz.f261]
 refine WP_loop (fun k σ => ∃ (i : Nat) (r : Nat → R), i + k = l.length ∧ σ = ⟨r, 0, H⟩ ∧ r 0 = .val v ∧ r 1 = .val (.str t) ∧ r 5 = .val (.int .i64 i) ∧ ∀ j x, j < i → l[j]? = some x → x.name ≠ t) ?_ l.length _ ⟨0, _, by simp, rfl, by simp, by simp, by simp, by simp⟩
 rintro k σ ⟨i, r, hik, rfl, r0, r1, r5, hall⟩
 cases k with
 | zero =>
  have hi : i = l.length := by omega
  subst hi
  have hx := at_all (P := fun j (x : PClass) => x.name ≠ t) hall
  simp [r0, r1, r5, h.len]
  exact .inr ⟨hx, rfl⟩
 | succ k =>
  have hi : i < l.length := by omega
  obtain ⟨x, hx⟩ : ∃ c, l[i]? = some c := ⟨l[i], by simp [hi]⟩
  have hw : IntKind.i64.wrap ((i : Int) + 1) = ((i : Int) + 1) := wrap_i64 (by omega) (by omega)
  obtain ⟨id, o, w1, w2, w3, e1, l0, _⟩ := classes_idx h hx
  by_cases g1 : x.name = t
  ·simp [r0, r1, r5, hi, h.len, e1, l0, g1]
   exact .inl ⟨i, x, hx, g1, hall, rfl⟩
  ·simp [r0, r1, r5, hi, h.len, e1, l0, g1, hw]
   exact ⟨k, by omega, i + 1, by omega, by omega, at_step (P := fun j (x : PClass) => x.name ≠ t) hall hx g1⟩
theorem JA {H : List Ob} {v v' : V} {l : List PAttr} {t : Str} (h : AAttrs H v l) (ho : cellsOf v' = some [v']) (ho' : isOne v' = true) : ∃ w, callW C 260 [.agg [v', v], .str t] H = some (w, H) ∧ AStrs H w (valsOf l t) := by
 obtain ⟨r, hc, hr⟩ := Ip (t := t) h ho
 suffices hs : Ret C 260 [.agg [v', v], .str t] H fun q H' => AStrs H q (valsOf l t) ∧ H' = H by
  obtain ⟨q, H', hc, hr, rfl⟩ := hs
  exact ⟨q, hc, hr⟩
 rw [EN]
 rcases hr.pos with ⟨k, a, h1, rfl, h2⟩ | ⟨rfl, h2⟩
 ·obtain ⟨id, o, w, e1, l0, l1, _, hw, _⟩ := attrs_idx h h1
  have hv : valsOf l t = a.vals := by unfold valsOf; rw [h2]
  have hk : ¬ ((k : Int) < 0) := by omega
  simp [lI, Tryz.f260, hc, hk, e1, l1, hv]
  exact hw
 ·have hv : valsOf l t = [] := by unfold valsOf; rw [h2]
  simp [lI, Tryz.f260, hc, hv]
  exact At_slice.2 ⟨_, _, rfl, rfl, by simp, .inl ⟨rfl, rfl⟩⟩
theorem wrap_one : IntKind.i64.wrap 1 = 1 := rfl
attribute [simp] wrap_one
theorem aQ {a b : Str} (h : LtS a b) : Op.bytesLess a b = true := h
theorem aY {a b : Str} (h : ¬ LtS a b) : Op.bytesLess a b = false := by
 cases hb : Op.bytesLess a b with
 | false => rfl
 | true => exact absurd hb h
theorem fJ {H : List Ob} {id o : Nat} {v : V} (h : ∀ T : LT, T.one → ∀ r c, loadAt T ⟨r, c, H⟩ (.hp id o) = some v) : id < H.length := by
 have := h ⟨.str, 1, 16, [.str []]⟩ one_str (fun _ => .val .undef) 0
 unfold loadAt cellsAt at this
 rw [if_neg (by decide)] at this
 cases hg : H[id]? with
 | none => simp only [hg] at this; cases this
 | some o => exact (List.getElem?_eq_some_iff.1 hg).1
theorem iJ {H : List Ob} {v : V} {l : List Str} (h : AStrs H v l) : callW C 187 [v] H = some (.bool (dec (NamesOk l)), H) := by
 apply Ret.dec
 rw [E8]
 have hb : l.length ≤ 9223372036854775807 := h.bound
 simp [qK, Tryz.f187]
 refine WP_loop (fun k σ => ∃ (i : Nat) (r : Nat → R), i + k = l.length ∧ σ = ⟨r, 0, H⟩ ∧ r 0 = .val v ∧ r 3 = .val (.int .i64 i) ∧ ∀ j x, j < i → l[j]? = some x → NameOk x ∧ PrevLt (fun x => x) l j x) ?_ l.length _ ⟨0, _, by simp, rfl, by simp, by simp, by simp⟩
 rintro k σ ⟨i, r, hik, rfl, r0, r3, hall⟩
 cases k with
 | zero =>
  have hi : i = l.length := by omega
  subst hi
  have hx : NamesOk l := at_all (P := fun j (x : Str) => NameOk x ∧ PrevLt (fun x => x) l j x) hall
  simp [r0, r3, h.len, hx]
 | succ k =>
  have hi : i < l.length := by omega
  obtain ⟨x, hx⟩ : ∃ c, l[i]? = some c := ⟨l[i], by simp [hi]⟩
  have hw : IntKind.i64.wrap ((i : Int) + 1) = ((i : Int) + 1) := wrap_i64 (by omega) (by omega)
  obtain ⟨id, o, e1, l0, _⟩ := strs_idx h hx
  have c1 := dZ (t := x) (H := H)
  have hstep := fun h => at_step (P := fun j (x : Str) => NameOk x ∧ PrevLt (fun x => x) l j x) hall hx h
  by_cases g1 : NameOk x
  ·rw [dec_pos g1] at c1
   by_cases hi0 : i = 0
   ·have := hstep ⟨g1, fun y hy => by omega⟩
    subst hi0
    simp at e1
    simp [r0, r3, hi, h.len, e1, l0, c1, regionL_none]
    exact ⟨k, by omega, 1, by omega, by omega, this⟩
   ·have hip : 0 < i := by omega
    obtain ⟨y, hy⟩ : ∃ c, l[i - 1]? = some c := ⟨l[i - 1]'(by omega), by simp⟩
    obtain ⟨id', o', e1', l0', _⟩ := strs_idx h hy
    have hw1 : IntKind.i64.wrap ((i : Int) - 1) = ((i - 1 : Nat) : Int) := by rw [wrap_i64 (by omega) (by omega)]; omega
    by_cases g2 : LtS y x
    ·have := hstep ⟨g1, fun z _ hz => by rw [hy] at hz; cases hz; exact g2⟩
     simp [r0, r3, hi, h.len, e1, l0, c1, e1', l0', hw, hw1, hip, aQ g2, regionL_none]
     exact ⟨k, by omega, i + 1, by omega, by omega, this⟩
    ·have hn : ¬ NamesOk l := fun hd => g2 ((hd i x hx).2 y hip hy)
     simp [r0, r3, hi, h.len, e1, l0, c1, e1', l0', hw, hw1, hip, aY g2, regionL_none, hn]
  ·rw [dec_neg g1] at c1
   have hn : ¬ NamesOk l := fun hd => g1 (hd i x hx).1
   simp [r0, r3, hi, h.len, e1, l0, c1, hn, regionL_none]
theorem wH {H : List Ob} {v : V} {l : List Str} (h : AStrs H v l) : callW C 259 [v] H = some (.bool (dec (ValuesOk l)), H) := by
 apply Ret.dec
 rw [JB]
 have hb : l.length ≤ 9223372036854775807 := h.bound
 simp [qg, Tryz.f259]
 refine WP_loop (fun k σ => ∃ (i : Nat) (r : Nat → R), i + k = l.length ∧ σ = ⟨r, 0, H⟩ ∧ r 0 = .val v ∧ r 3 = .val (.int .i64 i) ∧ ∀ j x, j < i → l[j]? = some x → ValueOk x ∧ PrevLt norm l j x) ?_ l.length _ ⟨0, _, by simp, rfl, by simp, by simp, by simp⟩
 rintro k σ ⟨i, r, hik, rfl, r0, r3, hall⟩
 cases k with
 | zero =>
  have hi : i = l.length := by omega
  subst hi
  have hx := at_all (P := fun j (x : Str) => ValueOk x ∧ PrevLt norm l j x) hall
  by_cases g1 : 1 ≤ l.length
  ·have g1' : (1 : Int) ≤ (l.length : Int) := by omega
   by_cases g2 : l.length ≤ 4
   ·have g2' : (l.length : Int) ≤ 4 := by omega
    have hv : ValuesOk l := ⟨hx, g1, g2⟩
    simp [r0, r3, h.len, g1', g2', hv]
   ·have g2' : ¬ (l.length : Int) ≤ 4 := by omega
    have hv : ¬ ValuesOk l := fun h => g2 h.2.2
    simp [r0, r3, h.len, g1', g2', hv]
  ·have g1' : ¬ (1 : Int) ≤ (l.length : Int) := by omega
   have hv : ¬ ValuesOk l := fun h => g1 h.2.1
   simp [r0, r3, h.len, g1', hv]
 | succ k =>
  have hi : i < l.length := by omega
  obtain ⟨x, hx⟩ : ∃ c, l[i]? = some c := ⟨l[i], by simp [hi]⟩
  have hw : IntKind.i64.wrap ((i : Int) + 1) = ((i : Int) + 1) := wrap_i64 (by omega) (by omega)
  obtain ⟨id, o, e1, l0, _⟩ := strs_idx h hx
  have c1 := kT (t := x) (H := H)
  have c2 := bW (t := x) (H := H)
  have hstep := fun h => at_step (P := fun j (x : Str) => ValueOk x ∧ PrevLt norm l j x) hall hx h
  by_cases g1 : ValueOk x
  ·rw [dec_pos g1] at c1
   by_cases hi0 : i = 0
   ·have := hstep ⟨g1, fun y hy => by omega⟩
    subst hi0
    simp at e1
    simp [r0, r3, hi, h.len, e1, l0, c1]
    exact ⟨k, by omega, 1, by omega, by omega, this⟩
   ·have hip : 0 < i := by omega
    obtain ⟨y, hy⟩ : ∃ c, l[i - 1]? = some c := ⟨l[i - 1]'(by omega), by simp⟩
    obtain ⟨id', o', e1', l0', _⟩ := strs_idx h hy
    have c3 := bW (t := y) (H := H)
    have hw1 : IntKind.i64.wrap ((i : Int) - 1) = ((i - 1 : Nat) : Int) := by rw [wrap_i64 (by omega) (by omega)]; omega
    have hlo := fJ l0
    by_cases g2 : LtS (norm y) (norm x)
    ·have := hstep ⟨g1, fun z _ hz => by rw [hy] at hz; cases hz; exact g2⟩
     simp [r0, r3, hi, h.len, e1, l0, c1, c2, c3, e1', l0', hw, hw1, hip, hlo, aQ g2]
     exact ⟨k, by omega, i + 1, by omega, by omega, this⟩
    ·have hn : ¬ ValuesOk l := fun hd => g2 ((hd.1 i x hx).2 y hip hy)
     simp [r0, r3, hi, h.len, e1, l0, c1, c2, c3, e1', l0', hw, hw1, hip, hlo, aY g2, hn]
  ·rw [dec_neg g1] at c1
   have hn : ¬ ValuesOk l := fun hd => g1 (hd.1 i x hx).1
   simp [r0, r3, hi, h.len, e1, l0, c1, hn]
theorem zI {H : List Ob} {v : V} {l : List PAttr} (h : AAttrs H v l) : callW C 182 [v] H = some (.bool (dec (AttrsOk l)), H) := by
 apply Ret.dec
 rw [Ii]
 have hb : l.length ≤ 9223372036854775807 := h.bound
 simp [pY, Tryz.f182]
 refine WP_loop (fun k σ => ∃ (i : Nat) (r : Nat → R), i + k = l.length ∧ σ = ⟨r, 0, H⟩ ∧ r 0 = .val v ∧ r 3 = .val (.int .i64 i) ∧ ∀ j x, j < i → l[j]? = some x → NameOk x.name ∧ PrevLt PAttr.name l j x ∧ ValuesOk x.vals) ?_ l.length _ ⟨0, _, by simp, rfl, by simp, by simp, by simp⟩
 rintro k σ ⟨i, r, hik, rfl, r0, r3, hall⟩
 cases k with
 | zero =>
  have hi : i = l.length := by omega
  subst hi
  have hx := at_all (P := fun j (x : PAttr) => NameOk x.name ∧ PrevLt PAttr.name l j x ∧ ValuesOk x.vals) hall
  by_cases g : l.length ≤ 8
  ·have g' : (l.length : Int) ≤ 8 := by omega
   have hv : AttrsOk l := ⟨hx, g⟩
   simp [r0, r3, h.len, g', hv]
  ·have g' : ¬ (l.length : Int) ≤ 8 := by omega
   have hv : ¬ AttrsOk l := fun h => g h.2
   simp [r0, r3, h.len, g', hv]
 | succ k =>
  have hi : i < l.length := by omega
  obtain ⟨x, hx⟩ : ∃ c, l[i]? = some c := ⟨l[i], by simp [hi]⟩
  have hw : IntKind.i64.wrap ((i : Int) + 1) = ((i : Int) + 1) := wrap_i64 (by omega) (by omega)
  obtain ⟨id, o, w, e1, l0, l1, _, hvs, _⟩ := attrs_idx h hx
  have c1 := dZ (t := x.name) (H := H)
  have c2 := wH hvs
  have hstep := fun h => at_step (P := fun j (x : PAttr) => NameOk x.name ∧ PrevLt PAttr.name l j x ∧ ValuesOk x.vals) hall hx h
  by_cases g1 : NameOk x.name
  rotate_left
  ·rw [dec_neg g1] at c1
   have hn : ¬ AttrsOk l := fun hd => g1 (hd.1 i x hx).1
   simp [r0, r3, hi, h.len, e1, l0, c1, hn, regionL_none]
  rw [dec_pos g1] at c1
  by_cases hi0 : i = 0
  ·have hpv : PrevLt PAttr.name l i x := fun y hy => by omega
   by_cases g3 : ValuesOk x.vals
   ·rw [dec_pos g3] at c2
    have := hstep ⟨g1, hpv, g3⟩
    subst hi0
    simp at e1
    simp [r0, r3, hi, h.len, e1, l0, l1, c1, c2, regionL_none]
    exact ⟨k, by omega, 1, by omega, by omega, this⟩
   ·rw [dec_neg g3] at c2
    have hn : ¬ AttrsOk l := fun hd => g3 (hd.1 i x hx).2.2
    subst hi0
    simp at e1
    simp [r0, r3, hi, h.len, e1, l0, l1, c1, c2, regionL_none, hn]
  ·have hip : 0 < i := by omega
   obtain ⟨y, hy⟩ : ∃ c, l[i - 1]? = some c := ⟨l[i - 1]'(by omega), by simp⟩
   obtain ⟨id', o', w', e1', l0', _⟩ := attrs_idx h hy
   have hw1 : IntKind.i64.wrap ((i : Int) - 1) = ((i - 1 : Nat) : Int) := by rw [wrap_i64 (by omega) (by omega)]; omega
   by_cases g2 : LtS y.name x.name
   ·have hpv : PrevLt PAttr.name l i x := fun z _ hz => by rw [hy] at hz; cases hz; exact g2
    by_cases g3 : ValuesOk x.vals
    ·rw [dec_pos g3] at c2
     have := hstep ⟨g1, hpv, g3⟩
     simp [r0, r3, hi, h.len, e1, l0, l1, c1, c2, e1', l0', hw, hw1, hip, aQ g2, regionL_none]
     exact ⟨k, by omega, i + 1, by omega, by omega, this⟩
    ·rw [dec_neg g3] at c2
     have hn : ¬ AttrsOk l := fun hd => g3 (hd.1 i x hx).2.2
     simp [r0, r3, hi, h.len, e1, l0, l1, c1, c2, e1', l0', hw, hw1, hip, aQ g2, regionL_none, hn]
   ·have hn : ¬ AttrsOk l := fun hd => g2 ((hd.1 i x hx).2.1 y hip hy)
    simp [r0, r3, hi, h.len, e1, l0, c1, e1', l0', hw, hw1, hip, aY g2, regionL_none, hn]
theorem qE {H : List Ob} {v w : V} {e : PEntry} (h1 : ARdns H v e.dn) (h2 : AAttrs H w e.attrs) : callW C 101 [.agg [v, w]] H = some (.bool (dec (EntryOk e)), H) := by
 apply Ret.dec
 rw [FU]
 have c1 := Ag h1
 have c2 := zI h2
 by_cases g0 : 0 < e.dn.length
 rotate_left
 ·have hn : ¬ EntryOk e := fun h => g0 h.1
  have g0' : e.dn.length = 0 := by omega
  simp [eY, Tryz.f101, h1.len, g0', hn, h1.one, h2.one]
 by_cases g1 : DnOk e.dn
 rotate_left
 ·rw [dec_neg g1] at c1
  have hn : ¬ EntryOk e := fun h => g1 h.2.1
  simp [eY, Tryz.f101, h1.len, g0, c1, hn, h1.one, h2.one]
 rw [dec_pos g1] at c1
 by_cases g2 : AttrsOk e.attrs
 ·rw [dec_pos g2] at c2
  have hn : EntryOk e := ⟨g0, g1, g2⟩
  simp [eY, Tryz.f101, h1.len, g0, c1, c2, hn, h1.one, h2.one]
 ·rw [dec_neg g2] at c2
  have hn : ¬ EntryOk e := fun h => g2 h.2.2
  simp [eY, Tryz.f101, h1.len, g0, c1, c2, hn, h1.one, h2.one]
theorem jY {H : List Ob} {v : V} {l : List Str} (h : AStrs H v l) : callW C 132 [v, .str [99, 108, 97, 115, 115]] H = some (.bool (dec (classT ∈ l)), H) := jc h
theorem AA {H : List Ob} {w1 w2 w3 : V} {c : PClass} (h1 : AStrs H w1 c.must) (h2 : AStrs H w2 c.may) (h3 : AStrs H w3 c.single) : callW C 181 [.agg [.str c.name, w1, w2, w3]] H = some (.bool (dec (ClassOk c)), H) := by
 apply Ret.dec
 rw [G9]
 have c0 := dZ (t := c.name) (H := H)
 have c1 := iJ h1
 have c2 := iJ h2
 have c3 := iJ h3
 by_cases g0 : NameOk c.name
 rotate_left
 ·rw [dec_neg g0] at c0
  have hn : ¬ ClassOk c := fun h => g0 h.name
  simp [bf, Tryz.f181, c0, hn, h1.one, h2.one, h3.one]
 rw [dec_pos g0] at c0
 by_cases g1 : (c.must.length : Int) > 10
 ·have hn : ¬ ClassOk c := fun h => by have := h.l1; omega
  simp [bf, Tryz.f181, c0, h1.len, g1, hn, h1.one, h2.one, h3.one]
 by_cases g2 : (c.may.length : Int) > 10
 ·have hn : ¬ ClassOk c := fun h => by have := h.l2; omega
  simp [bf, Tryz.f181, c0, h1.len, h2.len, g1, g2, hn, h1.one, h2.one, h3.one]
 by_cases g3 : (c.single.length : Int) > 10
 ·have hn : ¬ ClassOk c := fun h => by have := h.l3; omega
  simp [bf, Tryz.f181, c0, h1.len, h2.len, h3.len, g1, g2, g3, hn, h1.one, h2.one, h3.one]
 by_cases g4 : NamesOk c.must
 rotate_left
 ·rw [dec_neg g4] at c1
  have hn : ¬ ClassOk c := fun h => g4 h.n1
  simp [bf, Tryz.f181, c0, c1, h1.len, h2.len, h3.len, g1, g2, g3, hn, h1.one, h2.one, h3.one]
 rw [dec_pos g4] at c1
 by_cases g5 : NamesOk c.may
 rotate_left
 ·rw [dec_neg g5] at c2
  have hn : ¬ ClassOk c := fun h => g5 h.n2
  simp [bf, Tryz.f181, c0, c1, c2, h1.len, h2.len, h3.len, g1, g2, g3, hn, h1.one, h2.one, h3.one]
 rw [dec_pos g5] at c2
 by_cases g6 : NamesOk c.single
 rotate_left
 ·rw [dec_neg g6] at c3
  have hn : ¬ ClassOk c := fun h => g6 h.n3
  simp [bf, Tryz.f181, c0, c1, c2, c3, h1.len, h2.len, h3.len, g1, g2, g3, hn, h1.one, h2.one, h3.one]
 rw [dec_pos g6] at c3
 simp [bf, Tryz.f181, c0, c1, c2, c3, h1.len, h2.len, h3.len, g1, g2, g3, h1.one, h2.one, h3.one]
 refine WP_loop (fun k σ => ∃ (i : Nat) (r : Nat → R), i + k = c.must.length ∧ σ = ⟨r, 1, H⟩ ∧ r 1 = .box 0 [.str c.name, w1, w2, w3] ∧ r 3 = .val (.int .i64 i) ∧ ∀ j x, j < i → c.must[j]? = some x → x ∉ c.may) ?_ c.must.length _ ⟨0, _, by simp, rfl, by simp, by simp, by simp⟩
 rintro k σ ⟨i, r, hik, rfl, r1, r3, hall⟩
 cases k with
 | succ k =>
  have hi : i < c.must.length := by omega
  obtain ⟨x, hx⟩ : ∃ y, c.must[i]? = some y := ⟨c.must[i], by simp [hi]⟩
  have hw : IntKind.i64.wrap ((i : Int) + 1) = ((i : Int) + 1) := wrap_i64 (by omega) (by omega)
  obtain ⟨id, o, e1, l0, _⟩ := strs_idx h1 hx
  have c4 := jc (t := x) h2
  by_cases g7 : x ∈ c.may
  ·rw [dec_pos g7] at c4
   have hn : ¬ ClassOk c := fun h => h.apart x (List.mem_of_getElem? hx) g7
   simp [r1, r3, hi, h1.len, e1, l0, c4, regionL_none, hn]
  ·rw [dec_neg g7] at c4
   simp [r1, r3, hi, h1.len, e1, l0, c4, regionL_none, hw]
   exact ⟨k, by omega, i + 1, by omega, by omega, at_step (P := fun j (x : Str) => x ∉ c.may) hall hx g7⟩
 | zero =>
 have hi : i = c.must.length := by omega
 subst hi
 have hap : ∀ t ∈ c.must, t ∉ c.may := fun t ht => by
  obtain ⟨j, hj, rfl⟩ := List.getElem_of_mem ht
  exact hall j _ hj (List.getElem?_eq_getElem hj)
 simp [r1, r3, h1.len]
 refine WP_loop (fun k σ => ∃ (i : Nat) (r : Nat → R), i + k = c.single.length ∧ σ = ⟨r, 1, H⟩ ∧ r 1 = .box 0 [.str c.name, w1, w2, w3] ∧ r 4 = .val (.int .i64 i) ∧ ∀ j x, j < i → c.single[j]? = some x → x ∈ c.may ∨ x ∈ c.must) ?_ c.single.length _ ⟨0, _, by simp, rfl, by simp [r1], by simp, by simp⟩
 clear hik r1 r3 hall r
 rintro k σ ⟨i, r, hik, rfl, r1, r4, hall⟩
 cases k with
 | succ k =>
  have hi : i < c.single.length := by omega
  obtain ⟨x, hx⟩ : ∃ y, c.single[i]? = some y := ⟨c.single[i], by simp [hi]⟩
  have hw : IntKind.i64.wrap ((i : Int) + 1) = ((i : Int) + 1) := wrap_i64 (by omega) (by omega)
  obtain ⟨id, o, e1, l0, _⟩ := strs_idx h3 hx
  have c4 := jc (t := x) h2
  have c5 := jc (t := x) h1
  have hstep := fun h => at_step (P := fun j (x : Str) => x ∈ c.may ∨ x ∈ c.must) hall hx h
  by_cases g7 : x ∈ c.may
  ·rw [dec_pos g7] at c4
   have := hstep (.inl g7)
   simp [r1, r4, hi, h3.len, e1, l0, c4, regionL_none, hw]
   exact ⟨k, by omega, i + 1, by omega, by omega, this⟩
  ·rw [dec_neg g7] at c4
   by_cases g8 : x ∈ c.must
   ·rw [dec_pos g8] at c5
    have := hstep (.inr g8)
    simp [r1, r4, hi, h3.len, e1, l0, c4, c5, regionL_none, hw]
    exact ⟨k, by omega, i + 1, by omega, by omega, this⟩
   ·rw [dec_neg g8] at c5
    have hn : ¬ ClassOk c := fun h => (h.known x (List.mem_of_getElem? hx)).elim g7 g8
    simp [r1, r4, hi, h3.len, e1, l0, c4, c5, regionL_none, hn]
 | zero =>
 have hi : i = c.single.length := by omega
 subst hi
 have hkn : ∀ t ∈ c.single, t ∈ c.may ∨ t ∈ c.must := fun t ht => by
  obtain ⟨j, hj, rfl⟩ := List.getElem_of_mem ht
  exact hall j _ hj (List.getElem?_eq_getElem hj)
 have c6 := jY h1
 have c7 := jY h2
 by_cases g7 : classT ∈ c.must
 ·rw [dec_pos g7] at c6
  have hn : ¬ ClassOk c := fun h => h.noMust g7
  simp [r1, r4, h3.len, c6, hn]
 ·rw [dec_neg g7] at c6
  by_cases g8 : classT ∈ c.may
  ·rw [dec_pos g8] at c7
   have hn : ¬ ClassOk c := fun h => h.noMay g8
   simp [r1, r4, h3.len, c6, c7, hn]
  ·rw [dec_neg g8] at c7
   have hn : ClassOk c := ⟨g0, by omega, by omega, by omega, g4, g5, g6, hap, hkn, g7, g8⟩
   simp [r1, r4, h3.len, c6, c7, hn]
theorem xw {H : List Ob} {v : V} {l : List PClass} (h : AClasses H v l) : callW C 100 [v] H = some (.bool (dec (SchemaOk l)), H) := by
 apply Ret.dec
 rw [Hm]
 have hb : l.length ≤ 9223372036854775807 := h.bound
 simp [sF, Tryz.f100]
 refine WP_loop (fun k σ => ∃ (i : Nat) (r : Nat → R), i + k = l.length ∧ σ = ⟨r, 0, H⟩ ∧ r 0 = .val v ∧ r 3 = .val (.int .i64 i) ∧ ∀ j x, j < i → l[j]? = some x → ClassOk x ∧ PrevLt PClass.name l j x) ?_ l.length _ ⟨0, _, by simp, rfl, by simp, by simp, by simp⟩
 rintro k σ ⟨i, r, hik, rfl, r0, r3, hall⟩
 cases k with
 | zero =>
  have hi : i = l.length := by omega
  subst hi
  have hx := at_all (P := fun j (x : PClass) => ClassOk x ∧ PrevLt PClass.name l j x) hall
  by_cases g : l.length ≤ 6
  ·have g' : (l.length : Int) ≤ 6 := by omega
   have hv : SchemaOk l := ⟨hx, g⟩
   simp [r0, r3, h.len, g', hv]
  ·have g' : ¬ (l.length : Int) ≤ 6 := by omega
   have hv : ¬ SchemaOk l := fun h => g h.2
   simp [r0, r3, h.len, g', hv]
 | succ k =>
  have hi : i < l.length := by omega
  obtain ⟨x, hx⟩ : ∃ c, l[i]? = some c := ⟨l[i], by simp [hi]⟩
  have hw : IntKind.i64.wrap ((i : Int) + 1) = ((i : Int) + 1) := wrap_i64 (by omega) (by omega)
  obtain ⟨id, o, w1, w2, w3, e1, l0, l4, q1, q2, q3, _⟩ := classes_idx h hx
  have c1 := AA q1 q2 q3
  have hstep := fun h => at_step (P := fun j (x : PClass) => ClassOk x ∧ PrevLt PClass.name l j x) hall hx h
  by_cases g1 : ClassOk x
  ·rw [dec_pos g1] at c1
   by_cases hi0 : i = 0
   ·have := hstep ⟨g1, fun y hy => by omega⟩
    subst hi0
    simp at e1
    simp [r0, r3, hi, h.len, e1, l4, c1, regionL_none]
    exact ⟨k, by omega, 1, by omega, by omega, this⟩
   ·have hip : 0 < i := by omega
    obtain ⟨y, hy⟩ : ∃ c, l[i - 1]? = some c := ⟨l[i - 1]'(by omega), by simp⟩
    obtain ⟨id', o', _, _, _, e1', l0', _⟩ := classes_idx h hy
    have hw1 : IntKind.i64.wrap ((i : Int) - 1) = ((i - 1 : Nat) : Int) := by rw [wrap_i64 (by omega) (by omega)]; omega
    by_cases g2 : LtS y.name x.name
    ·have := hstep ⟨g1, fun z _ hz => by rw [hy] at hz; cases hz; exact g2⟩
     simp [r0, r3, hi, h.len, e1, l0, l4, c1, e1', l0', hw, hw1, hip, aQ g2, regionL_none]
     exact ⟨k, by omega, i + 1, by omega, by omega, this⟩
    ·have hn : ¬ SchemaOk l := fun hd => g2 ((hd.1 i x hx).2 y hip hy)
     simp [r0, r3, hi, h.len, e1, l0, l4, c1, e1', l0', hw, hw1, hip, aY g2, regionL_none, hn]
  ·rw [dec_neg g1] at c1
   have hn : ¬ SchemaOk l := fun hd => g1 (hd.1 i x hx).1
   simp [r0, r3, hi, h.len, e1, l4, c1, hn, regionL_none]
def aG (H : List Ob) (m : Option PClass) (cs : List V) (ok : Bool) : Prop :=
 (ok = true ∧ ∃ c w1 w2 w3, m = some c ∧ cs = [.str c.name, w1, w2, w3] ∧ AStrs H w1 c.must ∧ AStrs H w2 c.may ∧ AStrs H w3 c.single) ∨ (ok = false ∧ m = none ∧ cs = [.str [], .slc none 0, .slc none 0, .slc none 0])
theorem yR {H : List Ob} {v v' : V} {l : List PAttr} (h : AAttrs H v l) (ho : cellsOf v' = some [v']) (ho' : isOne v' = true) : ∃ w, callW C 260 [.agg [v', v], .str [99, 108, 97, 115, 115]] H = some (w, H) ∧ AStrs H w (valsOf l classT) := JA h ho ho'
theorem Du {H T : List Ob} {vl vd va : V} {l : List PClass} {as' : List PAttr} (hl : AClasses H vl l) (ha : AAttrs H va as') (ho : cellsOf vd = some [vd]) (ho' : isOne vd = true) :
  ∃ cs ok, callW C 183 [vl, .agg [vd, va]] (H ++ T) = some (.tup [.agg cs, .bool ok], H ++ T) ∧ aG H (mineOf l as') cs ok := by
 suffices hs : Ret C 183 [vl, .agg [vd, va]] (H ++ T) fun q H' => (∃ cs ok, q = .tup [.agg cs, .bool ok] ∧ aG H (mineOf l as') cs ok) ∧ H' = H ++ T by
  obtain ⟨q, H', hc, ⟨cs, ok, rfl, hr⟩, rfl⟩ := hs
  exact ⟨cs, ok, hc, hr⟩
 rw [F5]
 obtain ⟨w, c1, hw⟩ := yR (ha.ext (T := T)) ho ho'
 have hone := ha.one
 by_cases g1 : (valsOf as' classT).length = 1
 rotate_left
 ·have hm : mineOf l as' = none := by
   unfold mineOf
   split
   ·rename_i v hv; rw [hv] at g1; exact absurd rfl g1
   ·rfl
  have g1' : ¬ ((valsOf as' classT).length : Int) = 1 := by omega
  simp [ig, Tryz.f183, c1, hw.len, g1', ho, ho', hone, buildV, fillL]
  exact .inr ⟨rfl, hm, rfl⟩
 obtain ⟨s, hs⟩ : ∃ s, valsOf as' classT = [s] := by
  match h : valsOf as' classT, g1 with
  | [s], _ => exact ⟨s, rfl⟩
 rw [hs] at hw
 obtain ⟨id, o, e1, l0, _⟩ := strs_idx hw (i := 0) (s := s) rfl
 simp only [Int.ofNat_eq_natCast, Int.natCast_zero] at e1
 have c2 := bW (t := s) (H := H ++ T)
 obtain ⟨r, c3, hr⟩ := vM (t := norm s) (hl.ext (T := T))
 have hm : mineOf l as' = firstOf PClass.name l (norm s) := by unfold mineOf; rw [hs]
 rcases hr.pos with ⟨k, a, h1, rfl, h2⟩ | ⟨rfl, h2⟩
 ·obtain ⟨id2, o2, w1, w2, w3, f1, l4, q1, q2, q3⟩ := classes_idxT hl h1
  have l4 := l4 T
  have hk : ¬ ((k : Int) < 0) := by omega
  simp [ig, Tryz.f183, c1, hw.len, e1, l0, c2, c3, hk, f1, l4, ho, ho', hone, q1.one, q2.one, q3.one]
  exact .inl ⟨rfl, a, w1, w2, w3, by rw [hm, h2], rfl, q1, q2, q3⟩
 ·simp [ig, Tryz.f183, c1, hw.len, e1, l0, c2, c3, ho, ho', hone, buildV, fillL]
  exact .inr ⟨rfl, by rw [hm, h2], rfl⟩
theorem nP {l : List Str} {i : Nat} {x : Str} (h : l[i]? = some x) (p : Str → Bool) : (l.take (i + 1)).filter p = (l.take i).filter p ++ if p x then [x] else [] := by
 rw [take_get h, List.filter_append]
 cases hp : p x <;> simp [hp]
theorem Hf {t : Str} {H : List Ob} (h0 : t ≠ []) (hl : t.length ≤ 1000) : ∃ q, callW C 121 [.str t, .str kset] H = some (.str q, H) ∧ (q = [] ↔ bJ t) := by
 suffices hs : Ret C 121 [.str t, .str kset] H fun q H' => (∃ s, q = .str s ∧ (s = [] ↔ bJ t)) ∧ H' = H by
  obtain ⟨q, H', hc, ⟨s, rfl, hr⟩, rfl⟩ := hs
  exact ⟨s, hc, hr⟩
 rw [Gx]
 have hk0 : kset ≠ [] := by decide
 have hk1 : (kset.length : Int) = 37 := by decide
 have c1 := EO (t := kset) (H := H) (fun c hc => by
  rcases jw.1 hc with h | h | h
  ·have := h.2; omega
  ·have := h.2; omega
  ·omega) (by decide)
 have hz : setRange (List.replicate 256 (V.bool false)) 0 (setB kset) = setB kset := by
  unfold setRange
  rw [List.take_zero, List.nil_append, Nat.zero_add, aj, List.drop_of_length_le (by rw [List.length_replicate]; omega), List.append_nil]
 have hall : (setB kset).all isOne = true := by
  rw [List.all_eq_true]
  intro x hx
  simp only [setB, List.mem_map] at hx
  obtain ⟨_, _, rfl⟩ := hx
  rfl
 have st := storeN (H := H ++ [.mk true 1 (List.replicate 256 (.bool false))]) (id := H.length) (o := 0) (l := setB kset) (cells := List.replicate 256 (.bool false)) (es := 1) get_last (by rw [aj, List.length_replicate]; omega) (by intro h; have := aj (l := kset); rw [h] at this; cases this) hall
 rw [aj, hz, set_last] at st
 have hob : (H ++ [Ob.mk true 1 (setB kset)])[H.length]? = some (.mk true 1 (setB kset)) := get_last
 obtain ⟨s, c2, q1, q2, q3⟩ := ES (t := t) hob hl
 obtain ⟨s', c3, q4, q5⟩ := Eh (t := s) hob q3
 have hres : s' = [] ↔ bJ t := by
  rw [← q1, ← q4]
  constructor
  ·rintro rfl; intro c hc; cases hc
  ·intro h
   rcases q5 with h' | h'
   ·exact h'
   ·exact absurd h h'
 simp [uk, Tryz.f121, h0, hk0, hk1, c1, strideOf, st, c2, c3, -List.reduceReplicate, -setRange]
 exact hres
theorem wX {t : Str} {c : UInt8} {s : Str} (h : t = c :: s) : NameOk t ↔ t.length ≤ 20 ∧ LowB c ∧ bJ t := by
 subst h
 constructor
 ·rintro ⟨_, h1, h2⟩
  refine ⟨h1, ?_, fun d hd => ?_⟩
  ·rcases h2 0 c rfl with h | ⟨h, _⟩
   ·exact h
   ·omega
  ·obtain ⟨i, hi, rfl⟩ := List.getElem_of_mem hd
   rw [jw]
   rcases h2 i _ (List.getElem?_eq_getElem hi) with h | ⟨_, h | h⟩
   ·exact .inl h
   ·exact .inr (.inl h)
   ·exact .inr (.inr h)
 ·rintro ⟨h1, h2, h3⟩
  refine ⟨by simp, h1, fun i d hd => ?_⟩
  cases i with
  | zero => cases hd; exact .inl h2
  | succ i =>
   rcases jw.1 (h3 d (List.mem_of_getElem? hd)) with h | h | h
   ·exact .inl h
   ·exact .inr ⟨by omega, .inl h⟩
   ·exact .inr ⟨by omega, .inr h⟩
theorem fK {t : Str} {H : List Ob} : callW C 50 [.str t] H = some (.bool (dec (NameOk t)), H) := by
 apply Ret.dec
 rw [PK]
 match t with
 | [] =>
  have hn : ¬ NameOk [] := fun h => by have := h.1; simp at this
  simp [eF, Tryz.f50, hn]
 | c :: s =>
 have hi := wX (t := c :: s) rfl
 have g0 : (1 : Int) ≤ (s.length : Int) + 1 := by omega
 by_cases g1 : ((c :: s).length : Int) ≤ 20
 rotate_left
 ·have hn : ¬ NameOk (c :: s) := fun h => by have := h.2.1; omega
  simp only [List.length_cons, Int.natCast_add, Int.natCast_one] at g1
  simp [eF, Tryz.f50, g0, g1, hn]
 obtain ⟨q, hc, hq⟩ := Hf (t := c :: s) (H := H) (by simp) (by omega)
 simp only [kset] at hc
 have g1' := g1
 simp only [List.length_cons, Int.natCast_add, Int.natCast_one] at g1
 by_cases g2 : (c.toNat : Int) ≥ 97
 rotate_left
 ·have hn : ¬ NameOk (c :: s) := fun h => by have := (hi.1 h).2.1.1; omega
  simp [eF, Tryz.f50, g0, g1, g2, hn]
 by_cases g3 : (c.toNat : Int) ≤ 122
 rotate_left
 ·have hn : ¬ NameOk (c :: s) := fun h => by have := (hi.1 h).2.1.2; omega
  simp [eF, Tryz.f50, g0, g1, g2, g3, hn]
 by_cases g4 : q = []
 ·have hn : NameOk (c :: s) := hi.2 ⟨by omega, ⟨by omega, by omega⟩, hq.1 g4⟩
  simp [eF, Tryz.f50, g0, g1, g2, g3, hc, g4, hn]
 ·have hn : ¬ NameOk (c :: s) := fun h => g4 (hq.2 (hi.1 h).2.2)
  simp [eF, Tryz.f50, g0, g1, g2, g3, hc, g4, hn]
theorem zG {a b : Str} {H : List Ob} : callW C 230 [.agg [.str a, .str b]] H = some (.bool (dec (NameOk a ∧ ValueOk b)), H) := by
 apply Ret.dec
 rw [Ju]
 have c1 := fK (t := a) (H := H)
 have c2 := kW (t := b) (H := H)
 by_cases g1 : NameOk a
 ·rw [dec_pos g1] at c1
  by_cases g2 : ValueOk b
  ·rw [dec_pos g2] at c2
   simp [gX, Tryz.f230, c1, c2, g1, g2]
  ·rw [dec_neg g2] at c2
   simp [gX, Tryz.f230, c1, c2, g1, g2]
 ·rw [dec_neg g1] at c1
  simp [gX, Tryz.f230, c1, g1]
theorem wL {a b : Str} {H : List Ob} : callW C 229 [.agg [.str a, .str b]] H = some (.bool (!dec (NameOk a ∧ ValueOk b)), H) := by
 apply Ret.eq
 rw [Js]
 have c1 := zG (a := a) (b := b) (H := H)
 simp [sZ, Tryz.f229, c1]
theorem zg {H : List Ob} {v : V} {l : List PRdn} (h : ARdns H v l) : ∃ r : Int, callW C 292 [v, .fn 229 [] []] H = some (.int .i64 r, H) ∧ (0 ≤ r ↔ ¬ ∀ (j : Nat) x, l[j]? = some x → NameOk x.attr ∧ ValueOk x.value) := by
 suffices hs : Ret C 292 [v, .fn 229 [] []] H fun q H' => (∃ r : Int, q = .int .i64 r ∧ (0 ≤ r ↔ ¬ ∀ (j : Nat) x, l[j]? = some x → NameOk x.attr ∧ ValueOk x.value)) ∧ H' = H by
  obtain ⟨q, H', hc, ⟨r, rfl, hr⟩, rfl⟩ := hs
  exact ⟨r, hc, hr⟩
 rw [IM]
 have hb : l.length ≤ 9223372036854775807 := h.bound
 simp [qB, Tryz.f292, h.len]
 refine WP_loop (fun k σ => ∃ (i : Nat) (r : Nat → R), i + k = l.length ∧ σ = ⟨r, 0, H⟩ ∧ r 0 = .val v ∧ r 1 = .val (.fn 229 [] []) ∧ r 7 = .val (.int .i64 l.length) ∧ r 8 = .val (.int .i64 i) ∧ ∀ j x, j < i → l[j]? = some x → NameOk x.attr ∧ ValueOk x.value) ?_ l.length _ ⟨0, _, by simp, rfl, by simp, by simp, by simp, by simp, by simp⟩
 rintro k σ ⟨i, r, hik, rfl, r0, r1, r7, r8, hall⟩
 cases k with
 | zero =>
  have hi : i = l.length := by omega
  subst hi
  have hx := at_all (P := fun j (x : PRdn) => NameOk x.attr ∧ ValueOk x.value) hall
  simp [r0, r1, r7, r8]
  exact fun j x hj => hx j x hj
 | succ k =>
  have hi : i < l.length := by omega
  obtain ⟨x, hx⟩ : ∃ c, l[i]? = some c := ⟨l[i], by simp [hi]⟩
  have hw : IntKind.i64.wrap ((i : Int) + 1) = ((i : Int) + 1) := wrap_i64 (by omega) (by omega)
  obtain ⟨id, o, e1, l0, l1, l2, _⟩ := rdns_idx h hx
  have c1 := wL (a := x.attr) (b := x.value) (H := H)
  by_cases g1 : NameOk x.attr ∧ ValueOk x.value
  ·rw [dec_pos g1] at c1
   simp at c1
   simp [r0, r1, r7, r8, hi, e1, l2, c1, hw]
   exact ⟨k, by omega, i + 1, by omega, by omega, at_step (P := fun j (x : PRdn) => NameOk x.attr ∧ ValueOk x.value) hall hx g1⟩
  ·rw [dec_neg g1] at c1
   simp at c1
   simp [r0, r1, r7, r8, hi, e1, l2, c1, hw]
   exact ⟨i, x, hx, fun h1 h2 => g1 ⟨h1, h2⟩⟩
theorem Dw {H : List Ob} {v : V} {l : List PRdn} (h : ARdns H v l) : callW C 143 [v] H = some (.bool (dec (DnOk l)), H) := by
 obtain ⟨r, c1, hr⟩ := zg h
 have c2 : callW C 228 [v, .fn 229 [] []] H = some (.bool (decide (0 ≤ r)), H) := by
  apply Ret.eq
  rw [Gw]
  simp [pW, Tryz.f228, c1]
 apply Ret.dec
 rw [GK]
 by_cases g1 : (l.length : Int) ≤ 6
 ·by_cases g2 : 0 ≤ r
  ·have hn : ¬ DnOk l := fun h => hr.1 g2 h.1
   simp [iy, Tryz.f143, h.len, g1, c2, g2, hn]
  ·have hn : DnOk l := ⟨Classical.byContradiction fun h => g2 (hr.2 h), by omega⟩
   simp [iy, Tryz.f143, h.len, g1, c2, g2, hn]
 ·have hn : ¬ DnOk l := fun h => g1 (by have := h.2; omega)
  simp [iy, Tryz.f143, h.len, g1, hn]
theorem iT {a b : Str} {H : List Ob} : callW C 362 [.str a, .str b] H = some (.int .i64 (Lib.compareBytes a b), H) :=
 callW_prim (pr := cmpPrim) rfl
theorem aX {a b : Str} {H : List Ob} : callW C 353 [.str a, .str b] H = some (.int .i64 (Lib.compareBytes a b), H) := by
 apply Ret.eq
 rw [wJ]
 simp [di, Tryz.f353, iT]
theorem fO {a b : Str} {H : List Ob} : callW C 334 [.str a, .str b] H = some (.int .i64 (Lib.compareBytes a b), H) := by
 apply Ret.eq
 rw [xM]
 simp [cu, Tryz.f334, aX]
theorem mD {a b : Str} {H : List Ob} : callW C 310 [.str a, .str b] H = some (.int .i64 (Lib.compareBytes (norm a) (norm b)), H) := by
 apply Ret.eq
 rw [wV]
 have c1 := bi (t := a) (H := H)
 have c2 := bi (t := b) (H := H)
 simp [cZ, Tryz.f310, c1, c2, fO]
theorem oV : ∀ (a b : Str), (Lib.compareBytes a b < 0 ↔ LtS a b) ∧ (Lib.compareBytes a b = 0 ↔ a = b)
 | [], [] => by simp [Lib.compareBytes, LtS, Op.bytesLess]
 | [], _ :: _ => by simp [Lib.compareBytes, LtS, Op.bytesLess]
 | _ :: _, [] => by simp [Lib.compareBytes, LtS, Op.bytesLess]
 | a :: as', b :: bs => by
  obtain ⟨h1, h2⟩ := oV as' bs
  unfold LtS at h1 ⊢
  simp only [Lib.compareBytes, Op.bytesLess]
  by_cases g1 : a < b
  ·have : a ≠ b := fun h => by subst h; exact absurd g1 (by simp)
   simp [g1, this]
  ·by_cases g2 : b < a
   ·have : a ≠ b := fun h => by subst h; exact absurd g2 (by simp)
    simp [g1, g2, this]
   ·have : a = b := UInt8.toNat_inj.1 (by rw [UInt8.lt_iff_toNat_lt] at g1 g2; omega)
    subst this
    simp [h1, h2]
theorem Dl {H : List Ob} {v : V} {l : List Str} (h : AStrs H v l) : callW C 309 [v] H = some (.int .i64 l.length, H) := by
 apply Ret.eq
 rw [Gq]
 simp [qY, Tryz.f309, h.len]
theorem vY {a b c : Int} {H : List Ob} : callW C 94 [.int .i64 a, .int .i64 b, .int .i64 c] H = some (.bool (decide (b ≤ a ∧ a ≤ c)), H) := by
 apply Ret.eq
 rw [Ia]
 by_cases g1 : b ≤ a
 ·by_cases g2 : a ≤ c <;> simp [fM, Tryz.f94, g1, g2]
 ·simp [fM, Tryz.f94, g1]
theorem DI {H : List Ob} {n : Str} {v : V} {l : List Str} (h : AStrs H v l) : callW C 266 [.agg [.str n, v]] H = some (.bool (dec (NameOk n ∧ ValuesOk l)), H) := by
 apply Ret.dec
 rw [Gm]
 have c1 := fK (t := n) (H := H)
 have c2 := Dl h
 have c3 := vY (a := l.length) (b := 1) (c := 4) (H := H)
 have hb : l.length ≤ 9223372036854775807 := h.bound
 by_cases g1 : NameOk n
 rotate_left
 ·rw [dec_neg g1] at c1
  simp [iE, Tryz.f266, c1, g1, h.one]
 rw [dec_pos g1] at c1
 by_cases g2 : (1 : Int) ≤ l.length ∧ (l.length : Int) ≤ 4
 rotate_left
 ·rw [decide_eq_false g2] at c3
  have hn : ¬ ValuesOk l := fun h => g2 ⟨by have := h.2.1; omega, by have := h.2.2; omega⟩
  simp [iE, Tryz.f266, c1, c2, c3, hn, h.one]
 rw [decide_eq_true g2] at c3
 simp [iE, Tryz.f266, c1, c2, c3, h.one, h.len]
 refine WP_loop (fun k σ => ∃ (i : Nat) (r : Nat → R), i + k = l.length ∧ σ = ⟨r, 1, H⟩ ∧ r 1 = .box 0 [.str n, v] ∧ r 17 = .val v ∧ r 18 = .val (.int .i64 l.length) ∧ r 19 = .val (.int .i64 i) ∧ ∀ j x, j < i → l[j]? = some x → ValueOk x ∧ PrevLt norm l j x) ?_ l.length _ ⟨0, _, by simp, rfl, by simp, by simp, by simp, by simp, by simp⟩
 rintro k σ ⟨i, r, hik, rfl, r1, r17, r18, r19, hall⟩
 cases k with
 | zero =>
  have hi : i = l.length := by omega
  subst hi
  have hx := at_all (P := fun j (x : Str) => ValueOk x ∧ PrevLt norm l j x) hall
  have hv : ValuesOk l := ⟨hx, by omega, by omega⟩
  simp [r1, r17, r18, r19, g1, hv]
 | succ k =>
  have hi : i < l.length := by omega
  obtain ⟨x, hx⟩ : ∃ c, l[i]? = some c := ⟨l[i], by simp [hi]⟩
  have hw : IntKind.i64.wrap ((i : Int) + 1) = ((i : Int) + 1) := wrap_i64 (by omega) (by omega)
  obtain ⟨id, o, e1, l0, _⟩ := strs_idx h hx
  have c4 := kW (t := x) (H := H)
  have hstep := fun h => at_step (P := fun j (x : Str) => ValueOk x ∧ PrevLt norm l j x) hall hx h
  by_cases g3 : ValueOk x
  rotate_left
  ·rw [dec_neg g3] at c4
   have hn : ¬ ValuesOk l := fun hd => g3 (hd.1 i x hx).1
   simp [r1, r17, r18, r19, hi, e1, l0, c4, hn]
  rw [dec_pos g3] at c4
  by_cases hi0 : i = 0
  ·have := hstep ⟨g3, fun y hy => by omega⟩
   subst hi0
   simp at e1
   simp [r1, r17, r18, r19, hi, e1, l0, c4]
   exact ⟨k, by omega, 1, by omega, by omega, this⟩
  have hip : 0 < i := by omega
  obtain ⟨y, hy⟩ : ∃ c, l[i - 1]? = some c := ⟨l[i - 1]'(by omega), by simp⟩
  obtain ⟨id', o', e1', l0', _⟩ := strs_idx h hy
  have hw1 : IntKind.i64.wrap ((i : Int) - 1) = ((i - 1 : Nat) : Int) := by rw [wrap_i64 (by omega) (by omega)]; omega
  have c5 := mD (a := y) (b := x) (H := H)
  by_cases g4 : LtS (norm y) (norm x)
  ·have := hstep ⟨g3, fun z _ hz => by rw [hy] at hz; cases hz; exact g4⟩
   have g5 : ¬ (0 ≤ Lib.compareBytes (norm y) (norm x)) := by have := (oV (norm y) (norm x)).1.2 g4; omega
   simp [r1, r17, r18, r19, hi, e1, l0, c4, e1', l0', hw, hw1, hip, c5, g5]
   exact ⟨k, by omega, i + 1, by omega, by omega, this⟩
  ·have g5 : 0 ≤ Lib.compareBytes (norm y) (norm x) := by have := mt (oV (norm y) (norm x)).1.1 g4; omega
   have hn : ¬ ValuesOk l := fun hd => g4 ((hd.1 i x hx).2 y hip hy)
   simp [r1, r17, r18, r19, hi, e1, l0, c4, e1', l0', hw, hw1, hip, c5, g5, hn]
theorem sV {H : List Ob} {v : V} {l : List Str} (h : AStrs H v l) : callW C 203 [v] H = some (.bool (dec (NamesOk l)), H) := by
 apply Ret.dec
 rw [Ji]
 have hb : l.length ≤ 9223372036854775807 := h.bound
 simp [rq, Tryz.f203, h.len]
 refine WP_loop (fun k σ => ∃ (i : Nat) (r : Nat → R), i + k = l.length ∧ σ = ⟨r, 0, H⟩ ∧ r 0 = .val v ∧ r 5 = .val v ∧ r 6 = .val (.int .i64 l.length) ∧ r 7 = .val (.int .i64 i) ∧ ∀ j x, j < i → l[j]? = some x → NameOk x ∧ PrevLt (fun x => x) l j x) ?_ l.length _ ⟨0, _, by simp, rfl, by simp, by simp, by simp, by simp, by simp⟩
 rintro k σ ⟨i, r, hik, rfl, r0, r5, r6, r7, hall⟩
 cases k with
 | zero =>
  have hi : i = l.length := by omega
  subst hi
  have hx : NamesOk l := at_all (P := fun j (x : Str) => NameOk x ∧ PrevLt (fun x => x) l j x) hall
  simp [r0, r5, r6, r7, hx]
 | succ k =>
  have hi : i < l.length := by omega
  obtain ⟨x, hx⟩ : ∃ c, l[i]? = some c := ⟨l[i], by simp [hi]⟩
  have hw : IntKind.i64.wrap ((i : Int) + 1) = ((i : Int) + 1) := wrap_i64 (by omega) (by omega)
  obtain ⟨id, o, e1, l0, _⟩ := strs_idx h hx
  have c1 := fK (t := x) (H := H)
  have hstep := fun h => at_step (P := fun j (x : Str) => NameOk x ∧ PrevLt (fun x => x) l j x) hall hx h
  by_cases g1 : NameOk x
  rotate_left
  ·rw [dec_neg g1] at c1
   have hn : ¬ NamesOk l := fun hd => g1 (hd i x hx).1
   simp [r0, r5, r6, r7, hi, e1, l0, c1, hn]
  rw [dec_pos g1] at c1
  by_cases hi0 : i = 0
  ·have := hstep ⟨g1, fun y hy => by omega⟩
   subst hi0
   simp at e1
   simp [r0, r5, r6, r7, hi, e1, l0, c1]
   exact ⟨k, by omega, 1, by omega, by omega, this⟩
  have hip : 0 < i := by omega
  obtain ⟨y, hy⟩ : ∃ c, l[i - 1]? = some c := ⟨l[i - 1]'(by omega), by simp⟩
  obtain ⟨id', o', e1', l0', _⟩ := strs_idx h hy
  have hw1 : IntKind.i64.wrap ((i : Int) - 1) = ((i - 1 : Nat) : Int) := by rw [wrap_i64 (by omega) (by omega)]; omega
  by_cases g2 : LtS y x
  ·have := hstep ⟨g1, fun z _ hz => by rw [hy] at hz; cases hz; exact g2⟩
   simp [r0, r5, r6, r7, hi, e1, l0, c1, e1', l0', hw, hw1, hip, aQ g2]
   exact ⟨k, by omega, i + 1, by omega, by omega, this⟩
  ·have hn : ¬ NamesOk l := fun hd => g2 ((hd i x hx).2 y hip hy)
   simp [r0, r5, r6, r7, hi, e1, l0, c1, e1', l0', hw, hw1, hip, aY g2, hn]
theorem tZ {H : List Ob} {v w : V} {e : PEntry} (h1 : ARdns H v e.dn) (h2 : AAttrs H w e.attrs) : callW C 196 [.agg [v, w]] H = some (.bool (dec (EntryOk e)), H) := by
 apply Ret.dec
 rw [Gh]
 have c1 := Dw h1
 have hb : e.attrs.length ≤ 9223372036854775807 := h2.bound
 by_cases g0 : e.dn.length = 0
 ·have hn : ¬ EntryOk e := fun h => by have := h.1; omega
  simp [fA, Tryz.f196, h1.len, g0, hn, h1.one, h2.one]
 have g0' : ¬ (e.dn.length : Int) = 0 := by omega
 by_cases g1 : DnOk e.dn
 rotate_left
 ·rw [dec_neg g1] at c1
  have hn : ¬ EntryOk e := fun h => g1 h.2.1
  simp [fA, Tryz.f196, h1.len, g0, c1, hn, h1.one, h2.one]
 rw [dec_pos g1] at c1
 by_cases g2 : (e.attrs.length : Int) > 8
 ·have hn : ¬ EntryOk e := fun h => by have := h.2.2.2; omega
  simp [fA, Tryz.f196, h1.len, h2.len, g0, g2, c1, hn, h1.one, h2.one]
 simp [fA, Tryz.f196, h1.len, h2.len, g0, g2, c1, h1.one, h2.one]
 refine WP_loop (fun k σ => ∃ (i n : Nat) (r : Nat → R), i + k = e.attrs.length ∧ σ = ⟨r, n, H⟩ ∧ r 1 = .box 0 [v, w] ∧ 1 ≤ n ∧ r 22 = .val w ∧ r 23 = .val (.int .i64 e.attrs.length) ∧ r 24 = .val (.int .i64 i) ∧ ∀ j x, j < i → e.attrs[j]? = some x → NameOk x.name ∧ PrevLt PAttr.name e.attrs j x ∧ ValuesOk x.vals) ?_ e.attrs.length _ ⟨0, 1, _, by simp, rfl, by simp, by omega, by simp, by simp, by simp, by simp⟩
 rintro k σ ⟨i, n, r, hik, rfl, r1, hn1, r22, r23, r24, hall⟩
 cases k with
 | zero =>
  have hi : i = e.attrs.length := by omega
  subst hi
  have hx := at_all (P := fun j (x : PAttr) => NameOk x.name ∧ PrevLt PAttr.name e.attrs j x ∧ ValuesOk x.vals) hall
  have hv : EntryOk e := ⟨by omega, g1, hx, by omega⟩
  simp [r1, r22, r23, r24, hv]
 | succ k =>
  have hi : i < e.attrs.length := by omega
  obtain ⟨x, hx⟩ : ∃ c, e.attrs[i]? = some c := ⟨e.attrs[i], by simp [hi]⟩
  have hw : IntKind.i64.wrap ((i : Int) + 1) = ((i : Int) + 1) := wrap_i64 (by omega) (by omega)
  obtain ⟨id, o, w', e1, l0, l1, l2, hvs, _⟩ := attrs_idx h2 hx
  have c2 := DI (n := x.name) hvs
  have hstep := fun h => at_step (P := fun j (x : PAttr) => NameOk x.name ∧ PrevLt PAttr.name e.attrs j x ∧ ValuesOk x.vals) hall hx h
  by_cases g3 : NameOk x.name ∧ ValuesOk x.vals
  rotate_left
  ·rw [dec_neg g3] at c2
   have hn : ¬ EntryOk e := fun hd => g3 ⟨(hd.2.2.1 i x hx).1, (hd.2.2.1 i x hx).2.2⟩
   simp [r1, r22, r23, r24, hi, e1, l2, c2, hn, hvs.one, regionL_none]
  rw [dec_pos g3] at c2
  by_cases hi0 : i = 0
  ·have := hstep ⟨g3.1, fun y hy => by omega, g3.2⟩
   subst hi0
   simp at e1
   simp [r1, r22, r23, r24, hi, e1, l2, c2, hvs.one, regionL_none]
   exact ⟨k, by omega, 1, by omega, n + 1, _, ⟨rfl, rfl⟩, by simp [r1], by omega, by simp [r22], by simp [r23], by simp, this⟩
  have hip : 0 < i := by omega
  obtain ⟨y, hy⟩ : ∃ c, e.attrs[i - 1]? = some c := ⟨e.attrs[i - 1]'(by omega), by simp⟩
  obtain ⟨id', o', _, e1', l0', _⟩ := attrs_idx h2 hy
  have hw1 : IntKind.i64.wrap ((i : Int) - 1) = ((i - 1 : Nat) : Int) := by rw [wrap_i64 (by omega) (by omega)]; omega
  by_cases g4 : LtS y.name x.name
  ·have := hstep ⟨g3.1, fun z _ hz => by rw [hy] at hz; cases hz; exact g4, g3.2⟩
   simp [r1, r22, r23, r24, hi, e1, l2, c2, e1', l0', hw, hw1, hip, aQ g4, hvs.one, regionL_none]
   exact ⟨k, by omega, i + 1, by omega, n + 1, _, ⟨rfl, rfl⟩, by simp [r1], by omega, by simp [r22], by simp [r23], by simp, this⟩
  ·have hn : ¬ EntryOk e := fun hd => g4 ((hd.2.2.1 i x hx).2.1 y hip hy)
   simp [r1, r22, r23, r24, hi, e1, l2, c2, e1', l0', hw, hw1, hip, aY g4, hvs.one, regionL_none, hn]
def Own (H G : List Ob) (w : V) (l : List Str) : Prop := (w = .slc none 0 ∧ l = []) ∨ Gs H G w (l.map V.str)
theorem ed {H T : List Ob} {v : V} {l : List Str} (h : AStrs H v l) : ∃ p, v = .slc p l.length ∧ slcCells (H ++ T) p l.length = some (l.map V.str) ∧ (p = none → l = []) ∧ ∀ id off, p = some (id, off) → thereAt H id := by
 rcases h.sl with ⟨rfl, hl⟩ | ⟨id, off, own, cells, rfl, h2, h3, h4⟩
 ·have : l = [] := by simpa using hl
  subst this
  exact ⟨none, rfl, rfl, fun _ => rfl, fun _ _ h => by cases h⟩
 ·rw [List.length_map] at h3 ⊢
  refine ⟨some (id, off), rfl, ?_, (fun h => by cases h), (fun id' off' h => by cases h; exact ⟨_, _, _, h2⟩)⟩
  by_cases h0 : l.length = 0
  ·have : l = [] := List.length_eq_zero_iff.1 h0
   subst this
   rfl
  ·simp only [slcCells, up_append _ _ h2, if_neg h0]
   unfold rdCells
   simp only [Sh.size_str, Nat.mul_one] at h3 h4
   rw [if_pos h3]
   congr 1
   apply List.ext_getElem?
   intro j
   by_cases hj : j < l.length
   ·rw [List.getElem?_take_of_lt hj, List.getElem?_drop, List.getElem?_map]
    obtain ⟨s, hs⟩ : ∃ s, l[j]? = some s := ⟨l[j], List.getElem?_eq_getElem hj⟩
    obtain ⟨t, e1, e2, _⟩ := At_str.1 (h4 j (.str s) (by rw [List.getElem?_map, hs]; rfl))
    cases e2
    rw [hs]
    have := cells_get e1 (j := 0) rfl
    simpa using this
   ·rw [List.getElem?_eq_none (by simp; omega), List.getElem?_eq_none (by simp; omega)]
theorem qO {H : List Ob} {v : V} {l : List Str} (h : AStrs H v l) (hl : l.length ≤ 1048576) : ∃ T w, callW C 248 [v] H = some (w, H ++ T) ∧ Own H (H ++ T) w l := by
 suffices hs : Ret C 248 [v] H fun q H' => ∃ T, H' = H ++ T ∧ Own H (H ++ T) q l by
  obtain ⟨q, H', hc, T, rfl, hr⟩ := hs
  exact ⟨T, q, hc, hr⟩
 rw [BJ]
 obtain ⟨p, rfl, hc, hp, ht⟩ := ed (T := [.mk true 1 []]) h
 cases p with
 | none =>
  have := hp rfl
  subst this
  simp [dP, Tryz.f248]
  exact .inl ⟨rfl, rfl⟩
 | some p =>
  by_cases h0 : l.length = 0
  ·have : l = [] := List.length_eq_zero_iff.1 h0
   subst this
   have ha : appendV ⟨.str, 1, 16, [.str []]⟩ (H ++ [.mk true 1 []]) (.slc (some (H.length, 0)) 0) (.slc (some p) 0) = some (.slc (some (H.length, 0)) 0, H ++ [.mk true 1 []]) := by
    unfold appendV
    rw [if_pos (by simp [growOk])]
    simp [newCells, slcCells]
   simp [dP, Tryz.f248, elemT, fillL, zerosL, St.new, ha]
   exact .inr Gs.init
  ·have hm : l.length * 16 ≤ maxMade := by unfold maxMade; omega
   have ha : appendV ⟨.str, 1, 16, [.str []]⟩ (H ++ [.mk true 1 []]) (.slc (some (H.length, 0)) 0) (.slc (some p) l.length) = some (.slc (some (H.length + 1, 0)) l.length, H ++ [.dead, .mk true 1 (l.map V.str)]) := by
    unfold appendV
    rw [if_pos (by simp [growOk])]
    simp only [newCells, Nat.mul_one, hc, if_neg h0]
    rw [if_pos (by simp)]
    simp [get_last, h0, hm]
   have hne : l ≠ [] := fun h => h0 (by rw [h]; rfl)
   have hgs : Gs H (H ++ [.dead, .mk true 1 (l.map V.str)]) (.slc (some (H.length + 1, 0)) l.length) (l.map V.str) :=
    ⟨_, H.length + 1, rfl, by omega, by rw [List.getElem?_append_right (by omega)]; simp, by simp⟩
   simp [dP, Tryz.f248, elemT, fillL, zerosL, St.new, ha, hgs.gc]
   exact .inr hgs
def FirstIs (p : Str → Bool) (l : List Str) (r : Int) : Prop := (∃ (k : Nat) (x : Str), l[k]? = some x ∧ p x = true ∧ (∀ j y, j < k → l[j]? = some y → p y = false) ∧ r = k) ∨ ((∀ (j : Nat) y, l[j]? = some y → p y = false) ∧ r = -1)
theorem dI {H : List Ob} {v : V} {l : List Str} {g : Nat} {a b : List V} (h : AStrs H v l) (p : Str → Bool) (hg : ∀ x ∈ l, callW C g (a ++ ([.str x] ++ b)) H = some (.bool (p x), H)) :
  ∃ r : Int, callW C 308 [v, .fn g a b] H = some (.int .i64 r, H) ∧ FirstIs p l r := by
 suffices hs : Ret C 308 [v, .fn g a b] H fun q H' => (∃ r : Int, q = .int .i64 r ∧ FirstIs p l r) ∧ H' = H by
  obtain ⟨q, H', hc, ⟨r, rfl, hr⟩, rfl⟩ := hs
  exact ⟨r, hc, hr⟩
 rw [EJ]
 have hb : l.length ≤ 9223372036854775807 := h.bound
 simp [qc, Tryz.f308, h.len]
 refine WP_loop (fun k σ => ∃ (i : Nat) (r : Nat → R), i + k = l.length ∧ σ = ⟨r, 0, H⟩ ∧ r 0 = .val v ∧ r 1 = .val (.fn g a b) ∧ r 7 = .val (.int .i64 l.length) ∧ r 8 = .val (.int .i64 i) ∧ ∀ j x, j < i → l[j]? = some x → p x = false) ?_ l.length _ ⟨0, _, by simp, rfl, by simp, by simp, by simp, by simp, by simp⟩
 rintro k σ ⟨i, r, hik, rfl, r0, r1, r7, r8, hall⟩
 cases k with
 | zero =>
  have hi : i = l.length := by omega
  subst hi
  have hx := at_all (P := fun j (x : Str) => p x = false) hall
  simp [r0, r1, r7, r8]
  exact .inr ⟨hx, rfl⟩
 | succ k =>
  have hi : i < l.length := by omega
  obtain ⟨x, hx⟩ : ∃ c, l[i]? = some c := ⟨l[i], by simp [hi]⟩
  have hw : IntKind.i64.wrap ((i : Int) + 1) = ((i : Int) + 1) := wrap_i64 (by omega) (by omega)
  obtain ⟨id, o, e1, l0, _⟩ := strs_idx h hx
  have c1 := hg x (List.mem_of_getElem? hx)
  simp only [List.singleton_append] at c1
  cases hp : p x with
  | false =>
   rw [hp] at c1
   simp [r0, r1, r7, r8, hi, e1, l0, c1, hw]
   exact ⟨k, by omega, i + 1, by omega, by omega, at_step (P := fun j (x : Str) => p x = false) hall hx hp⟩
  | true =>
   rw [hp] at c1
   simp [r0, r1, r7, r8, hi, e1, l0, c1, hw]
   exact .inl ⟨i, x, hx, hp, hall, rfl⟩
theorem FirstIs.mem {p : Str → Bool} {l : List Str} {r : Int} (h : FirstIs p l r) : 0 ≤ r ↔ ∃ x ∈ l, p x = true := by
 rcases h with ⟨k, x, h1, h2, _, rfl⟩ | ⟨h1, rfl⟩
 ·exact ⟨fun _ => ⟨x, List.mem_of_getElem? h1, h2⟩, fun _ => by omega⟩
 ·refine ⟨fun h => by omega, fun ⟨x, hx, hp⟩ => ?_⟩
  obtain ⟨j, hj, rfl⟩ := List.getElem_of_mem hx
  rw [h1 j _ (List.getElem?_eq_getElem hj)] at hp
  cases hp
theorem dJ {H : List Ob} {v : V} {l : List Str} {g : Nat} {a b : List V} (h : AStrs H v l) (p : Str → Bool) (hg : ∀ x ∈ l, callW C g (a ++ ([.str x] ++ b)) H = some (.bool (p x), H)) :
  callW C 264 [v, .fn g a b] H = some (.bool (dec (∃ x ∈ l, p x = true)), H) := by
 obtain ⟨r, c1, hr⟩ := dI h p hg
 apply Ret.dec
 rw [Hz]
 by_cases g1 : 0 ≤ r
 ·have := hr.mem.1 g1
  simp [lX, Tryz.f264, c1, g1]
  exact this
 ·have := mt hr.mem.2 g1
  simp [lX, Tryz.f264, c1, g1]
  intro x hx
  cases hp : p x with
  | false => rfl
  | true => exact absurd ⟨x, hx, hp⟩ this
theorem bz {H : List Ob} {v : V} {l : List Str} {t : Str} (h : AStrs H v l) : callW C 146 [v, .str t] H = some (.bool (dec (t ∈ l)), H) := by
 have hi : ∃ r : Int, callW C 233 [v, .str t] H = some (.int .i64 r, H) ∧ (0 ≤ r ↔ t ∈ l) := by
  suffices hs : Ret C 233 [v, .str t] H fun q H' => (∃ r : Int, q = .int .i64 r ∧ (0 ≤ r ↔ t ∈ l)) ∧ H' = H by
   obtain ⟨q, H', hc, ⟨r, rfl, hr⟩, rfl⟩ := hs
   exact ⟨r, hc, hr⟩
  rw [GU]
  have hb : l.length ≤ 9223372036854775807 := h.bound
  simp [uD, Tryz.f233, h.len]
  refine WP_loop (fun k σ => ∃ (i : Nat) (r : Nat → R), i + k = l.length ∧ σ = ⟨r, 0, H⟩ ∧ r 0 = .val v ∧ r 1 = .val (.str t) ∧ r 7 = .val (.int .i64 l.length) ∧ r 8 = .val (.int .i64 i) ∧ ∀ j x, j < i → l[j]? = some x → x ≠ t) ?_ l.length _ ⟨0, _, by simp, rfl, by simp, by simp, by simp, by simp, by simp⟩
  rintro k σ ⟨i, r, hik, rfl, r0, r1, r7, r8, hall⟩
  cases k with
  | zero =>
   have hi : i = l.length := by omega
   subst hi
   have hx := at_all (P := fun j (x : Str) => x ≠ t) hall
   have hn : t ∉ l := fun hm => by
    obtain ⟨j, hj, e⟩ := List.getElem_of_mem hm
    exact hx j _ (List.getElem?_eq_getElem hj) e
   simp [r0, r1, r7, r8, hn]
  | succ k =>
   have hi : i < l.length := by omega
   obtain ⟨x, hx⟩ : ∃ c, l[i]? = some c := ⟨l[i], by simp [hi]⟩
   have hw : IntKind.i64.wrap ((i : Int) + 1) = ((i : Int) + 1) := wrap_i64 (by omega) (by omega)
   obtain ⟨id, o, e1, l0, _⟩ := strs_idx h hx
   by_cases g1 : x = t
   ·have hm : t ∈ l := g1 ▸ List.mem_of_getElem? hx
    subst g1
    simp [r0, r1, r7, r8, hi, e1, l0, hm]
   ·have g1' : ¬ t = x := fun h => g1 h.symm
    simp [r0, r1, r7, r8, hi, e1, l0, g1', hw]
    exact ⟨k, by omega, i + 1, by omega, by omega, at_step (P := fun j (x : Str) => x ≠ t) hall hx g1⟩
 obtain ⟨r, c1, hr⟩ := hi
 apply Ret.dec
 rw [Hl]
 by_cases g1 : 0 ≤ r
 ·simp [kH, Tryz.f146, c1, g1, hr.1 g1]
 ·simp [kH, Tryz.f146, c1, g1, mt hr.2 g1]
theorem xn {H : List Ob} {id : Nat} {own : Bool} {es : Nat} {va : V} {l : List Str} {t : Str} (h0 : H[id]? = some (.mk own es [va])) (h : AStrs H va l) : callW C 265 [.str t, .ptr (some (id, 0))] H = some (.bool (!dec (t ∈ l)), H) := by
 apply Ret.eq
 rw [GV]
 have ld := load1 (o := 0) (v := va) h0 rfl
 have c1 := bz (t := t) h
 simp [uK, Tryz.f265, ld, c1]
theorem PD {H : List Ob} {v : V} {l : List Str} {n : Str} (h : AStrs H v l) : ∃ r : Int, callW C 262 [v, .str n] H = some (.int .i64 r, H) ∧ FirstIs (fun x => decide (norm x = n)) l r := by
 suffices hs : Ret C 262 [v, .str n] H fun q H' => (∃ r : Int, q = .int .i64 r ∧ FirstIs (fun x => decide (norm x = n)) l r) ∧ H' = H by
  obtain ⟨q, H', hc, ⟨r, rfl, hr⟩, rfl⟩ := hs
  exact ⟨r, hc, hr⟩
 rw [F6]
 have hb : l.length ≤ 9223372036854775807 := h.bound
 simp [pU, Tryz.f262]
 refine WP_loop (fun k σ => ∃ (i : Nat) (r : Nat → R), i + k = l.length ∧ σ = ⟨r, 0, H⟩ ∧ r 0 = .val v ∧ r 1 = .val (.str n) ∧ r 5 = .val (.int .i64 i) ∧ ∀ j x, j < i → l[j]? = some x → norm x ≠ n) ?_ l.length _ ⟨0, _, by simp, rfl, by simp, by simp, by simp, by simp⟩
 rintro k σ ⟨i, r, hik, rfl, r0, r1, r5, hall⟩
 cases k with
 | zero =>
  have hi : i = l.length := by omega
  subst hi
  have hx := at_all (P := fun j (x : Str) => norm x ≠ n) hall
  simp [r0, r1, r5, h.len]
  exact .inr ⟨fun j x hj => by simpa using hx j x hj, rfl⟩
 | succ k =>
  have hi : i < l.length := by omega
  obtain ⟨x, hx⟩ : ∃ c, l[i]? = some c := ⟨l[i], by simp [hi]⟩
  have hw : IntKind.i64.wrap ((i : Int) + 1) = ((i : Int) + 1) := wrap_i64 (by omega) (by omega)
  obtain ⟨id, o, e1, l0, _⟩ := strs_idx h hx
  have c1 := bW (t := x) (H := H)
  by_cases g1 : norm x = n
  ·simp [r0, r1, r5, hi, h.len, e1, l0, c1, g1]
   exact .inl ⟨i, x, hx, by simpa using g1, fun j y hj hy => by simpa using hall j y hj hy, rfl⟩
  ·simp [r0, r1, r5, hi, h.len, e1, l0, c1, g1, hw]
   exact ⟨k, by omega, i + 1, by omega, by omega, at_step (P := fun j (x : Str) => norm x ≠ n) hall hx g1⟩
theorem kM {H : List Ob} {id o : Nat} {x : V} (h : ∀ T : LT, T.one → ∀ r c, loadAt T ⟨r, c, H⟩ (.hp id o) = some x) : id < H.length := by
 by_cases hi : id < H.length
 ·exact hi
 ·have h1 := h ⟨.str, 1, 16, [.str []]⟩ one_str (fun _ => .val .undef) 0
  have h2 : H[id]? = none := List.getElem?_eq_none (by omega)
  simp [loadAt, cellsAt, h2] at h1
theorem qV {H : List Ob} {v : V} {l : List PRdn} (h : ARdns H v l) (hd : DnOk l) : callW C 103 [v] H = some (.str (keyD l), H) := by
 apply Ret.eq
 rw [IV]
 have hb := hd.2
 have hw0 : IntKind.i64.wrap ((l.length : Int) - 1) = (l.length : Int) - 1 := wrap_i64 (by omega) (by omega)
 simp [su, Tryz.f103, h.len, hw0]
 refine WP_loop (fun m σ => ∃ (r : Nat → R), m ≤ l.length ∧ σ = ⟨r, 0, H⟩ ∧ r 0 = .val v ∧ r 3 = .val (.str (kacc l m)) ∧ r 4 = .val (.int .i64 ((m : Int) - 1))) ?_ l.length _ ⟨_, by omega, rfl, by simp, by simp [kacc_end], by simp⟩
 rintro m σ ⟨r, hm, rfl, r0, r3, r4⟩
 cases m with
 | zero =>
  simp at r4
  simp [r0, r3, r4, kacc_zero]
 | succ m =>
  have hi : m < l.length := by omega
  obtain ⟨x, hx⟩ : ∃ c, l[m]? = some c := ⟨l[m], by simp [hi]⟩
  have r4' : r 4 = .val (.int .i64 m) := by rw [r4]; congr 2; omega
  have hw : IntKind.i64.wrap ((m : Int) - 1) = (m : Int) - 1 := wrap_i64 (by omega) (by omega)
  obtain ⟨id, o, e1, l0, l1, _, _⟩ := rdns_idx h hx
  have c1 := bW (t := x.value) (H := H)
  have k1 := kacc_len hd (m + 1)
  have k2 := (hd.1 m x hx).1.2.1
  have k3 := norm_len (t := x.value)
  have kst := kacc_step hx
  have b1 : (kacc l (m + 1)).length + 1 ≤ maxStr := by unfold maxStr; omega
  have b2 : (kacc l (m + 1)).length + (x.attr.length + 1) ≤ maxStr := by unfold maxStr; omega
  have b3 : (kacc l (m + 1)).length + (x.attr.length + 1 + 1) ≤ maxStr := by unfold maxStr; omega
  have b4 : (kacc l (m + 1)).length + (x.attr.length + ((norm x.value).length + 1) + 1) ≤ maxStr := by unfold maxStr; omega
  have hid := kM l0
  have b5 : (kacc l (m + 1)).length + 1 + x.attr.length ≤ maxStr := by unfold maxStr; omega
  have b6 : (kacc l (m + 1)).length + (x.attr.length + 1) + 1 ≤ maxStr := by unfold maxStr; omega
  have b7 : (kacc l (m + 1)).length + (x.attr.length + 1 + 1) + (norm x.value).length ≤ maxStr := by unfold maxStr; omega
  simp [r0, r3, r4', e1, l0, l1, c1, hw, strBin, b1, b2, b3, b4, b5, b6, b7, hid]
  exact ⟨m, by omega, by omega, by rw [kst]; simp [keyStep], rfl⟩
abbrev aZ : LT := ⟨.str, 1, 16, [.str []]⟩
theorem DC {H : List Ob} {n : Nat} (hn : n ≤ 1000) : callW C 234 [.slc none 0, .int .i64 n] H = some (if n = 0 then (.slc none 0, H) else (.slc (some (H.length, 0)) 0, H ++ [.mk true 1 (zerosL aZ n)])) := by
 have hw0 : IntKind.i64.wrap 0 = 0 := rfl
 have hwn : IntKind.i64.wrap (n : Int) = n := wrap_i64 (by omega) (by omega)
 have h1 : ¬ ((n : Int) < 0) := by omega
 by_cases h0 : n = 0
 ·subst h0
  rw [if_pos rfl]
  apply Ret.eq
  rw [BQ]
  simp [kK, Tryz.f234, hw0]
 ·rw [if_neg h0]
  have h2 : (0 : Int) < n := by omega
  have h2' : 0 < n := by omega
  have h3 : (n : Int) * 16 ≤ 1099511627776 := by omega
  suffices hs : Ret C 234 [.slc none 0, .int .i64 n] H fun q H' => q = .slc (some (H.length, 0)) 0 ∧ H' = H ++ [.mk true 1 (zerosL aZ n)] by
   obtain ⟨q, H', hc, rfl, rfl⟩ := hs
   exact hc
  rw [BQ]
  simp [kK, Tryz.f234, hw0, hwn, h1, h2, h2', elemT, appendZ, growOk, maxMade, h3, strideIs]
theorem xJ {H : List Ob} {ds xs zs : List V} {m : Nat} {x : V} (hx : newCells aZ (H ++ [.mk true 1 (ds ++ zs)]) x = some (xs, m)) (hm : xs.length = m) (hm0 : m ≠ 0) (hone : xs.all isOne = true) (hz : m ≤ zs.length) :
  appendV aZ (H ++ [.mk true 1 (ds ++ zs)]) (.slc (some (H.length, 0)) ds.length) x = some (.slc (some (H.length, 0)) (ds.length + m), H ++ [.mk true 1 (ds ++ xs ++ zs.drop m)]) := by
 unfold appendV
 rw [if_pos (by simp [growOk]), hx]
 simp only [if_neg hm0, hone, if_true, get_last]
 have e1 : 0 + (ds.length + m) * 1 ≤ (ds ++ zs).length := by simp; omega
 rw [if_pos e1, set_last]
 congr 4
 unfold setRange
 rw [Nat.zero_add, Nat.mul_one, List.take_left, hm, List.drop_append]
 simp
theorem ng {H : List Ob} {s x : V} {xs : List V} (hx : newCells aZ H x = some (xs, 0)) (hs : ∃ p n, s = .slc (some p) n ∨ s = .slc none 0) : appendV aZ H s x = some (s, H) := by
 unfold appendV
 rw [if_pos (by simp [growOk]), hx]
 obtain ⟨p, n, rfl | rfl⟩ := hs <;> simp
theorem df {n : Nat} : (zerosL aZ n).length = n := by simp [zerosL]
def fl (ls : List (List Str)) (i : Nat) : List Str := (ls.take i).flatten
theorem gZ {ls : List (List Str)} : fl ls 0 = [] := by simp [fl]
theorem lV {ls : List (List Str)} {i : Nat} {l : List Str} (h : ls[i]? = some l) : fl ls (i + 1) = fl ls i ++ l := by
 unfold fl
 rw [take_get h, List.flatten_append]
 simp
theorem x8 {ls : List (List Str)} {i : Nat} : (fl ls i).length ≤ (fl ls ls.length).length := by
 unfold fl
 have := congrArg List.length (congrArg List.flatten (List.take_append_drop i ls))
 rw [List.flatten_append, List.length_append] at this
 rw [List.take_length]
 omega
theorem nH {H : List Ob} {id : Nat} {own : Bool} {ws : List V} {ls : List (List Str)} (h0 : H[id]? = some (.mk own 1 ws)) (hl : ws.length = ls.length) (hw : ∀ (i : Nat) w l, ws[i]? = some w → ls[i]? = some l → AStrs H w l)
  (hb : (fl ls ls.length).length ≤ 1000) (hb2 : ls.length ≤ 1000) : ∃ T w, callW C 147 [.slc (some (id, 0)) ls.length] H = some (w, H ++ T) ∧ Own H (H ++ T) w (fl ls ls.length) := by
 suffices hs : Ret C 147 [.slc (some (id, 0)) ls.length] H fun q H' => ∃ T, H' = H ++ T ∧ Own H (H ++ T) q (fl ls ls.length) by
  obtain ⟨q, H', hc, T, rfl, hr⟩ := hs
  exact ⟨T, q, hc, hr⟩
 rw [Gy]
 simp [uq, Tryz.f147]
 refine WP_loop (fun k σ => ∃ (i : Nat) (r : Nat → R), i + k = ls.length ∧ σ = ⟨r, 0, H⟩ ∧ r 0 = .val (.slc (some (id, 0)) ls.length) ∧ r 3 = .val (.int .i64 ((fl ls i).length : Nat)) ∧ r 9 = .val (.slc (some (id, 0)) ls.length) ∧ r 10 = .val (.int .i64 ls.length) ∧ r 11 = .val (.int .i64 i)) ?_ ls.length _ ⟨0, _, by simp, rfl, by simp, by simp [gZ], by simp, by simp, by simp⟩
 rintro k σ ⟨i, r, hik, rfl, r0, r3, r9, r10, r11⟩
 cases k with
 | succ k =>
  have hi : i < ls.length := by omega
  obtain ⟨w, hwi⟩ : ∃ w, ws[i]? = some w := ⟨ws[i]'(by omega), List.getElem?_eq_getElem _⟩
  obtain ⟨l, hli⟩ : ∃ l, ls[i]? = some l := ⟨ls[i], List.getElem?_eq_getElem hi⟩
  have hs := hw i w l hwi hli
  have ld := load1 h0 hwi
  have hf := lV hli
  have hle := x8 (ls := ls) (i := i + 1)
  have hfl := congrArg List.length hf
  rw [List.length_append] at hfl
  have hw1 : IntKind.i64.wrap ((i : Int) + 1) = ((i : Int) + 1) := wrap_i64 (by omega) (by omega)
  have hw2 : IntKind.i64.wrap (((fl ls i).length : Nat) + (l.length : Int)) = (((fl ls (i + 1)).length : Nat) : Int) := by rw [wrap_i64 (by omega) (by omega)]; omega
  have hn : ¬ ((((fl ls (i + 1)).length : Nat) : Int) < 0) := by omega
  simp [r0, r3, r9, r10, r11, hi, ld, hs.len, hw1, hw2, hn]
  exact ⟨k, by omega, i + 1, by omega, rfl, by omega⟩
 | zero =>
 have hi : i = ls.length := by omega
 subst hi
 have hg := DC (H := H) (n := (fl ls ls.length).length) hb
 generalize hN : (fl ls ls.length).length = N at r3 hg hb
 by_cases hN0 : N = 0
 ·rw [if_pos hN0] at hg
  simp [r0, r3, r9, r10, r11, hg]
  refine WP_loop (fun k σ => ∃ (i : Nat) (r : Nat → R), i + k = ls.length ∧ σ = ⟨r, 0, H⟩ ∧ r 6 = .val (.slc none 0) ∧ r 25 = .val (.slc (some (id, 0)) ls.length) ∧ r 26 = .val (.int .i64 ls.length) ∧ r 27 = .val (.int .i64 i)) ?_ ls.length _ ⟨0, _, by simp, rfl, by simp, by simp [r0], by simp, by simp⟩
  clear hik r0 r3 r9 r10 r11 r
  rintro k σ ⟨i, r, hik, rfl, r6, r25, r26, r27⟩
  cases k with
  | zero =>
   have hi : i = ls.length := by omega
   subst hi
   simp [r6, r25, r26, r27]
   exact .inl ⟨rfl, List.length_eq_zero_iff.1 (by omega)⟩
  | succ k =>
   have hi : i < ls.length := by omega
   obtain ⟨w, hwi⟩ : ∃ w, ws[i]? = some w := ⟨ws[i]'(by omega), List.getElem?_eq_getElem _⟩
   obtain ⟨l, hli⟩ : ∃ l, ls[i]? = some l := ⟨ls[i], List.getElem?_eq_getElem hi⟩
   have hs := hw i w l hwi hli
   have ld := load1 h0 hwi
   have hl0 : l.length = 0 := by
    have h1 := congrArg List.length (lV hli)
    have h2 := x8 (ls := ls) (i := i + 1)
    rw [List.length_append] at h1
    omega
   obtain ⟨p, rfl, hc, _⟩ := ed (T := []) hs
   rw [hl0] at hc ld
   have ha := ng (s := .slc none 0) (H := H) (x := .slc p 0) (xs := []) (by simp [newCells, slcCells]; cases p <;> simp) ⟨(0, 0), 0, .inr rfl⟩
   have hw1 : IntKind.i64.wrap ((i : Int) + 1) = ((i : Int) + 1) := wrap_i64 (by omega) (by omega)
   simp [r6, r25, r26, r27, hi, ld, elemT, ha, hw1]
   exact ⟨k, by omega, i + 1, by omega, by omega⟩
 ·rw [if_neg hN0] at hg
  simp [r0, r3, r9, r10, r11, hg]
  refine WP_loop (fun k σ => ∃ (i : Nat) (r : Nat → R) (zs : List V), i + k = ls.length ∧ σ = ⟨r, 0, H ++ [.mk true 1 ((fl ls i).map V.str ++ zs)]⟩ ∧ (fl ls i).length + zs.length = N ∧ r 6 = .val (.slc (some (H.length, 0)) (fl ls i).length) ∧ r 25 = .val (.slc (some (id, 0)) ls.length) ∧ r 26 = .val (.int .i64 ls.length) ∧ r 27 = .val (.int .i64 i)) ?_ ls.length _ ⟨0, _, zerosL aZ N, by simp, by rw [gZ]; rfl, by simp [df, gZ], by simp [gZ], by simp [r0], by simp, by simp⟩
  clear hik r0 r3 r9 r10 r11 r
  rintro k σ ⟨i, r, zs, hik, rfl, hzs, r6, r25, r26, r27⟩
  cases k with
  | zero =>
   have hi : i = ls.length := by omega
   subst hi
   have hz0 : zs = [] := List.length_eq_zero_iff.1 (by omega)
   subst hz0
   rw [List.append_nil]
   have hgs : Gs H (H ++ [.mk true 1 ((fl ls ls.length).map V.str)]) (.slc (some (H.length, 0)) (fl ls ls.length).length) ((fl ls ls.length).map V.str) := ⟨_, H.length, rfl, Nat.le_refl _, get_last, by simp⟩
   simp [r6, r25, r26, r27]
   exact .inr hgs
  | succ k =>
   have hi : i < ls.length := by omega
   obtain ⟨w, hwi⟩ : ∃ w, ws[i]? = some w := ⟨ws[i]'(by omega), List.getElem?_eq_getElem _⟩
   obtain ⟨l, hli⟩ : ∃ l, ls[i]? = some l := ⟨ls[i], List.getElem?_eq_getElem hi⟩
   have hs := hw i w l hwi hli
   have hf := lV hli
   have hfl := congrArg List.length hf
   rw [List.length_append] at hfl
   have hle := x8 (ls := ls) (i := i + 1)
   have ld := load1 (H := H ++ [.mk true 1 ((fl ls i).map V.str ++ zs)]) (up_append _ _ h0) hwi
   obtain ⟨p, rfl, hc, _⟩ := ed (T := [.mk true 1 ((fl ls i).map V.str ++ zs)]) hs
   have hw1 : IntKind.i64.wrap ((i : Int) + 1) = ((i : Int) + 1) := wrap_i64 (by omega) (by omega)
   have hnc : newCells aZ (H ++ [.mk true 1 ((fl ls i).map V.str ++ zs)]) (.slc p l.length) = some (l.map V.str, l.length) := by
    simp only [newCells, Nat.mul_one, hc]
   by_cases hl0 : l.length = 0
   ·have hl1 : l = [] := List.length_eq_zero_iff.1 hl0
    subst hl1
    have ha := ng (s := .slc (some (H.length, 0)) (fl ls i).length) hnc ⟨_, _, .inl rfl⟩
    rw [List.append_nil] at hf
    rw [← hf] at ha ld r6 hzs ⊢
    simp at ld ha
    simp [r6, r25, r26, r27, hi, ld, elemT, ha, hw1]
    exact ⟨k, by omega, i + 1, by omega, _, zs, ⟨rfl, rfl⟩, by omega, by simp [r6], by simp [r25], by simp [r26], by simp⟩
   ·have ha := xJ (H := H) (ds := (fl ls i).map V.str) (zs := zs) hnc (by simp) hl0 (by simp) (by omega)
    rw [List.length_map] at ha
    rw [← List.map_append, ← hf] at ha
    simp [r6, r25, r26, r27, hi, ld, elemT, ha, hw1]
    exact ⟨k, by omega, i + 1, by omega, _, zs.drop l.length, ⟨rfl, rfl⟩, by simp; omega, by simp; omega, by simp [r25], by simp [r26], by simp⟩
end Go.Proofs.Try1
end
