/- Part 12 of the proof of a law: the interpreter, its soundness, and what functions of the program compute over it. Conditions: none but those that each theorem names. -/
import Derived.Test.YtipjjjlomghdfaaGreatDoorR11
import Derived.Test.YtipjjjlomghdfaaGreatDoorR08
import Derived.Test.YtipjjjlomghdfaaGreatDoorR10
import Derived.Test.YtipjjjlomghdfaaGreatDoorR06
import Derived.Test.YtipjjjlomghdfaaGreatDoorR09

set_option linter.all false
set_option maxRecDepth 20000
set_option maxHeartbeats 40000000
section
namespace Go.Proofs.Try1
open Go Go.Lite
def ah3 (s w : Str) : Prop := w.length ≤ s.length ∧ s.drop (s.length - w.length) = w
theorem hasSuffix {s w : Str} {H : List Ob} (hs : s.length ≤ 1000000) (hw : w.length ≤ 1000000) : callW C 336 [.str s, .str w] H = some (.bool (dec (ah3 s w)), H) := by
 apply Ret.dec
 rw [aqY]
 by_cases h1 : (s.length : Int) ≥ w.length
 ·have hw1 : IntKind.i64.wrap ((s.length : Int) - w.length) = (s.length : Int) - w.length := wrap_i64 (by omega) (by omega)
  have h2 : (w.length : Int) ≤ (s.length : Int) := h1
  have h3 : ((s.length : Int) - w.length).toNat = s.length - w.length := by omega
  have h4 : (0 : Int) ≤ (s.length : Int) - w.length := by omega
  have h5 : w.length ≤ s.length := by omega
  by_cases h6 : s.drop (s.length - w.length) = w
  ·have hn : ah3 s w := ⟨h5, h6⟩
   simp [aiD, Tryz.f336, h1, h2, h3, h4, h5, hw1, h6, hn]
  ·have hn : ¬ ah3 s w := fun h => h6 h.2
   simp [aiD, Tryz.f336, h1, h2, h3, h4, h5, hw1, h6, hn]
 ·have hn : ¬ ah3 s w := fun h => h1 (by have := h.1; omega)
  simp [aiD, Tryz.f336, h1, hn]
noncomputable def aii (s w : Str) : Str := if dec (ah3 s w) = true then s.take (s.length - w.length) else s
theorem ajx {s w : Str} {H : List Ob} (hs : s.length ≤ 1000000) (hw : w.length ≤ 1000000) : callW C 315 [.str s, .str w] H = some (.str (aii s w), H) := by
 apply Ret.eq
 rw [arc]
 have hc := hasSuffix (H := H) hs hw
 by_cases h : ah3 s w
 ·rw [dec_pos h] at hc
  have h0 := h.1
  have hw1 : IntKind.i64.wrap ((s.length : Int) - w.length) = (s.length : Int) - w.length := wrap_i64 (by omega) (by omega)
  have h2 : (w.length : Int) ≤ (s.length : Int) := by omega
  have h3 : ((s.length : Int) - w.length).toNat = s.length - w.length := by omega
  have ht : aii s w = s.take (s.length - w.length) := by unfold aii; rw [dec_pos h]; rfl
  simp [aiQ, Tryz.f315, hc, hw1, h2, h3, ht]
 ·rw [dec_neg h] at hc
  have ht : aii s w = s := by unfold aii; rw [dec_neg h]; rfl
  simp [aiQ, Tryz.f315, hc, ht]
theorem ajY {s : Str} : aii s [32] = nfin s := by
 have he : ah3 s [32] ↔ endSp s = true := by
  unfold ah3 endSp
  cases hl : s.getLast? with
  | none =>
   have : s = [] := by simpa using hl
   subst this
   simp
  | some d =>
   have hne : s ≠ [] := by rintro rfl; simp at hl
   have h1 : 1 ≤ s.length := List.length_pos_iff.2 hne
   rw [List.getLast?_eq_getElem?] at hl
   have h2 : s.drop (s.length - 1) = [d] := by
    apply List.ext_getElem?
    intro j
    rw [List.getElem?_drop]
    cases j with
    | zero => simpa using hl
    | succ j => simp; omega
   simp [h1, h2]
 unfold aii nfin
 by_cases h : endSp s = true
 ·rw [dec_pos (he.2 h), if_pos rfl, if_pos h, List.dropLast_eq_take]
  rfl
 ·rw [dec_neg (mt he.1 h), if_neg (by simp), if_neg h]
theorem anE {s : Str} {H : List Ob} (hs : s.length ≤ 1000000) : callW C 272 [.str s, .str [32]] H = some (.str (nfin s), H) := by
 apply Ret.eq
 rw [arN]
 have hc := ajx (H := H) hs (w := [32]) (by simp)
 rw [ajY] at hc
 simp [ajk, Tryz.f272, hc]
theorem aiX {t : Str} {H : List Ob} : callW C 199 [.str t] H = some (.str (norm t), H) := by
 apply Ret.eq
 rw [aqT]
 by_cases g1 : (t.length : Int) > 100
 ·have : norm t = [] := by unfold norm; rw [if_neg (by omega)]
  simp [aiA, Tryz.f199, g1, this]
 have hp := akX (t := t) (H := H) (by omega)
 by_cases g2 : Plain t
 rotate_left
 ·rw [dec_neg g2] at hp
  have : norm t = [] := by unfold norm; rw [dec_neg g2]; simp
  simp [aiA, Tryz.f199, g1, hp, this]
 rw [dec_pos g2] at hp
 have hn : norm t = nfin (t.foldl nstep []) := by unfold norm; rw [if_pos ⟨by omega, dec_pos g2⟩]
 have hbz : ∀ i, ((t.take i).foldl nstep []).length ≤ 100 := fun i => by
  have := foldl_len (t.take i) []
  simp at this
  omega
 simp [aiA, Tryz.f199, g1, hp, elemT, fillL, zerosL, St.new]
 refine WP_loop (fun k σ => ∃ (i : Nat) (r : Nat → R) (G : List Ob) (v : V), i + k = t.length ∧ σ = ⟨r, 0, G⟩ ∧ r 0 = .val (.str t) ∧ r 3 = .val v ∧ r 16 = .val (.int .i64 t.length) ∧ r 17 = .val (.int .i64 i) ∧ Bs H G v ((t.take i).foldl nstep [])) ?_ t.length _ ⟨0, _, _, _, by simp, rfl, by simp, by simp, by simp, by simp, Bs.init⟩
 rintro k σ ⟨i, r, G, v, hik, rfl, r0, r3, r16, r17, hB⟩
 have hbl := hbz i
 generalize hb : (t.take i).foldl nstep [] = b at hB hbl
 have hw1 : IntKind.i64.wrap ((b.length : Int) - 1) = (b.length : Int) - 1 := wrap_i64 (by omega) (by omega)
 cases k with
 | zero =>
  have hi : i = t.length := by omega
  subst hi
  rw [List.take_length] at hb
  rw [hb] at hn
  obtain ⟨TT, rfl⟩ := hB.ext
  obtain ⟨id, rfl, hst, hsl⟩ := hB.cut (n := b.length) (Nat.le_refl _)
  rw [List.take_length] at hsl
  have hts := anE (s := b) (H := H ++ TT) (by omega)
  simp [r0, r3, r16, r17, hsl, isByte, bys_mapM, hn, hts]
 | succ k =>
  have hi : i < t.length := by omega
  obtain ⟨c, hc⟩ : ∃ c, t[i]? = some c := ⟨t[i], by simp [hi]⟩
  have hc' : t[i] = c := (List.getElem?_eq_some_iff.1 hc).2
  have hw : IntKind.i64.wrap ((i : Int) + 1) = ((i : Int) + 1) := wrap_i64 (by omega) (by omega)
  have hfs := aiW hc nstep []
  rw [hb] at hfs
  have hgo : ∀ G' v', Bs H G' v' (nstep b c) → ∃ k', k' < k + 1 ∧ ∃ i', i' + k' = t.length ∧ (i : Int) + 1 = i' ∧ Bs H G' v' ((t.take i').foldl nstep []) := fun G' v' h =>
   ⟨k, by omega, i + 1, by omega, by omega, by rw [hfs]; exact h⟩
  by_cases hup : 65 ≤ c.toNat ∧ c.toNat ≤ 90
  ·have hu1 : (c.toNat : Int) ≥ 65 := by omega
   have hu2 : (c.toNat : Int) ≤ 90 := by omega
   have hlw := akc hup.1 hup.2
   have hl32 : ¬ ((lowC c).toNat : Int) = 32 := by rw [ajd hup.1 hup.2]; omega
   have hns : nstep b c = b ++ [lowC c] := by unfold nstep; rw [if_neg (fun h => hl32 (by rw [ai0.1 h.1]; rfl))]
   obtain ⟨v', G', ha, hB'⟩ := hB.push (by omega) (c := lowC c) (d := .int .u8) (z := [.int .u8 0]) rfl
   rw [← hns] at hB'
   simp [r0, r3, r16, r17, hi, hc', hu1, hu2, hlw, hl32, elemT, fillL, zerosL, St.new, badArg, ha, hw]
   obtain ⟨k', q1, i', q2, q3, q4⟩ := hgo G' v' hB'
   exact ⟨k', q1, i', q2, _, _, ⟨rfl, rfl⟩, by simp [r0], _, by simp [r3], by simp [r16], by simp [q3], q4⟩
  have hlc := akp hup
  have hu : (¬ (c.toNat : Int) ≥ 65) ∨ ((c.toNat : Int) ≥ 65 ∧ ¬ (c.toNat : Int) ≤ 90) := by omega
  by_cases h32 : c = 32
  ·have h32' : (c.toNat : Int) = 32 := by rw [h32]; rfl
   have hu1 : ¬ (c.toNat : Int) ≥ 65 := by omega
   by_cases hb0 : b = []
   ·have hns : nstep b c = b := by unfold nstep; rw [if_pos ⟨by rw [hlc, h32], .inl hb0⟩]
    rw [hns] at hgo
    have hbl0 : b.length = 0 := by rw [hb0]; rfl
    simp [r0, r3, r16, r17, hi, hc', h32', hB.len, hbl0, hw]
    obtain ⟨k', q1, i', q2, q3, q4⟩ := hgo G v hB
    exact ⟨k', q1, i', q2, _, _, ⟨rfl, rfl⟩, by simp [r0], _, by simp [r3], by simp [r16], by simp [q3], q4⟩
   ·obtain ⟨d, hd⟩ := aiJ hb0
    have hb1 : 0 < b.length := List.length_pos_iff.2 hb0
    have hb3 : (1 : Int) ≤ (b.length : Int) := by omega
    have hb5 : (b.length : Int) - 1 < (b.length : Int) := by omega
    have hb4 : ((b.length : Int) - 1).toNat = b.length - 1 := by omega
    obtain ⟨id, hv, hld⟩ := hB.last hd
    subst hv
    by_cases hd32 : d = 32
    ·have hns : nstep b c = b := by unfold nstep; rw [if_pos ⟨by rw [hlc, h32], .inr ((ah2 hd).2 hd32)⟩]
     rw [hns] at hgo
     have hd' : (d.toNat : Int) = 32 := by rw [hd32]; rfl
     simp [r0, r3, r16, r17, hi, hc', h32', hb0, hb1, hb3, hb4, hb5, hw1, hld, hd', hw]
     obtain ⟨k', q1, i', q2, q3, q4⟩ := hgo G _ hB
     exact ⟨k', q1, i', q2, _, _, ⟨rfl, rfl⟩, by simp [r0], _, by simp [r3], by simp [r16], by simp [q3], q4⟩
    ·have hns : nstep b c = b ++ [c] := by unfold nstep; rw [if_neg (fun h => h.2.elim hb0 (fun h => hd32 ((ah2 hd).1 h))), hlc]
     have hd' : ¬ (d.toNat : Int) = 32 := by have := mt ai0.2 hd32; omega
     obtain ⟨v', G', ha, hB'⟩ := hB.push (by omega) (c := c) (d := .int .u8) (z := [.int .u8 0]) rfl
     rw [← hns] at hB'
     rw [h32'] at ha
     simp [r0, r3, r16, r17, hi, hc', h32', hb0, hb1, hb3, hb4, hb5, hw1, hld, hd', elemT, fillL, zerosL, St.new, badArg, ha, hw]
     obtain ⟨k', q1, i', q2, q3, q4⟩ := hgo G' v' hB'
     exact ⟨k', q1, i', q2, _, _, ⟨rfl, rfl⟩, by simp [r0], _, by simp [r3], by simp [r16], by simp [q3], q4⟩
  ·have h32' : ¬ (c.toNat : Int) = 32 := by have := mt ai0.2 h32; omega
   have hns : nstep b c = b ++ [c] := by unfold nstep; rw [if_neg (fun h => h32 (hlc ▸ h.1)), hlc]
   obtain ⟨v', G', ha, hB'⟩ := hB.push (by omega) (c := c) (d := .int .u8) (z := [.int .u8 0]) rfl
   rw [← hns] at hB'
   obtain ⟨k', q1, i', q2, q3, q4⟩ := hgo G' v' hB'
   rcases hu with hu | ⟨hu, hu2⟩
   ·simp [r0, r3, r16, r17, hi, hc', hu, h32', elemT, fillL, zerosL, St.new, badArg, ha, hw]
    exact ⟨k', q1, i', q2, _, _, ⟨rfl, rfl⟩, by simp [r0], _, by simp [r3], by simp [r16], by simp [q3], q4⟩
   ·simp [r0, r3, r16, r17, hi, hc', hu, hu2, h32', elemT, fillL, zerosL, St.new, badArg, ha, hw]
    exact ⟨k', q1, i', q2, _, _, ⟨rfl, rfl⟩, by simp [r0], _, by simp [r3], by simp [r16], by simp [q3], q4⟩
theorem akt {t : Str} {H : List Ob} : callW C 217 [.str t] H = some (.bool (dec (ValueOk t)), H) := by
 apply Ret.dec
 rw [arw]
 have hn := ajn (t := t) (H := H)
 by_cases g1 : (t.length : Int) ≥ 1
 ·by_cases g2 : (t.length : Int) ≤ 40
  ·by_cases g3 : norm t = []
   ·have hv : ¬ ValueOk t := fun h => h.2.2 g3
    simp [aiu, Tryz.f217, g1, g2, hn, g3, hv]
   ·have hv : ValueOk t := ⟨by omega, by omega, g3⟩
    simp [aiu, Tryz.f217, g1, g2, hn, g3, hv]
  ·have : ¬ ValueOk t := fun h => by have := h.2.1; omega
   simp [aiu, Tryz.f217, g1, g2, this]
 ·have : ¬ ValueOk t := fun h => by have := h.1; omega
  simp [aiu, Tryz.f217, g1, this]
theorem akf {t : Str} {H : List Ob} : callW C 293 [.str t] H = some (.bool (dec (ValueOk t)), H) := by
 apply Ret.dec
 rw [arx]
 have hn := aiX (t := t) (H := H)
 by_cases g1 : (t.length : Int) ≥ 1
 ·by_cases g2 : (t.length : Int) ≤ 40
  ·by_cases g3 : norm t = []
   ·have hv : ¬ ValueOk t := fun h => h.2.2 g3
    simp [ais, Tryz.f293, g1, g2, hn, g3, hv]
   ·have hv : ValueOk t := ⟨by omega, by omega, g3⟩
    simp [ais, Tryz.f293, g1, g2, hn, g3, hv]
  ·have : ¬ ValueOk t := fun h => by have := h.2.1; omega
   simp [ais, Tryz.f293, g1, g2, this]
 ·have : ¬ ValueOk t := fun h => by have := h.1; omega
  simp [ais, Tryz.f293, g1, this]
theorem arn {H : List Ob} {v : V} {l : List PRdn} (h : ARdns H v l) : callW C 129 [v] H = some (.bool (dec (DnOk l)), H) := by
 apply Ret.dec
 rw [axm]
 have hb : l.length ≤ 9223372036854775807 := h.bound
 simp [ao6, Tryz.f129]
 refine WP_loop (fun k σ => ∃ (i : Nat) (r : Nat → R), i + k = l.length ∧ σ = ⟨r, 0, H⟩ ∧ r 0 = .val v ∧ r 3 = .val (.int .i64 i) ∧ ∀ j x, j < i → l[j]? = some x → NameOk x.attr ∧ ValueOk x.value) ?_ l.length _ ⟨0, _, by simp, rfl, by simp, by simp, by simp⟩
 rintro k σ ⟨i, r, hik, rfl, r0, r3, hall⟩
 cases k with
 | zero =>
  have hi : i = l.length := by omega
  subst hi
  have hx := at_all (P := fun j (x : PRdn) => NameOk x.attr ∧ ValueOk x.value) hall
  by_cases g : l.length ≤ 6
  ·have g' : (l.length : Int) ≤ 6 := by omega
   have hv : DnOk l := ⟨hx, g⟩
   simp [r0, r3, h.len, g', hv]
  ·have g' : ¬ (l.length : Int) ≤ 6 := by omega
   have hv : ¬ DnOk l := fun h => g h.2
   simp [r0, r3, h.len, g', hv]
 | succ k =>
  have hi : i < l.length := by omega
  obtain ⟨x, hx⟩ : ∃ c, l[i]? = some c := ⟨l[i], by simp [hi]⟩
  have hw : IntKind.i64.wrap ((i : Int) + 1) = ((i : Int) + 1) := wrap_i64 (by omega) (by omega)
  obtain ⟨id, o, e1, l0, l1, _, _⟩ := rdns_idx h hx
  have c1 := aja (t := x.attr) (H := H)
  by_cases g1 : NameOk x.attr
  ·rw [dec_pos g1] at c1
   have c2 := akt (t := x.value) (H := H)
   by_cases g2 : ValueOk x.value
   ·rw [dec_pos g2] at c2
    simp [r0, r3, hi, h.len, e1, l0, l1, c1, c2, hw]
    exact ⟨k, by omega, i + 1, by omega, by omega, at_step (P := fun j (x : PRdn) => NameOk x.attr ∧ ValueOk x.value) hall hx ⟨g1, g2⟩⟩
   ·rw [dec_neg g2] at c2
    have hn : ¬ DnOk l := fun hd => g2 (hd.1 i x hx).2
    simp [r0, r3, hi, h.len, e1, l0, l1, c1, c2, hn]
  ·rw [dec_neg g1] at c1
   have hn : ¬ DnOk l := fun hd => g1 (hd.1 i x hx).1
   simp [r0, r3, hi, h.len, e1, l0, l1, c1, hn]
theorem ajV {H : List Ob} {v : V} {l : List Str} {t : Str} (h : AStrs H v l) : callW C 132 [v, .str t] H = some (.bool (dec (t ∈ l)), H) := by
 apply Ret.dec
 rw [awx]
 have hb : l.length ≤ 9223372036854775807 := h.bound
 simp [aoy, Tryz.f132]
 refine WP_loop (fun k σ => ∃ (i : Nat) (r : Nat → R), i + k = l.length ∧ σ = ⟨r, 0, H⟩ ∧ r 0 = .val v ∧ r 1 = .val (.str t) ∧ r 5 = .val (.int .i64 i) ∧ ∀ j x, j < i → l[j]? = some x → x ≠ t) ?_ l.length _ ⟨0, _, by simp, rfl, by simp, by simp, by simp, by simp⟩
 rintro k σ ⟨i, r, hik, rfl, r0, r1, r5, hall⟩
 cases k with
 | zero =>
  have hi : i = l.length := by omega
  subst hi
  have hx := at_all (P := fun j (x : Str) => x ≠ t) hall
  have hn : t ∉ l := fun hm => by
   obtain ⟨j, hj, e⟩ := List.getElem_of_mem hm
   exact hx j _ (List.getElem?_eq_getElem hj) e
  simp [r0, r1, r5, h.len, hn]
 | succ k =>
  have hi : i < l.length := by omega
  obtain ⟨x, hx⟩ : ∃ c, l[i]? = some c := ⟨l[i], by simp [hi]⟩
  have hw : IntKind.i64.wrap ((i : Int) + 1) = ((i : Int) + 1) := wrap_i64 (by omega) (by omega)
  obtain ⟨id, o, e1, l0, _⟩ := strs_idx h hx
  by_cases g1 : x = t
  ·have hm : t ∈ l := g1 ▸ List.mem_of_getElem? hx
   subst g1
   simp [r0, r1, r5, hi, h.len, e1, l0, hm]
  ·simp [r0, r1, r5, hi, h.len, e1, l0, g1, hw]
   exact ⟨k, by omega, i + 1, by omega, by omega, at_step (P := fun j (x : Str) => x ≠ t) hall hx g1⟩
theorem awI {H : List Ob} {v v' : V} {l : List PAttr} {t : Str} (h : AAttrs H v l) (ho : cellsOf v' = some [v']) : ∃ r : Int, callW C 185 [.agg [v', v], .str t] H = some (.int .i64 r, H) ∧ FirstAt PAttr.name l t r := by
 suffices hs : Ret C 185 [.agg [v', v], .str t] H fun q H' => (∃ r : Int, q = .int .i64 r ∧ FirstAt PAttr.name l t r) ∧ H' = H by
  obtain ⟨q, H', hc, ⟨r, rfl, hr⟩, rfl⟩ := hs
  exact ⟨r, hc, hr⟩
 rw [awD]
 have hb : l.length ≤ 9223372036854775807 := h.bound
 simp [aou, Tryz.f185]
 refine WP_loop (fun k σ => ∃ (i : Nat) (r : Nat → R), i + k = l.length ∧ σ = ⟨r, 1, H⟩ ∧ r 1 = .val (.str t) ∧ r 2 = .box 0 [v', v] ∧ r 5 = .val (.int .i64 i) ∧ ∀ j x, j < i → l[j]? = some x → x.name ≠ t) ?_ l.length _ ⟨0, _, by simp, rfl, by simp, by simp, by simp, by simp⟩
 rintro k σ ⟨i, r, hik, rfl, r1, r2, r5, hall⟩
 cases k with
 | zero =>
  have hi : i = l.length := by omega
  subst hi
  have hx := at_all (P := fun j (x : PAttr) => x.name ≠ t) hall
  simp [r1, r2, r5, h.len]
  exact .inr ⟨hx, rfl⟩
 | succ k =>
  have hi : i < l.length := by omega
  obtain ⟨x, hx⟩ : ∃ c, l[i]? = some c := ⟨l[i], by simp [hi]⟩
  have hw : IntKind.i64.wrap ((i : Int) + 1) = ((i : Int) + 1) := wrap_i64 (by omega) (by omega)
  obtain ⟨id, o, w, e1, l0, l1, _⟩ := attrs_idx h hx
  by_cases g1 : x.name = t
  ·simp [r1, r2, r5, hi, h.len, e1, l0, g1]
   exact .inl ⟨i, x, hx, g1, hall, rfl⟩
  ·simp [r1, r2, r5, hi, h.len, e1, l0, g1, hw]
   exact ⟨k, by omega, i + 1, by omega, by omega, at_step (P := fun j (x : PAttr) => x.name ≠ t) hall hx g1⟩
theorem apM {H : List Ob} {v : V} {l : List PClass} {t : Str} (h : AClasses H v l) : ∃ r : Int, callW C 261 [v, .str t] H = some (.int .i64 r, H) ∧ FirstAt PClass.name l t r := by
 suffices hs : Ret C 261 [v, .str t] H fun q H' => (∃ r : Int, q = .int .i64 r ∧ FirstAt PClass.name l t r) ∧ H' = H by
  obtain ⟨q, H', hc, ⟨r, rfl, hr⟩, rfl⟩ := hs
  exact ⟨r, hc, hr⟩
 rw [aww]
 have hb : l.length ≤ 9223372036854775807 := h.bound
 simp [apn, Tryz.f261]
 refine WP_loop (fun k σ => ∃ (i : Nat) (r : Nat → R), i + k = l.length ∧ σ = ⟨r, 0, H⟩ ∧ r 0 = .val v ∧ r 1 = .val (.str t) ∧ r 5 = .val (.int .i64 i) ∧ ∀ j x, j < i → l[j]? = some x → x.name ≠ t) ?_ l.length _ ⟨0, _, by simp, rfl, by simp, by simp, by simp, by simp⟩
 rintro k σ ⟨i, r, hik, rfl, r0, r1, r5, hall⟩
 cases k with
 | zero =>
  have hi : i = l.length := by omega
  subst hi
  have hx := at_all (P := fun j (x : PClass) => x.name ≠ t) hall
  simp [r0, r1, r5, h.len]
  exact .inr ⟨hx, rfl⟩
 | succ k =>
  have hi : i < l.length := by omega
  obtain ⟨x, hx⟩ : ∃ c, l[i]? = some c := ⟨l[i], by simp [hi]⟩
  have hw : IntKind.i64.wrap ((i : Int) + 1) = ((i : Int) + 1) := wrap_i64 (by omega) (by omega)
  obtain ⟨id, o, w1, w2, w3, e1, l0, _⟩ := classes_idx h hx
  by_cases g1 : x.name = t
  ·simp [r0, r1, r5, hi, h.len, e1, l0, g1]
   exact .inl ⟨i, x, hx, g1, hall, rfl⟩
  ·simp [r0, r1, r5, hi, h.len, e1, l0, g1, hw]
   exact ⟨k, by omega, i + 1, by omega, by omega, at_step (P := fun j (x : PClass) => x.name ≠ t) hall hx g1⟩
theorem awH {H : List Ob} {v v' : V} {l : List PAttr} {t : Str} (h : AAttrs H v l) (ho : cellsOf v' = some [v']) (ho' : isOne v' = true) : ∃ w, callW C 260 [.agg [v', v], .str t] H = some (w, H) ∧ AStrs H w (valsOf l t) := by
 obtain ⟨r, hc, hr⟩ := awI (t := t) h ho
 suffices hs : Ret C 260 [.agg [v', v], .str t] H fun q H' => AStrs H q (valsOf l t) ∧ H' = H by
  obtain ⟨q, H', hc, hr, rfl⟩ := hs
  exact ⟨q, hc, hr⟩
 rw [axY]
 rcases hr.pos with ⟨k, a, h1, rfl, h2⟩ | ⟨rfl, h2⟩
 ·obtain ⟨id, o, w, e1, l0, l1, _, hw, _⟩ := attrs_idx h h1
  have hv : valsOf l t = a.vals := by unfold valsOf; rw [h2]
  have hk : ¬ ((k : Int) < 0) := by omega
  simp [amq, Tryz.f260, hc, hk, e1, l1, hv]
  exact hw
 ·have hv : valsOf l t = [] := by unfold valsOf; rw [h2]
  simp [amq, Tryz.f260, hc, hv]
  exact At_slice.2 ⟨_, _, rfl, rfl, by simp, .inl ⟨rfl, rfl⟩⟩
end Go.Proofs.Try1
end
section
namespace Go.Proofs.Try1
open Go Go.Lite
attribute [-simp] WP_region WP_cond
attribute [local simp] WP_regionF WP_condF ThenW_some ThenW_none CondW_true CondW_false
attribute [local simp low] CondW_bool
theorem aiC {c n : UInt8} (h : ¬ c = n) : ¬ ((c.toNat : Int) = (n.toNat : Int)) := fun e => h (UInt8.toNat_inj.1 (by omega))
theorem awQ {t : Str} {i : Nat} {c : UInt8} {H : List Ob} (hc : t[i]? = some c) (hl : t.length ≤ 1000000) : callW C 321 [.str t, .int .i64 i] H = some (.bool (oddAt t i c), H) := by
 apply Ret.eq
 rw [awK]
 obtain ⟨hi, hc'⟩ := List.getElem?_eq_some_iff.1 hc
 have hw : IntKind.i64.wrap ((t.length : Int) - 1) = (t.length : Int) - 1 := wrap_i64 (by omega) (by omega)
 by_cases h1 : c = 44
 ·subst h1; simp [aij, Tryz.f321, hi, hc', oddAt, oddC]
 by_cases h2 : c = 43
 ·subst h2; simp [aij, Tryz.f321, hi, hc', oddAt, oddC]
 by_cases h3 : c = 34
 ·subst h3; simp [aij, Tryz.f321, hi, hc', oddAt, oddC]
 by_cases h4 : c = 92
 ·subst h4; simp [aij, Tryz.f321, hi, hc', oddAt, oddC]
 by_cases h5 : c = 60
 ·subst h5; simp [aij, Tryz.f321, hi, hc', oddAt, oddC]
 by_cases h6 : c = 62
 ·subst h6; simp [aij, Tryz.f321, hi, hc', oddAt, oddC]
 by_cases h7 : c = 59
 ·subst h7; simp [aij, Tryz.f321, hi, hc', oddAt, oddC]
 by_cases h8 : c = 61
 ·subst h8; simp [aij, Tryz.f321, hi, hc', oddAt, oddC]
 have e1 := aiC h1
 have e2 := aiC h2
 have e3 := aiC h3
 have e4 := aiC h4
 have e5 := aiC h5
 have e6 := aiC h6
 have e7 := aiC h7
 have e8 := aiC h8
 simp at e1 e2 e3 e4 e5 e6 e7 e8
 have ho : oddC c = false := by simp [oddC, h1, h2, h3, h4, h5, h6, h7, h8]
 by_cases h9 : c = 35
 ·subst h9
  by_cases g : i = 0
  ·subst g
   simp [aij, Tryz.f321, hi, hc', oddAt, oddC]
  ·have g' : ¬ (i : Int) = 0 := by omega
   simp [aij, Tryz.f321, hi, hc', oddAt, oddC, g, g']
 have e9 := aiC h9
 simp at e9
 by_cases h10 : c = 32
 ·subst h10
  by_cases g : i = 0
  ·subst g
   simp [aij, Tryz.f321, hi, hc', oddAt, oddC]
  ·have g' : ¬ (i : Int) = 0 := by omega
   by_cases g2 : i + 1 = t.length
   ·have g2' : IntKind.i64.wrap ((t.length : Int) - 1) = (i : Int) := by rw [hw]; omega
    simp [aij, Tryz.f321, hi, hc', oddAt, oddC, g, g', g2, g2']
   ·have g2' : ¬ (i : Int) = (t.length : Int) - 1 := by omega
    simp [aij, Tryz.f321, hi, hc', oddAt, oddC, g, g', g2, g2', hw]
 have e10 := aiC h10
 simp at e10
 simp [aij, Tryz.f321, hi, hc', oddAt, ho, h9, h10, e1, e2, e3, e4, e5, e6, e7, e8, e9, e10]
theorem amc {t : Str} {i : Nat} {c : UInt8} (hc : t[i]? = some c) : escN t (i + 1) = if oddAt t i c = true then escN t i ++ [92] ++ [c] else escN t i ++ [c] := by
 show escN t i ++ escB t i = _
 rw [show escB t i = if oddAt t i c = true then [92, c] else [c] by unfold escB; rw [hc]]
 split <;> simp
theorem arP {t : Str} {H : List Ob} (hl : t.length ≤ 1000) : callW C 289 [.str t] H = some (.str (esc t), H) := by
 apply Ret.eq
 rw [awM]
 simp [an8, Tryz.f289, elemT, fillL, zerosL, St.new]
 refine WP_loop (fun k σ => ∃ (i : Nat) (r : Nat → R) (G : List Ob) (v : V), i + k = t.length ∧ σ = ⟨r, 0, G⟩ ∧ r 0 = .val (.str t) ∧ r 3 = .val v ∧ r 4 = .val (.int .i64 i) ∧ Bs H G v (escN t i)) ?_ t.length _ ⟨0, _, _, _, by simp, rfl, by simp, by simp, by simp, Bs.init⟩
 rintro k σ ⟨i, r, G, v, hik, rfl, r0, r3, r4, hB⟩
 have hbl := escN_len t i
 cases k with
 | zero =>
  have hi : i = t.length := by omega
  subst hi
  obtain ⟨TT, rfl⟩ := hB.ext
  obtain ⟨id, rfl, hst, hsl⟩ := hB.cut (n := (escN t t.length).length) (Nat.le_refl _)
  rw [List.take_length] at hsl
  simp [r0, r3, r4, hsl, hst, isByte, bys_mapM, esc]
 | succ k =>
  have hi : i < t.length := by omega
  obtain ⟨c, hc⟩ : ∃ c, t[i]? = some c := ⟨t[i], by simp [hi]⟩
  have hc' : t[i] = c := (List.getElem?_eq_some_iff.1 hc).2
  have hw : IntKind.i64.wrap ((i : Int) + 1) = ((i : Int) + 1) := wrap_i64 (by omega) (by omega)
  have c1 : callW C 321 [.str t, .int .i64 i] G = some (.bool (oddAt t i c), G) := awQ hc (by omega)
  have hes := amc hc
  cases ho : oddAt t i c with
  | false =>
   rw [ho] at c1
   rw [ho, if_neg (by simp)] at hes
   obtain ⟨v', G', ha, hB'⟩ := hB.push (by omega) (c := c) (d := .int .u8) (z := [.int .u8 0]) rfl
   rw [← hes] at hB'
   simp [r0, r3, r4, hi, hc', c1, elemT, fillL, zerosL, St.new, badArg, ha, hw]
   exact ⟨k, by omega, i + 1, by omega, _, _, ⟨rfl, rfl⟩, by simp [r0], _, by simp, by simp, hB'⟩
  | true =>
   rw [ho] at c1
   rw [ho, if_pos rfl] at hes
   obtain ⟨v', G', ha, hB'⟩ := hB.push (by omega) (c := 92) (d := .int .u8) (z := [.int .u8 0]) rfl
   obtain ⟨v2, G2, ha2, hB2⟩ := hB'.push (by simp; omega) (c := c) (d := .int .u8) (z := [.int .u8 0]) rfl
   rw [← hes] at hB2
   simp at ha
   simp [r0, r3, r4, hi, hc', c1, elemT, fillL, zerosL, St.new, badArg, ha, ha2, hw]
   exact ⟨k, by omega, i + 1, by omega, _, _, ⟨rfl, rfl⟩, by simp [r0], _, by simp, by simp, hB2⟩
theorem alX {dn : List PRdn} {i : Nat} {x : PRdn} (hx : dn[i]? = some x) : txtN dn (i + 1) = (if 0 < i then txtN dn i ++ [44] else txtN dn i) ++ x.attr ++ [61] ++ esc x.value := by
 show txtN dn i ++ txtB dn i = _
 rw [show txtB dn i = (if 0 < i then [44] else []) ++ x.attr ++ [61] ++ esc x.value by unfold txtB; rw [hx]]
 split <;> simp
theorem an6 {H : List Ob} {v : V} {xs : List PRdn} (h : ARdns H v xs) {i : Nat} {x : PRdn} (hx : xs[i]? = some x) : ∃ id o, id < H.length ∧
  (∀ (e s b : Nat) (z : List V) (ty : Nat → LT) (k : IntKind), (ty e).size = 2 → indexR ⟨.slice e, s, b, z⟩ ty (.val v) (.int k i) = some (.val (.ptr (some (id, o))))) ∧
  (∀ T' : List Ob, ∀ T : LT, T.one → ∀ r c, loadAt T ⟨r, c, H ++ T'⟩ (.hp id o) = some (.str x.attr) ∧ loadAt T ⟨r, c, H ++ T'⟩ (.hp id (o + 1)) = some (.str x.value)) ∧
  (∀ T' : List Ob, ∀ T : LT, T.many 2 → ∀ r c, loadAt T ⟨r, c, H ++ T'⟩ (.hp id o) = some (.agg [.str x.attr, .str x.value])) := by
 obtain ⟨id, o, own, cells, e1, e2, e3, e4⟩ := ASl.idx h hx (by decide)
 obtain ⟨e4, e5, e6⟩ := rdn_at.1 e4
 refine ⟨id, o, (List.getElem?_eq_some_iff.1 e2).1, e1, fun T' T hT r c => ?_, fun T' => loadN (up_append _ _ e2) e3 (by decide) e4⟩
 have e2' := up_append (T := T') _ _ e2
 exact ⟨load1 e2' (by simpa using cells_get e4 (j := 0) rfl) T hT r c, load1 e2' (by simpa using cells_get e4 (j := 1) rfl) T hT r c⟩
theorem auq {H : List Ob} {v : V} {dn : List PRdn} (h : ARdns H v dn) (hd : DnOk dn) : callW C 224 [v] H = some (.str (txt dn), H) := by
 apply Ret.eq
 rw [ax2]
 have hb : dn.length ≤ 6 := hd.2
 simp [anW, Tryz.f224]
 refine WP_loop (fun k σ => ∃ (i : Nat) (r : Nat → R), i + k = dn.length ∧ σ = ⟨r, 0, H⟩ ∧ r 0 = .val v ∧ r 3 = .val (.str (txtN dn i)) ∧ r 4 = .val (.int .i64 i)) ?_ dn.length _ ⟨0, _, by simp, rfl, by simp, by simp [txtN], by simp⟩
 rintro k σ ⟨i, r, hik, rfl, r0, r3, r4⟩
 have hbl := txtN_len hd i
 cases k with
 | zero =>
  have hi : i = dn.length := by omega
  subst hi
  simp [r0, r3, r4, h.len, txt]
 | succ k =>
  have hi : i < dn.length := by omega
  obtain ⟨x, hx⟩ : ∃ c, dn[i]? = some c := ⟨dn[i], by simp [hi]⟩
  have hw : IntKind.i64.wrap ((i : Int) + 1) = ((i : Int) + 1) := wrap_i64 (by omega) (by omega)
  obtain ⟨id, o, hid, e1, ll, _⟩ := an6 h hx
  have l0 : ∀ T : LT, T.one → ∀ r c, loadAt T ⟨r, c, H⟩ (.hp id o) = some (.str x.attr) := fun T hT r c => by have := (ll [] T hT r c).1; rwa [List.append_nil] at this
  have l1 : ∀ T : LT, T.one → ∀ r c, loadAt T ⟨r, c, H⟩ (.hp id (o + 1)) = some (.str x.value) := fun T hT r c => by have := (ll [] T hT r c).2; rwa [List.append_nil] at this
  have h1 := (hd.1 i x hx).1.2.1
  have h2 := (hd.1 i x hx).2.2.1
  have h3 := esc_len x.value
  have c1 := arP (t := x.value) (H := H) (by omega)
  have hts := alX hx
  have hM : ∀ n, n ≤ 2000 → n ≤ maxStr := fun n h => by unfold maxStr; omega
  have m1 := hM ((txtN dn i).length + 1) (by omega)
  have m2 := hM ((txtN dn i).length + (x.attr.length + 1)) (by omega)
  have m3 := hM ((txtN dn i).length + x.attr.length) (by omega)
  have m4 := hM ((txtN dn i).length + 1 + x.attr.length) (by omega)
  have m5 := hM ((txtN dn i).length + (x.attr.length + 1) + 1) (by omega)
  have m6 := hM ((txtN dn i).length + x.attr.length + 1) (by omega)
  have m7 := hM ((txtN dn i).length + (x.attr.length + 1) + (esc x.value).length) (by omega)
  have m8 := hM ((txtN dn i).length + (x.attr.length + 1 + 1) + (esc x.value).length) (by omega)
  have m9 := hM ((txtN dn i).length + (x.attr.length + 1 + 1)) (by omega)
  by_cases g : 0 < i
  ·rw [if_pos g] at hts
   simp [r0, r3, r4, h.len, hi, g, hid, e1, l0, l1, c1, m1, m2, m3, m4, m5, m6, m7, m8, m9, hw, regionL_none, regionL_some, List.lookup]
   exact ⟨k, by omega, i + 1, by omega, by rw [hts]; simp, by omega⟩
  ·rw [if_neg g] at hts
   simp [r0, r3, r4, h.len, hi, g, hid, e1, l0, l1, c1, m1, m2, m3, m4, m5, m6, m7, m8, m9, hw, regionL_none, regionL_some, List.lookup]
   exact ⟨k, by omega, i + 1, by omega, by rw [hts]; simp, by omega⟩
theorem amU : ∀ (t : Str) (k : Nat), (∀ j c, j < k → t[j]? = some c → c ≠ 61) → t[k]? = some 61 → splitEq t = some (t.take k, t.drop (k + 1))
 | [], k, _, h => by simp at h
 | c :: t, 0, _, h => by
  simp only [List.getElem?_cons_zero, Option.some.injEq] at h
  subst h
  simp [splitEq]
 | c :: t, k + 1, hn, h => by
  have h0 : c ≠ 61 := hn 0 c (by omega) rfl
  unfold splitEq
  rw [if_neg h0, amU t k (fun j d hj hd => hn (j + 1) d (by omega) (by simpa using hd)) (by simpa using h)]
  rfl
theorem alH : ∀ (t : Str), (∀ c ∈ t, c ≠ 61) → splitEq t = none
 | [], _ => rfl
 | c :: t, h => by
  unfold splitEq
  rw [if_neg (h c (by simp)), alH t (fun d hd => h d (by simp [hd]))]
  rfl
theorem arI {t : Str} {i : Nat} {c : UInt8} (hc : t[i]? = some c) (h : c ≠ 92 ∨ t.length ≤ i + 1) : bare (t.drop i) = c :: bare (t.drop (i + 1)) := by
 obtain ⟨hi, rfl⟩ := List.getElem?_eq_some_iff.1 hc
 rw [List.drop_eq_getElem_cons hi]
 cases hd : t.drop (i + 1) with
 | nil => rfl
 | cons d w =>
  rcases h with h | h
  ·simp only [bare, if_neg h]
  ·have := congrArg List.length hd
   simp at this
   omega
theorem ap7 {t : Str} {i : Nat} {d : UInt8} (hc : t[i]? = some 92) (hd : t[i + 1]? = some d) : bare (t.drop i) = d :: bare (t.drop (i + 2)) := by
 obtain ⟨hi, h1⟩ := List.getElem?_eq_some_iff.1 hc
 obtain ⟨hi2, h2⟩ := List.getElem?_eq_some_iff.1 hd
 rw [List.drop_eq_getElem_cons hi, List.drop_eq_getElem_cons hi2, h1, h2]
 simp only [bare, if_true]
theorem axU {t : Str} {H : List Ob} (hl : t.length ≤ 2000000) : callW C 189 [.str t] H = some (.agg [.str (rdnS t).attr, .str (rdnS t).value], H) := by
 apply Ret.eq
 rw [awg]
 simp [aos, Tryz.f189, elemT, fillL, zerosL, St.new]
 refine WP_loop (fun k' σ => ∃ (k : Nat) (r : Nat → R), k + k' = t.length ∧ σ = ⟨r, 1, H⟩ ∧ r 0 = .val (.str t) ∧ r 2 = .box 0 [.str [], .str []] ∧ r 3 = .val (.int .i64 k) ∧ ∀ j c, j < k → t[j]? = some c → c ≠ 61) ?_ t.length _ ⟨0, _, by simp, rfl, by simp, by simp, by simp, by omega⟩
 rintro k' σ ⟨k, r, hk, rfl, r0, r2, r3, hno⟩
 cases k' with
 | zero =>
  have hkl : k = t.length := by omega
  subst hkl
  have e : rdnS t = ⟨[], []⟩ := by
   unfold rdnS
   rw [alH t fun c hc => by
    obtain ⟨j, hj, rfl⟩ := List.getElem_of_mem hc
    exact hno j _ hj (List.getElem?_eq_getElem hj)]
  rw [e]
  simp [r0, r2, r3, fillL, zerosL, St.new, buildV, structPlace, elemT]
 | succ k' =>
  have hi : k < t.length := by omega
  obtain ⟨c, hc⟩ : ∃ c, t[k]? = some c := ⟨t[k], by simp [hi]⟩
  have hc' : t[k] = c := (List.getElem?_eq_some_iff.1 hc).2
  have hw : IntKind.i64.wrap ((k : Int) + 1) = ((k : Int) + 1) := wrap_i64 (by omega) (by omega)
  by_cases g : c = 61
  ·subst g
   have e : rdnS t = ⟨t.take k, bare (t.drop (k + 1))⟩ := by unfold rdnS; rw [amU t k hno hc]
   rw [e]
   have hne : ¬ (k : Int) = (t.length : Int) := by omega
   have hne' : ¬ k = t.length := by omega
   simp [r0, r2, r3, hi, hc', hw, hne, hne', elemT, fillL, zerosL, St.new]
   refine WP_loop (fun m σ => ∃ (i : Nat) (r' : Nat → R) (G : List Ob) (vb : V) (b : Str), i + m = t.length ∧ σ = ⟨r', 1, G⟩ ∧ r' 0 = .val (.str t) ∧ r' 2 = .box 0 [.str [], .str []] ∧ r' 3 = .val (.int .i64 k) ∧ r' 4 = .val vb ∧ r' 5 = .val (.int .i64 i) ∧ Bs H G vb b ∧ b ++ bare (t.drop i) = bare (t.drop (k + 1)) ∧ b.length ≤ i) ?_ (t.length - (k + 1)) _ ⟨k + 1, _, _, _, [], by omega, rfl, by simp [r0], by simp [r2], by simp [r3], by simp, by simp, Bs.init, by simp, by simp⟩
   rintro m σ ⟨i, r', G, vb, b, him, rfl, s0, s2, s3, s4, s5, hB, hbare, hbl⟩
   cases m with
   | zero =>
    obtain rfl : i = t.length := by omega
    rw [List.drop_length, show bare [] = [] from rfl, List.append_nil] at hbare
    obtain ⟨TT, rfl⟩ := hB.ext
    obtain ⟨id, rfl, hst, hsl⟩ := hB.cut (n := b.length) (Nat.le_refl _)
    rw [List.take_length] at hsl
    have hkl : k ≤ t.length := by omega
    rw [← hbare]
    have hgc : ∀ a b : Str, gcH H (H ++ TT) (.agg [.str a, .str b]) = H := fun a b => gcH_low (by simp [lowV, lowVs])
    simp [hgc, s0, s2, s3, s4, s5, hsl, hst, isByte, bys_mapM, hkl, fillL, zerosL, St.new, buildV, structPlace, elemT, setRange, regionL_none, regionL_some, List.lookup]
   | succ m =>
    have hi2 : i < t.length := by omega
    obtain ⟨cc, hcc⟩ : ∃ c, t[i]? = some c := ⟨t[i], by simp [hi2]⟩
    have hcc' : t[i] = cc := (List.getElem?_eq_some_iff.1 hcc).2
    have hw2 : IntKind.i64.wrap ((i : Int) + 1) = ((i : Int) + 1) := wrap_i64 (by omega) (by omega)
    by_cases g2 : cc = 92 ∧ i + 1 < t.length
    ·obtain ⟨g92, g3⟩ := g2
     subst g92
     obtain ⟨d, hd⟩ : ∃ c, t[i + 1]? = some c := ⟨t[i + 1], by simp [g3]⟩
     have hd' : t[i + 1] = d := (List.getElem?_eq_some_iff.1 hd).2
     have hw3 : IntKind.i64.wrap ((i : Int) + 1 + 1) = ((i : Int) + 1 + 1) := wrap_i64 (by omega) (by omega)
     have g3' : (i : Int) + 1 < (t.length : Int) := by omega
     obtain ⟨v', G', hp, hB'⟩ := hB.push (by omega) (c := d) (d := .int .u8) (z := [.int .u8 0]) rfl
     rw [ap7 hcc hd] at hbare
     have hi0 : (0 : Int) ≤ (i : Int) + 1 := by omega
     simp [s0, s2, s3, s4, s5, hi2, hcc', hd', g3, g3', hi0, hw2, hw3, elemT, fillL, zerosL, St.new, badArg, hp]
     exact ⟨m - 1, by omega, i + 2, by omega, _, _, ⟨rfl, rfl⟩, by simp [s0], by simp [s2], by simp [s3], _, by simp, by simp; omega, _, hB', by rw [List.append_assoc]; exact hbare, by simp; omega⟩
    ·have hone : cc ≠ 92 ∨ t.length ≤ i + 1 := by
      by_cases h92 : cc = 92
      ·exact .inr ((Nat.lt_or_ge (i + 1) t.length).elim (fun h => absurd ⟨h92, h⟩ g2) id)
      ·exact .inl h92
     obtain ⟨v', G', hp, hB'⟩ := hB.push (by omega) (c := cc) (d := .int .u8) (z := [.int .u8 0]) rfl
     rw [arI hcc hone] at hbare
     by_cases h92 : cc = 92
     ·have g3 : ¬ i + 1 < t.length := fun h => g2 ⟨h92, h⟩
      have g3' : ¬ (i : Int) + 1 < (t.length : Int) := by omega
      have e92 : (cc.toNat : Int) = 92 := by rw [h92]; rfl
      rw [e92] at hp
      simp [s0, s2, s3, s4, s5, hi2, hcc', e92, g3, g3', hw2, elemT, fillL, zerosL, St.new, badArg, hp]
      exact ⟨m, by omega, i + 1, by omega, _, _, ⟨rfl, rfl⟩, by simp [s0], by simp [s2], by simp [s3], _, by simp, by simp, _, hB', by rw [List.append_assoc]; exact hbare, by simp; omega⟩
     ·have e92 := aiC h92
      simp at e92
      simp [s0, s2, s3, s4, s5, hi2, hcc', h92, e92, hw2, elemT, fillL, zerosL, St.new, badArg, hp]
      exact ⟨m, by omega, i + 1, by omega, _, _, ⟨rfl, rfl⟩, by simp [s0], by simp [s2], by simp [s3], _, by simp, by simp, _, hB', by rw [List.append_assoc]; exact hbare, by simp; omega⟩
  ·have g' := aiC g
   simp at g'
   simp [r0, r2, r3, hi, hc', g, g', hw]
   exact ⟨k', by omega, k + 1, by omega, by omega, fun j c hj hcj => all_step (P := fun _ c => c ≠ 61) (fun j hj c hc => hno j c hj hc) hc g j hj c hcj⟩
theorem ana {t : Str} {c : UInt8} {H : List Ob} : callW C 331 [.str t, .int .u8 c.toNat] H = some (.int .i64 (Lib.indexByte t c), H) := by
 have p : callW C 361 [.str t, .int .u8 c.toNat] H = some (.int .i64 (Lib.indexByte t c), H) := by
  rw [callW_prim (pr := idxPrim) rfl]
  simp [idxPrim]
 have q : callW C 352 [.str t, .int .u8 c.toNat] H = some (.int .i64 (Lib.indexByte t c), H) := by
  apply Ret.eq
  rw [awG]
  simp [ao3, Tryz.f352, p]
 apply Ret.eq
 rw [avH]
 simp [an0, Tryz.f331, q]
abbrev asn : Str := [44, 43, 34, 92, 60, 62, 59, 61]
theorem ape {c : UInt8} : 0 ≤ Lib.indexByte asn c ↔ oddC c = true := by
 rw [indexByte_nn]
 simp [oddC, asn, or_assoc]
theorem anu {t : Str} {i : Nat} {c : UInt8} {H : List Ob} (hc : t[i]? = some c) (hl : t.length ≤ 1000000) : callW C 303 [.str t, .int .i64 i] H = some (.bool (oddAt t i c), H) := by
 apply Ret.eq
 rw [axN]
 obtain ⟨hi, hc'⟩ := List.getElem?_eq_some_iff.1 hc
 have hw : IntKind.i64.wrap ((t.length : Int) - 1) = (t.length : Int) - 1 := wrap_i64 (by omega) (by omega)
 have c1 := ana (t := asn) (c := c) (H := H)
 by_cases ho : oddC c = true
 ·have h0 := ape.2 ho
  simp [ai6, Tryz.f303, hi, hc', c1, h0, oddAt, ho]
 have h0 : ¬ 0 ≤ Lib.indexByte asn c := fun h => ho (ape.1 h)
 have ho' : oddC c = false := by simpa using ho
 by_cases h9 : c = 35
 ·have e9 : (c.toNat : Int) = 35 := by rw [h9]; rfl
  rw [e9] at c1
  by_cases g : i = 0
  ·have ha : oddAt t i c = true := by simp [oddAt, h9, g]
   have g' : (i : Int) = 0 := by omega
   subst g
   simp [ai6, Tryz.f303, hi, hc', e9, c1, h0, ha]
  ·have g' : ¬ (i : Int) = 0 := by omega
   have ha : oddAt t i c = false := by simp [oddAt, oddC, h9, g]
   simp [ai6, Tryz.f303, hi, hc', e9, c1, h0, ha, g, g']
 have e9 := aiC h9
 simp at e9
 by_cases h10 : c = 32
 ·have e10 : (c.toNat : Int) = 32 := by rw [h10]; rfl
  rw [e10] at c1
  by_cases g : i = 0
  ·have ha : oddAt t i c = true := by simp [oddAt, h10, g]
   subst g
   simp [ai6, Tryz.f303, hi, hc', e10, c1, h0, ha]
  ·have g' : ¬ (i : Int) = 0 := by omega
   by_cases g2 : i + 1 = t.length
   ·have g2' : IntKind.i64.wrap ((t.length : Int) - 1) = (i : Int) := by rw [hw]; omega
    have ha : oddAt t i c = true := by simp [oddAt, h10, g2]
    simp [ai6, Tryz.f303, hi, hc', e10, c1, h0, ha, g, g', g2']
   ·have g2' : ¬ (i : Int) = (t.length : Int) - 1 := by omega
    have ha : oddAt t i c = false := by simp [oddAt, oddC, h10, g, g2]
    simp [ai6, Tryz.f303, hi, hc', e10, c1, h0, ha, g, g', g2', hw]
 have e10 := aiC h10
 simp at e10
 simp [ai6, Tryz.f303, hi, hc', c1, h0, oddAt, ho', h9, h10, e9, e10]
theorem asJ {H G : List Ob} {v : V} {b t : Str} (h : Bs H G v b) (hb : b.length + t.length ≤ 1000000000) {z : List V} {d : LD} (hz : z.length = 1) : ∃ v' G', appendV ⟨d, 1, 1, z⟩ G v (.str t) = some (v', G') ∧ Bs H G' v' (b ++ t) := by
 obtain ⟨T, id, h0, h1, h2, h3⟩ := h
 have hg : Gs H G v (bys b) := ⟨T, id, h0, h1, h2, by rw [h3, bys_len]⟩
 have hn : newCells ⟨d, 1, 1, z⟩ G (.str t) = some (bys t, (bys t).length) := by simp [newCells, bys]
 obtain ⟨v', G', ha, T', id', e0, e1, e2, e3⟩ := hg.many hn (by simp [bys]) (by simp [bys_len]; unfold maxMade; omega) (by decide) (by decide) hz
 exact ⟨v', G', ha, T', id', e0, e1, by rw [bys_append]; exact e2, by rw [e3]; simp [bys_len]⟩
theorem aqI {H : List Ob} {v : V} {dn : List PRdn} (h : ARdns H v dn) (hd : DnOk dn) : callW C 239 [v] H = some (.str (txt dn), H) := by
 apply Ret.eq
 rw [aw3]
 have hb : dn.length ≤ 6 := hd.2
 simp [ao4, Tryz.f239, elemT, fillL, zerosL, St.new, h.len]
 refine WP_loop (fun k σ => ∃ (i : Nat) (r : Nat → R) (c : Nat) (G : List Ob) (vb : V), i + k = dn.length ∧ σ = ⟨r, c, G⟩ ∧ r 0 = .val v ∧ r 3 = .val vb ∧ r 8 = .val v ∧ r 9 = .val (.int .i64 dn.length) ∧ r 10 = .val (.int .i64 i) ∧ Bs H G vb (txtN dn i)) ?_ dn.length _ ⟨0, _, 0, _, _, by simp, rfl, by simp, by simp, by simp, by simp, by simp, Bs.init⟩
 rintro k σ ⟨i, r, c, G, vb, hik, rfl, r0, r3, r8, r9, r10, hB⟩
 have hbl := txtN_len hd i
 cases k with
 | zero =>
  have hi : i = dn.length := by omega
  subst hi
  obtain ⟨TT, rfl⟩ := hB.ext
  obtain ⟨id, rfl, hst, hsl⟩ := hB.cut (n := (txtN dn dn.length).length) (Nat.le_refl _)
  rw [List.take_length] at hsl
  simp [r0, r3, r8, r9, r10, hsl, hst, isByte, bys_mapM, txt]
 | succ k =>
  have hi : i < dn.length := by omega
  obtain ⟨x, hx⟩ : ∃ c, dn[i]? = some c := ⟨dn[i], by simp [hi]⟩
  have hw : IntKind.i64.wrap ((i : Int) + 1) = ((i : Int) + 1) := wrap_i64 (by omega) (by omega)
  obtain ⟨id, o, hid, e1, _, lm⟩ := an6 h hx
  obtain ⟨TT, hG⟩ := hB.ext
  have lm0 := lm
  have lm := lm TT
  rw [← hG] at lm
  have q1 := (hd.1 i x hx).1.2.1
  have q2 := (hd.1 i x hx).2.2.1
  have hts := alX hx
  obtain ⟨v1, G1, hB1, hcase⟩ : ∃ v1 G1, Bs H G1 v1 (if 0 < i then txtN dn i ++ [44] else txtN dn i) ∧ ((0 < i ∧ appendV ⟨.int .u8, 1, 1, [.int .u8 0]⟩ (G ++ [.mk true 1 [.int .u8 44]]) vb (.slc (some (G.length, 0)) 1) = some (v1, G1)) ∨ (¬ 0 < i ∧ (vb = v1 ∧ G = G1))) := by
   by_cases g : 0 < i
   ·obtain ⟨v', G', ha, hB'⟩ := hB.push (by omega) (c := 44) (d := .int .u8) (z := [.int .u8 0]) rfl
    rw [if_pos g]
    exact ⟨v', G', hB', .inl ⟨g, ha⟩⟩
   ·rw [if_neg g]
    exact ⟨vb, G, hB, .inr ⟨g, rfl, rfl⟩⟩
  have hl1 : (if 0 < i then txtN dn i ++ [44] else txtN dn i).length ≤ 102 * i + 1 := by
   split
   ·simp; omega
   ·omega
  generalize (if 0 < i then txtN dn i ++ [44] else txtN dn i) = b1 at hts hB1 hl1
  obtain ⟨T1, hG1⟩ := hB1.ext
  have lm1 := lm0 T1
  rw [← hG1] at lm1
  obtain ⟨v2, G2, ha2, hB2⟩ := asJ (t := x.attr) hB1 (by omega) (d := .int .u8) (z := [.int .u8 0]) rfl
  obtain ⟨v3, G3, ha3, hB3⟩ := hB2.push (by simp; omega) (c := 61) (d := .int .u8) (z := [.int .u8 0]) rfl
  simp at ha3
  have hts' : txtN dn (i + 1) = b1 ++ x.attr ++ [61] ++ esc x.value := hts
  have hl3 : (b1 ++ x.attr ++ [61]).length ≤ 102 * i + 100 := by simp; omega
  generalize b1 ++ x.attr ++ [61] = b3 at hts' hB3 hl3
  rcases hcase with ⟨g, ha1⟩ | ⟨g, ha1⟩ <;> (
   simp [r0, r3, r8, r9, r10, hi, e1, lm, lm1, g, ha1, ha2, ha3, elemT, fillL, zerosL, St.new, badArg]
   refine WP_loop (fun m σ => ∃ (j : Nat) (r' : Nat → R) (G' : List Ob) (v' : V), j + m = x.value.length ∧ σ = ⟨r', c + 1, G'⟩ ∧ r' 0 = .val v ∧ r' 3 = .val v' ∧ r' 5 = .box c [.str x.attr, .str x.value] ∧ r' 8 = .val v ∧ r' 9 = .val (.int .i64 dn.length) ∧ r' 10 = .val (.int .i64 i) ∧ r' 28 = .val (.int .i64 x.value.length) ∧ r' 29 = .val (.int .i64 j) ∧ Bs H G' v' (b3 ++ escN x.value j)) ?_ x.value.length _ ⟨0, _, G3, v3, by simp, rfl, by simp [r0], by simp, by simp, by simp [r8], by simp [r9], by simp [r10], by simp, by simp, by simpa [escN] using hB3⟩
   rintro m σ ⟨j, r', G', v', hjm, rfl, s0, s3, s5, s8, s9, s10, s28, s29, hB4⟩
   have hbl2 := escN_len x.value j
   cases m with
   | zero =>
    have hj : j = x.value.length := by omega
    subst hj
    rw [show escN x.value x.value.length = esc x.value from rfl, ← hts'] at hB4
    simp [s0, s3, s5, s8, s9, s10, s28, s29, hw]
    exact ⟨k, by omega, i + 1, by omega, _, _, _, ⟨rfl, rfl, rfl⟩, by simp [s0], _, by simp [s3], by simp [s8], by simp [s9], by simp, hB4⟩
   | succ m =>
    have hj : j < x.value.length := by omega
    obtain ⟨cc, hcc⟩ : ∃ c, x.value[j]? = some c := ⟨x.value[j], by simp [hj]⟩
    have hcc' : x.value[j] = cc := (List.getElem?_eq_some_iff.1 hcc).2
    have hwj : IntKind.i64.wrap ((j : Int) + 1) = ((j : Int) + 1) := wrap_i64 (by omega) (by omega)
    have c1 : callW C 303 [.str x.value, .int .i64 j] G' = some (.bool (oddAt x.value j cc), G') := anu hcc (by omega)
    have hes := amc hcc
    have hlb : (b3 ++ escN x.value j).length ≤ 1000 := by simp; omega
    cases ho : oddAt x.value j cc with
    | false =>
     rw [ho] at c1
     rw [ho, if_neg (by simp)] at hes
     obtain ⟨v5, G5, hb1, hB5⟩ := hB4.push (by omega) (c := cc) (d := .int .u8) (z := [.int .u8 0]) rfl
     rw [List.append_assoc, ← hes] at hB5
     simp [s0, s3, s5, s8, s9, s10, s28, s29, hj, hcc', c1, elemT, fillL, zerosL, St.new, badArg, hb1, hwj]
     exact ⟨m, by omega, j + 1, by omega, _, _, ⟨rfl, rfl⟩, by simp [s0], _, by simp, by simp [s5], by simp [s8], by simp [s9], by simp [s10], by simp [s28], by simp, hB5⟩
    | true =>
     rw [ho] at c1
     rw [ho, if_pos rfl] at hes
     obtain ⟨v5, G5, hb1, hB5⟩ := hB4.push (by omega) (c := 92) (d := .int .u8) (z := [.int .u8 0]) rfl
     obtain ⟨v6, G6, hb2, hB6⟩ := hB5.push (by rw [List.length_append]; simp only [List.length_cons, List.length_nil]; omega) (c := cc) (d := .int .u8) (z := [.int .u8 0]) rfl
     rw [List.append_assoc, List.append_assoc, ← List.append_assoc (escN x.value j), ← hes] at hB6
     simp at hb1
     simp [s0, s3, s5, s8, s9, s10, s28, s29, hj, hcc', c1, elemT, fillL, zerosL, St.new, badArg, hb1, hb2, hwj]
     exact ⟨m, by omega, j + 1, by omega, _, _, ⟨rfl, rfl⟩, by simp [s0], _, by simp, by simp [s5], by simp [s8], by simp [s9], by simp [s10], by simp [s28], by simp, hB6⟩)
def Two (v w : V) : Prop := ∀ q o n o' n', v = .slc (some (q, o)) n → w ≠ .slc (some (q, o')) n'
theorem am7 {H G G' S : List Ob} {v w v' y : V} {ds cs' : List V} {L : LT} (h2 : Gs H G w ds) (hne : Two v w) (ha : appendV L (G ++ S) v y = some (v', G')) (h1' : Gs H G' v' cs') : Gs H G' w ds ∧ Two v' w := by
 obtain ⟨T, id, hG, hle, hg, hw⟩ := h2
 obtain ⟨f1, f2, f3⟩ := appendV_frame ha
 have hid : id < G.length := (List.getElem?_eq_some_iff.1 hg).1
 have hid2 : id < (G ++ S).length := by simp; omega
 obtain ⟨T', hG'⟩ := h1'.ext
 refine ⟨⟨T', id, hG', hle, ?_, hw⟩, fun q o n o' n' hv hw' => ?_⟩
 ·rw [f1 id hid2 (fun off n hv => hne id off n 0 ds.length hv hw)]
  exact up_append _ _ hg
 ·rw [hw] at hw'
  cases hw'
  rcases f2 id o n hv with ⟨o2, n2, h⟩ | h
  ·exact hne id o2 n2 0 ds.length h hw
  ·omega
theorem Two.symm {v w : V} (h : Two v w) : Two w v := fun q o n o' n' hw hv => h q o' n' o n hv hw
theorem ars {H G : List Ob} {v : V} {b : Str} : Bs H G v b ↔ Gs H G v (bys b) :=
 ⟨fun ⟨T, id, h0, h1, h2, h3⟩ => ⟨T, id, h0, h1, h2, by rw [h3, bys_len]⟩, fun ⟨T, id, h0, h1, h2, h3⟩ => ⟨T, id, h0, h1, h2, by rw [h3, bys_len]⟩⟩
theorem auh {b t : Str} {i : Nat} {c : UInt8} (hc : t[i]? = some c) (h44 : c ≠ 44) (h : c ≠ 92 ∨ t.length ≤ i + 1) : cutG b (t.drop i) = cutG (b ++ [c]) (t.drop (i + 1)) := by
 obtain ⟨hi, rfl⟩ := List.getElem?_eq_some_iff.1 hc
 rw [List.drop_eq_getElem_cons hi]
 rcases h with h | h
 ·exact cut_step h44 h
 ·have e : t.drop (i + 1) = [] := List.drop_eq_nil_of_le h
  rw [e]
  simp [cutG, h44]
theorem ar2 {b t : Str} {i : Nat} {d : UInt8} (hc : t[i]? = some 92) (hd : t[i + 1]? = some d) : cutG b (t.drop i) = cutG (b ++ [92] ++ [d]) (t.drop (i + 2)) := by
 obtain ⟨hi, h1⟩ := List.getElem?_eq_some_iff.1 hc
 obtain ⟨hi2, h2⟩ := List.getElem?_eq_some_iff.1 hd
 rw [List.drop_eq_getElem_cons hi, List.drop_eq_getElem_cons hi2, h1, h2]
 simp [cutG]
theorem auD {b t : Str} {i : Nat} (hc : t[i]? = some 44) : cutG b (t.drop i) = b :: cutG [] (t.drop (i + 1)) := by
 obtain ⟨hi, h1⟩ := List.getElem?_eq_some_iff.1 hc
 rw [List.drop_eq_getElem_cons hi, h1]
 exact cut_comma
theorem awi {t : Str} {H : List Ob} (hl : t.length ≤ 2000000) : ∃ T w, callW C 188 [.str t] H = some (w, H ++ T) ∧ Gs H (H ++ T) w ((cutG [] t).map V.str) := by
 suffices hs : Ret C 188 [.str t] H fun q G => ∃ T, G = H ++ T ∧ Gs H (H ++ T) q ((cutG [] t).map V.str) by
  obtain ⟨q, H', hc, T, rfl, hr⟩ := hs
  exact ⟨T, q, hc, hr⟩
 rw [axD]
 simp [aob, Tryz.f188, elemT, fillL, zerosL, St.new]
 have g0 : Gs H (H ++ [Ob.mk true 1 [], .mk true 1 []]) (.slc (some (H.length, 0)) 0) (([] : List Str).map V.str) := ⟨_, H.length, rfl, Nat.le_refl _, by simp, rfl⟩
 have b0 : Bs H (H ++ [Ob.mk true 1 [], .mk true 1 []]) (.slc (some (H.length + 1, 0)) 0) [] := ⟨_, H.length + 1, rfl, by omega, by rw [List.getElem?_append_right (by omega)]; simp [bys], rfl⟩
 refine WP_loop (fun k σ => ∃ (i : Nat) (r : Nat → R) (G : List Ob) (vo vb : V) (outs : List Str) (b : Str), i + k = t.length ∧ σ = ⟨r, 0, G⟩ ∧ r 0 = .val (.str t) ∧ r 3 = .val vo ∧ r 4 = .val vb ∧ r 5 = .val (.int .i64 i) ∧ Gs H G vo (outs.map V.str) ∧ Bs H G vb b ∧ Two vo vb ∧ outs ++ cutG b (t.drop i) = cutG [] t ∧ outs.length ≤ i ∧ b.length ≤ i) ?_ t.length _ ⟨0, _, _, _, _, [], [], by simp, rfl, by simp, by simp, by simp, by simp, g0, b0, by intro q o n o' n' h1 h2; cases h1; simp at h2, by simp, by simp, by simp⟩
 rintro k σ ⟨i, r, G, vo, vb, outs, b, hik, rfl, r0, r3, r4, r5, hO, hB, htw, hcut, hol, hbl⟩
 cases k with
 | zero =>
  have hi : i = t.length := by omega
  subst hi
  rw [List.drop_length, show cutG b [] = [b] from rfl] at hcut
  obtain ⟨id, hvb, hst, hsl⟩ := hB.cut (n := b.length) (Nat.le_refl _)
  rw [List.take_length] at hsl
  obtain ⟨v', G', ha, hG'⟩ := hO.push (x := .str b) (d := .str) (b := 16) (z := [.str []]) rfl (by simp; unfold maxMade; omega) (by decide) (by decide) rfl
  have e : List.map V.str outs ++ [V.str b] = (cutG [] t).map V.str := by rw [← hcut]; simp
  rw [e] at hG'
  have hgc := hG'.gc
  obtain ⟨T, rfl⟩ := hG'.ext
  have hov := hG'.one
  rw [hvb] at r4
  simp [r0, r3, r4, r5, hsl, hst, isByte, bys_mapM, elemT, fillL, zerosL, St.new, ha, hov, hgc]
  exact hG'
 | succ k =>
  have hi : i < t.length := by omega
  obtain ⟨c, hc⟩ : ∃ c, t[i]? = some c := ⟨t[i], by simp [hi]⟩
  have hc' : t[i] = c := (List.getElem?_eq_some_iff.1 hc).2
  have hw : IntKind.i64.wrap ((i : Int) + 1) = ((i : Int) + 1) := wrap_i64 (by omega) (by omega)
  have hi0 : (0 : Int) ≤ (i : Int) + 1 := by omega
  by_cases g2 : c = 92 ∧ i + 1 < t.length
  ·obtain ⟨g92, g3⟩ := g2
   subst g92
   obtain ⟨d, hd⟩ : ∃ c, t[i + 1]? = some c := ⟨t[i + 1], by simp [g3]⟩
   have hd' : t[i + 1] = d := (List.getElem?_eq_some_iff.1 hd).2
   have hw3 : IntKind.i64.wrap ((i : Int) + 1 + 1) = ((i : Int) + 1 + 1) := wrap_i64 (by omega) (by omega)
   have g3' : (i : Int) + 1 < (t.length : Int) := by omega
   have hx : newCells ⟨.int .u8, 1, 1, [.int .u8 0]⟩ (G ++ [.mk true 1 [.int .u8 92, .int .u8 d.toNat]]) (.slc (some (G.length, 0)) 2) = some ([V.int .u8 92, V.int .u8 d.toNat], [V.int .u8 92, V.int .u8 d.toNat].length) := by simp [newCells, slcCells, rdCells]
   obtain ⟨v', G', ha, hB'⟩ := ((ars.1 hB).grow [.mk true 1 [.int .u8 92, .int .u8 d.toNat]]).many (d := .int .u8) (b := 1) (z := [.int .u8 0]) hx (by simp [isOne]) (by simp [bys_len]; unfold maxMade; omega) (by decide) (by decide) rfl
   obtain ⟨hO', htw'⟩ := am7 hO htw.symm ha hB'
   have hB2 : Bs H G' v' (b ++ [92] ++ [d]) := ars.2 (by rw [bys_append, bys_append, List.append_assoc]; exact hB')
   rw [ar2 hc hd] at hcut
   simp [r0, r3, r4, r5, hi, hc', hd', g3, g3', hi0, hw, hw3, elemT, fillL, zerosL, St.new, badArg, ha, regionL_none, regionL_some, List.lookup]
   exact ⟨k - 1, by omega, i + 2, by omega, _, _, ⟨rfl, rfl⟩, by simp [r0], _, by simp [r3], _, by simp, by simp; omega, outs, hO', _, hB2, htw'.symm, hcut, by omega, by simp; omega⟩
  have hone : c ≠ 92 ∨ t.length ≤ i + 1 := by
   by_cases h92 : c = 92
   ·exact .inr ((Nat.lt_or_ge (i + 1) t.length).elim (fun h => absurd ⟨h92, h⟩ g2) id)
   ·exact .inl h92
  by_cases g44 : c = 44
  ·subst g44
   obtain ⟨idb, hvb, hst, hsl⟩ := hB.cut (n := b.length) (Nat.le_refl _)
   rw [List.take_length] at hsl
   obtain ⟨v', G1, ha, hO1⟩ := hO.push (x := .str b) (d := .str) (b := 16) (z := [.str []]) rfl (by simp; unfold maxMade; omega) (by decide) (by decide) rfl
   have hov := hO1.one
   have hO2 : Gs H (G1 ++ [.mk true 1 []]) v' ((outs ++ [b]).map V.str) := by
    have := hO1.grow [.mk true 1 []]
    simpa using this
   have hB2 : Bs H (G1 ++ [.mk true 1 []]) (.slc (some (G1.length, 0)) 0) [] := by
    obtain ⟨T, rfl⟩ := hO1.ext
    exact ⟨T ++ [.mk true 1 []], (H ++ T).length, by simp, by simp, by rw [get_last]; rfl, rfl⟩
   have htw2 : Two v' (.slc (some (G1.length, 0)) 0) := by
    obtain ⟨T, idv, hT, h1, h2, h3⟩ := hO1
    intro q o n o' n' e1 e2
    rw [h3] at e1
    cases e1
    cases e2
    have := (List.getElem?_eq_some_iff.1 h2).1
    omega
   rw [auD hc] at hcut
   rw [hvb] at r4
   simp [r0, r3, r4, r5, hi, hc', hw, hsl, hst, isByte, bys_mapM, elemT, fillL, zerosL, St.new, badArg, ha, hov]
   exact ⟨k, by omega, i + 1, by omega, _, _, ⟨rfl, rfl⟩, by simp [r0], _, by simp, _, by simp, by simp, outs ++ [b], by simpa using hO2, _, hB2, htw2, by rw [List.append_assoc]; exact hcut, by simp; omega, by simp⟩
  obtain ⟨v', G', ha, hB'⟩ := hB.push (by omega) (c := c) (d := .int .u8) (z := [.int .u8 0]) rfl
  obtain ⟨hO', htw'⟩ := am7 hO htw.symm ha (ars.1 hB')
  rw [auh hc g44 hone] at hcut
  have e44 := aiC g44
  simp at e44
  by_cases h92 : c = 92
  ·have g3 : ¬ i + 1 < t.length := fun h => g2 ⟨h92, h⟩
   have g3' : ¬ (i : Int) + 1 < (t.length : Int) := by omega
   have e92 : (c.toNat : Int) = 92 := by rw [h92]; rfl
   rw [e92] at ha
   simp [r0, r3, r4, r5, hi, hc', e92, g3, g3', hw, elemT, fillL, zerosL, St.new, badArg, ha]
   exact ⟨k, by omega, i + 1, by omega, _, _, ⟨rfl, rfl⟩, by simp [r0], _, by simp [r3], _, by simp, by simp, outs, hO', _, hB', htw'.symm, hcut, by omega, by simp; omega⟩
  ·have e92 := aiC h92
   simp at e92
   simp [r0, r3, r4, r5, hi, hc', h92, e92, g44, e44, hw, elemT, fillL, zerosL, St.new, badArg, ha]
   exact ⟨k, by omega, i + 1, by omega, _, _, ⟨rfl, rfl⟩, by simp [r0], _, by simp [r3], _, by simp, by simp, outs, hO', _, hB', htw'.symm, hcut, by omega, by simp; omega⟩
noncomputable def aiL (dn : List PRdn) : Str := if dec (DnOk dn) = true then txt dn else []
theorem aq1 {H : List Ob} {v : V} {dn : List PRdn} (h : ARdns H v dn) : callW C 190 [v] H = some (.str (aiL dn), H) := by
 apply Ret.eq
 rw [axj]
 have c1 := arn h
 by_cases g : DnOk dn
 ·rw [dec_pos g] at c1
  have e : aiL dn = txt dn := by unfold aiL; rw [dec_pos g]; rfl
  have c2 := auq h g
  have g2 : ¬ 400 < dn.length := by have := g.2; omega
  have g2' : ¬ (400 : Int) < dn.length := by omega
  rw [e]
  simp [akQ, Tryz.f190, h.len, c1, c2, g2, g2']
 ·rw [dec_neg g] at c1
  have e : aiL dn = [] := by unfold aiL; rw [dec_neg g]; rfl
  rw [e]
  by_cases g2 : 400 < dn.length
  ·have g2' : (400 : Int) < dn.length := by omega
   simp [akQ, Tryz.f190, h.len, g2, g2']
  ·have g2' : ¬ (400 : Int) < dn.length := by omega
   simp [akQ, Tryz.f190, h.len, c1, g2, g2']
end Go.Proofs.Try1
end
section
namespace Go.Proofs.Try1
open Go Go.Lite
def setB (l : Str) : List V := (List.range 256).map fun i => V.bool (l.any fun c => c.toNat == i)
theorem ah8 {l : Str} : (setB l).length = 256 := by simp [setB]
theorem ajG {l : Str} {i : Nat} (h : i < 256) : (setB l)[i]? = some (.bool (l.any fun c => c.toNat == i)) := by
 unfold setB
 rw [List.getElem?_map, List.getElem?_range h]
 rfl
theorem apH {l : Str} {c : UInt8} : (setB l)[c.toNat]? = some (.bool (decide (c ∈ l))) := by
 rw [ajG c.toNat_lt]
 congr 2
 rw [Bool.eq_iff_iff]
 simp only [List.any_eq_true, decide_eq_true_eq, beq_iff_eq]
 constructor
 ·rintro ⟨d, hd, he⟩
  rw [← UInt8.toNat_inj.1 he]
  exact hd
 ·intro h
  exact ⟨c, h, rfl⟩
theorem apG : setB [] = List.replicate 256 (.bool false) := by
 apply List.ext_getElem?
 intro i
 by_cases h : i < 256
 ·rw [ajG h, List.getElem?_replicate, if_pos h]
  rfl
 ·rw [List.getElem?_eq_none (by rw [ah8]; omega), List.getElem?_eq_none (by rw [List.length_replicate]; omega)]
theorem setOf_snoc {l : Str} {c : UInt8} : (setB l).set c.toNat (.bool true) = setB (l ++ [c]) := by
 apply List.ext_getElem?
 intro i
 have hc := c.toNat_lt
 by_cases h : i < 256
 ·rw [ajG h]
  by_cases hi : i = c.toNat
  ·subst hi
   rw [List.getElem?_set_self (by rw [ah8]; omega)]
   simp
  ·rw [List.getElem?_set_ne (by omega), ajG h]
   congr 2
   have : (c.toNat == i) = false := by simp; omega
   simp [this]
 ·rw [List.getElem?_eq_none (by simp [ah8]; omega), List.getElem?_eq_none (by rw [ah8]; omega)]
theorem awS {t : Str} {H : List Ob} (ht : ∀ c ∈ t, c.toNat < 128) (hl : t.length ≤ 1000) : callW C 209 [.str t] H = some (.tup [.agg (setB t), .bool true], H) := by
 apply Ret.eq
 rw [axr]
 simp [an2, Tryz.f209, -List.reduceReplicate]
 refine WP_loop (fun k σ => ∃ (i : Nat) (r : Nat → R), i + k = t.length ∧ σ = ⟨r, 1, H⟩ ∧ r 0 = .val (.str t) ∧ r 2 = .box 0 (setB (t.take i)) ∧ r 4 = .val (.int .i64 i)) ?_ t.length _ ⟨0, _, by simp, rfl, by simp, by simp [apG, -List.reduceReplicate], by simp⟩
 rintro k σ ⟨i, r, hik, rfl, r0, r2, r4⟩
 cases k with
 | zero =>
  have hi : i = t.length := by omega
  subst hi
  rw [List.take_length] at r2
  have htk : (setB t).take 256 = setB t := List.take_of_length_le (by rw [ah8]; omega)
  have hdr : (setB t).drop 256 = [] := List.drop_of_length_le (by rw [ah8]; omega)
  have hall : ∀ x ∈ setB t, isOne x = true := fun x hx => by
   simp only [setB, List.mem_map] at hx
   obtain ⟨_, _, rfl⟩ := hx
   rfl
  simp [r0, r2, r4, ah8, htk, hdr, if_pos hall, -List.reduceReplicate]
 | succ k =>
  have hi : i < t.length := by omega
  obtain ⟨c, hc⟩ : ∃ c, t[i]? = some c := ⟨t[i], by simp [hi]⟩
  have hc' : t[i] = c := (List.getElem?_eq_some_iff.1 hc).2
  have hw : IntKind.i64.wrap ((i : Int) + 1) = ((i : Int) + 1) := wrap_i64 (by omega) (by omega)
  have h128 : c.toNat < 128 := ht c (List.mem_of_getElem? hc)
  have h1 : ¬ (c.toNat : Int) ≥ 128 := by omega
  have h2 : (c.toNat : Int) < 256 := by omega
  have h3 : c.toNat < 256 := by omega
  have hs : setRange (setB (t.take i)) c.toNat [.bool true] = setB (t.take (i + 1)) := by rw [setRange_one (by rw [ah8]; omega), setOf_snoc, take_get hc]
  have h4 : c.toNat + 1 ≤ 256 := by omega
  simp [r0, r2, r4, hi, hc', h1, h2, h3, h4, hw, ah8, hs, indexR, -setRange, -List.reduceReplicate]
  exact ⟨k, by omega, i + 1, by omega, rfl, by omega⟩
theorem apY {l : Str} {H : List Ob} {id : Nat} {own : Bool} {c : UInt8} (h : H[id]? = some (.mk own 1 (setB l))) : callW C 278 [.ptr (some (id, 0)), .int .u8 c.toNat] H = some (.bool (decide (c ∈ l)), H) := by
 apply Ret.eq
 rw [ax3]
 have h2 : (c.toNat : Int) < 256 := by have := c.toNat_lt; omega
 have ld := load1 (o := c.toNat) h apH
 simp [aoi, Tryz.f278, indexR, h2, ld, -List.reduceReplicate]
def kset : Str := [97, 98, 99, 100, 101, 102, 103, 104, 105, 106, 107, 108, 109, 110, 111, 112, 113, 114, 115, 116, 117, 118, 119, 120, 121, 122, 48, 49, 50, 51, 52, 53, 54, 55, 56, 57, 95]
theorem alC {c : UInt8} : c ∈ kset ↔ LowB c ∨ DigB c ∨ c.toNat = 95 := by
 unfold kset LowB DigB
 simp only [List.mem_cons, List.not_mem_nil, or_false, ← UInt8.toNat_inj]
 have h := c.toNat_lt
 simp only [UInt8.toNat_ofNat, Nat.reducePow, Nat.reduceMod]
 omega
def ai3 (t : Str) : Prop := ∀ c ∈ t, c ∈ kset
theorem avm {t : Str} {H : List Ob} {id : Nat} {own : Bool} (h : H[id]? = some (.mk own 1 (setB kset))) (hl : t.length ≤ 1000) : ∃ s, callW C 211 [.str t, .ptr (some (id, 0))] H = some (.str s, H) ∧ (ai3 s ↔ ai3 t) ∧ (s = [] ∨ ¬ ai3 s) ∧ s.length ≤ 1000 := by
 suffices hs : Ret C 211 [.str t, .ptr (some (id, 0))] H fun q H' => (∃ s, q = .str s ∧ (ai3 s ↔ ai3 t) ∧ (s = [] ∨ ¬ ai3 s) ∧ s.length ≤ 1000) ∧ H' = H by
  obtain ⟨q, H', hc, ⟨s, rfl, hr⟩, rfl⟩ := hs
  exact ⟨s, hc, hr⟩
 rw [awl]
 simp [apl, Tryz.f211, -List.reduceReplicate]
 refine WP_loop (fun k σ => ∃ (s : Str) (r : Nat → R), s.length = k ∧ σ = ⟨r, 0, H⟩ ∧ r 0 = .val (.str s) ∧ r 1 = .val (.ptr (some (id, 0))) ∧ (ai3 s ↔ ai3 t) ∧ s.length ≤ 1000) ?_ t.length _ ⟨t, _, rfl, rfl, by simp, by simp, Iff.rfl, hl⟩
 rintro k σ ⟨s, r, hk, rfl, r0, r1, hall, hs⟩
 cases k with
 | zero =>
  have hs0 : s = [] := List.length_eq_zero_iff.1 hk
  subst hs0
  simp [r0, r1]
  exact hall
 | succ k =>
  have hp : (0 : Int) < (s.length : Int) := by omega
  have hne : s ≠ [] := by rintro rfl; simp at hk
  obtain ⟨d, hd⟩ : ∃ d, s.getLast hne = d := ⟨_, rfl⟩
  have hd' : s[s.length - 1]? = some d := by rw [← List.getLast?_eq_getElem?, List.getLast?_eq_some_getLast hne, hd]
  have hd2 : s[s.length - 1]'(by omega) = d := (List.getElem?_eq_some_iff.1 hd').2
  have hw1 : IntKind.i64.wrap ((s.length : Int) - 1) = (s.length : Int) - 1 := wrap_i64 (by omega) (by omega)
  have h3 : (1 : Int) ≤ (s.length : Int) := by omega
  have h4 : ((s.length : Int) - 1).toNat = s.length - 1 := by omega
  have h5 : s.length - 1 < s.length := by omega
  have c1 := apY (c := d) h
  have hdrop : s = s.take (s.length - 1) ++ [d] := by
   have := take_get hd'
   rw [show s.length - 1 + 1 = s.length by omega, List.take_length] at this
   exact this
  by_cases hm : d ∈ kset
  ·have h6 : s.length - 1 ≤ s.length := by omega
   simp [r0, r1, hp, hne, hw1, h3, h4, h5, h6, hd2, hd', c1, hm, -List.reduceReplicate]
   refine ⟨by omega, k, by omega, _, by simp; omega, rfl, ?_, by simp; omega⟩
   rw [← hall]
   constructor
   ·intro hA c hc
    rw [hdrop] at hc
    rcases List.mem_append.1 hc with hc | hc
    ·exact hA c hc
    ·simp at hc; rw [hc]; exact hm
   ·intro hA c hc
    exact hA c (List.mem_of_mem_take hc)
  ·have hn : ¬ ai3 s := fun hA => hm (hA d (List.mem_of_getElem? hd'))
   simp [r0, r1, hp, hne, hw1, h3, h4, h5, hd2, hd', c1, hm, -List.reduceReplicate]
   exact ⟨by omega, hall, hn, hs⟩
theorem au6 {t : Str} {H : List Ob} {id : Nat} {own : Bool} (h : H[id]? = some (.mk own 1 (setB kset))) (hl : t.length ≤ 1000) : ∃ s, callW C 210 [.str t, .ptr (some (id, 0))] H = some (.str s, H) ∧ (ai3 s ↔ ai3 t) ∧ (s = [] ∨ ¬ ai3 s) := by
 suffices hs : Ret C 210 [.str t, .ptr (some (id, 0))] H fun q H' => (∃ s, q = .str s ∧ (ai3 s ↔ ai3 t) ∧ (s = [] ∨ ¬ ai3 s)) ∧ H' = H by
  obtain ⟨q, H', hc, ⟨s, rfl, hr⟩, rfl⟩ := hs
  exact ⟨s, hc, hr⟩
 rw [av9]
 simp [apg, Tryz.f210, -List.reduceReplicate]
 refine WP_loop (fun k σ => ∃ (s : Str) (r : Nat → R), s.length = k ∧ σ = ⟨r, 0, H⟩ ∧ r 0 = .val (.str s) ∧ r 1 = .val (.ptr (some (id, 0))) ∧ (ai3 s ↔ ai3 t)) ?_ t.length _ ⟨t, _, rfl, rfl, by simp, by simp, Iff.rfl⟩
 rintro k σ ⟨s, r, hk, rfl, r0, r1, hall⟩
 cases k with
 | zero =>
  have hs0 : s = [] := List.length_eq_zero_iff.1 hk
  subst hs0
  simp [r0, r1]
  exact hall
 | succ k =>
  match s, hk with
  | d :: s, hk =>
  have hk' : s.length = k := by simpa using hk
  have c1 := apY (c := d) h
  have hp : (0 : Int) < (s.length : Int) + 1 := by omega
  by_cases hm : d ∈ kset
  ·simp [r0, r1, hp, c1, hm, -List.reduceReplicate]
   refine ⟨k, by omega, s, hk', rfl, ?_⟩
   rw [← hall]
   constructor
   ·intro hA c hc
    rcases List.mem_cons.1 hc with rfl | hc
    ·exact hm
    ·exact hA c hc
   ·intro hA c hc
    exact hA c (List.mem_cons_of_mem _ hc)
  ·have hn : ¬ ai3 (d :: s) := fun hA => hm (hA d List.mem_cons_self)
   simp [r0, r1, hp, c1, hm, -List.reduceReplicate]
   exact ⟨hall, hn⟩
theorem wrap_one : IntKind.i64.wrap 1 = 1 := rfl
attribute [simp] wrap_one
theorem aiv {a b : Str} (h : LtS a b) : Op.bytesLess a b = true := h
theorem aiB {a b : Str} (h : ¬ LtS a b) : Op.bytesLess a b = false := by
 cases hb : Op.bytesLess a b with
 | false => rfl
 | true => exact absurd hb h
theorem al6 {H : List Ob} {id o : Nat} {v : V} (h : ∀ T : LT, T.one → ∀ r c, loadAt T ⟨r, c, H⟩ (.hp id o) = some v) : id < H.length := by
 have := h ⟨.str, 1, 16, [.str []]⟩ one_str (fun _ => .val .undef) 0
 unfold loadAt cellsAt at this
 rw [if_neg (by decide)] at this
 cases hg : H[id]? with
 | none => simp only [hg] at this; cases this
 | some o => exact (List.getElem?_eq_some_iff.1 hg).1
theorem alf {H : List Ob} {v : V} {l : List Str} (h : AStrs H v l) : callW C 187 [v] H = some (.bool (dec (NamesOk l)), H) := by
 apply Ret.dec
 rw [axC]
 have hb : l.length ≤ 9223372036854775807 := h.bound
 simp [aoQ, Tryz.f187]
 refine WP_loop (fun k σ => ∃ (i : Nat) (r : Nat → R), i + k = l.length ∧ σ = ⟨r, 0, H⟩ ∧ r 0 = .val v ∧ r 3 = .val (.int .i64 i) ∧ ∀ j x, j < i → l[j]? = some x → NameOk x ∧ PrevLt (fun x => x) l j x) ?_ l.length _ ⟨0, _, by simp, rfl, by simp, by simp, by simp⟩
 rintro k σ ⟨i, r, hik, rfl, r0, r3, hall⟩
 cases k with
 | zero =>
  have hi : i = l.length := by omega
  subst hi
  have hx : NamesOk l := at_all (P := fun j (x : Str) => NameOk x ∧ PrevLt (fun x => x) l j x) hall
  simp [r0, r3, h.len, hx]
 | succ k =>
  have hi : i < l.length := by omega
  obtain ⟨x, hx⟩ : ∃ c, l[i]? = some c := ⟨l[i], by simp [hi]⟩
  have hw : IntKind.i64.wrap ((i : Int) + 1) = ((i : Int) + 1) := wrap_i64 (by omega) (by omega)
  obtain ⟨id, o, e1, l0, _⟩ := strs_idx h hx
  have c1 := aja (t := x) (H := H)
  have hstep := fun h => at_step (P := fun j (x : Str) => NameOk x ∧ PrevLt (fun x => x) l j x) hall hx h
  by_cases g1 : NameOk x
  ·rw [dec_pos g1] at c1
   by_cases hi0 : i = 0
   ·have := hstep ⟨g1, fun y hy => by omega⟩
    subst hi0
    simp at e1
    simp [r0, r3, hi, h.len, e1, l0, c1, regionL_none]
    exact ⟨k, by omega, 1, by omega, by omega, this⟩
   ·have hip : 0 < i := by omega
    obtain ⟨y, hy⟩ : ∃ c, l[i - 1]? = some c := ⟨l[i - 1]'(by omega), by simp⟩
    obtain ⟨id', o', e1', l0', _⟩ := strs_idx h hy
    have hw1 : IntKind.i64.wrap ((i : Int) - 1) = ((i - 1 : Nat) : Int) := by rw [wrap_i64 (by omega) (by omega)]; omega
    by_cases g2 : LtS y x
    ·have := hstep ⟨g1, fun z _ hz => by rw [hy] at hz; cases hz; exact g2⟩
     simp [r0, r3, hi, h.len, e1, l0, c1, e1', l0', hw, hw1, hip, aiv g2, regionL_none]
     exact ⟨k, by omega, i + 1, by omega, by omega, this⟩
    ·have hn : ¬ NamesOk l := fun hd => g2 ((hd i x hx).2 y hip hy)
     simp [r0, r3, hi, h.len, e1, l0, c1, e1', l0', hw, hw1, hip, aiB g2, regionL_none, hn]
  ·rw [dec_neg g1] at c1
   have hn : ¬ NamesOk l := fun hd => g1 (hd i x hx).1
   simp [r0, r3, hi, h.len, e1, l0, c1, hn, regionL_none]
theorem aqW {H : List Ob} {v : V} {l : List Str} (h : AStrs H v l) : callW C 259 [v] H = some (.bool (dec (ValuesOk l)), H) := by
 apply Ret.dec
 rw [axQ]
 have hb : l.length ≤ 9223372036854775807 := h.bound
 simp [aox, Tryz.f259]
 refine WP_loop (fun k σ => ∃ (i : Nat) (r : Nat → R), i + k = l.length ∧ σ = ⟨r, 0, H⟩ ∧ r 0 = .val v ∧ r 3 = .val (.int .i64 i) ∧ ∀ j x, j < i → l[j]? = some x → ValueOk x ∧ PrevLt norm l j x) ?_ l.length _ ⟨0, _, by simp, rfl, by simp, by simp, by simp⟩
 rintro k σ ⟨i, r, hik, rfl, r0, r3, hall⟩
 cases k with
 | zero =>
  have hi : i = l.length := by omega
  subst hi
  have hx := at_all (P := fun j (x : Str) => ValueOk x ∧ PrevLt norm l j x) hall
  by_cases g1 : 1 ≤ l.length
  ·have g1' : (1 : Int) ≤ (l.length : Int) := by omega
   by_cases g2 : l.length ≤ 4
   ·have g2' : (l.length : Int) ≤ 4 := by omega
    have hv : ValuesOk l := ⟨hx, g1, g2⟩
    simp [r0, r3, h.len, g1', g2', hv]
   ·have g2' : ¬ (l.length : Int) ≤ 4 := by omega
    have hv : ¬ ValuesOk l := fun h => g2 h.2.2
    simp [r0, r3, h.len, g1', g2', hv]
  ·have g1' : ¬ (1 : Int) ≤ (l.length : Int) := by omega
   have hv : ¬ ValuesOk l := fun h => g1 h.2.1
   simp [r0, r3, h.len, g1', hv]
 | succ k =>
  have hi : i < l.length := by omega
  obtain ⟨x, hx⟩ : ∃ c, l[i]? = some c := ⟨l[i], by simp [hi]⟩
  have hw : IntKind.i64.wrap ((i : Int) + 1) = ((i : Int) + 1) := wrap_i64 (by omega) (by omega)
  obtain ⟨id, o, e1, l0, _⟩ := strs_idx h hx
  have c1 := akt (t := x) (H := H)
  have c2 := ajn (t := x) (H := H)
  have hstep := fun h => at_step (P := fun j (x : Str) => ValueOk x ∧ PrevLt norm l j x) hall hx h
  by_cases g1 : ValueOk x
  ·rw [dec_pos g1] at c1
   by_cases hi0 : i = 0
   ·have := hstep ⟨g1, fun y hy => by omega⟩
    subst hi0
    simp at e1
    simp [r0, r3, hi, h.len, e1, l0, c1]
    exact ⟨k, by omega, 1, by omega, by omega, this⟩
   ·have hip : 0 < i := by omega
    obtain ⟨y, hy⟩ : ∃ c, l[i - 1]? = some c := ⟨l[i - 1]'(by omega), by simp⟩
    obtain ⟨id', o', e1', l0', _⟩ := strs_idx h hy
    have c3 := ajn (t := y) (H := H)
    have hw1 : IntKind.i64.wrap ((i : Int) - 1) = ((i - 1 : Nat) : Int) := by rw [wrap_i64 (by omega) (by omega)]; omega
    have hlo := al6 l0
    by_cases g2 : LtS (norm y) (norm x)
    ·have := hstep ⟨g1, fun z _ hz => by rw [hy] at hz; cases hz; exact g2⟩
     simp [r0, r3, hi, h.len, e1, l0, c1, c2, c3, e1', l0', hw, hw1, hip, hlo, aiv g2]
     exact ⟨k, by omega, i + 1, by omega, by omega, this⟩
    ·have hn : ¬ ValuesOk l := fun hd => g2 ((hd.1 i x hx).2 y hip hy)
     simp [r0, r3, hi, h.len, e1, l0, c1, c2, c3, e1', l0', hw, hw1, hip, hlo, aiB g2, hn]
  ·rw [dec_neg g1] at c1
   have hn : ¬ ValuesOk l := fun hd => g1 (hd.1 i x hx).1
   simp [r0, r3, hi, h.len, e1, l0, c1, hn]
theorem arZ {H : List Ob} {v : V} {l : List PAttr} (h : AAttrs H v l) : callW C 182 [v] H = some (.bool (dec (AttrsOk l)), H) := by
 apply Ret.dec
 rw [avV]
 have hb : l.length ≤ 9223372036854775807 := h.bound
 simp [an1, Tryz.f182]
 refine WP_loop (fun k σ => ∃ (i : Nat) (r : Nat → R), i + k = l.length ∧ σ = ⟨r, 0, H⟩ ∧ r 0 = .val v ∧ r 3 = .val (.int .i64 i) ∧ ∀ j x, j < i → l[j]? = some x → NameOk x.name ∧ PrevLt PAttr.name l j x ∧ ValuesOk x.vals) ?_ l.length _ ⟨0, _, by simp, rfl, by simp, by simp, by simp⟩
 rintro k σ ⟨i, r, hik, rfl, r0, r3, hall⟩
 cases k with
 | zero =>
  have hi : i = l.length := by omega
  subst hi
  have hx := at_all (P := fun j (x : PAttr) => NameOk x.name ∧ PrevLt PAttr.name l j x ∧ ValuesOk x.vals) hall
  by_cases g : l.length ≤ 8
  ·have g' : (l.length : Int) ≤ 8 := by omega
   have hv : AttrsOk l := ⟨hx, g⟩
   simp [r0, r3, h.len, g', hv]
  ·have g' : ¬ (l.length : Int) ≤ 8 := by omega
   have hv : ¬ AttrsOk l := fun h => g h.2
   simp [r0, r3, h.len, g', hv]
 | succ k =>
  have hi : i < l.length := by omega
  obtain ⟨x, hx⟩ : ∃ c, l[i]? = some c := ⟨l[i], by simp [hi]⟩
  have hw : IntKind.i64.wrap ((i : Int) + 1) = ((i : Int) + 1) := wrap_i64 (by omega) (by omega)
  obtain ⟨id, o, w, e1, l0, l1, _, hvs, _⟩ := attrs_idx h hx
  have c1 := aja (t := x.name) (H := H)
  have c2 := aqW hvs
  have hstep := fun h => at_step (P := fun j (x : PAttr) => NameOk x.name ∧ PrevLt PAttr.name l j x ∧ ValuesOk x.vals) hall hx h
  by_cases g1 : NameOk x.name
  rotate_left
  ·rw [dec_neg g1] at c1
   have hn : ¬ AttrsOk l := fun hd => g1 (hd.1 i x hx).1
   simp [r0, r3, hi, h.len, e1, l0, c1, hn, regionL_none]
  rw [dec_pos g1] at c1
  by_cases hi0 : i = 0
  ·have hpv : PrevLt PAttr.name l i x := fun y hy => by omega
   by_cases g3 : ValuesOk x.vals
   ·rw [dec_pos g3] at c2
    have := hstep ⟨g1, hpv, g3⟩
    subst hi0
    simp at e1
    simp [r0, r3, hi, h.len, e1, l0, l1, c1, c2, regionL_none]
    exact ⟨k, by omega, 1, by omega, by omega, this⟩
   ·rw [dec_neg g3] at c2
    have hn : ¬ AttrsOk l := fun hd => g3 (hd.1 i x hx).2.2
    subst hi0
    simp at e1
    simp [r0, r3, hi, h.len, e1, l0, l1, c1, c2, regionL_none, hn]
  ·have hip : 0 < i := by omega
   obtain ⟨y, hy⟩ : ∃ c, l[i - 1]? = some c := ⟨l[i - 1]'(by omega), by simp⟩
   obtain ⟨id', o', w', e1', l0', _⟩ := attrs_idx h hy
   have hw1 : IntKind.i64.wrap ((i : Int) - 1) = ((i - 1 : Nat) : Int) := by rw [wrap_i64 (by omega) (by omega)]; omega
   by_cases g2 : LtS y.name x.name
   ·have hpv : PrevLt PAttr.name l i x := fun z _ hz => by rw [hy] at hz; cases hz; exact g2
    by_cases g3 : ValuesOk x.vals
    ·rw [dec_pos g3] at c2
     have := hstep ⟨g1, hpv, g3⟩
     simp [r0, r3, hi, h.len, e1, l0, l1, c1, c2, e1', l0', hw, hw1, hip, aiv g2, regionL_none]
     exact ⟨k, by omega, i + 1, by omega, by omega, this⟩
    ·rw [dec_neg g3] at c2
     have hn : ¬ AttrsOk l := fun hd => g3 (hd.1 i x hx).2.2
     simp [r0, r3, hi, h.len, e1, l0, l1, c1, c2, e1', l0', hw, hw1, hip, aiv g2, regionL_none, hn]
   ·have hn : ¬ AttrsOk l := fun hd => g2 ((hd.1 i x hx).2.1 y hip hy)
    simp [r0, r3, hi, h.len, e1, l0, c1, e1', l0', hw, hw1, hip, aiB g2, regionL_none, hn]
theorem aop {H : List Ob} {v w : V} {e : PEntry} (h1 : ARdns H v e.dn) (h2 : AAttrs H w e.attrs) : callW C 101 [.agg [v, w]] H = some (.bool (dec (EntryOk e)), H) := by
 apply Ret.dec
 rw [av1]
 have c1 := arn h1
 have c2 := arZ h2
 by_cases g0 : 0 < e.dn.length
 rotate_left
 ·have hn : ¬ EntryOk e := fun h => g0 h.1
  have g0' : e.dn.length = 0 := by omega
  simp [akm, Tryz.f101, h1.len, g0', hn, h1.one, h2.one]
 by_cases g1 : DnOk e.dn
 rotate_left
 ·rw [dec_neg g1] at c1
  have hn : ¬ EntryOk e := fun h => g1 h.2.1
  simp [akm, Tryz.f101, h1.len, g0, c1, hn, h1.one, h2.one]
 rw [dec_pos g1] at c1
 by_cases g2 : AttrsOk e.attrs
 ·rw [dec_pos g2] at c2
  have hn : EntryOk e := ⟨g0, g1, g2⟩
  simp [akm, Tryz.f101, h1.len, g0, c1, c2, hn, h1.one, h2.one]
 ·rw [dec_neg g2] at c2
  have hn : ¬ EntryOk e := fun h => g2 h.2.2
  simp [akm, Tryz.f101, h1.len, g0, c1, c2, hn, h1.one, h2.one]
theorem al0 {H : List Ob} {v : V} {l : List Str} (h : AStrs H v l) : callW C 132 [v, .str [99, 108, 97, 115, 115]] H = some (.bool (dec (classT ∈ l)), H) := ajV h
theorem asD {H : List Ob} {w1 w2 w3 : V} {c : PClass} (h1 : AStrs H w1 c.must) (h2 : AStrs H w2 c.may) (h3 : AStrs H w3 c.single) : callW C 181 [.agg [.str c.name, w1, w2, w3]] H = some (.bool (dec (ClassOk c)), H) := by
 apply Ret.dec
 rw [avY]
 have c0 := aja (t := c.name) (H := H)
 have c1 := alf h1
 have c2 := alf h2
 have c3 := alf h3
 by_cases g0 : NameOk c.name
 rotate_left
 ·rw [dec_neg g0] at c0
  have hn : ¬ ClassOk c := fun h => g0 h.name
  simp [aiO, Tryz.f181, c0, hn, h1.one, h2.one, h3.one]
 rw [dec_pos g0] at c0
 by_cases g1 : (c.must.length : Int) > 10
 ·have hn : ¬ ClassOk c := fun h => by have := h.l1; omega
  simp [aiO, Tryz.f181, c0, h1.len, g1, hn, h1.one, h2.one, h3.one]
 by_cases g2 : (c.may.length : Int) > 10
 ·have hn : ¬ ClassOk c := fun h => by have := h.l2; omega
  simp [aiO, Tryz.f181, c0, h1.len, h2.len, g1, g2, hn, h1.one, h2.one, h3.one]
 by_cases g3 : (c.single.length : Int) > 10
 ·have hn : ¬ ClassOk c := fun h => by have := h.l3; omega
  simp [aiO, Tryz.f181, c0, h1.len, h2.len, h3.len, g1, g2, g3, hn, h1.one, h2.one, h3.one]
 by_cases g4 : NamesOk c.must
 rotate_left
 ·rw [dec_neg g4] at c1
  have hn : ¬ ClassOk c := fun h => g4 h.n1
  simp [aiO, Tryz.f181, c0, c1, h1.len, h2.len, h3.len, g1, g2, g3, hn, h1.one, h2.one, h3.one]
 rw [dec_pos g4] at c1
 by_cases g5 : NamesOk c.may
 rotate_left
 ·rw [dec_neg g5] at c2
  have hn : ¬ ClassOk c := fun h => g5 h.n2
  simp [aiO, Tryz.f181, c0, c1, c2, h1.len, h2.len, h3.len, g1, g2, g3, hn, h1.one, h2.one, h3.one]
 rw [dec_pos g5] at c2
 by_cases g6 : NamesOk c.single
 rotate_left
 ·rw [dec_neg g6] at c3
  have hn : ¬ ClassOk c := fun h => g6 h.n3
  simp [aiO, Tryz.f181, c0, c1, c2, c3, h1.len, h2.len, h3.len, g1, g2, g3, hn, h1.one, h2.one, h3.one]
 rw [dec_pos g6] at c3
 simp [aiO, Tryz.f181, c0, c1, c2, c3, h1.len, h2.len, h3.len, g1, g2, g3, h1.one, h2.one, h3.one]
 refine WP_loop (fun k σ => ∃ (i : Nat) (r : Nat → R), i + k = c.must.length ∧ σ = ⟨r, 1, H⟩ ∧ r 1 = .box 0 [.str c.name, w1, w2, w3] ∧ r 3 = .val (.int .i64 i) ∧ ∀ j x, j < i → c.must[j]? = some x → x ∉ c.may) ?_ c.must.length _ ⟨0, _, by simp, rfl, by simp, by simp, by simp⟩
 rintro k σ ⟨i, r, hik, rfl, r1, r3, hall⟩
 cases k with
 | succ k =>
  have hi : i < c.must.length := by omega
  obtain ⟨x, hx⟩ : ∃ y, c.must[i]? = some y := ⟨c.must[i], by simp [hi]⟩
  have hw : IntKind.i64.wrap ((i : Int) + 1) = ((i : Int) + 1) := wrap_i64 (by omega) (by omega)
  obtain ⟨id, o, e1, l0, _⟩ := strs_idx h1 hx
  have c4 := ajV (t := x) h2
  by_cases g7 : x ∈ c.may
  ·rw [dec_pos g7] at c4
   have hn : ¬ ClassOk c := fun h => h.apart x (List.mem_of_getElem? hx) g7
   simp [r1, r3, hi, h1.len, e1, l0, c4, regionL_none, hn]
  ·rw [dec_neg g7] at c4
   simp [r1, r3, hi, h1.len, e1, l0, c4, regionL_none, hw]
   exact ⟨k, by omega, i + 1, by omega, by omega, at_step (P := fun j (x : Str) => x ∉ c.may) hall hx g7⟩
 | zero =>
 have hi : i = c.must.length := by omega
 subst hi
 have hap : ∀ t ∈ c.must, t ∉ c.may := fun t ht => by
  obtain ⟨j, hj, rfl⟩ := List.getElem_of_mem ht
  exact hall j _ hj (List.getElem?_eq_getElem hj)
 simp [r1, r3, h1.len]
 refine WP_loop (fun k σ => ∃ (i : Nat) (r : Nat → R), i + k = c.single.length ∧ σ = ⟨r, 1, H⟩ ∧ r 1 = .box 0 [.str c.name, w1, w2, w3] ∧ r 4 = .val (.int .i64 i) ∧ ∀ j x, j < i → c.single[j]? = some x → x ∈ c.may ∨ x ∈ c.must) ?_ c.single.length _ ⟨0, _, by simp, rfl, by simp [r1], by simp, by simp⟩
 clear hik r1 r3 hall r
 rintro k σ ⟨i, r, hik, rfl, r1, r4, hall⟩
 cases k with
 | succ k =>
  have hi : i < c.single.length := by omega
  obtain ⟨x, hx⟩ : ∃ y, c.single[i]? = some y := ⟨c.single[i], by simp [hi]⟩
  have hw : IntKind.i64.wrap ((i : Int) + 1) = ((i : Int) + 1) := wrap_i64 (by omega) (by omega)
  obtain ⟨id, o, e1, l0, _⟩ := strs_idx h3 hx
  have c4 := ajV (t := x) h2
  have c5 := ajV (t := x) h1
  have hstep := fun h => at_step (P := fun j (x : Str) => x ∈ c.may ∨ x ∈ c.must) hall hx h
  by_cases g7 : x ∈ c.may
  ·rw [dec_pos g7] at c4
   have := hstep (.inl g7)
   simp [r1, r4, hi, h3.len, e1, l0, c4, regionL_none, hw]
   exact ⟨k, by omega, i + 1, by omega, by omega, this⟩
  ·rw [dec_neg g7] at c4
   by_cases g8 : x ∈ c.must
   ·rw [dec_pos g8] at c5
    have := hstep (.inr g8)
    simp [r1, r4, hi, h3.len, e1, l0, c4, c5, regionL_none, hw]
    exact ⟨k, by omega, i + 1, by omega, by omega, this⟩
   ·rw [dec_neg g8] at c5
    have hn : ¬ ClassOk c := fun h => (h.known x (List.mem_of_getElem? hx)).elim g7 g8
    simp [r1, r4, hi, h3.len, e1, l0, c4, c5, regionL_none, hn]
 | zero =>
 have hi : i = c.single.length := by omega
 subst hi
 have hkn : ∀ t ∈ c.single, t ∈ c.may ∨ t ∈ c.must := fun t ht => by
  obtain ⟨j, hj, rfl⟩ := List.getElem_of_mem ht
  exact hall j _ hj (List.getElem?_eq_getElem hj)
 have c6 := al0 h1
 have c7 := al0 h2
 by_cases g7 : classT ∈ c.must
 ·rw [dec_pos g7] at c6
  have hn : ¬ ClassOk c := fun h => h.noMust g7
  simp [r1, r4, h3.len, c6, hn]
 ·rw [dec_neg g7] at c6
  by_cases g8 : classT ∈ c.may
  ·rw [dec_pos g8] at c7
   have hn : ¬ ClassOk c := fun h => h.noMay g8
   simp [r1, r4, h3.len, c6, c7, hn]
  ·rw [dec_neg g8] at c7
   have hn : ClassOk c := ⟨g0, by omega, by omega, by omega, g4, g5, g6, hap, hkn, g7, g8⟩
   simp [r1, r4, h3.len, c6, c7, hn]
theorem art {H : List Ob} {v : V} {l : List PClass} (h : AClasses H v l) : callW C 100 [v] H = some (.bool (dec (SchemaOk l)), H) := by
 apply Ret.dec
 rw [avP]
 have hb : l.length ≤ 9223372036854775807 := h.bound
 simp [aoA, Tryz.f100]
 refine WP_loop (fun k σ => ∃ (i : Nat) (r : Nat → R), i + k = l.length ∧ σ = ⟨r, 0, H⟩ ∧ r 0 = .val v ∧ r 3 = .val (.int .i64 i) ∧ ∀ j x, j < i → l[j]? = some x → ClassOk x ∧ PrevLt PClass.name l j x) ?_ l.length _ ⟨0, _, by simp, rfl, by simp, by simp, by simp⟩
 rintro k σ ⟨i, r, hik, rfl, r0, r3, hall⟩
 cases k with
 | zero =>
  have hi : i = l.length := by omega
  subst hi
  have hx := at_all (P := fun j (x : PClass) => ClassOk x ∧ PrevLt PClass.name l j x) hall
  by_cases g : l.length ≤ 6
  ·have g' : (l.length : Int) ≤ 6 := by omega
   have hv : SchemaOk l := ⟨hx, g⟩
   simp [r0, r3, h.len, g', hv]
  ·have g' : ¬ (l.length : Int) ≤ 6 := by omega
   have hv : ¬ SchemaOk l := fun h => g h.2
   simp [r0, r3, h.len, g', hv]
 | succ k =>
  have hi : i < l.length := by omega
  obtain ⟨x, hx⟩ : ∃ c, l[i]? = some c := ⟨l[i], by simp [hi]⟩
  have hw : IntKind.i64.wrap ((i : Int) + 1) = ((i : Int) + 1) := wrap_i64 (by omega) (by omega)
  obtain ⟨id, o, w1, w2, w3, e1, l0, l4, q1, q2, q3, _⟩ := classes_idx h hx
  have c1 := asD q1 q2 q3
  have hstep := fun h => at_step (P := fun j (x : PClass) => ClassOk x ∧ PrevLt PClass.name l j x) hall hx h
  by_cases g1 : ClassOk x
  ·rw [dec_pos g1] at c1
   by_cases hi0 : i = 0
   ·have := hstep ⟨g1, fun y hy => by omega⟩
    subst hi0
    simp at e1
    simp [r0, r3, hi, h.len, e1, l4, c1, regionL_none]
    exact ⟨k, by omega, 1, by omega, by omega, this⟩
   ·have hip : 0 < i := by omega
    obtain ⟨y, hy⟩ : ∃ c, l[i - 1]? = some c := ⟨l[i - 1]'(by omega), by simp⟩
    obtain ⟨id', o', _, _, _, e1', l0', _⟩ := classes_idx h hy
    have hw1 : IntKind.i64.wrap ((i : Int) - 1) = ((i - 1 : Nat) : Int) := by rw [wrap_i64 (by omega) (by omega)]; omega
    by_cases g2 : LtS y.name x.name
    ·have := hstep ⟨g1, fun z _ hz => by rw [hy] at hz; cases hz; exact g2⟩
     simp [r0, r3, hi, h.len, e1, l0, l4, c1, e1', l0', hw, hw1, hip, aiv g2, regionL_none]
     exact ⟨k, by omega, i + 1, by omega, by omega, this⟩
    ·have hn : ¬ SchemaOk l := fun hd => g2 ((hd.1 i x hx).2 y hip hy)
     simp [r0, r3, hi, h.len, e1, l0, l4, c1, e1', l0', hw, hw1, hip, aiB g2, regionL_none, hn]
  ·rw [dec_neg g1] at c1
   have hn : ¬ SchemaOk l := fun hd => g1 (hd.1 i x hx).1
   simp [r0, r3, hi, h.len, e1, l4, c1, hn, regionL_none]
def aix (H : List Ob) (m : Option PClass) (cs : List V) (ok : Bool) : Prop :=
 (ok = true ∧ ∃ c w1 w2 w3, m = some c ∧ cs = [.str c.name, w1, w2, w3] ∧ AStrs H w1 c.must ∧ AStrs H w2 c.may ∧ AStrs H w3 c.single) ∨ (ok = false ∧ m = none ∧ cs = [.str [], .slc none 0, .slc none 0, .slc none 0])
theorem aq6 {H : List Ob} {v v' : V} {l : List PAttr} (h : AAttrs H v l) (ho : cellsOf v' = some [v']) (ho' : isOne v' = true) : ∃ w, callW C 260 [.agg [v', v], .str [99, 108, 97, 115, 115]] H = some (w, H) ∧ AStrs H w (valsOf l classT) := awH h ho ho'
theorem auF {H T : List Ob} {vl vd va : V} {l : List PClass} {as' : List PAttr} (hl : AClasses H vl l) (ha : AAttrs H va as') (ho : cellsOf vd = some [vd]) (ho' : isOne vd = true) :
  ∃ cs ok, callW C 183 [vl, .agg [vd, va]] (H ++ T) = some (.tup [.agg cs, .bool ok], H ++ T) ∧ aix H (mineOf l as') cs ok := by
 suffices hs : Ret C 183 [vl, .agg [vd, va]] (H ++ T) fun q H' => (∃ cs ok, q = .tup [.agg cs, .bool ok] ∧ aix H (mineOf l as') cs ok) ∧ H' = H ++ T by
  obtain ⟨q, H', hc, ⟨cs, ok, rfl, hr⟩, rfl⟩ := hs
  exact ⟨cs, ok, hc, hr⟩
 rw [awV]
 obtain ⟨w, c1, hw⟩ := aq6 (ha.ext (T := T)) ho ho'
 have hone := ha.one
 by_cases g1 : (valsOf as' classT).length = 1
 rotate_left
 ·have hm : mineOf l as' = none := by
   unfold mineOf
   split
   ·rename_i v hv; rw [hv] at g1; exact absurd rfl g1
   ·rfl
  have g1' : ¬ ((valsOf as' classT).length : Int) = 1 := by omega
  simp [akP, Tryz.f183, c1, hw.len, g1', ho, ho', hone, buildV, fillL]
  exact .inr ⟨rfl, hm, rfl⟩
 obtain ⟨s, hs⟩ : ∃ s, valsOf as' classT = [s] := by
  match h : valsOf as' classT, g1 with
  | [s], _ => exact ⟨s, rfl⟩
 rw [hs] at hw
 obtain ⟨id, o, e1, l0, _⟩ := strs_idx hw (i := 0) (s := s) rfl
 simp only [Int.ofNat_eq_natCast, Int.natCast_zero] at e1
 have c2 := ajn (t := s) (H := H ++ T)
 obtain ⟨r, c3, hr⟩ := apM (t := norm s) (hl.ext (T := T))
 have hm : mineOf l as' = firstOf PClass.name l (norm s) := by unfold mineOf; rw [hs]
 rcases hr.pos with ⟨k, a, h1, rfl, h2⟩ | ⟨rfl, h2⟩
 ·obtain ⟨id2, o2, w1, w2, w3, f1, l4, q1, q2, q3⟩ := classes_idxT hl h1
  have l4 := l4 T
  have hk : ¬ ((k : Int) < 0) := by omega
  simp [akP, Tryz.f183, c1, hw.len, e1, l0, c2, c3, hk, f1, l4, ho, ho', hone, q1.one, q2.one, q3.one]
  exact .inl ⟨rfl, a, w1, w2, w3, by rw [hm, h2], rfl, q1, q2, q3⟩
 ·simp [akP, Tryz.f183, c1, hw.len, e1, l0, c2, c3, ho, ho', hone, buildV, fillL]
  exact .inr ⟨rfl, by rw [hm, h2], rfl⟩
theorem amR {l : List Str} {i : Nat} {x : Str} (h : l[i]? = some x) (p : Str → Bool) : (l.take (i + 1)).filter p = (l.take i).filter p ++ if p x then [x] else [] := by
 rw [take_get h, List.filter_append]
 cases hp : p x <;> simp [hp]
theorem awv {t : Str} {H : List Ob} (h0 : t ≠ []) (hl : t.length ≤ 1000) : ∃ q, callW C 121 [.str t, .str kset] H = some (.str q, H) ∧ (q = [] ↔ ai3 t) := by
 suffices hs : Ret C 121 [.str t, .str kset] H fun q H' => (∃ s, q = .str s ∧ (s = [] ↔ ai3 t)) ∧ H' = H by
  obtain ⟨q, H', hc, ⟨s, rfl, hr⟩, rfl⟩ := hs
  exact ⟨s, hc, hr⟩
 rw [avS]
 have hk0 : kset ≠ [] := by decide
 have hk1 : (kset.length : Int) = 37 := by decide
 have c1 := awS (t := kset) (H := H) (fun c hc => by
  rcases alC.1 hc with h | h | h
  ·have := h.2; omega
  ·have := h.2; omega
  ·omega) (by decide)
 have hz : setRange (List.replicate 256 (V.bool false)) 0 (setB kset) = setB kset := by
  unfold setRange
  rw [List.take_zero, List.nil_append, Nat.zero_add, ah8, List.drop_of_length_le (by rw [List.length_replicate]; omega), List.append_nil]
 have hall : (setB kset).all isOne = true := by
  rw [List.all_eq_true]
  intro x hx
  simp only [setB, List.mem_map] at hx
  obtain ⟨_, _, rfl⟩ := hx
  rfl
 have st := storeN (H := H ++ [.mk true 1 (List.replicate 256 (.bool false))]) (id := H.length) (o := 0) (l := setB kset) (cells := List.replicate 256 (.bool false)) (es := 1) get_last (by rw [ah8, List.length_replicate]; omega) (by intro h; have := ah8 (l := kset); rw [h] at this; cases this) hall
 rw [ah8, hz, set_last] at st
 have hob : (H ++ [Ob.mk true 1 (setB kset)])[H.length]? = some (.mk true 1 (setB kset)) := get_last
 obtain ⟨s, c2, q1, q2, q3⟩ := avm (t := t) hob hl
 obtain ⟨s', c3, q4, q5⟩ := au6 (t := s) hob q3
 have hres : s' = [] ↔ ai3 t := by
  rw [← q1, ← q4]
  constructor
  ·rintro rfl; intro c hc; cases hc
  ·intro h
   rcases q5 with h' | h'
   ·exact h'
   ·exact absurd h h'
 simp [aoG, Tryz.f121, h0, hk0, hk1, c1, strideOf, st, c2, c3, -List.reduceReplicate, -setRange]
 exact hres
theorem aq7 {t : Str} {c : UInt8} {s : Str} (h : t = c :: s) : NameOk t ↔ t.length ≤ 20 ∧ LowB c ∧ ai3 t := by
 subst h
 constructor
 ·rintro ⟨_, h1, h2⟩
  refine ⟨h1, ?_, fun d hd => ?_⟩
  ·rcases h2 0 c rfl with h | ⟨h, _⟩
   ·exact h
   ·omega
  ·obtain ⟨i, hi, rfl⟩ := List.getElem_of_mem hd
   rw [alC]
   rcases h2 i _ (List.getElem?_eq_getElem hi) with h | ⟨_, h | h⟩
   ·exact .inl h
   ·exact .inr (.inl h)
   ·exact .inr (.inr h)
 ·rintro ⟨h1, h2, h3⟩
  refine ⟨by simp, h1, fun i d hd => ?_⟩
  cases i with
  | zero => cases hd; exact .inl h2
  | succ i =>
   rcases alC.1 (h3 d (List.mem_of_getElem? hd)) with h | h | h
   ·exact .inl h
   ·exact .inr ⟨by omega, .inl h⟩
   ·exact .inr ⟨by omega, .inr h⟩
theorem ajo {t : Str} {H : List Ob} : callW C 50 [.str t] H = some (.bool (dec (NameOk t)), H) := by
 apply Ret.dec
 rw [aBm]
 match t with
 | [] =>
  have hn : ¬ NameOk [] := fun h => by have := h.1; simp at this
  simp [ajX, Tryz.f50, hn]
 | c :: s =>
 have hi := aq7 (t := c :: s) rfl
 have g0 : (1 : Int) ≤ (s.length : Int) + 1 := by omega
 by_cases g1 : ((c :: s).length : Int) ≤ 20
 rotate_left
 ·have hn : ¬ NameOk (c :: s) := fun h => by have := h.2.1; omega
  simp only [List.length_cons, Int.natCast_add, Int.natCast_one] at g1
  simp [ajX, Tryz.f50, g0, g1, hn]
 obtain ⟨q, hc, hq⟩ := awv (t := c :: s) (H := H) (by simp) (by omega)
 simp only [kset] at hc
 have g1' := g1
 simp only [List.length_cons, Int.natCast_add, Int.natCast_one] at g1
 by_cases g2 : (c.toNat : Int) ≥ 97
 rotate_left
 ·have hn : ¬ NameOk (c :: s) := fun h => by have := (hi.1 h).2.1.1; omega
  simp [ajX, Tryz.f50, g0, g1, g2, hn]
 by_cases g3 : (c.toNat : Int) ≤ 122
 rotate_left
 ·have hn : ¬ NameOk (c :: s) := fun h => by have := (hi.1 h).2.1.2; omega
  simp [ajX, Tryz.f50, g0, g1, g2, g3, hn]
 by_cases g4 : q = []
 ·have hn : NameOk (c :: s) := hi.2 ⟨by omega, ⟨by omega, by omega⟩, hq.1 g4⟩
  simp [ajX, Tryz.f50, g0, g1, g2, g3, hc, g4, hn]
 ·have hn : ¬ NameOk (c :: s) := fun h => g4 (hq.2 (hi.1 h).2.2)
  simp [ajX, Tryz.f50, g0, g1, g2, g3, hc, g4, hn]
theorem asw {a b : Str} {H : List Ob} : callW C 230 [.agg [.str a, .str b]] H = some (.bool (dec (NameOk a ∧ ValueOk b)), H) := by
 apply Ret.dec
 rw [axM]
 have c1 := ajo (t := a) (H := H)
 have c2 := akf (t := b) (H := H)
 by_cases g1 : NameOk a
 ·rw [dec_pos g1] at c1
  by_cases g2 : ValueOk b
  ·rw [dec_pos g2] at c2
   simp [akV, Tryz.f230, c1, c2, g1, g2]
  ·rw [dec_neg g2] at c2
   simp [akV, Tryz.f230, c1, c2, g1, g2]
 ·rw [dec_neg g1] at c1
  simp [akV, Tryz.f230, c1, g1]
theorem aql {a b : Str} {H : List Ob} : callW C 229 [.agg [.str a, .str b]] H = some (.bool (!dec (NameOk a ∧ ValueOk b)), H) := by
 apply Ret.eq
 rw [avG]
 have c1 := asw (a := a) (b := b) (H := H)
 simp [aom, Tryz.f229, c1]
theorem aru {H : List Ob} {v : V} {l : List PRdn} (h : ARdns H v l) : ∃ r : Int, callW C 292 [v, .fn 229 [] []] H = some (.int .i64 r, H) ∧ (0 ≤ r ↔ ¬ ∀ (j : Nat) x, l[j]? = some x → NameOk x.attr ∧ ValueOk x.value) := by
 suffices hs : Ret C 292 [v, .fn 229 [] []] H fun q H' => (∃ r : Int, q = .int .i64 r ∧ (0 ≤ r ↔ ¬ ∀ (j : Nat) x, l[j]? = some x → NameOk x.attr ∧ ValueOk x.value)) ∧ H' = H by
  obtain ⟨q, H', hc, ⟨r, rfl, hr⟩, rfl⟩ := hs
  exact ⟨r, hc, hr⟩
 rw [awm]
 have hb : l.length ≤ 9223372036854775807 := h.bound
 simp [ao8, Tryz.f292, h.len]
 refine WP_loop (fun k σ => ∃ (i : Nat) (r : Nat → R), i + k = l.length ∧ σ = ⟨r, 0, H⟩ ∧ r 0 = .val v ∧ r 1 = .val (.fn 229 [] []) ∧ r 7 = .val (.int .i64 l.length) ∧ r 8 = .val (.int .i64 i) ∧ ∀ j x, j < i → l[j]? = some x → NameOk x.attr ∧ ValueOk x.value) ?_ l.length _ ⟨0, _, by simp, rfl, by simp, by simp, by simp, by simp, by simp⟩
 rintro k σ ⟨i, r, hik, rfl, r0, r1, r7, r8, hall⟩
 cases k with
 | zero =>
  have hi : i = l.length := by omega
  subst hi
  have hx := at_all (P := fun j (x : PRdn) => NameOk x.attr ∧ ValueOk x.value) hall
  simp [r0, r1, r7, r8]
  exact fun j x hj => hx j x hj
 | succ k =>
  have hi : i < l.length := by omega
  obtain ⟨x, hx⟩ : ∃ c, l[i]? = some c := ⟨l[i], by simp [hi]⟩
  have hw : IntKind.i64.wrap ((i : Int) + 1) = ((i : Int) + 1) := wrap_i64 (by omega) (by omega)
  obtain ⟨id, o, e1, l0, l1, l2, _⟩ := rdns_idx h hx
  have c1 := aql (a := x.attr) (b := x.value) (H := H)
  by_cases g1 : NameOk x.attr ∧ ValueOk x.value
  ·rw [dec_pos g1] at c1
   simp at c1
   simp [r0, r1, r7, r8, hi, e1, l2, c1, hw]
   exact ⟨k, by omega, i + 1, by omega, by omega, at_step (P := fun j (x : PRdn) => NameOk x.attr ∧ ValueOk x.value) hall hx g1⟩
  ·rw [dec_neg g1] at c1
   simp at c1
   simp [r0, r1, r7, r8, hi, e1, l2, c1, hw]
   exact ⟨i, x, hx, fun h1 h2 => g1 ⟨h1, h2⟩⟩
theorem asl {H : List Ob} {v : V} {l : List PRdn} (h : ARdns H v l) : callW C 143 [v] H = some (.bool (dec (DnOk l)), H) := by
 obtain ⟨r, c1, hr⟩ := aru h
 have c2 : callW C 228 [v, .fn 229 [] []] H = some (.bool (decide (0 ≤ r)), H) := by
  apply Ret.eq
  rw [axs]
  simp [anX, Tryz.f228, c1]
 apply Ret.dec
 rw [axV]
 by_cases g1 : (l.length : Int) ≤ 6
 ·by_cases g2 : 0 ≤ r
  ·have hn : ¬ DnOk l := fun h => hr.1 g2 h.1
   simp [ak1, Tryz.f143, h.len, g1, c2, g2, hn]
  ·have hn : DnOk l := ⟨Classical.byContradiction fun h => g2 (hr.2 h), by omega⟩
   simp [ak1, Tryz.f143, h.len, g1, c2, g2, hn]
 ·have hn : ¬ DnOk l := fun h => g1 (by have := h.2; omega)
  simp [ak1, Tryz.f143, h.len, g1, hn]
end Go.Proofs.Try1
end
