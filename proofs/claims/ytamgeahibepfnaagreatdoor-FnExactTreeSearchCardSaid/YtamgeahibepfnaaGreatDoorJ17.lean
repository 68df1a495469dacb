/- Part 17 of the proof of a law: the interpreter, its soundness, and what functions of the program compute over it. Conditions: none but those that each theorem names. -/
import Derived.Test.YtamgeahibepfnaaGreatDoorJ16
import Derived.Test.YtamgeahibepfnaaGreatDoorJ15
import Derived.Test.YtamgeahibepfnaaGreatDoorJ14
import Derived.Test.YtamgeahibepfnaaGreatDoorJ13
import Derived.Test.YtamgeahibepfnaaGreatDoorJ10

set_option linter.all false
set_option maxRecDepth 20000
set_option maxHeartbeats 40000000
section
namespace Go.Proofs.Try1
open Go Go.Lite
attribute [-simp] WP_region WP_cond
attribute [local simp] WP_regionF WP_condF ThenW_some ThenW_none CondW_true CondW_false
attribute [local simp low] CondW_bool
theorem scope0 {dn base : List PRdn} : (dn.length = base.length ∧ keyD dn = keyD base) ↔ ScopeOk dn base 0 := by
 unfold ScopeOk UnderOk
 constructor
 ·rintro ⟨h1, h2⟩
  exact ⟨⟨by omega, by rw [show dn.length - base.length = 0 by omega]; exact h2⟩, fun _ => h1, fun h => by omega⟩
 ·rintro ⟨⟨h1, h2⟩, h3, _⟩
  have h3 := h3 rfl
  rw [show dn.length - base.length = 0 by omega] at h2
  exact ⟨h3, h2⟩
theorem scope1 {dn base : List PRdn} (h : 0 < dn.length) : (dn.tail.length = base.length ∧ keyD dn.tail = keyD base) ↔ ScopeOk dn base 1 := by
 unfold ScopeOk UnderOk
 rw [List.length_tail, ← List.drop_one]
 constructor
 ·rintro ⟨h1, h2⟩
  exact ⟨⟨by omega, by rw [show dn.length - base.length = 1 by omega]; exact h2⟩, fun h => by omega, fun _ => by omega⟩
 ·rintro ⟨⟨h1, h2⟩, _, h3⟩
  have h3 := h3 rfl
  rw [show dn.length - base.length = 1 by omega] at h2
  exact ⟨by omega, h2⟩
theorem scope2 {dn base : List PRdn} : UnderOk dn base ↔ ScopeOk dn base 2 := ⟨fun h => ⟨h, fun h => by omega, fun h => by omega⟩, fun h => h.1⟩
theorem dec_iff {P Q : Prop} (h : P ↔ Q) : dec P = dec Q := by
 by_cases g : P
 ·rw [dec_pos g, dec_pos (h.1 g)]
 ·rw [dec_neg g, dec_neg (fun q => g (h.2 q))]
theorem i_found {H : List Ob} {idt : Nat} {own : Bool} {es : Nat} {vs ve vb vf : V} {t : PTree} {base : List PRdn} {sc : Int} {f : List PNode} (hp : H[idt]? = some (.mk own es [vs, ve])) (hs : AClasses H vs t.schema) (h : AEntries H ve t.entries) (hb : ARdns H vb base) (hf : ANodes H vf f)
  (ht : TreeOk t) (hbo : DnOk base) (hfo : FilterOk f) (hsc : 0 ≤ sc ∧ sc ≤ 2) :
  ∃ q H', callW C 102 [.ptr (some (idt, 0)), vb, .int .i64 sc, vf] H = some (q, H') ∧
   (((0 < base.length ∧ firstOf keyE t.entries (keyD base) = none) ∧ q = .tup [.slc none 0, .int .i64 6] ∧ H' = H) ∨
    (¬ (0 < base.length ∧ firstOf keyE t.entries (keyD base) = none) ∧ ∃ T w, q = .tup [w, .int .i64 0] ∧ H' = H ++ T ∧ (isOne w = true ∧ cellsOf w = some [w]) ∧ New H.length (H ++ T).length (H ++ T) (.slice shEntry) [w] (.lst ((foundL t.entries base sc f (knownL t.schema)).map PEntry.u)))) := by
 suffices hs : Ret C 102 [.ptr (some (idt, 0)), vb, .int .i64 sc, vf] H fun q H' =>
   (((0 < base.length ∧ firstOf keyE t.entries (keyD base) = none) ∧ q = .tup [.slc none 0, .int .i64 6] ∧ H' = H) ∨
    (¬ (0 < base.length ∧ firstOf keyE t.entries (keyD base) = none) ∧ ∃ T w, q = .tup [w, .int .i64 0] ∧ H' = H ++ T ∧ (isOne w = true ∧ cellsOf w = some [w]) ∧ New H.length (H ++ T).length (H ++ T) (.slice shEntry) [w] (.lst ((foundL t.entries base sc f (knownL t.schema)).map PEntry.u)))) by
  obtain ⟨q, H', hc, hr⟩ := hs
  exact ⟨q, H', hc, hr⟩
 rw [op102]
 have hoks := TreeOk.dns ht
 have hel : t.entries.length ≤ 20 := ht.2.1.1
 have hpw : t.entries.Pairwise fun a b => keyD a.dn < keyD b.dn := TreeOk.rise ht
 have hpl : idt < H.length := (List.getElem?_eq_some_iff.1 hp).1
 obtain ⟨i0, ok, c1, hile, hlo, hhi, hok'⟩ := i_searchT hp h (by omega) (fun x hx => (hoks x hx).2.1) hpw hb hbo
 obtain ⟨hsf1, hsf2⟩ := search_first (l := t.entries) (key := keyD base) hpw hlo hhi hok'
 have hfirst : ok = true ↔ ¬ firstOf keyE t.entries (keyD base) = none := by
  constructor
  ·intro h hn
   obtain ⟨x, _, _, h3⟩ := hsf2 h
   rw [hn] at h3
   cases h3
  ·intro h
   cases hh : ok with
   | true => rfl
   | false => exact absurd (hsf1 hh) h
 have ld0 := load1 (o := 0) (v := vs) hp rfl
 have ld1 := load1 (o := 1) (v := ve) hp rfl
 by_cases g : 0 < base.length ∧ firstOf keyE t.entries (keyD base) = none
 ·have g1 : 0 < base.length := g.1
  have hokf : ok = false := by
   cases hh : ok with
   | false => rfl
   | true => exact absurd g.2 (hfirst.1 hh)
  rw [hokf] at c1
  simp [code102, Tryz.f102, c1, hb.len, g1, hpl, regionL_none, regionL_some, List.lookup]
  exact g.2
 have hcases : (0 < base.length ∧ ok = true) ∨ (¬ 0 < base.length ∧ True) := by
  by_cases g1 : 0 < base.length
  ·exact .inl ⟨by omega, hfirst.2 fun h => g ⟨g1, h⟩⟩
  ·exact .inr ⟨by omega, trivial⟩
 obtain ⟨Y, hY⟩ : ∃ Y, Y = H ++ [.mk true 2 []] := ⟨_, rfl⟩
 have hL0 : LstF H Y shEntry PEntry.u (.slc (some (H.length, 0)) 0) [] := by rw [hY]; exact LstF.init (sh := shEntry)
 obtain ⟨T1, wk, kl, c3, hk, hkm, hkY⟩ := i_known (H := Y) (by rw [hY]; exact hs.ext) (TreeOk.small2 ht).1 (TreeOk.small2 ht).2
 have hko := hk.one
 obtain ⟨K, hK⟩ : ∃ K, K = Y ++ T1 := ⟨_, rfl⟩
 rw [← hK] at c3 hk
 have hL1 : LstF H K shEntry PEntry.u (.slc (some (H.length, 0)) 0) [] := by rw [hK]; exact hL0.ext
 have hKH : K = H ++ ([.mk true 2 []] ++ T1) := by rw [hK, hY, List.append_assoc]
 have hYl : Y.length = H.length + 1 := by rw [hY]; simp
 have hkK := hk.lt
 have ld0Y : ∀ T : LT, T.one → ∀ r c, loadAt T ⟨r, c, Y⟩ (.hp idt 0) = some vs := load1 (o := 0) (by rw [hY]; exact up_append _ _ hp) rfl
 have ld1K : ∀ T : LT, T.one → ∀ r c, loadAt T ⟨r, c, K⟩ (.hp idt 1) = some ve := load1 (o := 1) (by rw [hKH]; exact up_append _ _ hp) rfl
 rcases hcases with ⟨g1, hq1⟩ | ⟨g1, hq1⟩ <;> (
  simp [code102, Tryz.f102, c1, hb.len, g1, hq1, hpl, St.new, elemT, fillL, zerosL, ← hY, ld0Y, ld1K, c3, h.len, hko, regionL_none, regionL_some, List.lookup]
  refine WP_loop (fun k σ => ∃ (i n : Nat) (r : Nat → R) (G : List Ob) (w : V), i + k = t.entries.length ∧ σ = ⟨r, n, G⟩ ∧ r 1 = .val vb ∧ r 2 = .val (.int .i64 sc) ∧ r 3 = .val vf ∧ r 12 = .val w ∧ r 13 = .val wk ∧ r 41 = .val ve ∧ r 42 = .val (.int .i64 t.entries.length) ∧ r 43 = .val (.int .i64 i) ∧ LstF H G shEntry PEntry.u w (foundL (t.entries.take i) base sc f (knownL t.schema)) ∧ AStrs G wk kl ∧ K.length ≤ G.length ∧ (∀ q o n, w = .slc (some (q, o)) n → q = H.length ∨ K.length ≤ q) ∧ ¬ lowV H w) ?_ t.entries.length _ ⟨0, _, _, K, .slc (some (H.length, 0)) 0, by simp, rfl, by simp, by simp, by simp, by simp, by simp, by simp, by simp, by simp, by simpa [foundL] using hL1, hk, Nat.le_refl _, fun q o n h => by cases h; exact .inl rfl, fun ⟨own, es, cells, h⟩ => by simp at h⟩
  rintro k σ ⟨i, n, r, G, w, hik, rfl, r1, r2, r3, r12, r13, r41, r42, r43, hG, hkG0, hKG, hwid, hnl⟩
  obtain ⟨S, hGH⟩ := hG.pre
  have haG : AEntries G ve t.entries := by rw [hGH]; exact h.ext
  have hwo := hG.one
  cases k with
  | zero =>
   have hi : i = t.entries.length := by omega
   subst hi
   rw [List.take_length] at hG
   have hfl := foundL_len (l := t.entries) (base := base) (sc := sc) (f := f) (known := knownL t.schema)
   have n2 := hG.new (by unfold maxLen; omega)
   have hg : gcH H G (.tup [w, .int .i64 0]) = G := gcH_not (by simpa [lowV, lowVs] using hnl)
   simp [r1, r2, r3, r12, r13, r41, r42, r43, hwo, hg, regionL_none, regionL_some, List.lookup]
   have fin : ∃ T, G = H ++ T ∧ New H.length (H.length + T.length) (H ++ T) (.slice shEntry) [w] (.lst ((foundL t.entries base sc f (knownL t.schema)).map PEntry.u)) := ⟨_, hGH, by rw [← List.length_append, ← hGH]; exact n2⟩
   first | exact fin | exact ⟨fun h2 => g ⟨by omega, h2⟩, fin⟩
  | succ k =>
   have hi : i < t.entries.length := by omega
   obtain ⟨x, hx⟩ : ∃ c, t.entries[i]? = some c := ⟨t.entries[i], by simp [hi]⟩
   have hw : IntKind.i64.wrap ((i : Int) + 1) = ((i : Int) + 1) := wrap_i64 (by omega) (by omega)
   obtain ⟨id, o, v1, v2, e1, l0, l1, lm, a1, a2, _⟩ := entries_idx haG hx
   have hid := lo_of l0
   have hxo := hoks x (List.mem_of_getElem? hx)
   have o1 := a1.one
   have o2 := a2.one
   obtain ⟨id1, off1, own1, cells1, rfl, hcell1, at1⟩ := rdns_tail a1 hxo.1
   obtain ⟨G1, hG1⟩ : ∃ G1, G1 = G ++ [.mk true 2 [.slc (some (id1, off1)) x.dn.length, v2]] := ⟨_, rfl⟩
   have hbx : G1[G.length]? = some (.mk true 2 [.slc (some (id1, off1)) x.dn.length, v2]) := by rw [hG1]; exact get_last
   have hGl : G.length < G1.length := by rw [hG1]; simp
   have st := storeN (H := G ++ [.mk true 2 [.slc none 0, .slc none 0]]) (o := 0) (l := [.slc (some (id1, off1)) x.dn.length, v2]) get_last (by simp) (by simp) (by simp [o2])
   have hset : (G ++ [Ob.mk true 2 [.slc none 0, .slc none 0]]).set G.length (.mk true 2 [.slc (some (id1, off1)) x.dn.length, v2]) = G1 := by rw [hG1]; simp
   simp [setRange] at st
   have lb0 := load1 (o := 0) (v := .slc (some (id1, off1)) x.dn.length) hbx rfl
   have lbN := loadN (o := 0) (n := 2) hbx (by simp) (by decide) rfl
   simp at lbN
   have hid1 : id1 < G.length := (List.getElem?_eq_some_iff.1 hcell1).1
   have hst : strideIs G1 id1 2 = true := by rw [hG1]; simp [strideIs, List.getElem?_append_left hid1, hcell1]
   have b1 : ARdns G1 (.slc (some (id1, off1)) x.dn.length) x.dn := by rw [hG1]; exact a1.ext
   have b2 : AAttrs G1 v2 x.attrs := by rw [hG1]; exact a2.ext
   have b3 : ARdns G1 (.slc (some (id1, off1 + 2)) (x.dn.length - 1)) x.dn.tail := by rw [hG1]; exact at1.ext
   have hbG : ARdns G1 vb base := by rw [hG1, hGH]; exact hb.ext.ext
   have hfG : ANodes G1 vf f := by rw [hG1, hGH]; exact hf.ext.ext
   have hkG : AStrs G1 wk kl := by rw [hG1]; exact hkG0.ext
   have cU := i_dnUnder b1 hbG hxo.2.1 hbo hxo.1
   have cA := i_dnSame2 b1 hbG hxo.2.1 hbo
   have cB := i_dnSame2 b3 hbG hxo.2.1.tail hbo
   have hB : ∀ tt : Bool, dec (ScopeOk x.dn base sc) = tt → (sc = 0 ∧ dec (x.dn.length = base.length ∧ keyD x.dn = keyD base) = tt) ∨ (sc = 1 ∧ dec (x.dn.tail.length = base.length ∧ keyD x.dn.tail = keyD base) = tt) ∨ (sc = 2 ∧ dec (UnderOk x.dn base) = tt) := fun tt htt => by
    rcases (show sc = 0 ∨ sc = 1 ∨ sc = 2 by omega) with rfl | rfl | rfl
    ·exact .inl ⟨rfl, (dec_iff scope0).trans htt⟩
    ·exact .inr (.inl ⟨rfl, (dec_iff (scope1 hxo.1)).trans htt⟩)
    ·exact .inr (.inr ⟨rfl, (dec_iff scope2).trans htt⟩)
   generalize dec (x.dn.length = base.length ∧ keyD x.dn = keyD base) = bA at cA hB
   generalize dec (x.dn.tail.length = base.length ∧ keyD x.dn.tail = keyD base) = bB at cB hB
   generalize dec (UnderOk x.dn base) = bU at cU hB
   have hx1 : 1 ≤ x.dn.length := hxo.1
   have hstep := foundL_step (base := base) (sc := sc) (f := f) (known := knownL t.schema) hx
   by_cases q3 : ScopeOk x.dn base sc
   rotate_left
   ·rw [dec_neg (fun h => q3 h.2)] at hstep
    simp only [Bool.false_eq_true, if_false, List.append_nil] at hstep
    rcases hB false (dec_neg q3) with ⟨rfl, hb⟩ | ⟨rfl, hb⟩ | ⟨rfl, hb⟩ <;> subst hb <;> (
     simp [r1, r2, r3, r12, r13, r41, r42, r43, hi, e1, l0, l1, lm, hid, strideOf, St.new, st, ← hG1, lb0, hst, hx1, hGl, cU, cA, cB, o1, o2, hwo, hko, hw, fillL, zerosL, buildV, structPlace, regionL_none, regionL_some, List.lookup]
     exact ⟨k, by omega, i + 1, by omega, _, _, _, ⟨rfl, rfl, rfl⟩, by simp [r1], by simp [r2], by simp [r3], w, by simp [r12], by simp [r13], by simp [r41], by simp [r42], by simp, by rw [hstep, hG1]; exact hG.ext, hkG, by omega, hwid, hnl⟩)
   obtain ⟨q2, hq2, hsay⟩ := says_of hfo x.attrs kl
   have hsay2 := hsay.trans (says_congr (f := f) (az := x.attrs) hkm)
   have c4 := i_eval (f := f) (by have := hfo.1; omega) (by have := hxo.2.2.2; omega) (EntryOk.rise hxo) 5 0 vf G1 q2 hq2 (by simpa using hfG) hbx b2 hkG
   by_cases q1 : SaysTrue f x.attrs (knownL t.schema)
   rotate_left
   ·have e1' : ¬ q2.1 = 1 := fun h => q1 (hsay2.1 h)
    rw [dec_neg (fun h => q1 h.1)] at hstep
    simp only [Bool.false_eq_true, if_false, List.append_nil] at hstep
    rcases hB true (dec_pos q3) with ⟨rfl, hb⟩ | ⟨rfl, hb⟩ | ⟨rfl, hb⟩ <;> subst hb <;> (
     simp [r1, r2, r3, r12, r13, r41, r42, r43, hi, e1, l0, l1, lm, hid, strideOf, St.new, st, ← hG1, lb0, hst, hx1, hGl, cU, cA, cB, c4, e1', o1, o2, hwo, hko, hw, fillL, zerosL, buildV, structPlace, regionL_none, regionL_some, List.lookup]
     exact ⟨k, by omega, i + 1, by omega, _, _, _, ⟨rfl, rfl, rfl⟩, by simp [r1], by simp [r2], by simp [r3], w, by simp [r12], by simp [r13], by simp [r41], by simp [r42], by simp, by rw [hstep, hG1]; exact hG.ext, hkG, by omega, hwid, hnl⟩)
   have e1' := hsay2.2 q1
   rw [dec_pos ⟨q1, q3⟩, if_pos rfl] at hstep
   obtain ⟨T2, y1, y2, c6, n2⟩ := i_copied b1 b2 (EntryOk.small hxo)
   obtain ⟨_, _, hcy, p1, p2⟩ := entry_at.1 n2.at
   cases hcy
   have hfl := foundL_len (l := t.entries.take i) (base := base) (sc := sc) (f := f) (known := knownL t.schema)
   rw [List.length_take] at hfl
   have hG12 : G1 ++ T2 = G ++ ([.mk true 2 [.slc (some (id1, off1)) x.dn.length, v2]] ++ T2) := by rw [hG1, List.append_assoc]
   have n3 : New G.length (G1 ++ T2).length (G ++ ([.mk true 2 [.slc (some (id1, off1)) x.dn.length, v2]] ++ T2)) shEntry [y1, y2] x.u := by rw [← hG12]; exact n2.wide (by omega) (Nat.le_refl _)
   obtain ⟨w', G', a3, hG', hGle, hGfr⟩ := hG.push (T := [.mk true 2 [.slc (some (id1, off1)) x.dn.length, v2]] ++ T2) (d := .struct [(0, 35), (1, 41)]) (by_ := 48) (z := [.slc none 0, .slc none 0]) (sz := 2) n3 rfl rfl (by decide) (by decide) (by decide) (by unfold maxMade; omega)
   rw [← hstep] at hG'
   rw [← hG12] at a3
   have hw' := hG'.one
   have w1 := p1.one
   have w2 := p2.one
   have hnl' : ¬ lowV H w' := by
    rcases hG'.2 with ⟨_, h0⟩ | ⟨id', cs, Fs, g1, g2, rfl, _⟩
    ·rw [hstep] at h0
     have := congrArg List.length h0
     simp at this
    ·rintro ⟨own, es, cells, hh⟩
     have := (List.getElem?_eq_some_iff.1 hh).1
     omega
   obtain ⟨fr1, fr2, fr3⟩ := appendV_frame a3
   have hkG' : AStrs G' wk kl := hkG0.frame fun q o n hq => by
    have q1 := hkY q o n hq
    have q2 := hkK q o n hq
    rw [fr1 q (by simp; omega) (fun off n hwq => by rcases hwid _ _ _ hwq with h | h <;> omega), hG12, List.append_assoc, List.getElem?_append_left (by omega)]
   have hwid' : ∀ q o n, w' = .slc (some (q, o)) n → q = H.length ∨ K.length ≤ q := fun q o n hq => by
    rcases fr2 q o n hq with ⟨o, n, h⟩ | h
    ·exact hwid _ _ _ h
    ·simp at h; exact .inr (by omega)
   have hKG' : K.length ≤ G'.length := by simp at fr3; omega
   simp only [List.append_assoc, List.length_append] at a3
   rcases hB true (dec_pos q3) with ⟨rfl, hb⟩ | ⟨rfl, hb⟩ | ⟨rfl, hb⟩ <;> subst hb <;> (
    simp [r1, r2, r3, r12, r13, r41, r42, r43, hi, e1, l0, l1, lm, hid, strideOf, St.new, st, ← hG1, lb0, lbN, hst, hx1, hGl, cU, cA, cB, c4, c6, e1', a3, o1, o2, w1, w2, hwo, hw', hko, hw, fillL, zerosL, buildV, structPlace, elemT, regionL_none, regionL_some, List.lookup]
    exact ⟨k, by omega, i + 1, by omega, _, _, _, ⟨rfl, rfl, rfl⟩, by simp [r1], by simp [r2], by simp [r3], w', by simp, by simp [r13], by simp [r41], by simp [r42], by simp, hG', hkG', hKG', hwid', hnl'⟩))
theorem i_ManyN {H : List Ob} {v : V} {l : List PNode} (h : ANodes H v l) : callW C 97 [v] H = some (.bool (decide (400 < l.length)), H) := by
 apply Ret.eq
 rw [op97]
 have hi : (400 : Int) < (l.length : Int) ↔ 400 < l.length := by omega
 simp [code97, Tryz.f97, h.len, hi]
theorem i_isScope {H : List Ob} {n : Int} : callW C 101 [.int .i64 n] H = some (.bool (dec (0 ≤ n ∧ n ≤ 2)), H) := by
 apply Ret.eq
 rw [op101]
 have c1 := i_between (n := n) (a := 0) (b := 2) (H := H)
 simp [code101, Tryz.f101, c1]
theorem i_TreeSearch {H : List Ob} {vs ve vb vf : V} {t : PTree} {base : List PRdn} {sc : Int} {f : List PNode} (hs : AClasses H vs t.schema) (h : AEntries H ve t.entries) (hb : ARdns H vb base) (hf : ANodes H vf f) :
  ∃ q H', callW C 35 [.agg [vs, ve], vb, .int .i64 sc, vf] H = some (q, H') ∧ TOut H (treeSearchOf t base sc f) q H' := by
 suffices hs : Ret C 35 [.agg [vs, ve], vb, .int .i64 sc, vf] H fun q H' => TOut H (treeSearchOf t base sc f) q H' by
  obtain ⟨q, H', hc, hr⟩ := hs
  exact ⟨q, H', hc, hr⟩
 rw [op35]
 have hos := hs.one
 have hoe := h.one
 have hob := hb.one
 have hof := hf.one
 obtain ⟨A1, hA1⟩ : ∃ A, A = H ++ [.mk true 2 [vs, ve]] := ⟨_, rfl⟩
 obtain ⟨A2, hA2⟩ : ∃ A, A = A1 ++ [.mk true 1 [.int .i64 sc]] := ⟨_, rfl⟩
 obtain ⟨A3, hA3⟩ : ∃ A, A = A2 ++ [.mk true 1 [vf]] := ⟨_, rfl⟩
 obtain ⟨K, hK⟩ : ∃ A, A = A3 ++ [.mk true 1 [vb]] := ⟨_, rfl⟩
 have l1 : A1.length = H.length + 1 := by rw [hA1]; simp
 have l2 : A2.length = H.length + 1 + 1 := by rw [hA2, hA1]; simp
 have l3 : A3.length = H.length + 1 + 1 + 1 := by rw [hA3, hA2, hA1]; simp
 have g3t : A3[H.length]? = some (.mk true 2 [vs, ve]) := by rw [hA3, hA2]; exact up_append _ _ (up_append _ _ (by rw [hA1]; exact get_last))
 have g3s : A3[A1.length]? = some (.mk true 1 [.int .i64 sc]) := by rw [hA3]; exact up_append _ _ (by rw [hA2]; exact get_last)
 have g3f : A3[A2.length]? = some (.mk true 1 [vf]) := by rw [hA3]; exact get_last
 have gKt : K[H.length]? = some (.mk true 2 [vs, ve]) := by rw [hK]; exact up_append _ _ g3t
 have gKs : K[A1.length]? = some (.mk true 1 [.int .i64 sc]) := by rw [hK]; exact up_append _ _ g3s
 have gKf : K[A2.length]? = some (.mk true 1 [vf]) := by rw [hK]; exact up_append _ _ g3f
 have gKb : K[A3.length]? = some (.mk true 1 [vb]) := by rw [hK]; exact get_last
 obtain ⟨S, hS⟩ : ∃ S, K = H ++ S := ⟨[.mk true 2 [vs, ve]] ++ ([.mk true 1 [.int .i64 sc]] ++ ([.mk true 1 [vf]] ++ [.mk true 1 [vb]])), by rw [hK, hA3, hA2, hA1]; simp only [List.append_assoc]⟩
 obtain ⟨S3, hS3⟩ : ∃ S, A3 = H ++ S := ⟨[.mk true 2 [vs, ve]] ++ ([.mk true 1 [.int .i64 sc]] ++ [.mk true 1 [vf]]), by rw [hA3, hA2, hA1]; simp only [List.append_assoc]⟩
 have hsK : AClasses K vs t.schema := by rw [hS]; exact hs.ext
 have heK : AEntries K ve t.entries := by rw [hS]; exact h.ext
 have hbK : ARdns K vb base := by rw [hS]; exact hb.ext
 have hfK : ANodes K vf f := by rw [hS]; exact hf.ext
 have hf3 : ANodes A3 vf f := by rw [hS3]; exact hf.ext
 have ld3 := load1 (o := 0) g3f rfl
 have lds := load1 (o := 0) gKs rfl
 have ldf := load1 (o := 0) gKf rfl
 have ldN := loadN (o := 0) (n := 2) gKt (by simp) (by decide) rfl
 simp at ldN
 have hil : ∀ (X : List Ob) c, gcH H (H ++ X) (.agg [.slc none 0, .slc none 0, .slc none 0, .int .i64 c]) = H := fun X c => gcH_low (by simp [lowV, lowVs])
 have hg3 : ∀ c, gcH H A3 (.agg [.slc none 0, .slc none 0, .slc none 0, .int .i64 c]) = H := fun c => by rw [hS3]; exact hil _ _
 have hgK : ∀ c, gcH H K (.agg [.slc none 0, .slc none 0, .slc none 0, .int .i64 c]) = H := fun c => by rw [hS]; exact hil _ _
 have c0 := i_ManyN hf3
 have cT := i_TreeRight hsK heK
 have cF := i_FilterRight hfK
 have cS := i_isScope (n := sc) (H := K)
 have cR : callW C 99 [.ptr (some (H.length, 0)), .ptr (some (A2.length, 0)), .ptr (some (A1.length, 0))] K = some (.bool (dec (TreeOk t ∧ FilterOk f ∧ 0 ≤ sc ∧ sc ≤ 2)), K) := by
  apply Ret.dec
  rw [op99]
  by_cases k1 : TreeOk t
  rotate_left
  ·rw [dec_neg k1] at cT
   simp [code99, Tryz.f99, ldN, cT, k1, regionL_none, regionL_some, List.lookup]
  rw [dec_pos k1] at cT
  by_cases k2 : FilterOk f
  rotate_left
  ·rw [dec_neg k2] at cF
   simp [code99, Tryz.f99, ldN, ldf, cT, cF, k1, k2, regionL_none, regionL_some, List.lookup]
  rw [dec_pos k2] at cF
  by_cases k3 : 0 ≤ sc ∧ sc ≤ 2
  ·rw [dec_pos k3] at cS
   simp [code99, Tryz.f99, ldN, ldf, lds, cT, cF, cS, k1, k2, k3, regionL_none, regionL_some, List.lookup]
  ·rw [dec_neg k3] at cS
   simp [code99, Tryz.f99, ldN, ldf, lds, cT, cF, cS, k1, k2, regionL_none, regionL_some, List.lookup]
   omega
 have c1 := i_dnsCode1 (g := 99) (b := [.ptr (some (H.length, 0)), .ptr (some (A2.length, 0)), .ptr (some (A1.length, 0))]) gKb hbK cR
 rw [l1, l2, l3] at c1
 rw [l2] at ld3 ldf
 rw [l1] at lds
 by_cases g0 : 400 < f.length
 ·have e : treeSearchOf t base sc f = illT 2 := if_pos (.inr g0)
  rw [e]
  simp [code35, Tryz.f35, hos, hoe, hob, hof, strideOf, fillL, zerosL, St.new, buildV, structPlace, elemT, ← hA1, ← hA2, ← hA3, ← hK, ld3, c0, g0, l1, l2, l3, hg3, regionL_none, regionL_some, List.lookup]
  exact TOut.ill (by decide)
 by_cases g1 : 400 < base.length
 ·have e : treeSearchOf t base sc f = illT 2 := if_pos (.inl g1)
  rw [if_pos g1] at c1
  rw [e]
  simp [code35, Tryz.f35, hos, hoe, hob, hof, strideOf, fillL, zerosL, St.new, buildV, structPlace, elemT, ← hA1, ← hA2, ← hA3, ← hK, ld3, c0, c1, g0, l1, l2, l3, hgK, regionL_none, regionL_some, List.lookup]
  exact TOut.ill (by decide)
 rw [if_neg g1] at c1
 have g01 : ¬ (400 < base.length ∨ 400 < f.length) := fun h => h.elim g1 g0
 by_cases g2 : TreeOk t ∧ DnOk base ∧ FilterOk f ∧ 0 ≤ sc ∧ sc ≤ 2
 rotate_left
 ·have e : treeSearchOf t base sc f = illT 1 := by unfold treeSearchOf; rw [if_neg g01, dec_neg g2]; rfl
  have g2' : ¬ (dec (DnOk base) = true ∧ dec (TreeOk t ∧ FilterOk f ∧ 0 ≤ sc ∧ sc ≤ 2) = true) := fun h => by
   have h1 := dec_true.1 h.1
   have h2 := dec_true.1 h.2
   exact g2 ⟨h2.1, h1, h2.2⟩
  rw [if_neg g2'] at c1
  rw [e]
  simp [code35, Tryz.f35, hos, hoe, hob, hof, strideOf, fillL, zerosL, St.new, buildV, structPlace, elemT, ← hA1, ← hA2, ← hA3, ← hK, ld3, c0, c1, g0, l1, l2, l3, hgK, regionL_none, regionL_some, List.lookup]
  exact TOut.ill (by decide)
 rw [if_pos ⟨dec_pos g2.2.1, dec_pos ⟨g2.1, g2.2.2⟩⟩] at c1
 obtain ⟨gt, gd, gf, gs⟩ := g2
 have e : treeSearchOf t base sc f = if dec (0 < base.length ∧ firstOf keyE t.entries (keyD base) = none) = true then illT 6 else ⟨⟨[], []⟩, foundL t.entries base sc f (knownL t.schema), 0⟩ := by
  unfold treeSearchOf; rw [if_neg g01, dec_pos ⟨gt, gd, gf, gs⟩, if_pos rfl]
 rw [e]
 obtain ⟨q, H', c2, hq⟩ := i_found gKt hsK heK hbK hfK gt gd gf gs
 rcases hq with ⟨k1, rfl, rfl⟩ | ⟨k1, T, w, rfl, rfl, how, hn⟩
 ·rw [dec_pos k1, if_pos rfl]
  simp [code35, Tryz.f35, hos, hoe, hob, hof, strideOf, fillL, zerosL, St.new, buildV, structPlace, elemT, ← hA1, ← hA2, ← hA3, ← hK, ld3, lds, ldf, c0, c1, c2, g0, l1, l2, l3, hgK, regionL_none, regionL_some, List.lookup]
  exact TOut.ill (by decide)
 ·rw [dec_neg k1]
  simp only [Bool.false_eq_true, if_false]
  have fin := TOut.ofL (H := H) (G := K ++ T) (w := w) ⟨S ++ T, by rw [hS, List.append_assoc]⟩ (hn.wide (by rw [hS]; simp) (Nat.le_refl _))
  simp [code35, Tryz.f35, hos, hoe, hob, hof, how, strideOf, fillL, zerosL, St.new, buildV, structPlace, elemT, ← hA1, ← hA2, ← hA3, ← hK, ld3, lds, ldf, c0, c1, c2, g0, l1, l2, l3, regionL_none, regionL_some, List.lookup]
  exact fin
end Go.Proofs.Try1
end
section
namespace Go.Proofs.Try1
open Go Go.Lite
theorem cntP_rdn (x : PRdn) : cntP x.u ≤ 2 := by simp [PRdn.u, cntP, cntPs]
theorem cntP_attr {a : PAttr} (h : a.vals.length ≤ 4) : cntP a.u ≤ 5 := by
 have := cntPs_map (f := strU) (l := a.vals) (k := 1) fun x _ => by simp [strU, cntP]
 simp only [PAttr.u, cntP, cntPs]
 omega
theorem cntP_entry {e : PEntry} (h : EntryOk e) : cntP e.u ≤ 52 := by
 obtain ⟨_, hd, ha⟩ := h
 have h1 := cntPs_map (l := e.dn) fun x _ => cntP_rdn x
 have h2 : cntPs (e.attrs.map PAttr.u) ≤ e.attrs.length * 5 := cntPs_map fun a h => by
  obtain ⟨j, hj, rfl⟩ := List.getElem_of_mem h
  exact cntP_attr (ha.1 j _ (List.getElem?_eq_getElem hj)).2.2.2.2
 have := hd.2
 have := ha.2
 simp only [PEntry.u, cntP, cntPs]
 omega
theorem cnt_illT (c : Int) : cntV (illT c).u ≤ 1000000 := by simp [illT, PTreeOut.u, PTree.u, cntV, cntVs, cntPs]
theorem cnt_found {es : List PEntry} (he : ∀ e ∈ es, EntryOk e) (hl : es.length ≤ 100) : cntV (PTreeOut.u ⟨⟨[], []⟩, es, 0⟩) ≤ 1000000 := by
 have h2 : cntPs (es.map PEntry.u) ≤ es.length * 52 := cntPs_map fun e h => cntP_entry (he e h)
 simp only [PTreeOut.u, PTree.u, cntV, cntVs, List.map_nil, cntPs]
 omega
theorem cnt_treeSearch {t : PTree} {base : List PRdn} {sc : Int} {f : List PNode} : cntV (treeSearchOf t base sc f).u ≤ 1000000 := by
 unfold treeSearchOf
 split
 ·exact cnt_illT 2
 split
 case isFalse => exact cnt_illT 1
 rename_i hok
 obtain ⟨gt, _⟩ := dec_true.1 hok
 split
 ·exact cnt_illT 6
 refine cnt_found (fun e he => TreeOk.dns gt e (List.mem_filter.1 he).1) ?_
 have := foundL_len (l := t.entries) (base := base) (sc := sc) (f := f) (known := knownL t.schema)
 have := gt.2.1.1
 omega
theorem lawTreeSearch {H : List Ob} {vs : List V} {xs : List D} (h : IsArgs H [shTree, .slice shRdn, .int .i64, .slice shNode] vs xs) : ∃ H', callW C 6 vs H = some (.bool true, H') := by
 rcases vs with _ | ⟨v1, _ | ⟨v2, _ | ⟨v3, _ | ⟨v4, _ | ⟨v5, vs⟩⟩⟩⟩⟩ <;> rcases xs with _ | ⟨d1, _ | ⟨d2, _ | ⟨d3, _ | ⟨d4, _ | ⟨d5, xs⟩⟩⟩⟩⟩ <;> first | (exfalso; simp [IsArgs] at h; done) | skip
 obtain ⟨⟨cs1, e1, l1, i1⟩, ⟨cs2, e2, l2, i2⟩, ⟨cs3, e3, l3, i3⟩, ⟨cs4, e4, l4, i4⟩, _⟩ := h
 subst e1; subst e2; subst e3; subst e4
 have h1 := Is.at _ i1
 obtain ⟨t, he⟩ := tree_typed h1
 rw [he] at h1
 have h2 := Is.at _ i2
 obtain ⟨v, l, rfl, hl, _⟩ := ASl.typed (f := PRdn.u) (fun _ _ => rdn_typed) h2
 rw [hl] at h2
 obtain ⟨n, rfl, _, _⟩ := At_int.1 (Is.at _ i3)
 have h4 := Is.at _ i4
 obtain ⟨v', f, rfl, hf, _⟩ := ASl.typed (f := PNode.u) (fun _ _ => node_typed) h4
 rw [hf] at h4
 have key := ret_FnExactTreeSearch (s2 := n) (uR := (treeSearchOf t l n f).u) h1 h2 h4
  (fun G x0 x1 x3 a0 a1 a3 => by
   obtain ⟨w1, w2, rfl, b1, b2⟩ := tree_at.1 a0
   obtain ⟨y, rfl⟩ := list1 (At.len _ a1 : _ = 1)
   obtain ⟨y', rfl⟩ := list1 (At.len _ a3 : _ = 1)
   obtain ⟨q, G', hc, T, y1, y2, y3, rfl, rfl, hn⟩ := s_TreeSearch (sc := n) b1 b2 (base := l) a1 (f := f) a3
   exact ⟨_, [y1, y2, y3, .int .i64 (treeSearchOf t l n f).code], hc, .app, hn.at⟩)
  (fun G x0 x1 x3 a0 a1 a3 => by
   obtain ⟨w1, w2, rfl, b1, b2⟩ := tree_at.1 a0
   obtain ⟨y, rfl⟩ := list1 (At.len _ a1 : _ = 1)
   obtain ⟨y', rfl⟩ := list1 (At.len _ a3 : _ = 1)
   obtain ⟨q, G', hc, T, y1, y2, y3, rfl, rfl, hn⟩ := i_TreeSearch (sc := n) b1 b2 (base := l) a1 (f := f) a3
   exact ⟨_, [y1, y2, y3, .int .i64 (treeSearchOf t l n f).code], hc, .app, hn⟩)
  (by have := cnt_treeSearch (t := t) (base := l) (sc := n) (f := f); omega)
 obtain ⟨r, H', hc, rfl⟩ := key
 exact ⟨H', hc⟩
end Go.Proofs.Try1
end
