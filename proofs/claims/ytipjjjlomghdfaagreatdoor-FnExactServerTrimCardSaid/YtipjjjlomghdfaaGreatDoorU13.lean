/- Part 13 of the proof of a law: the interpreter, its soundness, and what functions of the program compute over it. Conditions: none but those that each theorem names. -/
import Derived.Test.YtipjjjlomghdfaaGreatDoorU12
import Derived.Test.YtipjjjlomghdfaaGreatDoorU07
import Derived.Test.YtipjjjlomghdfaaGreatDoorU08
import Derived.Test.YtipjjjlomghdfaaGreatDoorU11
import Derived.Test.YtipjjjlomghdfaaGreatDoorU06
import Derived.Test.YtipjjjlomghdfaaGreatDoorU09

set_option linter.all false
set_option maxRecDepth 20000
set_option maxHeartbeats 40000000
section
namespace Go.Proofs.Try1
open Go Go.Lite
theorem yC {l : List PAttr} (h : AttrsOk l) (must : List Str) : (must.filter fun t => !decide (0 < (valsOf l t).length)) = must.filter fun t => (firstOf PAttr.name l t).isNone := by
 congr 1
 funext t
 unfold valsOf
 cases hf : firstOf PAttr.name l t with
 | none => rfl
 | some a =>
  have hm := List.mem_of_find?_eq_some hf
  obtain ⟨j, hj, rfl⟩ := List.getElem_of_mem hm
  have := (h.1 j _ (List.getElem?_eq_getElem hj)).2.2.2.1
  simp
  omega
theorem DY {H : List Ob} {ide : Nat} {own : Bool} {vl vd va : V} {l : List PClass} {e : PEntry} (he : H[ide]? = some (.mk own 2 [vd, va])) (hl : AClasses H vl l) (hd : ARdns H vd e.dn) (ha : AAttrs H va e.attrs) (g1 : SchemaOk l) (g2 : EntryOk e) :
  callW C 197 [vl, .ptr (some (ide, 0))] H = some (.bool (dec (FitsOk l e)), H) := by
 apply Ret.dec
 rw [Jj]
 have hgb : ∀ X b, gcH H (H ++ X) (.bool b) = H := fun X b => gcH_bool
 have hod := hd.one
 have hoa := ha.one
 have hpw : e.attrs.Pairwise fun a b => a.name < b.name := fZ (fun j x hx => (g2.2.2.1 j x hx).2.1)
 have hal : e.attrs.length ≤ 1000 := by have := g2.2.2.2; omega
 have hcl : ∀ c ∈ l, c.must.length ≤ 1000 ∧ c.may.length ≤ 1000 ∧ c.single.length ≤ 1000 := fun c hc => by
  obtain ⟨j, hj, rfl⟩ := List.getElem_of_mem hc
  have := (g1.1 j _ (List.getElem?_eq_getElem hj)).1
  have h1 := this.l1; have h2 := this.l2; have h3 := this.l3
  omega
 obtain ⟨T1, cs, ok, c3, hres⟩ := vw he ha hal hpw hl hcl
 rcases hres with ⟨rfl, c, w1, w2, w3, hc1, rfl, q1, q2, q3⟩ | ⟨rfl, hc1, rfl⟩
 rotate_left
 ·simp [iM, Tryz.f197, c3, hgb]
  rintro ⟨c, h1, _⟩
  rw [hc1] at h1
  cases h1
 have hc : c ∈ l := by
  unfold mineOf at hc1
  split at hc1
  ·exact List.mem_of_find?_eq_some hc1
  ·cases hc1
 have hfit : ∀ c', mineOf l e.attrs = some c' → c' = c := fun c' h => by rw [hc1] at h; cases h; rfl
 obtain ⟨T2, w, c4, hb⟩ := vO (H := H ++ T1) (ide := ide) (own := own) (es := 2) (vd := vd) (va := va) (up_append _ _ he) (ha.ext (T := T1)) hal hpw q1 q2.one q3.one (hcl c hc).1
 rw [yC g2.2.2] at hb
 obtain ⟨F, hbF, _, _⟩ := hb
 have hw : AStrs (H ++ T1 ++ T2) w (lacks c e.attrs) := AtF.at _ hbF
 obtain ⟨K, hK⟩ : ∃ K, K = T1 ++ T2 := ⟨_, rfl⟩
 rw [List.append_assoc, ← hK] at c4 hw
 by_cases m1 : lacks c e.attrs = []
 rotate_left
 ·have hl0 : (0 : Int) < (lacks c e.attrs).length := by
   have : (lacks c e.attrs).length ≠ 0 := fun h => m1 (List.length_eq_zero_iff.1 h)
   omega
  simp [iM, Tryz.f197, c3, c4, hgb, q1.one, q2.one, q3.one, hw.len, hl0, m1]
  refine ⟨by omega, ?_⟩
  rintro ⟨c', h1, h2, _⟩
  obtain rfl := hfit c' h1
  exact m1 h2
 have he' : (H ++ K)[ide]? = some (.mk own 2 [vd, va]) := up_append _ _ he
 have ld0 := load1 (o := 0) (v := vd) he' rfl
 have ld1 := load1 (o := 1) (v := va) he' rfl
 have haK := ha.ext (T := K)
 have hdK := hd.ext (T := K)
 have q1K : AStrs (H ++ K) w1 c.must := by have := q1.ext (T := T2); rwa [List.append_assoc, ← hK] at this
 have q2K : AStrs (H ++ K) w2 c.may := by have := q2.ext (T := T2); rwa [List.append_assoc, ← hK] at this
 have q3K : AStrs (H ++ K) w3 c.single := by have := q3.ext (T := T2); rwa [List.append_assoc, ← hK] at this
 simp [iM, Tryz.f197, c3, c4, hgb, q1.one, q2.one, q3.one, hw.len, m1, ld0, ld1, haK.len]
 have hb2 : e.attrs.length ≤ 9223372036854775807 := ha.bound
 refine WP_loop (fun k σ => ∃ (i : Nat) (r : Nat → R), i + k = e.attrs.length ∧ (∀ a ∈ e.attrs.take i, AttrFits c a) ∧ σ = ⟨r, 1 + i, H ++ K⟩ ∧ r 1 = .val (.ptr (some (ide, 0))) ∧ r 5 = .box 0 [.str c.name, w1, w2, w3] ∧ r 27 = .val va ∧ r 28 = .val (.int .i64 e.attrs.length) ∧ r 29 = .val (.int .i64 i)) ?_ e.attrs.length _ ⟨0, _, by omega, by simp, rfl, by simp, by simp, by simp, by simp, by simp⟩
 rintro k σ ⟨i, r, hik, hpre2, rfl, r1, r5, r27, r28, r29⟩
 cases k with
 | zero =>
  have hi : i = e.attrs.length := by omega
  subst hi
  rw [List.take_length] at hpre2
  obtain ⟨x, hx⟩ : ∃ c, e.dn[0]? = some c := ⟨e.dn[0]'g2.1, by simp⟩
  obtain ⟨id, o, e1, l0, l1, _, _⟩ := rdns_idx hdK hx
  simp only [Int.ofNat_eq_natCast, Int.natCast_zero] at e1
  have hid := fJ l0
  rw [List.length_append] at hid
  have hide : ide < H.length + K.length := by have := (List.getElem?_eq_some_iff.1 he).1; omega
  have c5 := bi (t := x.value) (H := H ++ K)
  have c6 := EW (t := x.attr) (n := norm x.value) he' haK hal hpw
  simp [r1, r5, r27, r28, r29, ld0, ld1, e1, l0, l1, hid, hide, c5, c6, hgb, regionL_none, regionL_some, List.lookup]
  by_cases hH : HasOk e.attrs x.attr (norm x.value)
  ·exact .inr ⟨dec_pos hH, c, hc1, m1, hpre2, x, hx, hH⟩
  ·exact .inl ⟨dec_neg hH, fun ⟨_, _, _, _, y, h1, h2⟩ => by rw [hx] at h1; cases h1; exact hH h2⟩
 | succ k =>
  have hi : i < e.attrs.length := by omega
  obtain ⟨a, hs⟩ : ∃ a, e.attrs[i]? = some a := ⟨e.attrs[i], by simp [hi]⟩
  obtain ⟨id2, o2, w, f1, m1, m2, m3, aw, _⟩ := attrs_idx haK hs
  have hw : IntKind.i64.wrap ((i : Int) + 1) = ((i : Int) + 1) := wrap_i64 (by omega) (by omega)
  have d1 := bz (t := a.name) q1K
  have d2 := bz (t := a.name) q2K
  have d3 := bz (t := a.name) q3K
  have hstep : AttrFits c a → ∀ t ∈ e.attrs.take (i + 1), AttrFits c t := fun h t ht => by
   rw [take_get hs] at ht
   rcases List.mem_append.1 ht with h' | h'
   ·exact hpre2 t h'
   ·obtain rfl := List.mem_singleton.1 h'
    exact h
  have hbad : ¬ AttrFits c a → ¬ FitsOk l e := by
   rintro h ⟨c', hc', _, hl', _⟩
   obtain rfl := hfit c' hc'
   exact h (hl' a (List.mem_of_getElem? hs))
  have hvl : (1 : Int) < (a.vals.length : Int) ↔ 1 < a.vals.length := by omega
  by_cases n1 : a.name = [99, 108, 97, 115, 115]
  ·by_cases n4 : 1 < a.vals.length
   ·by_cases n5 : a.name ∈ c.single
    ·rw [dec_pos n5] at d3
     rw [n1] at d1 d2 d3
     simp [r1, r5, r27, r28, r29, hi, f1, m1, m2, m3, d1, d2, d3, aw.len, aw.one, q1.one, q2.one, q3.one, hw, hgb, regionL_none, regionL_some, List.lookup, n1, n4, hvl]
     exact hbad fun h => h.2 ⟨n4, n5⟩
    ·rw [dec_neg n5] at d3
     rw [n1] at d1 d2 d3
     simp [r1, r5, r27, r28, r29, hi, f1, m1, m2, m3, d1, d2, d3, aw.len, aw.one, q1.one, q2.one, q3.one, hw, hgb, regionL_none, regionL_some, List.lookup, n1, n4, hvl]
     exact ⟨k, by omega, i + 1, by omega, hstep ⟨.inl n1, fun h => n5 h.2⟩, _, ⟨rfl, by omega⟩, by simp [r1], by simp [r5], by simp [r27], by simp [r28], by simp⟩
   ·rw [n1] at d1 d2 d3
    simp [r1, r5, r27, r28, r29, hi, f1, m1, m2, m3, d1, d2, d3, aw.len, aw.one, q1.one, q2.one, q3.one, hw, hgb, regionL_none, regionL_some, List.lookup, n1, n4, hvl]
    exact ⟨k, by omega, i + 1, by omega, hstep ⟨.inl n1, fun h => n4 h.1⟩, _, ⟨rfl, by omega⟩, by simp [r1], by simp [r5], by simp [r27], by simp [r28], by simp⟩
  by_cases n2 : a.name ∈ c.must
  ·rw [dec_pos n2] at d1
   by_cases n4 : 1 < a.vals.length
   ·by_cases n5 : a.name ∈ c.single
    ·rw [dec_pos n5] at d3
     simp [r1, r5, r27, r28, r29, hi, f1, m1, m2, m3, d1, d2, d3, aw.len, aw.one, q1.one, q2.one, q3.one, hw, hgb, regionL_none, regionL_some, List.lookup, n1, n4, hvl]
     exact hbad fun h => h.2 ⟨n4, n5⟩
    ·rw [dec_neg n5] at d3
     simp [r1, r5, r27, r28, r29, hi, f1, m1, m2, m3, d1, d2, d3, aw.len, aw.one, q1.one, q2.one, q3.one, hw, hgb, regionL_none, regionL_some, List.lookup, n1, n4, hvl]
     exact ⟨k, by omega, i + 1, by omega, hstep ⟨.inr (.inl n2), fun h => n5 h.2⟩, _, ⟨rfl, by omega⟩, by simp [r1], by simp [r5], by simp [r27], by simp [r28], by simp⟩
   ·simp [r1, r5, r27, r28, r29, hi, f1, m1, m2, m3, d1, d2, d3, aw.len, aw.one, q1.one, q2.one, q3.one, hw, hgb, regionL_none, regionL_some, List.lookup, n1, n4, hvl]
    exact ⟨k, by omega, i + 1, by omega, hstep ⟨.inr (.inl n2), fun h => n4 h.1⟩, _, ⟨rfl, by omega⟩, by simp [r1], by simp [r5], by simp [r27], by simp [r28], by simp⟩
  rw [dec_neg n2] at d1
  by_cases n3 : a.name ∈ c.may
  ·rw [dec_pos n3] at d2
   by_cases n4 : 1 < a.vals.length
   ·by_cases n5 : a.name ∈ c.single
    ·rw [dec_pos n5] at d3
     simp [r1, r5, r27, r28, r29, hi, f1, m1, m2, m3, d1, d2, d3, aw.len, aw.one, q1.one, q2.one, q3.one, hw, hgb, regionL_none, regionL_some, List.lookup, n1, n4, hvl]
     exact hbad fun h => h.2 ⟨n4, n5⟩
    ·rw [dec_neg n5] at d3
     simp [r1, r5, r27, r28, r29, hi, f1, m1, m2, m3, d1, d2, d3, aw.len, aw.one, q1.one, q2.one, q3.one, hw, hgb, regionL_none, regionL_some, List.lookup, n1, n4, hvl]
     exact ⟨k, by omega, i + 1, by omega, hstep ⟨.inr (.inr n3), fun h => n5 h.2⟩, _, ⟨rfl, by omega⟩, by simp [r1], by simp [r5], by simp [r27], by simp [r28], by simp⟩
   ·simp [r1, r5, r27, r28, r29, hi, f1, m1, m2, m3, d1, d2, d3, aw.len, aw.one, q1.one, q2.one, q3.one, hw, hgb, regionL_none, regionL_some, List.lookup, n1, n4, hvl]
    exact ⟨k, by omega, i + 1, by omega, hstep ⟨.inr (.inr n3), fun h => n4 h.1⟩, _, ⟨rfl, by omega⟩, by simp [r1], by simp [r5], by simp [r27], by simp [r28], by simp⟩
  ·rw [dec_neg n3] at d2
   simp [r1, r5, r27, r28, r29, hi, f1, m1, m2, m3, d1, d2, d3, aw.len, aw.one, q1.one, q2.one, q3.one, hw, hgb, regionL_none, regionL_some, List.lookup, n1, hvl]
   exact hbad fun h => by
    rcases h.1 with h | h | h
    ·exact n1 h
    ·exact n2 h
    ·exact n3 h
theorem zM {H : List Ob} {v : V} {l : List PClass} (h : AClasses H v l) : callW C 195 [v] H = some (.bool (decide (400 < l.length)), H) := by
 apply Ret.eq
 rw [EY]
 have hi : (400 : Int) < (l.length : Int) ↔ 400 < l.length := by omega
 simp [rM, Tryz.f195, h.len, hi]
theorem Au {H : List Ob} {vl vd va : V} {l : List PClass} {e : PEntry} (hl : AClasses H vl l) (hd : ARdns H vd e.dn) (ha : AAttrs H va e.attrs) (g1 : SchemaOk l) :
  ∃ r : Int, callW C 111 [vl, .agg [vd, va]] H = some (.int .i64 r, H) ∧ (r = 0 ↔ EntryOk e ∧ FitsOk l e) := by
 suffices hs : Ret C 111 [vl, .agg [vd, va]] H fun q H' => (∃ r : Int, q = .int .i64 r ∧ (r = 0 ↔ EntryOk e ∧ FitsOk l e)) ∧ H' = H by
  obtain ⟨q, H', hc, ⟨r, rfl, hr⟩, rfl⟩ := hs
  exact ⟨r, hc, hr⟩
 rw [Ho]
 have hod := hd.one
 have hoa := ha.one
 have hgi : ∀ X n, gcH H (H ++ X) (.int .i64 n) = H := fun X n => gcH_int
 have c0 := zM (hl.ext (T := [.mk true 2 [vd, va]]))
 have c1 := mO (hl.ext (T := [.mk true 2 [vd, va]]))
 have c2 := tZ (hd.ext (T := [.mk true 2 [vd, va]])) (ha.ext (T := [.mk true 2 [vd, va]]))
 have g0 : ¬ 400 < l.length := by have := g1.2; omega
 rw [dec_pos g1] at c1
 have ld := loadN (H := H ++ [.mk true 2 [vd, va]]) (o := 0) (n := 2) get_last (by simp) (by decide) rfl
 simp at ld
 by_cases g2 : EntryOk e
 rotate_left
 ·rw [dec_neg g2] at c2
  simp [iQ, Tryz.f111, c0, c1, c2, g0, ld, hod, hoa, strideOf, hgi, g2]
 rw [dec_pos g2] at c2
 have c3 := DY (H := H ++ [.mk true 2 [vd, va]]) (ide := H.length) (own := true) get_last hl.ext hd.ext ha.ext g1 g2
 by_cases g3 : FitsOk l e
 ·rw [dec_pos g3] at c3
  simp [iQ, Tryz.f111, c0, c1, c2, c3, g0, ld, hod, hoa, strideOf, hgi, g2, g3]
 ·rw [dec_neg g3] at c3
  simp [iQ, Tryz.f111, c0, c1, c2, c3, g0, ld, hod, hoa, strideOf, hgi, g2, g3]
theorem tV {H : List Ob} {w1 w2 : V} {x : PEntry} {t : Str} (h : ARdns H w1 x.dn) (hd : DnOk x.dn) (ho : isOne w2 = true ∧ cellsOf w2 = some [w2]) : callW C 274 [.agg [w1, w2], .str t] H = some (.int .i64 (dE (keyD x.dn) t), H) := by
 apply Ret.eq
 rw [EX]
 have c1 := um h hd
 simp [pX, Tryz.f274, Bz, c1, h.one, ho]
theorem vU {H : List Ob} {v : V} {l : List PEntry} {t : Str} (h : AEntries H v l) (hl : l.length ≤ 1000) (hok : ∀ x ∈ l, DnOk x.dn) (hp : l.Pairwise fun a b => (keyD a.dn) < (keyD b.dn)) :
  ∃ (i : Nat) (ok : Bool), callW C 273 [v, .str t, .fn 274 [] []] H = some (.tup [.int .i64 i, .bool ok], H) ∧
   i ≤ l.length ∧ (∀ q a, q < i → l[q]? = some a → LtS (keyD a.dn) t) ∧ (∀ q a, i ≤ q → l[q]? = some a → ¬ LtS (keyD a.dn) t) ∧ (ok = true ↔ ∃ a, l[i]? = some a ∧ (keyD a.dn) = t) := by
 suffices hs : Ret C 273 [v, .str t, .fn 274 [] []] H fun q H' =>
   (∃ (i : Nat) (ok : Bool), q = .tup [.int .i64 i, .bool ok] ∧ i ≤ l.length ∧ (∀ q a, q < i → l[q]? = some a → LtS (keyD a.dn) t) ∧ (∀ q a, i ≤ q → l[q]? = some a → ¬ LtS (keyD a.dn) t) ∧ (ok = true ↔ ∃ a, l[i]? = some a ∧ (keyD a.dn) = t)) ∧ H' = H by
  obtain ⟨q, H', hc, ⟨i, ok, rfl, h1⟩, rfl⟩ := hs
  exact ⟨i, ok, hc, h1⟩
 rw [He]
 simp [uI, Tryz.f273, h.len]
 refine WP_loop (fun k σ => ∃ (i j : Nat) (r : Nat → R), j - i = k ∧ i ≤ j ∧ j ≤ l.length ∧ σ = ⟨r, 0, H⟩ ∧ r 0 = .val v ∧ r 1 = .val (.str t) ∧ r 2 = .val (.fn 274 [] []) ∧ r 8 = .val (.int .i64 l.length) ∧ r 9 = .val (.int .i64 i) ∧ r 10 = .val (.int .i64 j) ∧
  (∀ q a, q < i → l[q]? = some a → LtS (keyD a.dn) t) ∧ (∀ q a, j ≤ q → l[q]? = some a → ¬ LtS (keyD a.dn) t)) ?_ l.length _ ⟨0, l.length, _, by omega, by omega, by omega, rfl, by simp, by simp, by simp, by simp, by simp, by simp, fun q a h => by omega, fun q a h1 h2 => by have := (List.getElem?_eq_some_iff.1 h2).1; omega⟩
 rintro k σ ⟨i, j, r, hk, hij, hjl, rfl, r0, r1, r2, r8, r9, r10, hlo, hhi⟩
 cases k with
 | succ k =>
  have hlt : (i : Int) < j := by omega
  have hlt' : i < j := by omega
  have hw1 : IntKind.i64.wrap ((i : Int) + j) = (i : Int) + j := wrap_i64 (by omega) (by omega)
  have hw2 : IntKind.u64.wrap ((i : Int) + j) = (i : Int) + j := by unfold IntKind.wrap; simp [IntKind.bits, IntKind.signed]; omega
  have hq : ((i : Int) + j).fdiv 2 = (((i + j) / 2 : Nat) : Int) := by rw [Int.fdiv_eq_ediv_of_nonneg _ (by omega)]; omega
  obtain ⟨m, hm⟩ : ∃ m, m = (i + j) / 2 := ⟨_, rfl⟩
  rw [← hm] at hq
  have hw3 : IntKind.i64.wrap (m : Int) = m := wrap_i64 (by omega) (by omega)
  have hw4 : IntKind.i64.wrap ((m : Int) + 1) = (m : Int) + 1 := wrap_i64 (by omega) (by omega)
  have hml : m < l.length := by omega
  obtain ⟨a, ha⟩ : ∃ a, l[m]? = some a := ⟨l[m], List.getElem?_eq_getElem hml⟩
  obtain ⟨id, o, w1, w2, e1, l0, l1, l2, hvs, hva, _⟩ := entries_idx h ha
  have c1 := tV (t := t) hvs (hok a (List.mem_of_getElem? ha)) hva.one
  have hord : ∀ q b, l[q]? = some b → (q < m → (keyD b.dn) < (keyD a.dn)) ∧ (m < q → (keyD a.dn) < (keyD b.dn)) := fun q b hb => by
   obtain ⟨hq1, hb⟩ := List.getElem?_eq_some_iff.1 hb
   obtain ⟨_, ha⟩ := List.getElem?_eq_some_iff.1 ha
   have := List.pairwise_iff_getElem.1 hp
   exact ⟨fun hh => by have := this q m hq1 hml hh; rwa [hb, ha] at this, fun hh => by have := this m q hml hq1 hh; rwa [hb, ha] at this⟩
  by_cases g1 : LtS (keyD a.dn) t
  ·have g1' := gY.2 g1
   simp [r0, r1, r2, r8, r9, r10, hlt, hlt', hw1, hw2, hq, hw3, hw4, e1, l2, c1, g1', intShift, IntKind.bits]
   refine ⟨j - (m + 1), by omega, m + 1, j, by omega, by omega, by omega, by omega, rfl, fun q b hq1 hb => ?_, hhi⟩
   by_cases hqm : q = m
   ·subst hqm; rw [ha] at hb; cases hb; exact g1
   ·exact (ah _ _).2 (List.lt_trans ((hord q b hb).1 (by omega)) ((ah _ _).1 g1))
  ·have g1' : ¬ dE (keyD a.dn) t < 0 := mt gY.1 g1
   simp [r0, r1, r2, r8, r9, r10, hlt, hlt', hw1, hw2, hq, hw3, hw4, e1, l2, c1, g1', intShift, IntKind.bits]
   refine ⟨m - i, by omega, i, m, by omega, by omega, by omega, rfl, rfl, hlo, fun q b hq1 hb hlt2 => ?_⟩
   by_cases hqm : q = m
   ·subst hqm; rw [ha] at hb; cases hb; exact g1 hlt2
   ·exact g1 ((ah _ _).2 (List.lt_trans ((hord q b hb).2 (by omega)) ((ah _ _).1 hlt2)))
 | zero =>
  have hij' : i = j := by omega
  subst hij'
  by_cases hil : i < l.length
  ·have hilI : (i : Int) < l.length := by omega
   obtain ⟨a, ha⟩ : ∃ a, l[i]? = some a := ⟨l[i], List.getElem?_eq_getElem hil⟩
   obtain ⟨id, o, w1, w2, e1, l0, l1, l2, hvs, hva, _⟩ := entries_idx h ha
   have c1 := tV (t := t) hvs (hok a (List.mem_of_getElem? ha)) hva.one
   by_cases g1 : (keyD a.dn) = t
   ·have g1' := eQ.2 g1
    simp [r0, r1, r2, r8, r9, r10, hil, e1, l2, c1, g1']
    exact ⟨i, rfl, by omega, hlo, hhi, a, ha, g1⟩
   ·have g1' : ¬ dE (keyD a.dn) t = 0 := mt eQ.1 g1
    simp [r0, r1, r2, r8, r9, r10, hil, e1, l2, c1, g1']
    exact ⟨i, rfl, by omega, hlo, hhi, fun b hb => by rw [ha] at hb; cases hb; exact g1⟩
  ·simp [r0, r1, r2, r8, r9, r10, hil]
   exact ⟨i, rfl, by omega, hlo, hhi, fun b hb => by have := (List.getElem?_eq_some_iff.1 hb).1; omega⟩
theorem uS {H : List Ob} {idt : Nat} {own : Bool} {es : Nat} {vs ve vd : V} {l : List PEntry} {dn : List PRdn} (ht : H[idt]? = some (.mk own es [vs, ve])) (h : AEntries H ve l) (hl : l.length ≤ 1000) (hok : ∀ x ∈ l, DnOk x.dn) (hp : l.Pairwise fun a b => keyD a.dn < keyD b.dn) (hd : ARdns H vd dn) (hdn : DnOk dn) :
  ∃ (i : Nat) (ok : Bool), callW C 201 [.ptr (some (idt, 0)), vd] H = some (.tup [.int .i64 i, .bool ok], H) ∧
   i ≤ l.length ∧ (∀ q a, q < i → l[q]? = some a → LtS (keyD a.dn) (keyD dn)) ∧ (∀ q a, i ≤ q → l[q]? = some a → ¬ LtS (keyD a.dn) (keyD dn)) ∧ (ok = true ↔ ∃ a, l[i]? = some a ∧ keyD a.dn = keyD dn) := by
 obtain ⟨i, ok, c1, h1⟩ := vU (t := keyD dn) h hl hok hp
 refine ⟨i, ok, ?_, h1⟩
 apply Ret.eq
 rw [Ib]
 have c2 := um hd hdn
 have ld := load1 (o := 1) (v := ve) ht rfl
 have hid : idt < H.length := (List.getElem?_eq_some_iff.1 ht).1
 simp [tC, Tryz.f201, c1, c2, ld, hid, regionL_none, regionL_some, List.lookup]
theorem nD {H : List Ob} {idt : Nat} {own : Bool} {es : Nat} {vs ve vd : V} {l : List PEntry} {dn : List PRdn} (ht : H[idt]? = some (.mk own es [vs, ve])) (h : AEntries H ve l) (hl : l.length ≤ 1000) (hok : ∀ x ∈ l, DnOk x.dn) (hp : l.Pairwise fun a b => keyD a.dn < keyD b.dn) (hd : ARdns H vd dn) (hdn : DnOk dn) :
  callW C 115 [.ptr (some (idt, 0)), vd] H = some (.bool (dec (ParentOk l dn)), H) := by
 apply Ret.dec
 rw [F9]
 by_cases g1 : dn.length ≤ 1
 ·have g1' : (dn.length : Int) ≤ 1 := by omega
  simp [iC, Tryz.f115, hd.len, g1']
  exact .inl g1
 have g1' : ¬ (dn.length : Int) ≤ 1 := by omega
 obtain ⟨id, off, own', cells, hv, hcell, at_⟩ := rdns_tail hd (by omega)
 have hst : strideIs H id 2 = true := by simp [strideIs, hcell]
 have q1 : 1 ≤ dn.length := by omega
 obtain ⟨i, ok, c1, hil, hlo, hhi, hok'⟩ := uS ht h hl hok hp at_ hdn.tail
 have hpar : ok = true ↔ ParentOk l dn := by
  rw [hok']
  constructor
  ·rintro ⟨a, ha, he⟩
   exact .inr ⟨a, List.mem_of_getElem? ha, he⟩
  ·rintro (hh | ⟨y, hy, he⟩)
   ·omega
   ·obtain ⟨j, hj, rfl⟩ := List.getElem_of_mem hy
    have hji : ¬ j < i := fun hh => by
     have := hlo j _ hh (List.getElem?_eq_getElem hj)
     rw [he] at this
     exact List.lt_irrefl _ ((ah _ _).1 this)
    have hnl := hhi i
    by_cases hij : i = j
    ·subst hij
     exact ⟨_, List.getElem?_eq_getElem hj, he⟩
    ·have hi2 : i < l.length := by omega
     have h1 := hhi i _ (Nat.le_refl _) (List.getElem?_eq_getElem hi2)
     have h2 := List.pairwise_iff_getElem.1 hp i j hi2 hj (by omega)
     rw [he] at h2
     exact absurd ((ah _ _).2 h2) h1
 rw [hv] at hd ⊢
 cases ok with
 | true =>
  have := hpar.1 rfl
  simp [iC, Tryz.f115, hd.len, g1', hst, q1, c1, this]
 | false =>
  have : ¬ ParentOk l dn := fun hh => by have := hpar.2 hh; cases this
  simp [iC, Tryz.f115, hd.len, g1', hst, q1, c1, this]
theorem kG {H : List Ob} {v : V} {l : List PEntry} {g : Nat} {a b : List V} (h : AEntries H v l) (p : PEntry → Bool) (hg : ∀ x ∈ l, ∀ w1 w2, ARdns H w1 x.dn → AAttrs H w2 x.attrs → callW C g (a ++ ([.agg [w1, w2]] ++ b)) H = some (.bool (p x), H)) :
  ∃ r : Int, callW C 200 [v, .fn g a b] H = some (.int .i64 r, H) ∧ (0 ≤ r ↔ ∃ x ∈ l, p x = true) := by
 suffices hs : Ret C 200 [v, .fn g a b] H fun q H' => (∃ r : Int, q = .int .i64 r ∧ (0 ≤ r ↔ ∃ x ∈ l, p x = true)) ∧ H' = H by
  obtain ⟨q, H', hc, ⟨r, rfl, hr⟩, rfl⟩ := hs
  exact ⟨r, hc, hr⟩
 rw [Ic]
 have hb : l.length ≤ 9223372036854775807 := h.bound
 simp [sK, Tryz.f200, h.len]
 refine WP_loop (fun k σ => ∃ (i : Nat) (r : Nat → R), i + k = l.length ∧ σ = ⟨r, 0, H⟩ ∧ r 0 = .val v ∧ r 1 = .val (.fn g a b) ∧ r 7 = .val (.int .i64 l.length) ∧ r 8 = .val (.int .i64 i) ∧ ∀ j x, j < i → l[j]? = some x → p x = false) ?_ l.length _ ⟨0, _, by simp, rfl, by simp, by simp, by simp, by simp, by simp⟩
 rintro k σ ⟨i, r, hik, rfl, r0, r1, r7, r8, hall⟩
 cases k with
 | zero =>
  have hi : i = l.length := by omega
  subst hi
  have hx := at_all (P := fun j (x : PEntry) => p x = false) hall
  simp [r0, r1, r7, r8]
  intro x hm
  obtain ⟨j, hj, rfl⟩ := List.getElem_of_mem hm
  exact hx j _ (List.getElem?_eq_getElem hj)
 | succ k =>
  have hi : i < l.length := by omega
  obtain ⟨x, hx⟩ : ∃ c, l[i]? = some c := ⟨l[i], by simp [hi]⟩
  have hw : IntKind.i64.wrap ((i : Int) + 1) = ((i : Int) + 1) := wrap_i64 (by omega) (by omega)
  obtain ⟨id, o, w1, w2, e1, l0, l1, lm, a1, a2, _⟩ := entries_idx h hx
  have c1 := hg x (List.mem_of_getElem? hx) w1 w2 a1 a2
  simp only [List.singleton_append] at c1
  have ho1 := a1.one
  have ho2 := a2.one
  cases hp : p x with
  | false =>
   rw [hp] at c1
   simp [r0, r1, r7, r8, hi, e1, lm, c1, hw, ho1, ho2]
   exact ⟨k, by omega, i + 1, by omega, by omega, at_step (P := fun j (x : PEntry) => p x = false) hall hx hp⟩
  | true =>
   rw [hp] at c1
   simp [r0, r1, r7, r8, hi, e1, lm, c1, hw, ho1, ho2]
   exact ⟨x, List.mem_of_getElem? hx, hp⟩
theorem gQ {H : List Ob} {v : V} {l : List PEntry} {g : Nat} {a b : List V} (h : AEntries H v l) (p : PEntry → Bool) (hg : ∀ x ∈ l, ∀ w1 w2, ARdns H w1 x.dn → AAttrs H w2 x.attrs → callW C g (a ++ ([.agg [w1, w2]] ++ b)) H = some (.bool (p x), H)) :
  callW C 113 [v, .fn g a b] H = some (.bool (dec (∃ x ∈ l, p x = true)), H) := by
 obtain ⟨r, c1, hr⟩ := kG h p hg
 apply Ret.dec
 rw [Jg]
 by_cases g1 : 0 ≤ r
 ·have := hr.1 g1
  simp [kN, Tryz.f113, c1, g1]
  exact this
 ·have : ¬ ∃ x ∈ l, p x = true := fun h => g1 (hr.2 h)
  simp [kN, Tryz.f113, c1, g1]
  intro x hx
  cases hp : p x with
  | false => rfl
  | true => exact absurd ⟨x, hx, hp⟩ this
theorem y9 {H : List Ob} {idt : Nat} {own : Bool} {es : Nat} {vs ve w1 w2 : V} {l : List PEntry} {x : PEntry} (ht : H[idt]? = some (.mk own es [vs, ve])) (h : AEntries H ve l) (hl : l.length ≤ 1000) (hok : ∀ x ∈ l, DnOk x.dn) (hp : l.Pairwise fun a b => keyD a.dn < keyD b.dn) (hd : ARdns H w1 x.dn) (ho : isOne w2 = true ∧ cellsOf w2 = some [w2]) (hx : DnOk x.dn) :
  callW C 114 [.agg [w1, w2], .ptr (some (idt, 0))] H = some (.bool (!dec (ParentOk l x.dn)), H) := by
 apply Ret.eq
 rw [Jo]
 have c1 := nD ht h hl hok hp hd hx
 simp [tY, Tryz.f114, c1, hd.one, ho]
theorem nz {H : List Ob} {vs ve : V} {t : PTree} (hs : AClasses H vs t.schema) (h : AEntries H ve t.entries) : callW C 47 [.agg [vs, ve]] H = some (.bool (dec (TreeOk t)), H) := by
 apply Ret.dec
 rw [Qd]
 have hos := hs.one
 have hoe := h.one
 have hgb : ∀ X b, gcH H (H ++ X) (.bool b) = H := fun X b => gcH_bool
 obtain ⟨K, hK⟩ : ∃ K, K = H ++ [.mk true 2 [vs, ve]] := ⟨_, rfl⟩
 have hKt : K[H.length]? = some (.mk true 2 [vs, ve]) := by rw [hK]; exact get_last
 have hsK : AClasses K vs t.schema := by rw [hK]; exact hs.ext
 have hK2 : AEntries K ve t.entries := by rw [hK]; exact h.ext
 have ld0 := load1 (o := 0) (v := vs) hKt rfl
 have ld1 := load1 (o := 1) (v := ve) hKt rfl
 have hgK : ∀ b, gcH H K (.bool b) = H := fun b => by rw [hK]; exact gcH_bool
 have hKl : H.length < K.length := by rw [hK]; simp
 have c1 := mO hsK
 by_cases g1 : SchemaOk t.schema
 rotate_left
 ·rw [dec_neg g1] at c1
  simp [lL, Tryz.f47, hos, hoe, strideOf, ← hK, ld0, c1, hgK]
  exact fun h => g1 h.1
 rw [dec_pos g1] at c1
 by_cases g2 : 20 < t.entries.length
 ·have g2' : (20 : Int) < t.entries.length := by omega
  simp [lL, Tryz.f47, hos, hoe, strideOf, ← hK, ld0, ld1, c1, hK2.len, g2', hgK]
  exact fun h => by have := h.2.1.1; omega
 have g2' : ¬ (20 : Int) < t.entries.length := by omega
 simp [lL, Tryz.f47, hos, hoe, strideOf, ← hK, ld0, ld1, c1, hK2.len, g2']
 have hb : t.entries.length ≤ 20 := by omega
 refine WP_loop (fun k σ => ∃ (i n : Nat) (r : Nat → R), i + k = t.entries.length ∧ σ = ⟨r, n, K⟩ ∧ r 1 = .val (.ptr (some (H.length, 0))) ∧ r 16 = .val ve ∧ r 17 = .val (.int .i64 t.entries.length) ∧ r 18 = .val (.int .i64 i) ∧ ∀ j x, j < i → t.entries[j]? = some x → EntryOk x ∧ FitsOk t.schema x ∧ PrevLt (fun e => keyD e.dn) t.entries j x) ?_ t.entries.length _ ⟨0, _, _, by omega, rfl, by simp, by simp, by simp, by simp, by simp⟩
 rintro k σ ⟨i, n, r, hik, rfl, r1, r16, r17, r18, hall⟩
 cases k with
 | zero =>
  have hi : i = t.entries.length := by omega
  subst hi
  have hE := at_all (P := fun j (x : PEntry) => EntryOk x ∧ FitsOk t.schema x ∧ PrevLt (fun e => keyD e.dn) t.entries j x) hall
  have hdn : ∀ x ∈ t.entries, DnOk x.dn := fun x hx => by
   obtain ⟨j, hj, rfl⟩ := List.getElem_of_mem hx
   exact (hE j _ (List.getElem?_eq_getElem hj)).1.2.1
  have hpw : t.entries.Pairwise fun a b => keyD a.dn < keyD b.dn := fZ (key := fun e => keyD e.dn) (fun j x hx => (hE j x hx).2.2)
  have c2 := gQ (g := 114) (a := []) (b := [.ptr (some (H.length, 0))]) hK2 (fun x => !dec (ParentOk t.entries x.dn)) (fun x hx w1 w2 a1 a2 => y9 hKt hK2 (by omega) hdn hpw a1 a2.one (hdn x hx))
  by_cases g3 : ∀ x ∈ t.entries, ParentOk t.entries x.dn
  ·have hn : ¬ ∃ x ∈ t.entries, (!dec (ParentOk t.entries x.dn)) = true := by
    rintro ⟨x, hx, he⟩
    rw [dec_pos (g3 x hx)] at he
    cases he
   rw [dec_neg hn] at c2
   have hT : TreeOk t := ⟨g1, ⟨hb, hE⟩, g3⟩
   simp [r1, r16, r17, r18, ld0, ld1, c2, hgK, hT]
  ·have hn : ∃ x ∈ t.entries, (!dec (ParentOk t.entries x.dn)) = true := by
    refine Classical.byContradiction fun hh => g3 fun x hx => Classical.byContradiction fun hp => hh ⟨x, hx, by rw [dec_neg hp]; rfl⟩
   rw [dec_pos hn] at c2
   have hT : ¬ TreeOk t := fun h => g3 h.2.2
   simp [r1, r16, r17, r18, ld0, ld1, c2, hgK, hT]
 | succ k =>
  have hi : i < t.entries.length := by omega
  obtain ⟨x, hx⟩ : ∃ c, t.entries[i]? = some c := ⟨t.entries[i], by simp [hi]⟩
  have hw : IntKind.i64.wrap ((i : Int) + 1) = ((i : Int) + 1) := wrap_i64 (by omega) (by omega)
  obtain ⟨id, o, w1, w2, e1, l0, l1, lm, a1, a2, _⟩ := entries_idx hK2 hx
  have hid := fJ l0
  obtain ⟨f, c3, hf⟩ := Au hsK a1 a2 g1
  have hstep := fun h => at_step (P := fun j (x : PEntry) => EntryOk x ∧ FitsOk t.schema x ∧ PrevLt (fun e => keyD e.dn) t.entries j x) hall hx h
  have ho1 := a1.one
  have ho2 := a2.one
  by_cases q1 : EntryOk x ∧ FitsOk t.schema x
  rotate_left
  ·have hf0 : ¬ f = 0 := fun e => q1 (hf.1 e)
   have hn : ¬ TreeOk t := fun hd => q1 ⟨(hd.2.1.2 i x hx).1, (hd.2.1.2 i x hx).2.1⟩
   simp [r1, r16, r17, r18, hi, e1, l0, l1, lm, ld0, ld1, hid, hKl, c3, hf0, hn, ho1, ho2, hgK, regionL_none, regionL_some, List.lookup]
  have hf0 : f = 0 := hf.2 q1
  subst hf0
  by_cases hi0 : i = 0
  ·have := hstep ⟨q1.1, q1.2, fun y hy => by omega⟩
   subst hi0
   simp at e1
   simp [r1, r16, r17, r18, hi, e1, l0, l1, lm, ld0, ld1, hid, hKl, c3, ho1, ho2, hgK, regionL_none, regionL_some, List.lookup]
   exact ⟨k, by omega, 1, by omega, _, _, ⟨rfl, rfl⟩, by simp [r1], by simp [r16], by simp [r17], by simp, this⟩
  ·have hip : 0 < i := by omega
   obtain ⟨y, hy⟩ : ∃ c, t.entries[i - 1]? = some c := ⟨t.entries[i - 1]'(by omega), by simp⟩
   obtain ⟨id', o', w1', w2', e1', l0', _, _, a1', _⟩ := entries_idx hK2 hy
   have hid' := fJ l0'
   have hyok := (hall (i - 1) y (by omega) hy).1
   have c4 := um a1 q1.1.2.1
   have c5 := um a1' hyok.2.1
   have hw1 : IntKind.i64.wrap ((i : Int) - 1) = ((i - 1 : Nat) : Int) := by rw [wrap_i64 (by omega) (by omega)]; omega
   by_cases q3 : LtS (keyD y.dn) (keyD x.dn)
   ·have := hstep ⟨q1.1, q1.2, fun z _ hz => by rw [hy] at hz; cases hz; exact q3⟩
    simp [r1, r16, r17, r18, hi, e1, l0, l1, lm, ld0, ld1, hid, hid', hKl, c3, c4, c5, e1', l0', hw, hw1, hip, aQ q3, ho1, ho2, hgK, regionL_none, regionL_some, List.lookup]
    exact ⟨k, by omega, i + 1, by omega, _, _, ⟨rfl, rfl⟩, by simp [r1], by simp [r16], by simp [r17], by simp, this⟩
   ·have hn : ¬ TreeOk t := fun hd => q3 ((hd.2.1.2 i x hx).2.2 y hip hy)
    simp [r1, r16, r17, r18, hi, e1, l0, l1, lm, ld0, ld1, hid, hid', hKl, c3, c4, c5, e1', l0', hw, hw1, hip, aY q3, ho1, ho2, hgK, regionL_none, regionL_some, List.lookup, hn]
def NOut (H : List Ob) (o : PEntryOut) (q : V) (H' : List Ob) : Prop := ∃ T w1 w2, q = .agg [w1, w2, .int .i64 o.code] ∧ H' = H ++ T ∧ New H.length (H ++ T).length (H ++ T) shEntryOut [w1, w2, .int .i64 o.code] o.u
theorem NOut.ill {H : List Ob} {c : Int} (h : (Lit.int .i64 c).wf = true) : NOut H (illE c) (.agg [.slc none 0, .slc none 0, .int .i64 c]) H :=
 ⟨[], .slc none 0, .slc none 0, rfl, by simp, New.st (News.cons (c1 := [.slc none 0, .slc none 0]) (m := H.length) (New.st (News.nilS (News.nilS News.nil))) (News.int h News.nil) (Nat.le_refl _) (by simp))⟩
theorem NOut.of {H G : List Ob} {e : PEntry} {w1 w2 : V} (hT : ∃ T, G = H ++ T) (hn : New H.length G.length G shEntry [w1, w2] e.u) : NOut H ⟨e, 0⟩ (.agg [w1, w2, .int .i64 0]) (gcH H G (.agg [w1, w2, .int .i64 0])) := by
 obtain ⟨T, rfl⟩ := hT
 have h2 : New H.length (H ++ T).length (H ++ T) shEntryOut [w1, w2, .int .i64 0] (PEntryOut.u ⟨e, 0⟩) := New.st (News.cons (c1 := [w1, w2]) (m := (H ++ T).length) hn (News.int (by decide) News.nil) (by simp) (Nat.le_refl _))
 obtain ⟨T', h3, h4⟩ := h2.gcA
 exact ⟨T', w1, w2, rfl, h3, h4⟩
def NOutB (b : Nat) (H : List Ob) (o : PEntryOut) (q : V) (H' : List Ob) : Prop := ∃ T w1 w2, q = .agg [w1, w2, .int .i64 o.code] ∧ H' = H ++ T ∧ New b (H ++ T).length (H ++ T) shEntryOut [w1, w2, .int .i64 o.code] o.u
theorem NOutB.base {H : List Ob} {X : List Ob} {o : PEntryOut} {q : V} {H' : List Ob} (h : NOutB H.length (H ++ X) o q H') : NOut H o q (gcH H H' q) := by
 obtain ⟨T, w1, w2, rfl, rfl, h3⟩ := h
 rw [List.append_assoc] at h3 ⊢
 obtain ⟨T', h4, h5⟩ := h3.gcA
 exact ⟨T', w1, w2, rfl, h4, h5⟩
theorem NOutB.one {b : Nat} {H : List Ob} {o : PEntryOut} {q : V} {H' : List Ob} (h : NOutB b H o q H') : ∃ w1 w2, q = .agg [w1, w2, .int .i64 o.code] ∧ (isOne w1 = true ∧ cellsOf w1 = some [w1]) ∧ (isOne w2 = true ∧ cellsOf w2 = some [w2]) := by
 obtain ⟨T, w1, w2, rfl, rfl, h3⟩ := h
 obtain ⟨_, _, hcs, a1, a2, _⟩ := entryOut_at.1 h3.at
 cases hcs
 exact ⟨w1, w2, rfl, a1.one, a2.one⟩

end Go.Proofs.Try1
end
section
namespace Go.Lite
open Go
section
variable {α : Type} {G : List Ob} {sh : Sh} {f : α → U} {v : V} {l : List α} {F : List Nat}
theorem chunk_take {D : List V} {s i j : Nat} (h : j * s + s ≤ i * s) : ((D.take (i * s)).drop (j * s)).take s = (D.drop (j * s)).take s := by
 apply List.ext_getElem?
 intro q
 by_cases hq : q < s
 ·rw [List.getElem?_take_of_lt hq, List.getElem?_take_of_lt hq, List.getElem?_drop, List.getElem?_take_of_lt (by omega), List.getElem?_drop]
 ·rw [List.getElem?_eq_none (by simp; omega), List.getElem?_eq_none (by simp; omega)]
end
section
variable {α : Type} {G : List Ob} {sh : Sh} {f : α → U} {v : V} {l : List α} {F : List Nat}
end
section
variable {α : Type} {G : List Ob} {sh : Sh} {f : α → U} {v : V} {l : List α} {F : List Nat}
end
def Rw (s : Nat) (B G : List Ob) (v : V) (n : Nat) (cs : List V) : Prop :=
 (∃ T, G = B ++ T) ∧ cs.length = n * s ∧ ((v = .slc none 0 ∧ n = 0) ∨ ∃ id, v = .slc (some (id, 0)) n ∧ B.length ≤ id ∧ G[id]? = some (.mk true s cs))
section
variable {s n m : Nat} {B G : List Ob} {v : V} {cs xs : List V}
theorem Rw.nil : Rw s B B (.slc none 0) 0 [] := ⟨⟨[], by simp⟩, by simp, .inl ⟨rfl, rfl⟩⟩
theorem Rw.init (hB : ∃ T, G = B ++ T) : Rw s B (G ++ [.mk true s []]) (.slc (some (G.length, 0)) 0) 0 [] := by
 obtain ⟨T, rfl⟩ := hB
 exact ⟨⟨T ++ [.mk true s []], by simp⟩, by simp, .inr ⟨(B ++ T).length, rfl, by simp, get_last⟩⟩
theorem Rw.pre (h : Rw s B G v n cs) : ∃ T, G = B ++ T := h.1
theorem Rw.ext {T : List Ob} (h : Rw s B G v n cs) : Rw s B (G ++ T) v n cs := by
 obtain ⟨⟨S, rfl⟩, h2, h3⟩ := h
 exact ⟨⟨S ++ T, by simp⟩, h2, h3.imp id fun ⟨id, q1, q2, q3⟩ => ⟨id, q1, q2, up_append _ _ q3⟩⟩
theorem Rw.one (h : Rw s B G v n cs) : isOne v = true ∧ cellsOf v = some [v] := by
 rcases h.2.2 with ⟨rfl, _⟩ | ⟨id, rfl, _⟩ <;> exact ⟨rfl, rfl⟩
theorem Rw.many (h : Rw s B G v n cs) {d : LD} {by_ : Nat} {z : List V} {x : V} (hx : newCells ⟨d, s, by_, z⟩ G x = some (xs, m)) (hm : xs.length = m * s) (ho : xs.all isOne = true)
  (hz : z.length = s) (h0 : 0 < s) (hb0 : 0 < by_) (hb1 : by_ ≤ 1000000) (hb : (n + m) * by_ ≤ maxMade) :
  ∃ v' G', appendV ⟨d, s, by_, z⟩ G v x = some (v', G') ∧ Rw s B G' v' (n + m) (cs ++ xs) := by
 by_cases hm0 : m = 0
 ·subst hm0
  have hx0 : xs = [] := List.length_eq_zero_iff.1 (by omega)
  subst hx0
  refine ⟨v, G, ?_, by simpa using h⟩
  unfold appendV
  rw [if_pos (by simp [growOk, h0, hb0, hb1, hz]), hx]
  simp only [if_true]
  rcases h.2.2 with ⟨rfl, _⟩ | ⟨id, rfl, _⟩ <;> rfl
 obtain ⟨⟨T, rfl⟩, h2, h3⟩ := h
 rcases h3 with ⟨rfl, rfl⟩ | ⟨id, rfl, q2, q3⟩
 ·have hc0 : cs = [] := List.length_eq_zero_iff.1 (by omega)
  subst hc0
  refine ⟨_, _, appendV_nil hz h0 hb0 hb1 hx hm0 ho (by simpa using hb), ⟨T ++ [.mk true s xs], by simp⟩, by simp [hm], .inr ⟨(B ++ T).length, by simp, by simp, ?_⟩⟩
  rw [List.nil_append]; exact get_last
 ·refine ⟨_, _, appendV_row hz h0 hb0 hb1 q3 h2 hx hm0 ho hb, ⟨T.set (id - B.length) .dead ++ [.mk true s (cs ++ xs)], ?_⟩, by simp [h2, hm, Nat.add_mul], .inr ⟨(B ++ T).length, rfl, by simp, ?_⟩⟩
  ·rw [List.set_append_right _ _ q2, List.append_assoc]
  ·have hl : ((B ++ T).set id .dead).length = (B ++ T).length := List.length_set
   rw [← hl, get_last]
end
def RowsOk (B : List Ob) (sh : Sh) (cs : List V) (us : List U) (Fs : List (List Nat)) : Prop :=
 cs.length = us.length * sh.size ∧ Fs.length = us.length ∧ ∀ i x F, us[i]? = some x → Fs[i]? = some F → AtF B sh ((cs.drop (i * sh.size)).take sh.size) x F
section
variable {B G : List Ob} {sh : Sh} {cs cs' : List V} {us us' : List U} {Fs Fs' : List (List Nat)} {v : V}
theorem RowsOk.nil : RowsOk B sh [] [] [] := ⟨by simp, rfl, fun i x F h => by cases h⟩
theorem RowsOk.one {c : List V} {x : U} {F : List Nat} (h : AtF B sh c x F) : RowsOk B sh c [x] [F] := by
 have hl : c.length = sh.size := At.len _ (AtF.at _ h)
 refine ⟨by simp [hl], rfl, fun i y K hy hK => ?_⟩
 cases i with
 | zero => cases hy; cases hK; rw [Nat.zero_mul, List.drop_zero, List.take_of_length_le (by omega)]; exact h
 | succ i => cases hy
theorem RowsOk.take (h : RowsOk B sh cs us Fs) {k : Nat} (hk : k ≤ us.length) : RowsOk B sh (cs.take (k * sh.size)) (us.take k) (Fs.take k) := by
 obtain ⟨h1, h2, h3⟩ := h
 have hm : k * sh.size ≤ us.length * sh.size := Nat.mul_le_mul_right _ hk
 refine ⟨by simp [Nat.min_eq_left hk]; omega, by simp; omega, fun i x F hx hF => ?_⟩
 have hi : i < k := by have := (List.getElem?_eq_some_iff.1 hx).1; simp at this; omega
 rw [List.getElem?_take_of_lt hi] at hx hF
 have hs : i * sh.size + sh.size ≤ k * sh.size := mul_step hi
 have := h3 i x F hx hF
 rw [chunk_take hs]
 exact this
theorem RowsOk.drop (h : RowsOk B sh cs us Fs) {k : Nat} (hk : k ≤ us.length) : RowsOk B sh (cs.drop (k * sh.size)) (us.drop k) (Fs.drop k) := by
 obtain ⟨h1, h2, h3⟩ := h
 refine ⟨by simp [h1, Nat.sub_mul], by simp; omega, fun i x F hx hF => ?_⟩
 rw [List.getElem?_drop] at hx hF
 have := h3 (k + i) x F hx hF
 rw [List.drop_drop, ← Nat.add_mul]
 exact this
theorem RowsOk.append (h : RowsOk B sh cs us Fs) (h' : RowsOk B sh cs' us' Fs') : RowsOk B sh (cs ++ cs') (us ++ us') (Fs ++ Fs') := by
 obtain ⟨h1, h2, h3⟩ := h
 obtain ⟨k1, k2, k3⟩ := h'
 refine ⟨by simp [h1, k1, Nat.add_mul], by simp [h2, k2], fun i x F hx hF => ?_⟩
 by_cases hi : i < us.length
 ·rw [List.getElem?_append_left hi] at hx
  rw [List.getElem?_append_left (by omega)] at hF
  have hs : i * sh.size + sh.size ≤ us.length * sh.size := mul_step hi
  rw [List.drop_append_of_le_length (by omega), List.take_append_of_le_length (by simp; omega)]
  exact h3 i x F hx hF
 ·obtain ⟨t, rfl⟩ : ∃ t, i = us.length + t := ⟨i - us.length, by omega⟩
  rw [List.getElem?_append_right (by omega)] at hx hF
  rw [show us.length + t - us.length = t by omega] at hx
  rw [show us.length + t - Fs.length = t by omega] at hF
  have e : (us.length + t) * sh.size = cs.length + t * sh.size := by rw [Nat.add_mul, h1]
  rw [e, List.drop_append, List.drop_eq_nil_of_le (by omega), List.nil_append, Nat.add_sub_cancel_left]
  exact k3 t x F hx hF
theorem RowsOk.ones (h : RowsOk B sh cs us Fs) : cs.all isOne = true := by
 refine rows_ones (n := us.length) (s := sh.size) h.1 fun j hj => ?_
 have hF : j < Fs.length := by rw [h.2.1]; exact hj
 exact At.ones _ (AtF.at _ (h.2.2 j us[j] Fs[j] (List.getElem?_eq_getElem hj) (List.getElem?_eq_getElem hF)))
theorem RowsOk.mem (h : RowsOk B sh cs us Fs) : ∀ q ∈ Fs.flatten, q < B.length := fun q hq => by
 obtain ⟨F, hF, hq⟩ := List.mem_flatten.1 hq
 obtain ⟨i, hi, rfl⟩ := List.getElem_of_mem hF
 have hi' : i < us.length := by rw [← h.2.1]; exact hi
 exact AtF.mem _ (h.2.2 i us[i] Fs[i] (List.getElem?_eq_getElem hi') (List.getElem?_eq_getElem hi)) q hq
theorem RowsOk.frame (h : RowsOk B sh cs us Fs) (hG : ∀ q ∈ Fs.flatten, G[q]? = B[q]?) : RowsOk G sh cs us Fs :=
 ⟨h.1, h.2.1, fun i x F hx hF => AtF.frame _ (fun q hq => hG q (List.mem_flatten.2 ⟨F, List.mem_of_getElem? hF, hq⟩)) (h.2.2 i x F hx hF)⟩
theorem AtF.rows {F : List Nat} (h : AtF B (.slice sh) [v] (.lst us) F) (hn : F.Nodup) : ∃ p cs Fs, v = .slc p us.length ∧ RowsOk B sh cs us Fs ∧ Fs.flatten.Nodup ∧ (∀ q ∈ Fs.flatten, q ∈ F) ∧
  ((p = none ∧ us = []) ∨ ∃ id off cells, p = some (id, off) ∧ B[id]? = some (.mk true sh.size cells) ∧ id ∈ F ∧ id ∉ Fs.flatten ∧
   ∀ (d : LD) (by_ : Nat) (z : List V) (G : List Ob) (lo hi : Nat), G[id]? = B[id]? → lo ≤ hi → hi ≤ us.length →
    newCells ⟨d, sh.size, by_, z⟩ G (.slc (some (id, off + lo * sh.size)) (hi - lo)) = some ((cs.drop (lo * sh.size)).take ((hi - lo) * sh.size), hi - lo)) := by
 obtain ⟨w, us', hw, hus, hlen, h⟩ := AtF_slice.1 h
 cases hw
 cases hus
 rcases h with ⟨rfl, rfl, rfl⟩ | ⟨id, off, cells, Fs, rfl, h2, h3, h4, rfl, h6⟩
 ·exact ⟨none, [], [], rfl, RowsOk.nil, by simp, by simp, .inl ⟨rfl, rfl⟩⟩
 ·obtain ⟨hn1, hn2⟩ := List.nodup_cons.1 hn
  have hcl : ((cells.drop off).take (us.length * sh.size)).length = us.length * sh.size := by simp; omega
  refine ⟨some (id, off), (cells.drop off).take (us.length * sh.size), Fs, rfl, ⟨hcl, h4, fun i x F hx hF => ?_⟩, hn2, fun q hq => List.mem_cons_of_mem _ hq, .inr ⟨id, off, cells, rfl, h2, List.mem_cons_self, hn1, fun d by_ z G lo hi hG hlo hhi => ?_⟩⟩
  ·rw [row_chunk h3 (List.getElem?_eq_some_iff.1 hx).1]
   exact h6 i x F hx hF
  ·have e1 : lo * sh.size + (hi - lo) * sh.size = hi * sh.size := by rw [← Nat.add_mul]; congr 1; omega
   have e2 : hi * sh.size ≤ us.length * sh.size := Nat.mul_le_mul_right _ hhi
   have e3 : (((cells.drop off).take (us.length * sh.size)).drop (lo * sh.size)).take ((hi - lo) * sh.size) = (cells.drop (off + lo * sh.size)).take ((hi - lo) * sh.size) := by
    rw [List.drop_take, List.take_take, List.drop_drop, Nat.min_eq_left (by omega)]
   rw [e3]
   simp only [newCells, slcCells, hG, h2]
   by_cases h0 : (hi - lo) * sh.size = 0
   ·rw [if_pos h0, h0, List.take_zero]
   ·rw [if_neg h0]
    unfold rdCells
    rw [if_pos (by omega)]
end
section
variable {H S X : List Ob} {l : List Nat} {k : Nat} {o : Ob}
end
end Go.Lite
end
section
namespace Go.Lite
open Go
variable {H T : List Ob}
theorem ASl.shape {α : Type} {sh : Sh} {f : α → U} {v : V} {l : List α} (h : ASl H sh f v l) : ∃ p, v = .slc p l.length := by
 rcases h.sub with ⟨rfl, rfl⟩ | ⟨id, off, own, cells, rfl, _⟩ <;> exact ⟨_, rfl⟩
end Go.Lite
end
section
namespace Go.Lite
open Go
section
variable {B G : List Ob} {sh : Sh} {cs xs : List V} {us : List U} {Fs : List (List Nat)} {v : V} {s n m : Nat}
end
def srcH (H : List Ob) (id : Nat) (v : V) (a m z : Int) : List Ob := H.set id (.mk true 4 [v, .int .i64 a, .int .u64 m, .int .i64 z])
section
variable {H T : List Ob} {id : Nat} {v : V} {a m z a' m' z' : Int}
theorem srcH_at (h : id < H.length) : (srcH H id v a m z)[id]? = some (.mk true 4 [v, .int .i64 a, .int .u64 m, .int .i64 z]) := List.getElem?_set_self h
theorem srcH_ne {q : Nat} (h : q ≠ id) : (srcH H id v a m z)[q]? = H[q]? := List.getElem?_set_ne fun e => h e.symm
theorem srcH_app (h : id < H.length) : srcH H id v a m z ++ T = srcH (H ++ T) id v a m z := by
 unfold srcH; rw [set_app h]
end
def strFirst : Sh → Bool
 | .st (.str :: _) => true
 | _ => false
mutual
def okS : Sh → Bool
 | .slice e => (e.size != 4 || strFirst e) && okS e
 | .st fs => okSs fs
 | _ => true
def okSs : List Sh → Bool
 | [] => true
 | f :: fs => okS f && okSs fs
end
section
variable {H : List Ob} {id : Nat} {v : V} {a m z a' m' z' : Int}
mutual
theorem At.src (hid : id < H.length) (hv : ∃ p n, v = .slc p n) : ∀ (sh : Sh) {cs : List V} {u : U}, okS sh = true → At (srcH H id v a m z) sh cs u → At (srcH H id v a' m' z') sh cs u
 | .int k, _, _, _, h => by simpa only [At] using h
 | .bool, _, _, _, h => by simpa only [At] using h
 | .str, _, _, _, h => by simpa only [At] using h
 | .slice e, _, _, ho, h => by
  simp only [okS, Bool.and_eq_true, Bool.or_eq_true, bne_iff_ne, ne_eq] at ho
  simp only [At] at h ⊢
  obtain ⟨w, l, h1, h2, h3, h4⟩ := h
  refine ⟨w, l, h1, h2, h3, ?_⟩
  rcases h4 with h4 | ⟨i, off, own, cells, h5, h6, h7, h8⟩
  ·exact .inl h4
  ·by_cases hi : i = id
   ·subst hi
    rw [srcH_at hid] at h6
    simp only [Option.some.injEq, Ob.mk.injEq] at h6
    obtain ⟨rfl, h6, rfl⟩ := h6
    have hs := ho.1.resolve_left fun hn => hn h6.symm
    refine .inr ⟨i, off, true, [v, .int .i64 a', .int .u64 m', .int .i64 z'], h5, by rw [srcH_at hid, h6], by simpa using h7, fun j x hx => ?_⟩
    exfalso
    have hj := (List.getElem?_eq_some_iff.1 hx).1
    rw [← h6] at h7 h8
    simp only [List.length_cons, List.length_nil] at h7
    have hl : l.length = 1 := by omega
    have ho0 : off = 0 := by omega
    have hj0 : j = 0 := by omega
    subst ho0 hj0
    have := h8 0 x hx
    obtain ⟨p, n, rfl⟩ := hv
    match e, hs, this with
    | .st (.str :: fs), _, this =>
     obtain ⟨us, _, h9⟩ := At_st.1 this
     obtain ⟨c1, c2, u1, us1, hc, _, h10, _⟩ := Ats_cons.1 h9
     obtain ⟨s, rfl, _⟩ := At_str.1 h10
     simp at hc
   ·refine .inr ⟨i, off, own, cells, h5, by rw [srcH_ne hi] at h6 ⊢; exact h6, h7, fun j x hx => At.src hid hv e ho.2 (h8 j x hx)⟩
 | .st fs, _, _, ho, h => by
  simp only [okS] at ho
  simp only [At] at h ⊢
  obtain ⟨us, h1, h2⟩ := h
  exact ⟨us, h1, Ats.src hid hv fs ho h2⟩
theorem Ats.src (hid : id < H.length) (hv : ∃ p n, v = .slc p n) : ∀ (fs : List Sh) {cs : List V} {us : List U}, okSs fs = true → Ats (srcH H id v a m z) fs cs us → Ats (srcH H id v a' m' z') fs cs us
 | [], _, _, _, h => by simpa only [Ats] using h
 | f :: fs, _, _, ho, h => by
  simp only [okSs, Bool.and_eq_true] at ho
  simp only [Ats] at h ⊢
  obtain ⟨c1, c2, u, us', h1, h2, h3, h4⟩ := h
  exact ⟨c1, c2, u, us', h1, h2, At.src hid hv f ho.1 h3, Ats.src hid hv fs ho.2 h4⟩
end
theorem At.srcApp {T : List Ob} (hid : id < H.length) (hv : ∃ p n, v = .slc p n) {sh : Sh} {cs : List V} {u : U} (ho : okS sh = true) (h : At (srcH H id v a m z) sh cs u) : At (srcH (H ++ T) id v a' m' z') sh cs u := by
 have := At.ext (T := T) (At.src (a' := a') (m' := m') (z' := z') hid hv sh ho h)
 rwa [srcH_app hid] at this
structure SrcOk (H : List Ob) (id : Nat) (v : V) (n : Nat) (a m z : Int) : Prop where
 lt : id < H.length
 bytes : ∃ us : List U, us.length = n ∧ At (srcH H id v a m z) (.slice (.int .u8)) [v] (.lst us)
 at0 : 0 ≤ a
 at1 : a ≤ n
 m0 : 0 ≤ m
 m1 : m < 18446744073709551616
 z0 : 0 ≤ z
 z1 : z ≤ 12
theorem SrcOk.slc {n : Nat} (h : SrcOk H id v n a m z) : ∃ p k, v = .slc p k := by
 obtain ⟨us, _, hb⟩ := h.bytes
 obtain ⟨w, l, e, _, _, hs⟩ := At_slice.1 hb
 cases e
 rcases hs with ⟨rfl, _⟩ | ⟨i, off, own, cells, rfl, _⟩ <;> exact ⟨_, _, rfl⟩
theorem SrcOk.to {n : Nat} (h : SrcOk H id v n a m z) (h0 : 0 ≤ a') (h1 : a' ≤ n) (h2 : 0 ≤ m') (h3 : m' < 18446744073709551616) : SrcOk H id v n a' m' z := by
 obtain ⟨us, hl, hb⟩ := h.bytes
 exact ⟨h.lt, ⟨us, hl, At.src h.lt h.slc _ (by simp [okS, Sh.size]) hb⟩, h0, h1, h2, h3, h.z0, h.z1⟩
theorem SrcOk.app {n : Nat} {T : List Ob} (h : SrcOk H id v n a m z) : SrcOk (H ++ T) id v n a m z := by
 obtain ⟨us, hl, hb⟩ := h.bytes
 exact ⟨by have := h.lt; simp; omega, ⟨us, hl, At.srcApp h.lt h.slc (by simp [okS, Sh.size]) hb⟩, h.at0, h.at1, h.m0, h.m1, h.z0, h.z1⟩
def Drew (H : List Ob) (id : Nat) (v : V) (n : Nat) (z : Int) (H' : List Ob) : Prop := ∃ T a m, H' = srcH (H ++ T) id v a m z ∧ SrcOk (H ++ T) id v n a m z
theorem Drew.up {n : Nat} {H' : List Ob} (hs : SrcOk H id v n a m z) (h : Drew H id v n z H') {sh : Sh} {cs : List V} {u : U} (ho : okS sh = true) (hat : At (srcH H id v a m z) sh cs u) : At H' sh cs u := by
 obtain ⟨T, a', m', rfl, _⟩ := h
 exact At.srcApp hs.lt hs.slc ho hat
theorem Drew.trans {n : Nat} {H1 H2 : List Ob} (h : Drew H id v n z H1) (k : ∀ T a m, H1 = srcH (H ++ T) id v a m z → SrcOk (H ++ T) id v n a m z → Drew (H ++ T) id v n z H2) : Drew H id v n z H2 := by
 obtain ⟨T, a1, m1, e, hs⟩ := h
 obtain ⟨T', a2, m2, rfl, hs'⟩ := k T a1 m1 e hs
 exact ⟨T ++ T', a2, m2, by rw [List.append_assoc], by rw [← List.append_assoc]; exact hs'⟩
theorem Drew.gc {n : Nat} {H' : List Ob} {r : V} (hs : SrcOk H id v n a m z) (h : Drew H id v n z H') : Drew H id v n z (gcH (srcH H id v a m z) H' r) := by
 unfold gcH
 split
 ·exact ⟨[], a, m, by simp, by simpa using hs⟩
 ·exact h
theorem Drew.refl {n : Nat} (hs : SrcOk H id v n a m z) : Drew H id v n z (srcH H id v a m z) := ⟨[], a, m, by simp, by simpa using hs⟩
end
def EnR (b : Nat) (G : List Ob) (w1 w2 : V) (e : PEntry) : Prop := ARdns G w1 e.dn ∧ ((w2 = .slc none 0 ∧ e.attrs = []) ∨ ∃ id cs, b ≤ id ∧ w2 = .slc (some (id, 0)) e.attrs.length ∧ G[id]? = some (.mk true 2 cs) ∧ cs.length = e.attrs.length * 2 ∧ ARdns (G.set id .dead) w1 e.dn ∧ ∀ (i : Nat) x, e.attrs[i]? = some x → At (G.set id .dead) shAttr ((cs.drop (i * 2)).take 2) x.u)
section
variable {b b' : Nat} {G T K : List Ob} {w1 w2 w : V} {e : PEntry} {dn : List PRdn} {l : List PAttr}
theorem EnR.ext (h : EnR b G w1 w2 e) : EnR b (G ++ T) w1 w2 e := by
 obtain ⟨h0, h | ⟨id, cs, hb, h1, h2, h3, h4, h5⟩⟩ := h
 ·exact ⟨h0.ext, .inl h⟩
 ·have hid := (List.getElem?_eq_some_iff.1 h2).1
  exact ⟨h0.ext, .inr ⟨id, cs, hb, h1, up_append _ _ h2, h3, by rw [set_app hid]; exact h4.ext, fun i x hx => by rw [set_app hid]; exact (h5 i x hx).ext⟩⟩
theorem EnR.wide (h : EnR b G w1 w2 e) (hb : b' ≤ b) : EnR b' G w1 w2 e := ⟨h.1, h.2.imp id fun ⟨i, cs, h1, h2⟩ => ⟨i, cs, Nat.le_trans hb h1, h2⟩⟩
theorem EnR.attrs (h : EnR b G w1 w2 e) (hl : e.attrs.length ≤ maxLen) : AAttrs G w2 e.attrs := by
 obtain ⟨_, ⟨rfl, h0⟩ | ⟨id, cs, _, rfl, h2, h3, _, h5⟩⟩ := h
 ·rw [h0]
  exact At_slice.2 ⟨_, _, rfl, rfl, by simp, .inl ⟨rfl, rfl⟩⟩
 ·refine At_slice.2 ⟨_, _, rfl, rfl, by simpa using hl, .inr ⟨id, 0, true, cs, by simp, h2, by simp; omega, fun i x hx => ?_⟩⟩
  rw [List.getElem?_map] at hx
  obtain ⟨y, hy, rfl⟩ := Option.map_eq_some_iff.1 hx
  rw [Nat.zero_add]
  exact (h5 i y hy).undead
theorem EnR.nil (hd : ARdns G w1 dn) : EnR b G w1 (.slc none 0) ⟨dn, []⟩ := ⟨hd, .inl ⟨rfl, rfl⟩⟩
theorem EnR.push {x : PAttr} {c : List V} {d : LD} {z : List V} (h : EnR b G w1 w2 e) (hb : b ≤ G.length) (hc : c.length = 2) (hx : ∀ id, id < G.length → At ((G ++ T).set id .dead) shAttr c x.u) (hx0 : At (G ++ T) shAttr c x.u) (hz : z.length = 2) (hl : e.attrs.length ≤ 1000000) :
  ∃ v' G', appendV ⟨d, 2, 40, z⟩ (G ++ T ++ [.mk true 2 c]) w2 (.slc (some ((G ++ T).length, 0)) 1) = some (v', G') ∧ EnR b G' w1 v' ⟨e.dn, e.attrs ++ [x]⟩ ∧ G.length ≤ G'.length ∧ (∀ q, q < b → G'[q]? = G[q]?) ∧ ∀ q, q < G.length → G'[q]? = G[q]? ∨ ∃ own cells, G[q]? = some (.mk own 2 cells) := by
 have hco := At.ones _ hx0
 have hnew := newCells_tmp (d := d) (by_ := 40) (z := z) (G := G ++ T) (es := 2) (c := c) (by omega)
 rw [hc] at hnew
 obtain ⟨h0, ⟨rfl, hn⟩ | ⟨id, cs, hbi, rfl, h2, h3, h4, h5⟩⟩ := h
 ·refine ⟨_, _, appendV_nil hz (by decide) (by decide) (by decide) hnew (by decide) hco (by decide), ⟨h0.ext.ext.ext, .inr ⟨_, c, ?_, by simp [hn], get_last, by simp [hn, hc], ?_, fun i y hy => ?_⟩⟩, by simp, fun q hq => ?_, fun q hq => .inl ?_⟩
  ·simp; omega
  ·rw [set_last]; exact h0.ext.ext.ext
  ·rw [set_last]
   rw [hn] at hy
   have : i = 0 := by
    have := (List.getElem?_eq_some_iff.1 hy).1
    simp at this; omega
   subst this
   cases hy
   rw [Nat.zero_mul, List.drop_zero, List.take_of_length_le (by omega)]
   exact hx0.ext.ext
  ·rw [List.append_assoc, List.append_assoc, List.getElem?_append_left (by omega)]
  ·rw [List.append_assoc, List.append_assoc, List.getElem?_append_left (by omega)]
 ·have hid := (List.getElem?_eq_some_iff.1 h2).1
  have h2' : (G ++ T ++ [Ob.mk true 2 c])[id]? = some (.mk true 2 cs) := by rw [List.append_assoc]; exact up_append _ _ h2
  have hl2 : ((G ++ T ++ [Ob.mk true 2 c]).set id .dead).length = (G ++ T ++ [Ob.mk true 2 c]).length := List.length_set
  have hset : (G ++ T ++ [Ob.mk true 2 c]).set id .dead = (G ++ T).set id .dead ++ [.mk true 2 c] := set_app (by simp; omega)
  have hG : (G ++ T).set id .dead = G.set id .dead ++ T := set_app hid
  refine ⟨_, _, appendV_row hz (by decide) (by decide) (by decide) h2' h3 hnew (by decide) hco (by unfold maxMade; omega), ⟨?_, .inr ⟨(G ++ T ++ [Ob.mk true 2 c]).length, cs ++ c, ?_, by simp, ?_, by simp [h3, hc, Nat.add_mul], ?_, fun i y hy => ?_⟩⟩, by simp; omega, fun q hq => ?_, fun q hq => ?_⟩
  ·rw [hset, hG]; exact h4.ext.ext.ext
  ·simp; omega
  ·rw [← hl2, get_last]
  ·rw [← hl2, set_last, hset, hG]; exact h4.ext.ext.ext
  ·rw [← hl2, set_last, hset]
   have key := row_snoc (n := e.attrs.length) (s := 2) (cs := cs) (c := c) h3 hc (P := fun i cc => ∀ y, (e.attrs ++ [x])[i]? = some y → At ((G ++ T).set id .dead ++ [Ob.mk true 2 c] ++ [.dead]) shAttr cc y.u) (fun i hi y hy => by
     rw [List.getElem?_append_left hi] at hy
     rw [hG]
     exact (h5 i y hy).ext.ext.ext) (fun y hy => by
     simp at hy
     subst hy
     exact (hx id hid).ext.ext)
   have hi : i < e.attrs.length + 1 := by
    have := (List.getElem?_eq_some_iff.1 hy).1
    simpa using this
   exact key i hi y hy
  ·rw [List.getElem?_append_left (by rw [hl2]; simp; omega), List.getElem?_set_ne (by omega), List.append_assoc, List.getElem?_append_left (by omega)]
  ·by_cases hqi : id = q
   ·subst hqi; exact .inr ⟨_, _, h2⟩
   ·exact .inl (by rw [List.getElem?_append_left (by rw [hl2]; simp; omega), List.getElem?_set_ne hqi, List.append_assoc, List.getElem?_append_left (by omega)])
end
def SrcAt (G : List Ob) (id : Nat) (v : V) : Prop := (∃ a m z, G[id]? = some (.mk true 4 [v, .int .i64 a, .int .u64 m, .int .i64 z])) ∧ ∃ p n, v = .slc p n
def Ev (id : Nat) (G G' : List Ob) : Prop := G.length ≤ G'.length ∧ ∀ q, q ≠ id → q < G.length → G'[q]? = G[q]?
section
variable {id : Nat} {v : V} {G G1 G2 T : List Ob}
theorem Ev.refl : Ev id G G := ⟨Nat.le_refl _, fun _ _ _ => rfl⟩
theorem Ev.trans (h : Ev id G G1) (h' : Ev id G1 G2) : Ev id G G2 := ⟨Nat.le_trans h.1 h'.1, fun q hq hl => by rw [h'.2 q hq (Nat.lt_of_lt_of_le hl h.1), h.2 q hq hl]⟩
theorem Ev.app : Ev id G (G ++ T) := ⟨by simp, fun q _ hl => List.getElem?_append_left hl⟩
theorem Ev.gc {r : V} (h : Ev id G G1) : Ev id G (gcH G G1 r) := by
 unfold gcH
 split
 ·exact .refl
 ·exact h
theorem New.ev {b e : Nat} {sh : Sh} {cs : List V} {u : U} (h : New b e G sh cs u) (hid : id < b) (he : e ≤ G.length) (hE : Ev id G G1) : New b e G1 sh cs u :=
 h.frame fun q h1 h2 => hE.2 q (by omega) (by omega)
theorem At.ev {sh : Sh} {cs : List V} {u : U} (ho : okS sh = true) (hs : SrcAt G id v) (h1 : SrcAt G1 id v) (hE : Ev id G G1) (h : At G sh cs u) : At G1 sh cs u := by
 obtain ⟨⟨a, m, z, e⟩, hv⟩ := hs
 obtain ⟨⟨a', m', z', e'⟩, _⟩ := h1
 have hl := (List.getElem?_eq_some_iff.1 e').1
 have e1 : G1 = srcH G1 id v a' m' z' := by
  apply List.ext_getElem?
  intro q
  by_cases hq : q = id
  ·subst hq; rw [srcH_at hl, e']
  ·rw [srcH_ne hq]
 rw [e1]
 refine At.src (a := a) (m := m) (z := z) hl hv sh ho (At.upL (fun q own es cells hq => ?_) sh h)
 by_cases hqi : q = id
 ·subst hqi; rw [srcH_at hl, ← e]; exact hq
 ·rw [srcH_ne hqi, hE.2 q hqi (List.getElem?_eq_some_iff.1 hq).1]; exact hq
theorem EnR.ev {b : Nat} {w1 w2 : V} {e : PEntry} (hs : SrcAt G id v) (h1 : SrcAt G1 id v) (hE : Ev id G G1) (h : EnR b G w1 w2 e) : EnR b G1 w1 w2 e := by
 obtain ⟨h0, h | ⟨i, cs, hb, q1, q2, q3, q4, q5⟩⟩ := h
 ·exact ⟨At.ev (by decide) hs h1 hE h0, .inl h⟩
 ·have hi := (List.getElem?_eq_some_iff.1 q2).1
  have hne : i ≠ id := by
   rintro rfl
   obtain ⟨⟨a, m, z, e⟩, _⟩ := hs
   rw [q2] at e
   simp at e
  have hk : ∀ {X : List Ob}, SrcAt X id v → SrcAt (X.set i .dead) id v := fun {X} ⟨⟨a, m, z, e⟩, hv⟩ => ⟨⟨a, m, z, by rw [List.getElem?_set_ne hne]; exact e⟩, hv⟩
  have hE' : Ev id (G.set i .dead) (G1.set i .dead) := ⟨by simpa using hE.1, fun q hq hl => by
   rw [List.length_set] at hl
   by_cases hqi : i = q
   ·subst hqi
    rw [List.getElem?_set_self hi, List.getElem?_set_self (Nat.lt_of_lt_of_le hi hE.1)]
   ·rw [List.getElem?_set_ne hqi, List.getElem?_set_ne hqi]
    exact hE.2 q hq hl⟩
  exact ⟨At.ev (by decide) hs h1 hE h0, .inr ⟨i, cs, hb, q1, by rw [hE.2 i hne hi]; exact q2, q3, At.ev (by decide) (hk hs) (hk h1) hE' q4, fun j x hx => At.ev (by decide) (hk hs) (hk h1) hE' (q5 j x hx)⟩⟩
end
end Go.Lite
end
section
namespace Go.Proofs.Try1
open Go Go.Lite
def gu (e : PEntry) : Prop := e.dn.length ≤ 1048576 ∧ e.attrs.length ≤ 1048576 ∧ ∀ a ∈ e.attrs, a.vals.length ≤ 1048576
theorem zA {H : List Ob} {vd va : V} {e : PEntry} (hd : ARdns H vd e.dn) (ha : AAttrs H va e.attrs) (hb : gu e) :
  ∃ T w1 w2, callW C 243 [.agg [vd, va]] H = some (.agg [w1, w2], H ++ T) ∧ New H.length (H ++ T).length (H ++ T) shEntry [w1, w2] e.u := by
 suffices hs : Ret C 243 [.agg [vd, va]] H fun q H' => ∃ T w1 w2, q = .agg [w1, w2] ∧ H' = H ++ T ∧ New H.length (H ++ T).length (H ++ T) shEntry [w1, w2] e.u by
  obtain ⟨q, H', hc, T, w1, w2, rfl, rfl, hr⟩ := hs
  exact ⟨T, w1, w2, hc, hr⟩
 rw [Jm]
 have hod := hd.one
 have hoa := ha.one
 obtain ⟨w1, T1, a1, n1⟩ := append_clone (d := .struct [(0, 9), (1, 9)]) (by_ := 32) (z := [.str [], .str []]) (sz := 2) hd rfl rfl rfl (by decide) (by decide) (by decide) (by have := hb.1; unfold maxMade; omega)
 have hb2 := hb.2.1
 have how := New.one1 n1
 simp [ui, Tryz.f243, hod, hoa, elemT, fillL, zerosL, St.new, strideOf, a1, buildV, structPlace, how]
 obtain ⟨K, hK⟩ : ∃ K, K = H ++ T1 := ⟨_, rfl⟩
 rw [← hK] at n1 ⊢
 have haK : AAttrs K va e.attrs := by rw [hK]; exact ha.ext
 refine WP_loop (fun k σ => ∃ (i : Nat) (r : Nat → R) (G : List Ob) (w : V), i + k = e.attrs.length ∧ σ = ⟨r, 3, G⟩ ∧ r 1 = .box 0 [vd, va] ∧ r 2 = .box 1 [.slc none 0, .slc none 0] ∧ r 3 = .box 2 [w1, w] ∧ r 4 = .val (.int .i64 i) ∧ LstF K G shAttr PAttr.u w (e.attrs.take i)) ?_ e.attrs.length _ ⟨0, _, K, .slc none 0, by simp, rfl, by simp, by simp, by simp, by simp, by simpa using LstF.nil⟩
 rintro k σ ⟨i, r, G, w, hik, rfl, r1, r2, r3, r4, hG⟩
 obtain ⟨S, hS⟩ := hG.pre
 have haG : AAttrs G va e.attrs := by rw [hS]; exact haK.ext
 have hwo := hG.one
 cases k with
 | zero =>
  have hi : i = e.attrs.length := by omega
  subst hi
  rw [List.take_length] at hG
  have n2 := hG.new ha.bound
  have hne : New H.length G.length G shEntry [w1, w] e.u := by
   refine New.st (News.cons (m := K.length) (c1 := [w1]) ?_ (News.one n2 (by rw [hS]; simp)) (by rw [hK]; simp) (by rw [hS]; simp))
   rw [hS]; exact n1.ext
  obtain ⟨T', hg, hn⟩ := (show New H.length G.length (H ++ (T1 ++ S)) shEntry [w1, w] e.u by rw [← List.append_assoc, ← hK, ← hS]; exact hne).gcA
  rw [← List.append_assoc, ← hK, ← hS] at hg
  simp [r1, r2, r3, r4, haG.len, hg, how, hwo]
  exact ⟨T', w1, w, ⟨rfl, rfl⟩, rfl, by simpa using hn⟩
 | succ k =>
  have hi : i < e.attrs.length := by omega
  obtain ⟨x, hx⟩ : ∃ c, e.attrs[i]? = some c := ⟨e.attrs[i], by simp [hi]⟩
  have hw : IntKind.i64.wrap ((i : Int) + 1) = ((i : Int) + 1) := wrap_i64 (by omega) (by omega)
  obtain ⟨id, o, wx, ex, lx, hvx, hnx, hidx, _⟩ := attrs_idxT ha hx
  have hGH : G = H ++ (T1 ++ S) := by rw [hS, hK, List.append_assoc]
  obtain ⟨l0, l1, l2⟩ := lx G ⟨_, hGH⟩
  obtain ⟨l0', l1', l2'⟩ := lx (G ++ [.mk true 1 []]) ⟨_, by rw [hGH, List.append_assoc]⟩
  have hidG : id < G.length := by rw [hGH]; simp; omega
  have hvG : AStrs G wx x.vals := by rw [hGH]; exact hvx.ext
  have hbx := hb.2.2 x (List.mem_of_getElem? hx)
  obtain ⟨wv, T2, a2, n2⟩ := append_clone (d := .str) (by_ := 16) (z := [.str []]) (sz := 1) hvG rfl rfl rfl (by decide) (by decide) (by decide) (by unfold maxMade; omega)
  have hel : New G.length (G ++ T2).length (G ++ T2) shAttr [.str x.name, wv] x.u := New.st (News.str hnx (News.one n2 (by simp)))
  obtain ⟨w', G', a3, hG', _, _⟩ := hG.push (T := T2) (d := .struct [(0, 9), (1, 148)]) (by_ := 40) (z := [.str [], .slc none 0]) (sz := 2) hel rfl rfl (by decide) (by decide) (by decide) (by simp; unfold maxMade; omega)
  rw [← take_get hx] at hG'
  have hwv := New.one1 n2
  have hk : Keep G.length (G ++ [.mk true 1 []]) (G ++ T2) := Keep_ext (Nat.le_refl _)
  have hw' := hG'.one
  simp only [List.append_assoc, List.length_append] at a3
  simp [r1, r2, r3, r4, hi, haG.len, ex, l0, l1, hidG, a2, a3, hk, Keep_append, elemT, fillL, zerosL, St.new, buildV, structPlace, hod, hoa, hwv, hwo, hw', hw, List.lookup]
  exact ⟨k, by omega, i + 1, by omega, _, _, ⟨rfl, rfl⟩, by simp [r1], by simp [r2], w', by simp, by simp, hG'⟩
section
variable {pre : List PAttr} {a : PAttr} {n : Str} {vs : List Str} {done : Bool}
end
theorem EntryOk.small {e : PEntry} (h : EntryOk e) : gu e := by
 obtain ⟨_, h1, h2⟩ := h
 refine ⟨by have := h1.2; omega, by have := h2.2; omega, fun a ha => ?_⟩
 obtain ⟨j, hj, rfl⟩ := List.getElem_of_mem ha
 have := (h2.1 j _ (List.getElem?_eq_getElem hj)).2.2.2.2
 omega
theorem Ai {H : List Ob} {c : Int} (h : (Lit.int .i64 c).wf = true) : At H shEntryOut [.slc none 0, .slc none 0, .int .i64 c] (illE c).u :=
 entryOut_at.2 ⟨_, _, rfl, At_slice.2 ⟨_, _, rfl, rfl, by simp [illE], .inl ⟨rfl, rfl⟩⟩, At_slice.2 ⟨_, _, rfl, rfl, by simp [illE], .inl ⟨rfl, rfl⟩⟩, h⟩
def EOut (H : List Ob) (o : PEntryOut) (q : V) (H' : List Ob) : Prop := ∃ T w1 w2, q = .agg [w1, w2, .int .i64 o.code] ∧ H' = H ++ T ∧ At (H ++ T) shEntryOut [w1, w2, .int .i64 o.code] o.u ∧ gcH H (H ++ T) (.agg [w1, w2, .int .i64 o.code]) = H ++ T ∧ (o.code = 0 → ¬ lowV H w2) ∧ (o.code ≠ 0 → w1 = .slc none 0 ∧ w2 = .slc none 0 ∧ T = []) ∧ (o.code = 0 → EnR H.length (H ++ T) w1 w2 o.entry)
theorem EOut.ill {H : List Ob} {c : Int} (h : (Lit.int .i64 c).wf = true ∧ c ≠ 0) : EOut H (illE c) (.agg [.slc none 0, .slc none 0, .int .i64 c]) H :=
 ⟨[], .slc none 0, .slc none 0, rfl, by simp, by rw [List.append_nil]; exact Ai h.1, by rw [List.append_nil]; exact gcH_same, fun hc => absurd hc h.2, fun _ => ⟨rfl, rfl, rfl⟩, fun hc => absurd hc h.2⟩
theorem mG {H : List Ob} {v : V} {l : List PRdn} (h : ARdns H v l) (hl : l.length ≤ 1048576) :
  ∃ T w, callW C 247 [v] H = some (w, H ++ T) ∧ New H.length (H ++ T).length (H ++ T) (.slice shRdn) [w] (.lst (l.map PRdn.u)) := by
 suffices hs : Ret C 247 [v] H fun q H' => ∃ T, H' = H ++ T ∧ New H.length (H ++ T).length (H ++ T) (.slice shRdn) [q] (.lst (l.map PRdn.u)) by
  obtain ⟨q, H', hc, T, rfl, hr⟩ := hs
  exact ⟨T, q, hc, hr⟩
 rw [FK]
 obtain ⟨w, T1, a1, n1⟩ := append_clone (d := .struct [(0, 9), (1, 9)]) (by_ := 32) (z := [.str [], .str []]) (sz := 2) h rfl rfl rfl (by decide) (by decide) (by decide) (by unfold maxMade; omega)
 obtain ⟨T', hg, hn⟩ := n1.gc1
 rcases h.sub with ⟨rfl, rfl⟩ | ⟨id, off, own, cells, rfl, _⟩
 ·simp [lq, Tryz.f247]
  exact New.nil
 ·simp [lq, Tryz.f247, elemT, fillL, zerosL, St.new, a1, hg]
  simpa using hn
theorem dD {H : List Ob} {v : V} {l : List Str} (h : AStrs H v l) (hl : l.length ≤ 1048576) :
  ∃ T w, callW C 248 [v] H = some (w, H ++ T) ∧ New H.length (H ++ T).length (H ++ T) (.slice .str) [w] (.lst (l.map strU)) := by
 suffices hs : Ret C 248 [v] H fun q H' => ∃ T, H' = H ++ T ∧ New H.length (H ++ T).length (H ++ T) (.slice .str) [q] (.lst (l.map strU)) by
  obtain ⟨q, H', hc, T, rfl, hr⟩ := hs
  exact ⟨T, q, hc, hr⟩
 rw [BJ]
 obtain ⟨w, T1, a1, n1⟩ := append_clone (d := .str) (by_ := 16) (z := [.str []]) (sz := 1) h rfl rfl rfl (by decide) (by decide) (by decide) (by unfold maxMade; omega)
 obtain ⟨T', hg, hn⟩ := n1.gc1
 rcases h.sub with ⟨rfl, rfl⟩ | ⟨id, off, own, cells, rfl, _⟩
 ·simp [dP, Tryz.f248]
  exact New.nil
 ·simp [dP, Tryz.f248, elemT, fillL, zerosL, St.new, a1, hg]
  simpa using hn
theorem mV {H : List Ob} {vd va : V} {e : PEntry} (hd : ARdns H vd e.dn) (ha : AAttrs H va e.attrs) (hb : gu e) :
  ∃ T w1 w2, callW C 307 [.agg [vd, va]] H = some (.agg [w1, w2], H ++ T) ∧ New H.length (H ++ T).length (H ++ T) shEntry [w1, w2] e.u := by
 suffices hs : Ret C 307 [.agg [vd, va]] H fun q H' => ∃ T w1 w2, q = .agg [w1, w2] ∧ H' = H ++ T ∧ New H.length (H ++ T).length (H ++ T) shEntry [w1, w2] e.u by
  obtain ⟨q, H', hc, T, w1, w2, rfl, rfl, hr⟩ := hs
  exact ⟨T, w1, w2, hc, hr⟩
 rw [Jd]
 have hod := hd.one
 have hoa := ha.one
 obtain ⟨T1, w1, a1, n1⟩ := mG hd hb.1
 have hb2 := hb.2.1
 have how := New.one1 n1
 obtain ⟨K, hK⟩ : ∃ K, K = H ++ T1 := ⟨_, rfl⟩
 rw [← hK] at n1 a1
 have haK : AAttrs K va e.attrs := by rw [hK]; exact ha.ext
 simp [sG, Tryz.f307, hod, hoa, a1, buildV, structPlace, fillL, how, haK.len]
 refine WP_loop (fun k σ => ∃ (i n : Nat) (r : Nat → R) (G : List Ob) (w : V), i + k = e.attrs.length ∧ σ = ⟨r, n, G⟩ ∧ r 2 = .box 1 [.slc none 0, .slc none 0] ∧ r 3 = .box 2 [w1, w] ∧ r 11 = .val va ∧ r 12 = .val (.int .i64 e.attrs.length) ∧ r 13 = .val (.int .i64 i) ∧ LstF K G shAttr PAttr.u w (e.attrs.take i)) ?_ e.attrs.length _ ⟨0, 3, _, K, .slc none 0, by simp, rfl, by simp, by simp, by simp, by simp, by simp, by simpa using LstF.nil⟩
 rintro k σ ⟨i, cn, r, G, w, hik, rfl, r2, r3, r11, r12, r13, hG⟩
 obtain ⟨S, hS⟩ := hG.pre
 have haG : AAttrs G va e.attrs := by rw [hS]; exact haK.ext
 have hwo := hG.one
 cases k with
 | zero =>
  have hi : i = e.attrs.length := by omega
  subst hi
  rw [List.take_length] at hG
  have n2 := hG.new ha.bound
  have hne : New H.length G.length G shEntry [w1, w] e.u := by
   refine New.st (News.cons (m := K.length) (c1 := [w1]) ?_ (News.one n2 (by rw [hS]; simp)) (by rw [hK]; simp) (by rw [hS]; simp))
   rw [hS]; exact n1.ext
  obtain ⟨T', hg, hn⟩ := (show New H.length G.length (H ++ (T1 ++ S)) shEntry [w1, w] e.u by rw [← List.append_assoc, ← hK, ← hS]; exact hne).gcA
  rw [← List.append_assoc, ← hK, ← hS] at hg
  simp [r2, r3, r11, r12, r13, hg, how, hwo]
  exact ⟨T', w1, w, ⟨rfl, rfl⟩, rfl, by simpa using hn⟩
 | succ k =>
  have hi : i < e.attrs.length := by omega
  obtain ⟨x, hx⟩ : ∃ c, e.attrs[i]? = some c := ⟨e.attrs[i], by simp [hi]⟩
  have hw : IntKind.i64.wrap ((i : Int) + 1) = ((i : Int) + 1) := wrap_i64 (by omega) (by omega)
  obtain ⟨id, o, wx, ex, lx, hvx, hnx, hidx, _⟩ := attrs_idxT ha hx
  have hGH : G = H ++ (T1 ++ S) := by rw [hS, hK, List.append_assoc]
  obtain ⟨l0, l1, l2⟩ := lx G ⟨_, hGH⟩
  have hvG : AStrs G wx x.vals := by rw [hGH]; exact hvx.ext
  have hox := hvG.one
  have hbx := hb.2.2 x (List.mem_of_getElem? hx)
  obtain ⟨T2, wv, a2, n2⟩ := dD hvG hbx
  have hel : New G.length (G ++ T2).length (G ++ T2) shAttr [.str x.name, wv] x.u := New.st (News.str hnx (News.one n2 (by simp)))
  obtain ⟨w', G', a3, hG', _, _⟩ := hG.push (T := T2) (d := .struct [(0, 9), (1, 148)]) (by_ := 40) (z := [.str [], .slc none 0]) (sz := 2) hel rfl rfl (by decide) (by decide) (by decide) (by simp; unfold maxMade; omega)
  rw [← take_get hx] at hG'
  have hwv := New.one1 n2
  have hw' := hG'.one
  simp only [List.append_assoc, List.length_append] at a3
  simp [r2, r3, r11, r12, r13, hi, ex, l0, l1, l2, a2, a3, Keep_append, elemT, fillL, zerosL, St.new, buildV, structPlace, hod, hoa, hox, hwv, hwo, hw', hw, List.lookup]
  exact ⟨k, by omega, i + 1, by omega, _, _, _, ⟨rfl, rfl, rfl⟩, by simp [r2], w', by simp, by simp [r11], by simp [r12], by simp, hG'⟩
theorem TreeOk.dns {t : PTree} (h : TreeOk t) : ∀ x ∈ t.entries, EntryOk x := fun x hx => by
 obtain ⟨j, hj, rfl⟩ := List.getElem_of_mem hx
 exact (h.2.1.2 j _ (List.getElem?_eq_getElem hj)).1
def jh (c : PClass) : Prop := c.must.length ≤ 1048576 ∧ c.may.length ≤ 1048576 ∧ c.single.length ≤ 1048576
theorem AO {H : List Ob} {v1 v2 v3 : V} {c : PClass} (h1 : AStrs H v1 c.must) (h2 : AStrs H v2 c.may) (h3 : AStrs H v3 c.single) (hn : c.name.length ≤ maxLen) (hb : jh c) :
  ∃ T w1 w2 w3, callW C 305 [.agg [.str c.name, v1, v2, v3]] H = some (.agg [.str c.name, w1, w2, w3], H ++ T) ∧ New H.length (H ++ T).length (H ++ T) shClass [.str c.name, w1, w2, w3] c.u := by
 suffices hs : Ret C 305 [.agg [.str c.name, v1, v2, v3]] H fun q H' => ∃ T w1 w2 w3, q = .agg [.str c.name, w1, w2, w3] ∧ H' = H ++ T ∧ New H.length (H ++ T).length (H ++ T) shClass [.str c.name, w1, w2, w3] c.u by
  obtain ⟨q, H', hc, T, w1, w2, w3, rfl, rfl, hr⟩ := hs
  exact ⟨T, w1, w2, w3, hc, hr⟩
 rw [FM]
 obtain ⟨w1, T1, a1, n1⟩ := append_clone (d := .str) (by_ := 16) (z := [.str []]) (sz := 1) h1 rfl rfl rfl (by decide) (by decide) (by decide) (by have := hb.1; unfold maxMade; omega)
 obtain ⟨A, hA⟩ : ∃ A, A = H ++ T1 := ⟨_, rfl⟩
 rw [← hA] at a1 n1
 obtain ⟨w2, T2, a2, n2⟩ := append_clone (d := .str) (by_ := 16) (z := [.str []]) (sz := 1) (by rw [hA]; exact h2.ext : AStrs A v2 c.may) rfl rfl rfl (by decide) (by decide) (by decide) (by have := hb.2.1; unfold maxMade; omega)
 obtain ⟨B, hB⟩ : ∃ B, B = A ++ T2 := ⟨_, rfl⟩
 rw [← hB] at a2 n2
 obtain ⟨w3, T3, a3, n3⟩ := append_clone (d := .str) (by_ := 16) (z := [.str []]) (sz := 1) (by rw [hB, hA]; exact h3.ext.ext : AStrs B v3 c.single) rfl rfl rfl (by decide) (by decide) (by decide) (by have := hb.2.2; unfold maxMade; omega)
 have ho1 := New.one1 n1
 have ho2 := New.one1 n2
 have ho3 := New.one1 n3
 have hAl : H.length ≤ A.length := by rw [hA]; simp
 have hBl : A.length ≤ B.length := by rw [hB]; simp
 have hne : New H.length (B ++ T3).length (B ++ T3) shClass [.str c.name, w1, w2, w3] c.u :=
  New.st (News.str hn (News.cons (m := A.length) (c1 := [w1]) (by rw [hB, List.append_assoc]; exact n1.ext) (News.cons (m := B.length) (c1 := [w2]) n2.ext (News.one n3 (by simp)) hBl (by simp)) hAl (by simp; omega)))
 have hGH : B ++ T3 = H ++ (T1 ++ T2 ++ T3) := by rw [hB, hA]; simp
 rw [hGH] at hne
 obtain ⟨T', hg, hn'⟩ := hne.gcA
 rw [← hGH] at hg
 have o1 := h1.one
 have o2 := h2.one
 have o3 := h3.one
 simp [qN, Tryz.f305, o1, o2, o3, elemT, fillL, zerosL, St.new, a1, a2, a3, ← hA, ← hB, ho1, ho2, ho3, hg, List.lookup]
 exact ⟨T', w1, w2, w3, ⟨rfl, rfl, rfl⟩, rfl, by simpa using hn'⟩
theorem zy {H : List Ob} {vl : V} {l : List PClass} (h : AClasses H vl l) (hb : l.length ≤ 1048576 ∧ ∀ c ∈ l, jh c) :
  ∃ T w, callW C 242 [vl] H = some (w, H ++ T) ∧ New H.length (H ++ T).length (H ++ T) (.slice shClass) [w] (.lst (l.map PClass.u)) := by
 suffices hs : Ret C 242 [vl] H fun q H' => ∃ T, H' = H ++ T ∧ New H.length (H ++ T).length (H ++ T) (.slice shClass) [q] (.lst (l.map PClass.u)) by
  obtain ⟨q, H', hc, T, rfl, hr⟩ := hs
  exact ⟨T, q, hc, hr⟩
 rw [I9]
 have hbl := hb.1
 simp [qJ, Tryz.f242, elemT, fillL, zerosL, St.new]
 refine WP_loop (fun k σ => ∃ (i : Nat) (r : Nat → R) (G : List Ob) (w : V), i + k = l.length ∧ σ = ⟨r, 0, G⟩ ∧ r 0 = .val vl ∧ r 3 = .val w ∧ r 4 = .val (.int .i64 i) ∧ LstF H G shClass PClass.u w (l.take i)) ?_ l.length _ ⟨0, _, H ++ [.mk true 4 []], .slc (some (H.length, 0)) 0, by simp, rfl, by simp, by simp, by simp, by rw [List.take_zero]; exact LstF.init (sh := shClass)⟩
 rintro k σ ⟨i, r, G, w, hik, rfl, r0, r3, r4, hG⟩
 obtain ⟨S, hS⟩ := hG.pre
 have hlG : AClasses G vl l := by rw [hS]; exact h.ext
 have hwo := hG.one
 cases k with
 | zero =>
  have hi : i = l.length := by omega
  subst hi
  rw [List.take_length] at hG
  have n2 := hG.new h.bound
  obtain ⟨T', hg, hn⟩ := (show New H.length G.length (H ++ S) (.slice shClass) [w] (.lst (l.map PClass.u)) by rw [← hS]; exact n2).gc1
  rw [← hS] at hg
  simp [r0, r3, r4, hlG.len, hg, hwo]
  simpa using hn
 | succ k =>
  have hi : i < l.length := by omega
  obtain ⟨x, hx⟩ : ∃ c, l[i]? = some c := ⟨l[i], by simp [hi]⟩
  have hw : IntKind.i64.wrap ((i : Int) + 1) = ((i : Int) + 1) := wrap_i64 (by omega) (by omega)
  obtain ⟨id, o, w1, w2, w3, e1, l0, l4, q1, q2, q3, _, hnm⟩ := classes_idx hlG hx
  obtain ⟨T2, y1, y2, y3, c1, n1⟩ := AO q1 q2 q3 hnm (hb.2 x (List.mem_of_getElem? hx))
  obtain ⟨w', G', a3, hG', _, _⟩ := hG.push (T := T2) (d := .struct [(0, 9), (1, 148), (2, 148), (3, 148)]) (by_ := 88) (z := [.str [], .slc none 0, .slc none 0, .slc none 0]) (sz := 4) n1 rfl rfl (by decide) (by decide) (by decide) (by simp; unfold maxMade; omega)
  rw [← take_get hx] at hG'
  obtain ⟨_, _, _, hcy, _, b1, b2, b3⟩ := class_at.1 n1.at
  cases hcy
  have hw' := hG'.one
  have o1 := q1.one
  have o2 := q2.one
  have o3 := q3.one
  have p1 := b1.one
  have p2 := b2.one
  have p3 := b3.one
  simp only [List.append_assoc, List.length_append] at a3
  simp [r0, r3, r4, hi, hlG.len, e1, l0, l4, c1, a3, elemT, fillL, zerosL, St.new, buildV, o1, o2, o3, p1, p2, p3, hwo, hw', hw]
  exact ⟨k, by omega, i + 1, by omega, _, _, ⟨rfl, rfl⟩, by simp [r0], w', by simp, by simp, hG'⟩
def lN (t : PTree) : Prop := (t.schema.length ≤ 1048576 ∧ ∀ c ∈ t.schema, jh c) ∧ t.entries.length ≤ 1048576 ∧ ∀ e ∈ t.entries, gu e
theorem zT {H : List Ob} {vs ve : V} {t : PTree} (hs : AClasses H vs t.schema) (h : AEntries H ve t.entries) (hb : lN t) :
  ∃ T w1 w2, callW C 160 [.agg [vs, ve]] H = some (.agg [w1, w2], H ++ T) ∧ New H.length (H ++ T).length (H ++ T) shTree [w1, w2] t.u := by
 suffices hs : Ret C 160 [.agg [vs, ve]] H fun q H' => ∃ T w1 w2, q = .agg [w1, w2] ∧ H' = H ++ T ∧ New H.length (H ++ T).length (H ++ T) shTree [w1, w2] t.u by
  obtain ⟨q, H', hc, T, w1, w2, rfl, rfl, hr⟩ := hs
  exact ⟨T, w1, w2, hc, hr⟩
 rw [Je]
 have hos := hs.one
 have hoe := h.one
 have hbe := hb.2.1
 obtain ⟨T1, w1, c1, n1⟩ := zy hs hb.1
 have how := New.one1 n1
 obtain ⟨K, hK⟩ : ∃ K, K = H ++ T1 := ⟨_, rfl⟩
 rw [← hK] at n1 c1
 have hKl : H.length ≤ K.length := by rw [hK]; simp
 have haK : AEntries K ve t.entries := by rw [hK]; exact h.ext
 simp [tq, Tryz.f160, hos, hoe, c1, fillL, zerosL, buildV, structPlace, how]
 refine WP_loop (fun k σ => ∃ (i : Nat) (r : Nat → R) (G : List Ob) (w : V), i + k = t.entries.length ∧ σ = ⟨r, 3, G⟩ ∧ r 1 = .box 0 [vs, ve] ∧ r 2 = .box 1 [.slc none 0, .slc none 0] ∧ r 3 = .box 2 [w1, w] ∧ r 4 = .val (.int .i64 i) ∧ LstF K G shEntry PEntry.u w (t.entries.take i)) ?_ t.entries.length _ ⟨0, _, K, .slc none 0, by simp, rfl, by simp, by simp, by simp, by simp, by simpa using LstF.nil⟩
 rintro k σ ⟨i, r, G, w, hik, rfl, r1, r2, r3, r4, hG⟩
 obtain ⟨S, hS⟩ := hG.pre
 have haG : AEntries G ve t.entries := by rw [hS]; exact haK.ext
 have hwo := hG.one
 cases k with
 | zero =>
  have hi : i = t.entries.length := by omega
  subst hi
  rw [List.take_length] at hG
  have n2 := hG.new h.bound
  have hne : New H.length G.length G shTree [w1, w] t.u := by
   refine New.st (News.cons (m := K.length) (c1 := [w1]) ?_ (News.one n2 (by rw [hS]; simp)) hKl (by rw [hS]; simp))
   rw [hS]; exact n1.ext
  obtain ⟨T', hg, hn⟩ := (show New H.length G.length (H ++ (T1 ++ S)) shTree [w1, w] t.u by rw [← List.append_assoc, ← hK, ← hS]; exact hne).gcA
  rw [← List.append_assoc, ← hK, ← hS] at hg
  simp [r1, r2, r3, r4, haG.len, hg, how, hwo]
  exact ⟨T', w1, w, ⟨rfl, rfl⟩, rfl, by simpa using hn⟩
 | succ k =>
  have hi : i < t.entries.length := by omega
  obtain ⟨x, hx⟩ : ∃ c, t.entries[i]? = some c := ⟨t.entries[i], by simp [hi]⟩
  have hw : IntKind.i64.wrap ((i : Int) + 1) = ((i : Int) + 1) := wrap_i64 (by omega) (by omega)
  obtain ⟨id, o, v1, v2, e1, l0, l1, lm, a1, a2, _⟩ := entries_idx haG hx
  have hid := fJ l0
  obtain ⟨T2, y1, y2, c2, n2⟩ := zA a1 a2 (hb.2.2 x (List.mem_of_getElem? hx))
  obtain ⟨_, _, hcy, b1, b2⟩ := entry_at.1 n2.at
  cases hcy
  obtain ⟨w', G', a3, hG', _, _⟩ := hG.push (T := T2) (d := .struct [(0, 56), (1, 153)]) (by_ := 48) (z := [.slc none 0, .slc none 0]) (sz := 2) n2 rfl rfl (by decide) (by decide) (by decide) (by simp; unfold maxMade; omega)
  rw [← take_get hx] at hG'
  have hw' := hG'.one
  have o1 := a1.one
  have o2 := a2.one
  have p1 := b1.one
  have p2 := b2.one
  simp only [List.append_assoc, List.length_append] at a3
  simp [r1, r2, r3, r4, hi, haG.len, e1, l0, l1, lm, hid, c2, a3, Keep_append, elemT, fillL, zerosL, St.new, buildV, structPlace, hos, hoe, o1, o2, p1, p2, hwo, hw', hw, how, regionL_none, regionL_some, List.lookup]
  exact ⟨k, by omega, i + 1, by omega, _, _, ⟨rfl, rfl⟩, by simp [r1], by simp [r2], w', by simp, by simp, hG'⟩
structure PTreeOut where
 tree : PTree
 entries : List PEntry
 code : Int
def PTreeOut.u (o : PTreeOut) : U := .st [o.tree.u, .lst (o.entries.map PEntry.u), .int o.code]
abbrev fV : Sh := .st [shTree, .slice shEntry, .int .i64]
def Qj (c : Int) : PTreeOut := ⟨⟨[], []⟩, [], c⟩
def TOut (H : List Ob) (o : PTreeOut) (q : V) (H' : List Ob) : Prop := ∃ T w1 w2 w3, q = .agg [w1, w2, w3, .int .i64 o.code] ∧ H' = H ++ T ∧ New H.length (H ++ T).length (H ++ T) fV [w1, w2, w3, .int .i64 o.code] o.u
theorem TOut.ill {H : List Ob} {c : Int} (h : (Lit.int .i64 c).wf = true) : TOut H (Qj c) (.agg [.slc none 0, .slc none 0, .slc none 0, .int .i64 c]) H :=
 ⟨[], .slc none 0, .slc none 0, .slc none 0, rfl, by simp, New.st (News.cons (c1 := [.slc none 0, .slc none 0]) (m := H.length) (New.st (News.nilS (News.nilS News.nil))) (News.nilS (News.int h News.nil)) (Nat.le_refl _) (by simp))⟩
theorem TOut.of {H G : List Ob} {t : PTree} {w1 w2 : V} (hT : ∃ T, G = H ++ T) (hn : New H.length G.length G shTree [w1, w2] t.u) : TOut H ⟨t, [], 0⟩ (.agg [w1, w2, .slc none 0, .int .i64 0]) (gcH H G (.agg [w1, w2, .slc none 0, .int .i64 0])) := by
 obtain ⟨T, rfl⟩ := hT
 have h2 : New H.length (H ++ T).length (H ++ T) fV [w1, w2, .slc none 0, .int .i64 0] (PTreeOut.u ⟨t, [], 0⟩) := New.st (News.cons (c1 := [w1, w2]) (m := (H ++ T).length) hn (News.nilS (News.int (by decide) News.nil)) (by simp) (Nat.le_refl _))
 obtain ⟨T', h3, h4⟩ := h2.gcA
 exact ⟨T', w1, w2, .slc none 0, rfl, h3, h4⟩
theorem DnOk.drop {l : List PRdn} (hd : DnOk l) (k : Nat) : DnOk (l.drop k) :=
 ⟨fun j x hx => hd.1 (k + j) x (by rw [List.getElem?_drop] at hx; exact hx), by have := hd.2; simp; omega⟩



theorem TreeOk.small {t : PTree} (h : TreeOk t) : lN t := by
 refine ⟨⟨by have := h.1.2; omega, fun c hc => ?_⟩, by have := h.2.1.1; omega, fun e he => EntryOk.small (TreeOk.dns h e he)⟩
 obtain ⟨j, hj, rfl⟩ := List.getElem_of_mem hc
 have hc := (h.1.1 j _ (List.getElem?_eq_getElem hj)).1
 exact ⟨by have := hc.l1; omega, by have := hc.l2; omega, by have := hc.l3; omega⟩
theorem TOut.new {H : List Ob} {T : List Ob} {t : PTree} {w1 w2 : V} (hn : New H.length (H ++ T).length (H ++ T) shTree [w1, w2] t.u) : ∃ T' q, q = .agg [w1, w2, .slc none 0, .int .i64 0] ∧ gcH H (H ++ T) q = H ++ T' ∧ TOut H ⟨t, [], 0⟩ q (H ++ T') := by
 have h2 : New H.length (H ++ T).length (H ++ T) fV [w1, w2, .slc none 0, .int .i64 0] (PTreeOut.u ⟨t, [], 0⟩) := New.st (News.cons (c1 := [w1, w2]) (m := (H ++ T).length) hn (News.nilS (News.int (by decide) News.nil)) (by simp) (Nat.le_refl _))
 obtain ⟨T', h3, h4⟩ := h2.gcA
 exact ⟨T', _, rfl, h3, T', w1, w2, .slc none 0, rfl, rfl, h4⟩
theorem TOut.ones {H : List Ob} {o : PTreeOut} {q : V} {H' : List Ob} (h : TOut H o q H') : ∃ w1 w2 w3, q = .agg [w1, w2, w3, .int .i64 o.code] ∧ (isOne w1 = true ∧ cellsOf w1 = some [w1]) ∧ (isOne w2 = true ∧ cellsOf w2 = some [w2]) ∧ (isOne w3 = true ∧ cellsOf w3 = some [w3]) := by
 obtain ⟨T, w1, w2, w3, rfl, rfl, h3⟩ := h
 have := At.ones _ h3.at
 simp only [List.all_cons, List.all_nil, Bool.and_true, Bool.and_eq_true] at this
 exact ⟨w1, w2, w3, rfl, ⟨this.1, isOne_cells this.1⟩, ⟨this.2.1, isOne_cells this.2.1⟩, ⟨this.2.2.1, isOne_cells this.2.2.1⟩⟩
theorem TOut.gc {H : List Ob} {o : PTreeOut} {q : V} {H' : List Ob} (h : TOut H o q H') : TOut H o q (gcH H H' q) := by
 obtain ⟨T, w1, w2, w3, rfl, rfl, h3⟩ := h
 obtain ⟨T', h4, h5⟩ := h3.gcA
 exact ⟨T', w1, w2, w3, rfl, h4, h5⟩
theorem pq {H : List Ob} {v : V} {l : List PClass} {t : Str} {c : PClass} (h : AClasses H v l) (hf : firstOf PClass.name l t = some c) (hb : jh c) (hnm : c.name.length ≤ maxLen) :
  ∃ T w1 w2 w3, callW C 306 [v, .str t] H = some (.tup [.agg [.str c.name, w1, w2, w3], .bool true], H ++ T) ∧ New H.length (H ++ T).length (H ++ T) shClass [.str c.name, w1, w2, w3] c.u := by
 suffices hs : Ret C 306 [v, .str t] H fun q H' => ∃ T w1 w2 w3, q = .tup [.agg [.str c.name, w1, w2, w3], .bool true] ∧ H' = H ++ T ∧ New H.length (H ++ T).length (H ++ T) shClass [.str c.name, w1, w2, w3] c.u by
  obtain ⟨q, H', hc, T, w1, w2, w3, rfl, rfl, hr⟩ := hs
  exact ⟨T, w1, w2, w3, hc, hr⟩
 rw [Bl]
 obtain ⟨r, c1, hr⟩ := iW (H := H ++ [.mk true 1 [.str t]]) (idn := H.length) (t := t) get_last h.ext
 rcases hr.pos with ⟨k, a, h1, rfl, h2⟩ | ⟨rfl, h2⟩
 rotate_left
 ·rw [hf] at h2; cases h2
 rw [hf] at h2
 cases h2
 obtain ⟨id, o, w1, w2, w3, e1, l4, q1, q2, q3⟩ := classes_idxT h h1
 have l4 := l4 [.mk true 1 [.str t]]
 have hk : ¬ ((k : Int) < 0) := by omega
 obtain ⟨A0, hA0⟩ : ∃ A, A = H ++ [.mk true 1 [.str t]] := ⟨_, rfl⟩
 obtain ⟨T1, x1, d1, n1⟩ := dD (H := A0) (by rw [hA0]; exact q1.ext) hb.1
 obtain ⟨A, hA⟩ : ∃ A, A = A0 ++ T1 := ⟨_, rfl⟩
 rw [← hA] at d1 n1
 obtain ⟨T2, x2, d2, n2⟩ := dD (H := A) (by rw [hA, hA0]; exact q2.ext.ext) hb.2.1
 obtain ⟨B, hB⟩ : ∃ B, B = A ++ T2 := ⟨_, rfl⟩
 rw [← hB] at d2 n2
 obtain ⟨T3, x3, d3, n3⟩ := dD (H := B) (by rw [hB, hA, hA0]; exact q3.ext.ext.ext) hb.2.2
 have o1 := New.one1 n1
 have o2 := New.one1 n2
 have o3 := New.one1 n3
 have hAl : A0.length ≤ A.length := by rw [hA]; simp
 have hBl : A.length ≤ B.length := by rw [hB]; simp
 have hne : New A0.length (B ++ T3).length (B ++ T3) shClass [.str c.name, x1, x2, x3] c.u :=
  New.st (News.str hnm (News.cons (m := A.length) (c1 := [x1]) (by rw [hB, List.append_assoc]; exact n1.ext) (News.cons (m := B.length) (c1 := [x2]) n2.ext (News.one n3 (by simp)) hBl (by simp)) hAl (by simp; omega)))
 have hGH : B ++ T3 = H ++ ([.mk true 1 [.str t]] ++ T1 ++ T2 ++ T3) := by rw [hB, hA, hA0]; simp
 have hne' : New H.length (B ++ T3).length (B ++ T3) shClass [.str c.name, x1, x2, x3] c.u := hne.wide (by rw [hA0]; simp) (Nat.le_refl _)
 rw [hGH] at hne'
 obtain ⟨T', hg, hn'⟩ := hne'.gc (v := .tup [.agg [.str c.name, x1, x2, x3], .bool true]) (by simp [lowV, lowVs])
 rw [← hGH] at hg
 rw [← hA0] at c1 l4
 simp [ik, Tryz.f306, c1, hk, e1, l4, d1, d2, d3, o1, o2, o3, q1.one, q2.one, q3.one, strideOf, buildV, fillL, structPlace, ← hA0, List.lookup, hg]
 exact ⟨T', x1, x2, x3, ⟨rfl, rfl, rfl⟩, rfl, by simpa using hn'⟩
theorem lT {H : List Ob} {vl : V} {l : List PClass} (h : AClasses H vl l) (hb : l.length ≤ 1048576 ∧ ∀ c ∈ l, jh c) :
  ∃ T w, callW C 245 [vl] H = some (w, H ++ T) ∧ New H.length (H ++ T).length (H ++ T) (.slice shClass) [w] (.lst (l.map PClass.u)) ∧ ¬ lowV H w := by
 suffices hs : Ret C 245 [vl] H fun q H' => ∃ T, H' = H ++ T ∧ New H.length (H ++ T).length (H ++ T) (.slice shClass) [q] (.lst (l.map PClass.u)) ∧ ¬ lowV H q by
  obtain ⟨q, H', hc, T, rfl, hr⟩ := hs
  exact ⟨T, q, hc, hr⟩
 rw [Jb]
 have hbl := hb.1
 simp [rO, Tryz.f245, elemT, fillL, zerosL, St.new, h.len]
 refine WP_loop (fun k σ => ∃ (i n : Nat) (r : Nat → R) (G : List Ob) (w : V), i + k = l.length ∧ σ = ⟨r, n, G⟩ ∧ r 3 = .val w ∧ r 9 = .val vl ∧ r 10 = .val (.int .i64 l.length) ∧ r 11 = .val (.int .i64 i) ∧ LstF H G shClass PClass.u w (l.take i) ∧ ¬ lowV H w) ?_ l.length _ ⟨0, _, _, H ++ [.mk true 4 []], .slc (some (H.length, 0)) 0, by simp, rfl, by simp, by simp, by simp, by simp, by rw [List.take_zero]; exact LstF.init (sh := shClass), fun ⟨own, es, cells, h⟩ => by simp at h⟩
 rintro k σ ⟨i, n, r, G, w, hik, rfl, r3, r9, r10, r11, hG, hnl⟩
 obtain ⟨S, hS⟩ := hG.pre
 have hlG : AClasses G vl l := by rw [hS]; exact h.ext
 have hwo := hG.one
 cases k with
 | zero =>
  have hi : i = l.length := by omega
  subst hi
  rw [List.take_length] at hG
  have n2 := hG.new h.bound
  have hg : gcH H G w = G := gcH_not hnl
  simp [r3, r9, r10, r11, hg, hwo]
  exact ⟨S, hS, by rw [← List.length_append, ← hS]; exact n2, hnl⟩
 | succ k =>
  have hi : i < l.length := by omega
  obtain ⟨x, hx⟩ : ∃ c, l[i]? = some c := ⟨l[i], by simp [hi]⟩
  have hw : IntKind.i64.wrap ((i : Int) + 1) = ((i : Int) + 1) := wrap_i64 (by omega) (by omega)
  obtain ⟨id, o, w1, w2, w3, e1, l0, l4, q1, q2, q3, _, hnm⟩ := classes_idx hlG hx
  have h1 : AClasses (G ++ [.mk true 4 [.str x.name, w1, w2, w3]]) (.slc (some (G.length, 0)) 1) [x] := At_slice.2 ⟨_, _, rfl, rfl, by simp [maxLen], .inr ⟨G.length, 0, true, [.str x.name, w1, w2, w3], rfl, get_last, by simp, fun j y hy => by
   have hj : j = 0 := by have := (List.getElem?_eq_some_iff.1 hy).1; simpa using this
   subst hj
   cases hy
   simpa using class_at.2 ⟨w1, w2, w3, rfl, hnm, q1.ext, q2.ext, q3.ext⟩⟩⟩
  obtain ⟨T2, y1, y2, y3, c1, n1⟩ := pq h1 (t := x.name) (c := x) (by simp [firstOf]) (hb.2 x (List.mem_of_getElem? hx)) hnm
  rw [List.append_assoc] at c1 n1
  have n1' : New G.length _ (G ++ ([.mk true 4 [.str x.name, w1, w2, w3]] ++ T2)) shClass [.str x.name, y1, y2, y3] x.u := n1.wide (by simp) (Nat.le_refl _)
  obtain ⟨w', G', a3, hG', _, _⟩ := hG.push (T := [.mk true 4 [.str x.name, w1, w2, w3]] ++ T2) (d := .struct [(0, 9), (1, 148), (2, 148), (3, 148)]) (by_ := 88) (z := [.str [], .slc none 0, .slc none 0, .slc none 0]) (sz := 4) n1' rfl rfl (by decide) (by decide) (by decide) (by simp; unfold maxMade; omega)
  rw [← take_get hx] at hG'
  obtain ⟨_, _, _, hcy, _, b1, b2, b3⟩ := class_at.1 n1.at
  cases hcy
  have hw' := hG'.one
  have o1 := q1.one
  have o2 := q2.one
  have o3 := q3.one
  have p1 := b1.one
  have p2 := b2.one
  have p3 := b3.one
  have hid := fJ l0
  have hnl' : ¬ lowV H w' := by
   rcases hG'.2 with ⟨_, h0⟩ | ⟨id', cs, Fs, g1, g2, rfl, _⟩
   ·have := congrArg List.length h0; rw [List.length_take, List.length_nil] at this; omega
   ·rintro ⟨own, es, cells, hh⟩
    have := (List.getElem?_eq_some_iff.1 hh).1
    omega
  simp only [List.append_assoc, List.length_append, List.cons_append, List.nil_append, List.length_cons] at a3 c1
  simp [r3, r9, r10, r11, hi, e1, l0, l4, hid, c1, a3, elemT, fillL, zerosL, St.new, buildV, o1, o2, o3, p1, p2, p3, hwo, hw', hw]
  exact ⟨k, by omega, i + 1, by omega, _, _, _, ⟨rfl, rfl, rfl⟩, w', by simp, by simp [r9], by simp [r10], by simp, hG', hnl'⟩
theorem jC {H : List Ob} {vl : V} {l : List PEntry} (h : AEntries H vl l) (hb : l.length ≤ 1048576 ∧ ∀ c ∈ l, gu c) :
  ∃ T w, callW C 246 [vl] H = some (w, H ++ T) ∧ New H.length (H ++ T).length (H ++ T) (.slice shEntry) [w] (.lst (l.map PEntry.u)) ∧ ¬ lowV H w := by
 suffices hs : Ret C 246 [vl] H fun q H' => ∃ T, H' = H ++ T ∧ New H.length (H ++ T).length (H ++ T) (.slice shEntry) [q] (.lst (l.map PEntry.u)) ∧ ¬ lowV H q by
  obtain ⟨q, H', hc, T, rfl, hr⟩ := hs
  exact ⟨T, q, hc, hr⟩
 rw [FH]
 have hbl := hb.1
 simp [qi, Tryz.f246, elemT, fillL, zerosL, St.new, h.len]
 refine WP_loop (fun k σ => ∃ (i n : Nat) (r : Nat → R) (G : List Ob) (w : V), i + k = l.length ∧ σ = ⟨r, n, G⟩ ∧ r 3 = .val w ∧ r 7 = .val vl ∧ r 8 = .val (.int .i64 l.length) ∧ r 9 = .val (.int .i64 i) ∧ LstF H G shEntry PEntry.u w (l.take i) ∧ ¬ lowV H w) ?_ l.length _ ⟨0, _, _, H ++ [.mk true 2 []], .slc (some (H.length, 0)) 0, by simp, rfl, by simp, by simp, by simp, by simp, by rw [List.take_zero]; exact LstF.init (sh := shEntry), fun ⟨own, es, cells, h⟩ => by simp at h⟩
 rintro k σ ⟨i, n, r, G, w, hik, rfl, r3, r7, r8, r9, hG, hnl⟩
 obtain ⟨S, hS⟩ := hG.pre
 have hlG : AEntries G vl l := by rw [hS]; exact h.ext
 have hwo := hG.one
 cases k with
 | zero =>
  have hi : i = l.length := by omega
  subst hi
  rw [List.take_length] at hG
  have n2 := hG.new h.bound
  have hg : gcH H G w = G := gcH_not hnl
  simp [r3, r7, r8, r9, hg, hwo]
  exact ⟨S, hS, by rw [← List.length_append, ← hS]; exact n2, hnl⟩
 | succ k =>
  have hi : i < l.length := by omega
  obtain ⟨x, hx⟩ : ∃ c, l[i]? = some c := ⟨l[i], by simp [hi]⟩
  have hw : IntKind.i64.wrap ((i : Int) + 1) = ((i : Int) + 1) := wrap_i64 (by omega) (by omega)
  obtain ⟨id, o, v1, v2, e1, l0, l1, lm, a1, a2, _⟩ := entries_idx hlG hx
  have hid := fJ l0
  obtain ⟨T2, y1, y2, c2, n2⟩ := mV a1 a2 (hb.2 x (List.mem_of_getElem? hx))
  obtain ⟨_, _, hcy, b1, b2⟩ := entry_at.1 n2.at
  cases hcy
  obtain ⟨w', G', a3, hG', _, _⟩ := hG.push (T := T2) (d := .struct [(0, 56), (1, 153)]) (by_ := 48) (z := [.slc none 0, .slc none 0]) (sz := 2) n2 rfl rfl (by decide) (by decide) (by decide) (by simp; unfold maxMade; omega)
  rw [← take_get hx] at hG'
  have hw' := hG'.one
  have o1 := a1.one
  have o2 := a2.one
  have p1 := b1.one
  have p2 := b2.one
  have hnl' : ¬ lowV H w' := by
   rcases hG'.2 with ⟨_, h0⟩ | ⟨id', cs, Fs, g1, g2, rfl, _⟩
   ·have := congrArg List.length h0; rw [List.length_take, List.length_nil] at this; omega
   ·rintro ⟨own, es, cells, hh⟩
    have := (List.getElem?_eq_some_iff.1 hh).1
    omega
  simp only [List.append_assoc, List.length_append] at a3
  simp [r3, r7, r8, r9, hi, e1, l0, l1, lm, hid, c2, a3, elemT, fillL, zerosL, St.new, buildV, structPlace, o1, o2, p1, p2, hwo, hw', hw]
  exact ⟨k, by omega, i + 1, by omega, _, _, _, ⟨rfl, rfl, rfl⟩, w', by simp, by simp [r7], by simp [r8], by simp, hG', hnl'⟩
theorem uT {H : List Ob} {vs ve : V} {t : PTree} (hs : AClasses H vs t.schema) (h : AEntries H ve t.entries) (hb : lN t) :
  ∃ T w1 w2, callW C 164 [.agg [vs, ve]] H = some (.agg [w1, w2], H ++ T) ∧ New H.length (H ++ T).length (H ++ T) shTree [w1, w2] t.u ∧ ¬ lowV H w1 := by
 suffices hs : Ret C 164 [.agg [vs, ve]] H fun q H' => ∃ T w1 w2, q = .agg [w1, w2] ∧ H' = H ++ T ∧ New H.length (H ++ T).length (H ++ T) shTree [w1, w2] t.u ∧ ¬ lowV H w1 by
  obtain ⟨q, H', hc, T, w1, w2, rfl, rfl, hr⟩ := hs
  exact ⟨T, w1, w2, hc, hr⟩
 rw [GI]
 have hos := hs.one
 have hoe := h.one
 obtain ⟨T1, w1, c1, n1, nl1⟩ := lT hs hb.1
 obtain ⟨K, hK⟩ : ∃ K, K = H ++ T1 := ⟨_, rfl⟩
 rw [← hK] at n1 c1
 obtain ⟨T2, w2, c2, n2, nl2⟩ := jC (H := K) (by rw [hK]; exact h.ext) hb.2
 have o1 := New.one1 n1
 have o2 := New.one1 n2
 have hKl : H.length ≤ K.length := by rw [hK]; simp
 have hne : New H.length (K ++ T2).length (K ++ T2) shTree [w1, w2] t.u := New.st (News.cons (m := K.length) (c1 := [w1]) n1.ext (News.one n2 (by simp)) hKl (by simp))
 have hg : gcH H (K ++ T2) (.agg [w1, w2]) = K ++ T2 := gcH_not fun h => nl1 h.1
 simp [qG, Tryz.f164, hos, hoe, c1, c2, o1, o2, fillL, zerosL, buildV, structPlace, hg, regionL_none, regionL_some, List.lookup]
 exact ⟨T1 ++ T2, w1, w2, ⟨rfl, rfl⟩, by rw [hK]; simp, by rw [hK, List.append_assoc] at hne; simpa using hne, nl1⟩
theorem Aw {H G : List Ob} (h : ∀ q, q < H.length → G[q]? = H[q]?) (hl : H.length ≤ G.length) : ∃ T, G = H ++ T := by
 refine ⟨G.drop H.length, List.ext_getElem? fun i => ?_⟩
 by_cases hi : i < H.length
 ·rw [List.getElem?_append_left hi, h i hi]
 ·rw [List.getElem?_append_right (by omega), List.getElem?_drop]
  congr 1
  omega
end Go.Proofs.Try1
end
