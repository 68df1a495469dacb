/- Part 13 of the proof of a law: the interpreter, its soundness, and what functions of the program compute over it. Conditions: none but those that each theorem names. -/
import Derived.Test.YtamgeahibepfnaaGreatDoorJ12
import Derived.Test.YtamgeahibepfnaaGreatDoorJ07
import Derived.Test.YtamgeahibepfnaaGreatDoorJ08
import Derived.Test.YtamgeahibepfnaaGreatDoorJ11

set_option linter.all false
set_option maxRecDepth 20000
set_option maxHeartbeats 40000000
section
namespace Go.Proofs.Try1
open Go Go.Lite
theorem lacks_eq {l : List PAttr} (h : AttrsOk l) (must : List Str) : (must.filter fun t => !decide (0 < (valsOf l t).length)) = must.filter fun t => (firstOf PAttr.name l t).isNone := by
 congr 1
 funext t
 unfold valsOf
 cases hf : firstOf PAttr.name l t with
 | none => rfl
 | some a =>
  have hm := List.mem_of_find?_eq_some hf
  obtain ⟨j, hj, rfl⟩ := List.getElem_of_mem hm
  have := (h.1 j _ (List.getElem?_eq_getElem hj)).2.2.2.1
  simp
  omega
theorem i_fits {H : List Ob} {ide : Nat} {own : Bool} {vl vd va : V} {l : List PClass} {e : PEntry} (he : H[ide]? = some (.mk own 2 [vd, va])) (hl : AClasses H vl l) (hd : ARdns H vd e.dn) (ha : AAttrs H va e.attrs) (g1 : SchemaOk l) (g2 : EntryOk e) :
  callW C 213 [vl, .ptr (some (ide, 0))] H = some (.bool (dec (FitsOk l e)), H) := by
 apply Ret.dec
 rw [op213]
 have hgb : ∀ X b, gcH H (H ++ X) (.bool b) = H := fun X b => gcH_bool
 have hod := hd.one
 have hoa := ha.one
 have hpw : e.attrs.Pairwise fun a b => a.name < b.name := rise_pair (fun j x hx => (g2.2.2.1 j x hx).2.1)
 have hal : e.attrs.length ≤ 1000 := by have := g2.2.2.2; omega
 have hcl : ∀ c ∈ l, c.must.length ≤ 1000 ∧ c.may.length ≤ 1000 ∧ c.single.length ≤ 1000 := fun c hc => by
  obtain ⟨j, hj, rfl⟩ := List.getElem_of_mem hc
  have := (g1.1 j _ (List.getElem?_eq_getElem hj)).1
  have h1 := this.l1; have h2 := this.l2; have h3 := this.l3
  omega
 obtain ⟨T1, cs, ok, c3, hres⟩ := i_ofEntry he ha hal hpw hl hcl
 rcases hres with ⟨rfl, c, w1, w2, w3, hc1, rfl, q1, q2, q3⟩ | ⟨rfl, hc1, rfl⟩
 rotate_left
 ·simp [code213, Tryz.f213, c3, hgb]
  rintro ⟨c, h1, _⟩
  rw [hc1] at h1
  cases h1
 have hc : c ∈ l := by
  unfold mineOf at hc1
  split at hc1
  ·exact List.mem_of_find?_eq_some hc1
  ·cases hc1
 have hfit : ∀ c', mineOf l e.attrs = some c' → c' = c := fun c' h => by rw [hc1] at h; cases h; rfl
 obtain ⟨T2, w, c4, hb⟩ := i_missing (H := H ++ T1) (ide := ide) (own := own) (es := 2) (vd := vd) (va := va) (up_append _ _ he) (ha.ext (T := T1)) hal hpw q1 q2.one q3.one (hcl c hc).1
 rw [lacks_eq g2.2.2] at hb
 obtain ⟨F, hbF, _, _⟩ := hb
 have hw : AStrs (H ++ T1 ++ T2) w (lacks c e.attrs) := AtF.at _ hbF
 obtain ⟨K, hK⟩ : ∃ K, K = T1 ++ T2 := ⟨_, rfl⟩
 rw [List.append_assoc, ← hK] at c4 hw
 by_cases m1 : lacks c e.attrs = []
 rotate_left
 ·have hl0 : (0 : Int) < (lacks c e.attrs).length := by
   have : (lacks c e.attrs).length ≠ 0 := fun h => m1 (List.length_eq_zero_iff.1 h)
   omega
  simp [code213, Tryz.f213, c3, c4, hgb, q1.one, q2.one, q3.one, hw.len, hl0, m1]
  refine ⟨by omega, ?_⟩
  rintro ⟨c', h1, h2, _⟩
  obtain rfl := hfit c' h1
  exact m1 h2
 have he' : (H ++ K)[ide]? = some (.mk own 2 [vd, va]) := up_append _ _ he
 have ld0 := load1 (o := 0) (v := vd) he' rfl
 have ld1 := load1 (o := 1) (v := va) he' rfl
 have haK := ha.ext (T := K)
 have hdK := hd.ext (T := K)
 have q1K : AStrs (H ++ K) w1 c.must := by have := q1.ext (T := T2); rwa [List.append_assoc, ← hK] at this
 have q2K : AStrs (H ++ K) w2 c.may := by have := q2.ext (T := T2); rwa [List.append_assoc, ← hK] at this
 have q3K : AStrs (H ++ K) w3 c.single := by have := q3.ext (T := T2); rwa [List.append_assoc, ← hK] at this
 simp [code213, Tryz.f213, c3, c4, hgb, q1.one, q2.one, q3.one, hw.len, m1, ld0, ld1, haK.len]
 have hb2 : e.attrs.length ≤ 9223372036854775807 := ha.bound
 refine WP_loop (fun k σ => ∃ (i : Nat) (r : Nat → R), i + k = e.attrs.length ∧ (∀ a ∈ e.attrs.take i, AttrFits c a) ∧ σ = ⟨r, 1 + i, H ++ K⟩ ∧ r 1 = .val (.ptr (some (ide, 0))) ∧ r 5 = .box 0 [.str c.name, w1, w2, w3] ∧ r 27 = .val va ∧ r 28 = .val (.int .i64 e.attrs.length) ∧ r 29 = .val (.int .i64 i)) ?_ e.attrs.length _ ⟨0, _, by omega, by simp, rfl, by simp, by simp, by simp, by simp, by simp⟩
 rintro k σ ⟨i, r, hik, hpre2, rfl, r1, r5, r27, r28, r29⟩
 cases k with
 | zero =>
  have hi : i = e.attrs.length := by omega
  subst hi
  rw [List.take_length] at hpre2
  obtain ⟨x, hx⟩ : ∃ c, e.dn[0]? = some c := ⟨e.dn[0]'g2.1, by simp⟩
  obtain ⟨id, o, e1, l0, l1, _, _⟩ := rdns_idx hdK hx
  simp only [Int.ofNat_eq_natCast, Int.natCast_zero] at e1
  have hid := lo_of l0
  rw [List.length_append] at hid
  have hide : ide < H.length + K.length := by have := (List.getElem?_eq_some_iff.1 he).1; omega
  have c5 := i_Norm (t := x.value) (H := H ++ K)
  have c6 := i_has (t := x.attr) (n := norm x.value) he' haK hal hpw
  simp [r1, r5, r27, r28, r29, ld0, ld1, e1, l0, l1, hid, hide, c5, c6, hgb, regionL_none, regionL_some, List.lookup]
  by_cases hH : HasOk e.attrs x.attr (norm x.value)
  ·exact .inr ⟨dec_pos hH, c, hc1, m1, hpre2, x, hx, hH⟩
  ·exact .inl ⟨dec_neg hH, fun ⟨_, _, _, _, y, h1, h2⟩ => by rw [hx] at h1; cases h1; exact hH h2⟩
 | succ k =>
  have hi : i < e.attrs.length := by omega
  obtain ⟨a, hs⟩ : ∃ a, e.attrs[i]? = some a := ⟨e.attrs[i], by simp [hi]⟩
  obtain ⟨id2, o2, w, f1, m1, m2, m3, aw, _⟩ := attrs_idx haK hs
  have hw : IntKind.i64.wrap ((i : Int) + 1) = ((i : Int) + 1) := wrap_i64 (by omega) (by omega)
  have d1 := l_Contains (t := a.name) q1K
  have d2 := l_Contains (t := a.name) q2K
  have d3 := l_Contains (t := a.name) q3K
  have hstep : AttrFits c a → ∀ t ∈ e.attrs.take (i + 1), AttrFits c t := fun h t ht => by
   rw [take_get hs] at ht
   rcases List.mem_append.1 ht with h' | h'
   ·exact hpre2 t h'
   ·obtain rfl := List.mem_singleton.1 h'
    exact h
  have hbad : ¬ AttrFits c a → ¬ FitsOk l e := by
   rintro h ⟨c', hc', _, hl', _⟩
   obtain rfl := hfit c' hc'
   exact h (hl' a (List.mem_of_getElem? hs))
  have hvl : (1 : Int) < (a.vals.length : Int) ↔ 1 < a.vals.length := by omega
  by_cases n1 : a.name = [99, 108, 97, 115, 115]
  ·by_cases n4 : 1 < a.vals.length
   ·by_cases n5 : a.name ∈ c.single
    ·rw [dec_pos n5] at d3
     rw [n1] at d1 d2 d3
     simp [r1, r5, r27, r28, r29, hi, f1, m1, m2, m3, d1, d2, d3, aw.len, aw.one, q1.one, q2.one, q3.one, hw, hgb, regionL_none, regionL_some, List.lookup, n1, n4, hvl]
     exact hbad fun h => h.2 ⟨n4, n5⟩
    ·rw [dec_neg n5] at d3
     rw [n1] at d1 d2 d3
     simp [r1, r5, r27, r28, r29, hi, f1, m1, m2, m3, d1, d2, d3, aw.len, aw.one, q1.one, q2.one, q3.one, hw, hgb, regionL_none, regionL_some, List.lookup, n1, n4, hvl]
     exact ⟨k, by omega, i + 1, by omega, hstep ⟨.inl n1, fun h => n5 h.2⟩, _, ⟨rfl, by omega⟩, by simp [r1], by simp [r5], by simp [r27], by simp [r28], by simp⟩
   ·rw [n1] at d1 d2 d3
    simp [r1, r5, r27, r28, r29, hi, f1, m1, m2, m3, d1, d2, d3, aw.len, aw.one, q1.one, q2.one, q3.one, hw, hgb, regionL_none, regionL_some, List.lookup, n1, n4, hvl]
    exact ⟨k, by omega, i + 1, by omega, hstep ⟨.inl n1, fun h => n4 h.1⟩, _, ⟨rfl, by omega⟩, by simp [r1], by simp [r5], by simp [r27], by simp [r28], by simp⟩
  by_cases n2 : a.name ∈ c.must
  ·rw [dec_pos n2] at d1
   by_cases n4 : 1 < a.vals.length
   ·by_cases n5 : a.name ∈ c.single
    ·rw [dec_pos n5] at d3
     simp [r1, r5, r27, r28, r29, hi, f1, m1, m2, m3, d1, d2, d3, aw.len, aw.one, q1.one, q2.one, q3.one, hw, hgb, regionL_none, regionL_some, List.lookup, n1, n4, hvl]
     exact hbad fun h => h.2 ⟨n4, n5⟩
    ·rw [dec_neg n5] at d3
     simp [r1, r5, r27, r28, r29, hi, f1, m1, m2, m3, d1, d2, d3, aw.len, aw.one, q1.one, q2.one, q3.one, hw, hgb, regionL_none, regionL_some, List.lookup, n1, n4, hvl]
     exact ⟨k, by omega, i + 1, by omega, hstep ⟨.inr (.inl n2), fun h => n5 h.2⟩, _, ⟨rfl, by omega⟩, by simp [r1], by simp [r5], by simp [r27], by simp [r28], by simp⟩
   ·simp [r1, r5, r27, r28, r29, hi, f1, m1, m2, m3, d1, d2, d3, aw.len, aw.one, q1.one, q2.one, q3.one, hw, hgb, regionL_none, regionL_some, List.lookup, n1, n4, hvl]
    exact ⟨k, by omega, i + 1, by omega, hstep ⟨.inr (.inl n2), fun h => n4 h.1⟩, _, ⟨rfl, by omega⟩, by simp [r1], by simp [r5], by simp [r27], by simp [r28], by simp⟩
  rw [dec_neg n2] at d1
  by_cases n3 : a.name ∈ c.may
  ·rw [dec_pos n3] at d2
   by_cases n4 : 1 < a.vals.length
   ·by_cases n5 : a.name ∈ c.single
    ·rw [dec_pos n5] at d3
     simp [r1, r5, r27, r28, r29, hi, f1, m1, m2, m3, d1, d2, d3, aw.len, aw.one, q1.one, q2.one, q3.one, hw, hgb, regionL_none, regionL_some, List.lookup, n1, n4, hvl]
     exact hbad fun h => h.2 ⟨n4, n5⟩
    ·rw [dec_neg n5] at d3
     simp [r1, r5, r27, r28, r29, hi, f1, m1, m2, m3, d1, d2, d3, aw.len, aw.one, q1.one, q2.one, q3.one, hw, hgb, regionL_none, regionL_some, List.lookup, n1, n4, hvl]
     exact ⟨k, by omega, i + 1, by omega, hstep ⟨.inr (.inr n3), fun h => n5 h.2⟩, _, ⟨rfl, by omega⟩, by simp [r1], by simp [r5], by simp [r27], by simp [r28], by simp⟩
   ·simp [r1, r5, r27, r28, r29, hi, f1, m1, m2, m3, d1, d2, d3, aw.len, aw.one, q1.one, q2.one, q3.one, hw, hgb, regionL_none, regionL_some, List.lookup, n1, n4, hvl]
    exact ⟨k, by omega, i + 1, by omega, hstep ⟨.inr (.inr n3), fun h => n4 h.1⟩, _, ⟨rfl, by omega⟩, by simp [r1], by simp [r5], by simp [r27], by simp [r28], by simp⟩
  ·rw [dec_neg n3] at d2
   simp [r1, r5, r27, r28, r29, hi, f1, m1, m2, m3, d1, d2, d3, aw.len, aw.one, q1.one, q2.one, q3.one, hw, hgb, regionL_none, regionL_some, List.lookup, n1, hvl]
   exact hbad fun h => by
    rcases h.1 with h | h | h
    ·exact n1 h
    ·exact n2 h
    ·exact n3 h
theorem i_ManyC {H : List Ob} {v : V} {l : List PClass} (h : AClasses H v l) : callW C 257 [v] H = some (.bool (decide (400 < l.length)), H) := by
 apply Ret.eq
 rw [op257]
 have hi : (400 : Int) < (l.length : Int) ↔ 400 < l.length := by omega
 simp [code257, Tryz.f257, h.len, hi]
theorem i_Check {H : List Ob} {vl vd va : V} {l : List PClass} {e : PEntry} (hl : AClasses H vl l) (hd : ARdns H vd e.dn) (ha : AAttrs H va e.attrs) (g1 : SchemaOk l) :
  ∃ r : Int, callW C 169 [vl, .agg [vd, va]] H = some (.int .i64 r, H) ∧ (r = 0 ↔ EntryOk e ∧ FitsOk l e) := by
 suffices hs : Ret C 169 [vl, .agg [vd, va]] H fun q H' => (∃ r : Int, q = .int .i64 r ∧ (r = 0 ↔ EntryOk e ∧ FitsOk l e)) ∧ H' = H by
  obtain ⟨q, H', hc, ⟨r, rfl, hr⟩, rfl⟩ := hs
  exact ⟨r, hc, hr⟩
 rw [op169]
 have hod := hd.one
 have hoa := ha.one
 have hgi : ∀ X n, gcH H (H ++ X) (.int .i64 n) = H := fun X n => gcH_int
 have c0 := i_ManyC (hl.ext (T := [.mk true 2 [vd, va]]))
 have c1 := i_Schema (hl.ext (T := [.mk true 2 [vd, va]]))
 have c2 := i_Entry (hd.ext (T := [.mk true 2 [vd, va]])) (ha.ext (T := [.mk true 2 [vd, va]]))
 have g0 : ¬ 400 < l.length := by have := g1.2; omega
 rw [dec_pos g1] at c1
 have ld := loadN (H := H ++ [.mk true 2 [vd, va]]) (o := 0) (n := 2) get_last (by simp) (by decide) rfl
 simp at ld
 by_cases g2 : EntryOk e
 rotate_left
 ·rw [dec_neg g2] at c2
  simp [code169, Tryz.f169, c0, c1, c2, g0, ld, hod, hoa, strideOf, hgi, g2]
 rw [dec_pos g2] at c2
 have c3 := i_fits (H := H ++ [.mk true 2 [vd, va]]) (ide := H.length) (own := true) get_last hl.ext hd.ext ha.ext g1 g2
 by_cases g3 : FitsOk l e
 ·rw [dec_pos g3] at c3
  simp [code169, Tryz.f169, c0, c1, c2, c3, g0, ld, hod, hoa, strideOf, hgi, g2, g3]
 ·rw [dec_neg g3] at c3
  simp [code169, Tryz.f169, c0, c1, c2, c3, g0, ld, hod, hoa, strideOf, hgi, g2, g3]
theorem i_byKey {H : List Ob} {w1 w2 : V} {x : PEntry} {t : Str} (h : ARdns H w1 x.dn) (hd : DnOk x.dn) (ho : isOne w2 = true ∧ cellsOf w2 = some [w2]) : callW C 274 [.agg [w1, w2], .str t] H = some (.int .i64 (cmpS (keyD x.dn) t), H) := by
 apply Ret.eq
 rw [op274]
 have c1 := i_Key h hd
 simp [code274, Tryz.f274, l_cmp, c1, h.one, ho]
theorem l_searchE {H : List Ob} {v : V} {l : List PEntry} {t : Str} (h : AEntries H v l) (hl : l.length ≤ 1000) (hok : ∀ x ∈ l, DnOk x.dn) (hp : l.Pairwise fun a b => (keyD a.dn) < (keyD b.dn)) :
  ∃ (i : Nat) (ok : Bool), callW C 273 [v, .str t, .fn 274 [] []] H = some (.tup [.int .i64 i, .bool ok], H) ∧
   i ≤ l.length ∧ (∀ q a, q < i → l[q]? = some a → LtS (keyD a.dn) t) ∧ (∀ q a, i ≤ q → l[q]? = some a → ¬ LtS (keyD a.dn) t) ∧ (ok = true ↔ ∃ a, l[i]? = some a ∧ (keyD a.dn) = t) := by
 suffices hs : Ret C 273 [v, .str t, .fn 274 [] []] H fun q H' =>
   (∃ (i : Nat) (ok : Bool), q = .tup [.int .i64 i, .bool ok] ∧ i ≤ l.length ∧ (∀ q a, q < i → l[q]? = some a → LtS (keyD a.dn) t) ∧ (∀ q a, i ≤ q → l[q]? = some a → ¬ LtS (keyD a.dn) t) ∧ (ok = true ↔ ∃ a, l[i]? = some a ∧ (keyD a.dn) = t)) ∧ H' = H by
  obtain ⟨q, H', hc, ⟨i, ok, rfl, h1⟩, rfl⟩ := hs
  exact ⟨i, ok, hc, h1⟩
 rw [op273]
 simp [code273, Tryz.f273, h.len]
 refine WP_loop (fun k σ => ∃ (i j : Nat) (r : Nat → R), j - i = k ∧ i ≤ j ∧ j ≤ l.length ∧ σ = ⟨r, 0, H⟩ ∧ r 0 = .val v ∧ r 1 = .val (.str t) ∧ r 2 = .val (.fn 274 [] []) ∧ r 8 = .val (.int .i64 l.length) ∧ r 9 = .val (.int .i64 i) ∧ r 10 = .val (.int .i64 j) ∧
  (∀ q a, q < i → l[q]? = some a → LtS (keyD a.dn) t) ∧ (∀ q a, j ≤ q → l[q]? = some a → ¬ LtS (keyD a.dn) t)) ?_ l.length _ ⟨0, l.length, _, by omega, by omega, by omega, rfl, by simp, by simp, by simp, by simp, by simp, by simp, fun q a h => by omega, fun q a h1 h2 => by have := (List.getElem?_eq_some_iff.1 h2).1; omega⟩
 rintro k σ ⟨i, j, r, hk, hij, hjl, rfl, r0, r1, r2, r8, r9, r10, hlo, hhi⟩
 cases k with
 | succ k =>
  have hlt : (i : Int) < j := by omega
  have hlt' : i < j := by omega
  have hw1 : IntKind.i64.wrap ((i : Int) + j) = (i : Int) + j := wrap_i64 (by omega) (by omega)
  have hw2 : IntKind.u64.wrap ((i : Int) + j) = (i : Int) + j := by unfold IntKind.wrap; simp [IntKind.bits, IntKind.signed]; omega
  have hq : ((i : Int) + j).fdiv 2 = (((i + j) / 2 : Nat) : Int) := by rw [Int.fdiv_eq_ediv_of_nonneg _ (by omega)]; omega
  obtain ⟨m, hm⟩ : ∃ m, m = (i + j) / 2 := ⟨_, rfl⟩
  rw [← hm] at hq
  have hw3 : IntKind.i64.wrap (m : Int) = m := wrap_i64 (by omega) (by omega)
  have hw4 : IntKind.i64.wrap ((m : Int) + 1) = (m : Int) + 1 := wrap_i64 (by omega) (by omega)
  have hml : m < l.length := by omega
  obtain ⟨a, ha⟩ : ∃ a, l[m]? = some a := ⟨l[m], List.getElem?_eq_getElem hml⟩
  obtain ⟨id, o, w1, w2, e1, l0, l1, l2, hvs, hva, _⟩ := entries_idx h ha
  have c1 := i_byKey (t := t) hvs (hok a (List.mem_of_getElem? ha)) hva.one
  have hord : ∀ q b, l[q]? = some b → (q < m → (keyD b.dn) < (keyD a.dn)) ∧ (m < q → (keyD a.dn) < (keyD b.dn)) := fun q b hb => by
   obtain ⟨hq1, hb⟩ := List.getElem?_eq_some_iff.1 hb
   obtain ⟨_, ha⟩ := List.getElem?_eq_some_iff.1 ha
   have := List.pairwise_iff_getElem.1 hp
   exact ⟨fun hh => by have := this q m hq1 hml hh; rwa [hb, ha] at this, fun hh => by have := this m q hml hq1 hh; rwa [hb, ha] at this⟩
  by_cases g1 : LtS (keyD a.dn) t
  ·have g1' := cmpS_lt.2 g1
   simp [r0, r1, r2, r8, r9, r10, hlt, hlt', hw1, hw2, hq, hw3, hw4, e1, l2, c1, g1', intShift, IntKind.bits]
   refine ⟨j - (m + 1), by omega, m + 1, j, by omega, by omega, by omega, by omega, rfl, fun q b hq1 hb => ?_, hhi⟩
   by_cases hqm : q = m
   ·subst hqm; rw [ha] at hb; cases hb; exact g1
   ·exact (LtS_iff _ _).2 (List.lt_trans ((hord q b hb).1 (by omega)) ((LtS_iff _ _).1 g1))
  ·have g1' : ¬ cmpS (keyD a.dn) t < 0 := mt cmpS_lt.1 g1
   simp [r0, r1, r2, r8, r9, r10, hlt, hlt', hw1, hw2, hq, hw3, hw4, e1, l2, c1, g1', intShift, IntKind.bits]
   refine ⟨m - i, by omega, i, m, by omega, by omega, by omega, rfl, rfl, hlo, fun q b hq1 hb hlt2 => ?_⟩
   by_cases hqm : q = m
   ·subst hqm; rw [ha] at hb; cases hb; exact g1 hlt2
   ·exact g1 ((LtS_iff _ _).2 (List.lt_trans ((hord q b hb).2 (by omega)) ((LtS_iff _ _).1 hlt2)))
 | zero =>
  have hij' : i = j := by omega
  subst hij'
  by_cases hil : i < l.length
  ·have hilI : (i : Int) < l.length := by omega
   obtain ⟨a, ha⟩ : ∃ a, l[i]? = some a := ⟨l[i], List.getElem?_eq_getElem hil⟩
   obtain ⟨id, o, w1, w2, e1, l0, l1, l2, hvs, hva, _⟩ := entries_idx h ha
   have c1 := i_byKey (t := t) hvs (hok a (List.mem_of_getElem? ha)) hva.one
   by_cases g1 : (keyD a.dn) = t
   ·have g1' := cmpS_eq.2 g1
    simp [r0, r1, r2, r8, r9, r10, hil, e1, l2, c1, g1']
    exact ⟨i, rfl, by omega, hlo, hhi, a, ha, g1⟩
   ·have g1' : ¬ cmpS (keyD a.dn) t = 0 := mt cmpS_eq.1 g1
    simp [r0, r1, r2, r8, r9, r10, hil, e1, l2, c1, g1']
    exact ⟨i, rfl, by omega, hlo, hhi, fun b hb => by rw [ha] at hb; cases hb; exact g1⟩
  ·simp [r0, r1, r2, r8, r9, r10, hil]
   exact ⟨i, rfl, by omega, hlo, hhi, fun b hb => by have := (List.getElem?_eq_some_iff.1 hb).1; omega⟩
theorem i_searchT {H : List Ob} {idt : Nat} {own : Bool} {es : Nat} {vs ve vd : V} {l : List PEntry} {dn : List PRdn} (ht : H[idt]? = some (.mk own es [vs, ve])) (h : AEntries H ve l) (hl : l.length ≤ 1000) (hok : ∀ x ∈ l, DnOk x.dn) (hp : l.Pairwise fun a b => keyD a.dn < keyD b.dn) (hd : ARdns H vd dn) (hdn : DnOk dn) :
  ∃ (i : Nat) (ok : Bool), callW C 192 [.ptr (some (idt, 0)), vd] H = some (.tup [.int .i64 i, .bool ok], H) ∧
   i ≤ l.length ∧ (∀ q a, q < i → l[q]? = some a → LtS (keyD a.dn) (keyD dn)) ∧ (∀ q a, i ≤ q → l[q]? = some a → ¬ LtS (keyD a.dn) (keyD dn)) ∧ (ok = true ↔ ∃ a, l[i]? = some a ∧ keyD a.dn = keyD dn) := by
 obtain ⟨i, ok, c1, h1⟩ := l_searchE (t := keyD dn) h hl hok hp
 refine ⟨i, ok, ?_, h1⟩
 apply Ret.eq
 rw [op192]
 have c2 := i_Key hd hdn
 have ld := load1 (o := 1) (v := ve) ht rfl
 have hid : idt < H.length := (List.getElem?_eq_some_iff.1 ht).1
 simp [code192, Tryz.f192, c1, c2, ld, hid, regionL_none, regionL_some, List.lookup]
theorem i_hasParent {H : List Ob} {idt : Nat} {own : Bool} {es : Nat} {vs ve vd : V} {l : List PEntry} {dn : List PRdn} (ht : H[idt]? = some (.mk own es [vs, ve])) (h : AEntries H ve l) (hl : l.length ≤ 1000) (hok : ∀ x ∈ l, DnOk x.dn) (hp : l.Pairwise fun a b => keyD a.dn < keyD b.dn) (hd : ARdns H vd dn) (hdn : DnOk dn) :
  callW C 173 [.ptr (some (idt, 0)), vd] H = some (.bool (dec (ParentOk l dn)), H) := by
 apply Ret.dec
 rw [op173]
 by_cases g1 : dn.length ≤ 1
 ·have g1' : (dn.length : Int) ≤ 1 := by omega
  simp [code173, Tryz.f173, hd.len, g1']
  exact .inl g1
 have g1' : ¬ (dn.length : Int) ≤ 1 := by omega
 obtain ⟨id, off, own', cells, hv, hcell, at_⟩ := rdns_tail hd (by omega)
 have hst : strideIs H id 2 = true := by simp [strideIs, hcell]
 have q1 : 1 ≤ dn.length := by omega
 obtain ⟨i, ok, c1, hil, hlo, hhi, hok'⟩ := i_searchT ht h hl hok hp at_ hdn.tail
 have hpar : ok = true ↔ ParentOk l dn := by
  rw [hok']
  constructor
  ·rintro ⟨a, ha, he⟩
   exact .inr ⟨a, List.mem_of_getElem? ha, he⟩
  ·rintro (hh | ⟨y, hy, he⟩)
   ·omega
   ·obtain ⟨j, hj, rfl⟩ := List.getElem_of_mem hy
    have hji : ¬ j < i := fun hh => by
     have := hlo j _ hh (List.getElem?_eq_getElem hj)
     rw [he] at this
     exact List.lt_irrefl _ ((LtS_iff _ _).1 this)
    have hnl := hhi i
    by_cases hij : i = j
    ·subst hij
     exact ⟨_, List.getElem?_eq_getElem hj, he⟩
    ·have hi2 : i < l.length := by omega
     have h1 := hhi i _ (Nat.le_refl _) (List.getElem?_eq_getElem hi2)
     have h2 := List.pairwise_iff_getElem.1 hp i j hi2 hj (by omega)
     rw [he] at h2
     exact absurd ((LtS_iff _ _).2 h2) h1
 rw [hv] at hd ⊢
 cases ok with
 | true =>
  have := hpar.1 rfl
  simp [code173, Tryz.f173, hd.len, g1', hst, q1, c1, this]
 | false =>
  have : ¬ ParentOk l dn := fun hh => by have := hpar.2 hh; cases this
  simp [code173, Tryz.f173, hd.len, g1', hst, q1, c1, this]
theorem l_IndexFuncE {H : List Ob} {v : V} {l : List PEntry} {g : Nat} {a b : List V} (h : AEntries H v l) (p : PEntry → Bool) (hg : ∀ x ∈ l, ∀ w1 w2, ARdns H w1 x.dn → AAttrs H w2 x.attrs → callW C g (a ++ ([.agg [w1, w2]] ++ b)) H = some (.bool (p x), H)) :
  ∃ r : Int, callW C 259 [v, .fn g a b] H = some (.int .i64 r, H) ∧ (0 ≤ r ↔ ∃ x ∈ l, p x = true) := by
 suffices hs : Ret C 259 [v, .fn g a b] H fun q H' => (∃ r : Int, q = .int .i64 r ∧ (0 ≤ r ↔ ∃ x ∈ l, p x = true)) ∧ H' = H by
  obtain ⟨q, H', hc, ⟨r, rfl, hr⟩, rfl⟩ := hs
  exact ⟨r, hc, hr⟩
 rw [op259]
 have hb : l.length ≤ 9223372036854775807 := h.bound
 simp [code259, Tryz.f259, h.len]
 refine WP_loop (fun k σ => ∃ (i : Nat) (r : Nat → R), i + k = l.length ∧ σ = ⟨r, 0, H⟩ ∧ r 0 = .val v ∧ r 1 = .val (.fn g a b) ∧ r 7 = .val (.int .i64 l.length) ∧ r 8 = .val (.int .i64 i) ∧ ∀ j x, j < i → l[j]? = some x → p x = false) ?_ l.length _ ⟨0, _, by simp, rfl, by simp, by simp, by simp, by simp, by simp⟩
 rintro k σ ⟨i, r, hik, rfl, r0, r1, r7, r8, hall⟩
 cases k with
 | zero =>
  have hi : i = l.length := by omega
  subst hi
  have hx := at_all (P := fun j (x : PEntry) => p x = false) hall
  simp [r0, r1, r7, r8]
  intro x hm
  obtain ⟨j, hj, rfl⟩ := List.getElem_of_mem hm
  exact hx j _ (List.getElem?_eq_getElem hj)
 | succ k =>
  have hi : i < l.length := by omega
  obtain ⟨x, hx⟩ : ∃ c, l[i]? = some c := ⟨l[i], by simp [hi]⟩
  have hw : IntKind.i64.wrap ((i : Int) + 1) = ((i : Int) + 1) := wrap_i64 (by omega) (by omega)
  obtain ⟨id, o, w1, w2, e1, l0, l1, lm, a1, a2, _⟩ := entries_idx h hx
  have c1 := hg x (List.mem_of_getElem? hx) w1 w2 a1 a2
  simp only [List.singleton_append] at c1
  have ho1 := a1.one
  have ho2 := a2.one
  cases hp : p x with
  | false =>
   rw [hp] at c1
   simp [r0, r1, r7, r8, hi, e1, lm, c1, hw, ho1, ho2]
   exact ⟨k, by omega, i + 1, by omega, by omega, at_step (P := fun j (x : PEntry) => p x = false) hall hx hp⟩
  | true =>
   rw [hp] at c1
   simp [r0, r1, r7, r8, hi, e1, lm, c1, hw, ho1, ho2]
   exact ⟨x, List.mem_of_getElem? hx, hp⟩
theorem l_ContainsFuncE {H : List Ob} {v : V} {l : List PEntry} {g : Nat} {a b : List V} (h : AEntries H v l) (p : PEntry → Bool) (hg : ∀ x ∈ l, ∀ w1 w2, ARdns H w1 x.dn → AAttrs H w2 x.attrs → callW C g (a ++ ([.agg [w1, w2]] ++ b)) H = some (.bool (p x), H)) :
  callW C 171 [v, .fn g a b] H = some (.bool (dec (∃ x ∈ l, p x = true)), H) := by
 obtain ⟨r, c1, hr⟩ := l_IndexFuncE h p hg
 apply Ret.dec
 rw [op171]
 by_cases g1 : 0 ≤ r
 ·have := hr.1 g1
  simp [code171, Tryz.f171, c1, g1]
  exact this
 ·have : ¬ ∃ x ∈ l, p x = true := fun h => g1 (hr.2 h)
  simp [code171, Tryz.f171, c1, g1]
  intro x hx
  cases hp : p x with
  | false => rfl
  | true => exact absurd ⟨x, hx, hp⟩ this
theorem i_orphan {H : List Ob} {idt : Nat} {own : Bool} {es : Nat} {vs ve w1 w2 : V} {l : List PEntry} {x : PEntry} (ht : H[idt]? = some (.mk own es [vs, ve])) (h : AEntries H ve l) (hl : l.length ≤ 1000) (hok : ∀ x ∈ l, DnOk x.dn) (hp : l.Pairwise fun a b => keyD a.dn < keyD b.dn) (hd : ARdns H w1 x.dn) (ho : isOne w2 = true ∧ cellsOf w2 = some [w2]) (hx : DnOk x.dn) :
  callW C 172 [.agg [w1, w2], .ptr (some (idt, 0))] H = some (.bool (!dec (ParentOk l x.dn)), H) := by
 apply Ret.eq
 rw [op172]
 have c1 := i_hasParent ht h hl hok hp hd hx
 simp [code172, Tryz.f172, c1, hd.one, ho]
theorem i_TreeRight {H : List Ob} {vs ve : V} {t : PTree} (hs : AClasses H vs t.schema) (h : AEntries H ve t.entries) : callW C 80 [.agg [vs, ve]] H = some (.bool (dec (TreeOk t)), H) := by
 apply Ret.dec
 rw [op80]
 have hos := hs.one
 have hoe := h.one
 have hgb : ∀ X b, gcH H (H ++ X) (.bool b) = H := fun X b => gcH_bool
 obtain ⟨K, hK⟩ : ∃ K, K = H ++ [.mk true 2 [vs, ve]] := ⟨_, rfl⟩
 have hKt : K[H.length]? = some (.mk true 2 [vs, ve]) := by rw [hK]; exact get_last
 have hsK : AClasses K vs t.schema := by rw [hK]; exact hs.ext
 have hK2 : AEntries K ve t.entries := by rw [hK]; exact h.ext
 have ld0 := load1 (o := 0) (v := vs) hKt rfl
 have ld1 := load1 (o := 1) (v := ve) hKt rfl
 have hgK : ∀ b, gcH H K (.bool b) = H := fun b => by rw [hK]; exact gcH_bool
 have hKl : H.length < K.length := by rw [hK]; simp
 have c1 := i_Schema hsK
 by_cases g1 : SchemaOk t.schema
 rotate_left
 ·rw [dec_neg g1] at c1
  simp [code80, Tryz.f80, hos, hoe, strideOf, ← hK, ld0, c1, hgK]
  exact fun h => g1 h.1
 rw [dec_pos g1] at c1
 by_cases g2 : 20 < t.entries.length
 ·have g2' : (20 : Int) < t.entries.length := by omega
  simp [code80, Tryz.f80, hos, hoe, strideOf, ← hK, ld0, ld1, c1, hK2.len, g2', hgK]
  exact fun h => by have := h.2.1.1; omega
 have g2' : ¬ (20 : Int) < t.entries.length := by omega
 simp [code80, Tryz.f80, hos, hoe, strideOf, ← hK, ld0, ld1, c1, hK2.len, g2']
 have hb : t.entries.length ≤ 20 := by omega
 refine WP_loop (fun k σ => ∃ (i n : Nat) (r : Nat → R), i + k = t.entries.length ∧ σ = ⟨r, n, K⟩ ∧ r 1 = .val (.ptr (some (H.length, 0))) ∧ r 16 = .val ve ∧ r 17 = .val (.int .i64 t.entries.length) ∧ r 18 = .val (.int .i64 i) ∧ ∀ j x, j < i → t.entries[j]? = some x → EntryOk x ∧ FitsOk t.schema x ∧ PrevLt (fun e => keyD e.dn) t.entries j x) ?_ t.entries.length _ ⟨0, _, _, by omega, rfl, by simp, by simp, by simp, by simp, by simp⟩
 rintro k σ ⟨i, n, r, hik, rfl, r1, r16, r17, r18, hall⟩
 cases k with
 | zero =>
  have hi : i = t.entries.length := by omega
  subst hi
  have hE := at_all (P := fun j (x : PEntry) => EntryOk x ∧ FitsOk t.schema x ∧ PrevLt (fun e => keyD e.dn) t.entries j x) hall
  have hdn : ∀ x ∈ t.entries, DnOk x.dn := fun x hx => by
   obtain ⟨j, hj, rfl⟩ := List.getElem_of_mem hx
   exact (hE j _ (List.getElem?_eq_getElem hj)).1.2.1
  have hpw : t.entries.Pairwise fun a b => keyD a.dn < keyD b.dn := rise_pair (key := fun e => keyD e.dn) (fun j x hx => (hE j x hx).2.2)
  have c2 := l_ContainsFuncE (g := 172) (a := []) (b := [.ptr (some (H.length, 0))]) hK2 (fun x => !dec (ParentOk t.entries x.dn)) (fun x hx w1 w2 a1 a2 => i_orphan hKt hK2 (by omega) hdn hpw a1 a2.one (hdn x hx))
  by_cases g3 : ∀ x ∈ t.entries, ParentOk t.entries x.dn
  ·have hn : ¬ ∃ x ∈ t.entries, (!dec (ParentOk t.entries x.dn)) = true := by
    rintro ⟨x, hx, he⟩
    rw [dec_pos (g3 x hx)] at he
    cases he
   rw [dec_neg hn] at c2
   have hT : TreeOk t := ⟨g1, ⟨hb, hE⟩, g3⟩
   simp [r1, r16, r17, r18, ld0, ld1, c2, hgK, hT]
  ·have hn : ∃ x ∈ t.entries, (!dec (ParentOk t.entries x.dn)) = true := by
    refine Classical.byContradiction fun hh => g3 fun x hx => Classical.byContradiction fun hp => hh ⟨x, hx, by rw [dec_neg hp]; rfl⟩
   rw [dec_pos hn] at c2
   have hT : ¬ TreeOk t := fun h => g3 h.2.2
   simp [r1, r16, r17, r18, ld0, ld1, c2, hgK, hT]
 | succ k =>
  have hi : i < t.entries.length := by omega
  obtain ⟨x, hx⟩ : ∃ c, t.entries[i]? = some c := ⟨t.entries[i], by simp [hi]⟩
  have hw : IntKind.i64.wrap ((i : Int) + 1) = ((i : Int) + 1) := wrap_i64 (by omega) (by omega)
  obtain ⟨id, o, w1, w2, e1, l0, l1, lm, a1, a2, _⟩ := entries_idx hK2 hx
  have hid := lo_of l0
  obtain ⟨f, c3, hf⟩ := i_Check hsK a1 a2 g1
  have hstep := fun h => at_step (P := fun j (x : PEntry) => EntryOk x ∧ FitsOk t.schema x ∧ PrevLt (fun e => keyD e.dn) t.entries j x) hall hx h
  have ho1 := a1.one
  have ho2 := a2.one
  by_cases q1 : EntryOk x ∧ FitsOk t.schema x
  rotate_left
  ·have hf0 : ¬ f = 0 := fun e => q1 (hf.1 e)
   have hn : ¬ TreeOk t := fun hd => q1 ⟨(hd.2.1.2 i x hx).1, (hd.2.1.2 i x hx).2.1⟩
   simp [r1, r16, r17, r18, hi, e1, l0, l1, lm, ld0, ld1, hid, hKl, c3, hf0, hn, ho1, ho2, hgK, regionL_none, regionL_some, List.lookup]
  have hf0 : f = 0 := hf.2 q1
  subst hf0
  by_cases hi0 : i = 0
  ·have := hstep ⟨q1.1, q1.2, fun y hy => by omega⟩
   subst hi0
   simp at e1
   simp [r1, r16, r17, r18, hi, e1, l0, l1, lm, ld0, ld1, hid, hKl, c3, ho1, ho2, hgK, regionL_none, regionL_some, List.lookup]
   exact ⟨k, by omega, 1, by omega, _, _, ⟨rfl, rfl⟩, by simp [r1], by simp [r16], by simp [r17], by simp, this⟩
  ·have hip : 0 < i := by omega
   obtain ⟨y, hy⟩ : ∃ c, t.entries[i - 1]? = some c := ⟨t.entries[i - 1]'(by omega), by simp⟩
   obtain ⟨id', o', w1', w2', e1', l0', _, _, a1', _⟩ := entries_idx hK2 hy
   have hid' := lo_of l0'
   have hyok := (hall (i - 1) y (by omega) hy).1
   have c4 := i_Key a1 q1.1.2.1
   have c5 := i_Key a1' hyok.2.1
   have hw1 : IntKind.i64.wrap ((i : Int) - 1) = ((i - 1 : Nat) : Int) := by rw [wrap_i64 (by omega) (by omega)]; omega
   by_cases q3 : LtS (keyD y.dn) (keyD x.dn)
   ·have := hstep ⟨q1.1, q1.2, fun z _ hz => by rw [hy] at hz; cases hz; exact q3⟩
    simp [r1, r16, r17, r18, hi, e1, l0, l1, lm, ld0, ld1, hid, hid', hKl, c3, c4, c5, e1', l0', hw, hw1, hip, LtS_dec q3, ho1, ho2, hgK, regionL_none, regionL_some, List.lookup]
    exact ⟨k, by omega, i + 1, by omega, _, _, ⟨rfl, rfl⟩, by simp [r1], by simp [r16], by simp [r17], by simp, this⟩
   ·have hn : ¬ TreeOk t := fun hd => q3 ((hd.2.1.2 i x hx).2.2 y hip hy)
    simp [r1, r16, r17, r18, hi, e1, l0, l1, lm, ld0, ld1, hid, hid', hKl, c3, c4, c5, e1', l0', hw, hw1, hip, LtS_no q3, ho1, ho2, hgK, regionL_none, regionL_some, List.lookup, hn]
def NOut (H : List Ob) (o : PEntryOut) (q : V) (H' : List Ob) : Prop := ∃ T w1 w2, q = .agg [w1, w2, .int .i64 o.code] ∧ H' = H ++ T ∧ New H.length (H ++ T).length (H ++ T) shEntryOut [w1, w2, .int .i64 o.code] o.u
theorem NOut.ill {H : List Ob} {c : Int} (h : (Lit.int .i64 c).wf = true) : NOut H (illE c) (.agg [.slc none 0, .slc none 0, .int .i64 c]) H :=
 ⟨[], .slc none 0, .slc none 0, rfl, by simp, New.st (News.cons (c1 := [.slc none 0, .slc none 0]) (m := H.length) (New.st (News.nilS (News.nilS News.nil))) (News.int h News.nil) (Nat.le_refl _) (by simp))⟩
theorem NOut.of {H G : List Ob} {e : PEntry} {w1 w2 : V} (hT : ∃ T, G = H ++ T) (hn : New H.length G.length G shEntry [w1, w2] e.u) : NOut H ⟨e, 0⟩ (.agg [w1, w2, .int .i64 0]) (gcH H G (.agg [w1, w2, .int .i64 0])) := by
 obtain ⟨T, rfl⟩ := hT
 have h2 : New H.length (H ++ T).length (H ++ T) shEntryOut [w1, w2, .int .i64 0] (PEntryOut.u ⟨e, 0⟩) := New.st (News.cons (c1 := [w1, w2]) (m := (H ++ T).length) hn (News.int (by decide) News.nil) (by simp) (Nat.le_refl _))
 obtain ⟨T', h3, h4⟩ := h2.gcA
 exact ⟨T', w1, w2, rfl, h3, h4⟩
def NOutB (b : Nat) (H : List Ob) (o : PEntryOut) (q : V) (H' : List Ob) : Prop := ∃ T w1 w2, q = .agg [w1, w2, .int .i64 o.code] ∧ H' = H ++ T ∧ New b (H ++ T).length (H ++ T) shEntryOut [w1, w2, .int .i64 o.code] o.u
theorem NOutB.base {H : List Ob} {X : List Ob} {o : PEntryOut} {q : V} {H' : List Ob} (h : NOutB H.length (H ++ X) o q H') : NOut H o q (gcH H H' q) := by
 obtain ⟨T, w1, w2, rfl, rfl, h3⟩ := h
 rw [List.append_assoc] at h3 ⊢
 obtain ⟨T', h4, h5⟩ := h3.gcA
 exact ⟨T', w1, w2, rfl, h4, h5⟩
theorem NOutB.one {b : Nat} {H : List Ob} {o : PEntryOut} {q : V} {H' : List Ob} (h : NOutB b H o q H') : ∃ w1 w2, q = .agg [w1, w2, .int .i64 o.code] ∧ (isOne w1 = true ∧ cellsOf w1 = some [w1]) ∧ (isOne w2 = true ∧ cellsOf w2 = some [w2]) := by
 obtain ⟨T, w1, w2, rfl, rfl, h3⟩ := h
 obtain ⟨_, _, hcs, a1, a2, _⟩ := entryOut_at.1 h3.at
 cases hcs
 exact ⟨w1, w2, rfl, a1.one, a2.one⟩
theorem EntryOk.small {e : PEntry} (h : EntryOk e) : SmallE e := by
 obtain ⟨_, h1, h2⟩ := h
 refine ⟨by have := h1.2; omega, by have := h2.2; omega, fun a ha => ?_⟩
 obtain ⟨j, hj, rfl⟩ := List.getElem_of_mem ha
 have := (h2.1 j _ (List.getElem?_eq_getElem hj)).2.2.2.2
 omega
theorem EntryOk.rise {e : PEntry} (h : EntryOk e) : e.attrs.Pairwise fun a b => a.name < b.name := rise_pair (fun j x hx => (h.2.2.1 j x hx).2.1)
theorem At_illE {H : List Ob} {c : Int} (h : (Lit.int .i64 c).wf = true) : At H shEntryOut [.slc none 0, .slc none 0, .int .i64 c] (illE c).u :=
 entryOut_at.2 ⟨_, _, rfl, At_slice.2 ⟨_, _, rfl, rfl, by simp [illE], .inl ⟨rfl, rfl⟩⟩, At_slice.2 ⟨_, _, rfl, rfl, by simp [illE], .inl ⟨rfl, rfl⟩⟩, h⟩
def EOut (H : List Ob) (o : PEntryOut) (q : V) (H' : List Ob) : Prop := ∃ T w1 w2, q = .agg [w1, w2, .int .i64 o.code] ∧ H' = H ++ T ∧ At (H ++ T) shEntryOut [w1, w2, .int .i64 o.code] o.u ∧ gcH H (H ++ T) (.agg [w1, w2, .int .i64 o.code]) = H ++ T
theorem EOut.ill {H : List Ob} {c : Int} (h : (Lit.int .i64 c).wf = true) : EOut H (illE c) (.agg [.slc none 0, .slc none 0, .int .i64 c]) H :=
 ⟨[], .slc none 0, .slc none 0, rfl, by simp, by rw [List.append_nil]; exact At_illE h, by rw [List.append_nil]; exact gcH_same⟩
theorem i_ManyS {H : List Ob} {v : V} {l : List Str} (h : AStrs H v l) : callW C 63 [v] H = some (.bool (decide (400 < l.length)), H) := by
 apply Ret.eq
 rw [op63]
 simp [code63, Tryz.f63, h.len]
 omega
theorem l_CloneR {H : List Ob} {v : V} {l : List PRdn} (h : ARdns H v l) (hl : l.length ≤ 1048576) :
  ∃ T w, callW C 276 [v] H = some (w, H ++ T) ∧ New H.length (H ++ T).length (H ++ T) (.slice shRdn) [w] (.lst (l.map PRdn.u)) := by
 suffices hs : Ret C 276 [v] H fun q H' => ∃ T, H' = H ++ T ∧ New H.length (H ++ T).length (H ++ T) (.slice shRdn) [q] (.lst (l.map PRdn.u)) by
  obtain ⟨q, H', hc, T, rfl, hr⟩ := hs
  exact ⟨T, q, hc, hr⟩
 rw [op276]
 obtain ⟨w, T1, a1, n1⟩ := append_clone (d := .struct [(0, 9), (1, 9)]) (by_ := 32) (z := [.str [], .str []]) (sz := 2) h rfl rfl rfl (by decide) (by decide) (by decide) (by unfold maxMade; omega)
 obtain ⟨T', hg, hn⟩ := n1.gc1
 rcases h.sub with ⟨rfl, rfl⟩ | ⟨id, off, own, cells, rfl, _⟩
 ·simp [code276, Tryz.f276]
  exact New.nil
 ·simp [code276, Tryz.f276, elemT, fillL, zerosL, St.new, a1, hg]
  simpa using hn
theorem l_CloneS {H : List Ob} {v : V} {l : List Str} (h : AStrs H v l) (hl : l.length ≤ 1048576) :
  ∃ T w, callW C 277 [v] H = some (w, H ++ T) ∧ New H.length (H ++ T).length (H ++ T) (.slice .str) [w] (.lst (l.map strU)) := by
 suffices hs : Ret C 277 [v] H fun q H' => ∃ T, H' = H ++ T ∧ New H.length (H ++ T).length (H ++ T) (.slice .str) [q] (.lst (l.map strU)) by
  obtain ⟨q, H', hc, T, rfl, hr⟩ := hs
  exact ⟨T, q, hc, hr⟩
 rw [op277]
 obtain ⟨w, T1, a1, n1⟩ := append_clone (d := .str) (by_ := 16) (z := [.str []]) (sz := 1) h rfl rfl rfl (by decide) (by decide) (by decide) (by unfold maxMade; omega)
 obtain ⟨T', hg, hn⟩ := n1.gc1
 rcases h.sub with ⟨rfl, rfl⟩ | ⟨id, off, own, cells, rfl, _⟩
 ·simp [code277, Tryz.f277]
  exact New.nil
 ·simp [code277, Tryz.f277, elemT, fillL, zerosL, St.new, a1, hg]
  simpa using hn
theorem i_copied {H : List Ob} {vd va : V} {e : PEntry} (hd : ARdns H vd e.dn) (ha : AAttrs H va e.attrs) (hb : SmallE e) :
  ∃ T w1 w2, callW C 195 [.agg [vd, va]] H = some (.agg [w1, w2], H ++ T) ∧ New H.length (H ++ T).length (H ++ T) shEntry [w1, w2] e.u := by
 suffices hs : Ret C 195 [.agg [vd, va]] H fun q H' => ∃ T w1 w2, q = .agg [w1, w2] ∧ H' = H ++ T ∧ New H.length (H ++ T).length (H ++ T) shEntry [w1, w2] e.u by
  obtain ⟨q, H', hc, T, w1, w2, rfl, rfl, hr⟩ := hs
  exact ⟨T, w1, w2, hc, hr⟩
 rw [op195]
 have hod := hd.one
 have hoa := ha.one
 obtain ⟨T1, w1, a1, n1⟩ := l_CloneR hd hb.1
 have hb2 := hb.2.1
 have how := New.one1 n1
 obtain ⟨K, hK⟩ : ∃ K, K = H ++ T1 := ⟨_, rfl⟩
 rw [← hK] at n1 a1
 have haK : AAttrs K va e.attrs := by rw [hK]; exact ha.ext
 simp [code195, Tryz.f195, hod, hoa, a1, buildV, structPlace, fillL, how, haK.len]
 refine WP_loop (fun k σ => ∃ (i n : Nat) (r : Nat → R) (G : List Ob) (w : V), i + k = e.attrs.length ∧ σ = ⟨r, n, G⟩ ∧ r 2 = .box 1 [.slc none 0, .slc none 0] ∧ r 3 = .box 2 [w1, w] ∧ r 11 = .val va ∧ r 12 = .val (.int .i64 e.attrs.length) ∧ r 13 = .val (.int .i64 i) ∧ LstF K G shAttr PAttr.u w (e.attrs.take i)) ?_ e.attrs.length _ ⟨0, 3, _, K, .slc none 0, by simp, rfl, by simp, by simp, by simp, by simp, by simp, by simpa using LstF.nil⟩
 rintro k σ ⟨i, cn, r, G, w, hik, rfl, r2, r3, r11, r12, r13, hG⟩
 obtain ⟨S, hS⟩ := hG.pre
 have haG : AAttrs G va e.attrs := by rw [hS]; exact haK.ext
 have hwo := hG.one
 cases k with
 | zero =>
  have hi : i = e.attrs.length := by omega
  subst hi
  rw [List.take_length] at hG
  have n2 := hG.new ha.bound
  have hne : New H.length G.length G shEntry [w1, w] e.u := by
   refine New.st (News.cons (m := K.length) (c1 := [w1]) ?_ (News.one n2 (by rw [hS]; simp)) (by rw [hK]; simp) (by rw [hS]; simp))
   rw [hS]; exact n1.ext
  obtain ⟨T', hg, hn⟩ := (show New H.length G.length (H ++ (T1 ++ S)) shEntry [w1, w] e.u by rw [← List.append_assoc, ← hK, ← hS]; exact hne).gcA
  rw [← List.append_assoc, ← hK, ← hS] at hg
  simp [r2, r3, r11, r12, r13, hg, how, hwo]
  exact ⟨T', w1, w, ⟨rfl, rfl⟩, rfl, by simpa using hn⟩
 | succ k =>
  have hi : i < e.attrs.length := by omega
  obtain ⟨x, hx⟩ : ∃ c, e.attrs[i]? = some c := ⟨e.attrs[i], by simp [hi]⟩
  have hw : IntKind.i64.wrap ((i : Int) + 1) = ((i : Int) + 1) := wrap_i64 (by omega) (by omega)
  obtain ⟨id, o, wx, ex, lx, hvx, hnx, hidx, _⟩ := attrs_idxT ha hx
  have hGH : G = H ++ (T1 ++ S) := by rw [hS, hK, List.append_assoc]
  obtain ⟨l0, l1, l2⟩ := lx G ⟨_, hGH⟩
  have hvG : AStrs G wx x.vals := by rw [hGH]; exact hvx.ext
  have hox := hvG.one
  have hbx := hb.2.2 x (List.mem_of_getElem? hx)
  obtain ⟨T2, wv, a2, n2⟩ := l_CloneS hvG hbx
  have hel : New G.length (G ++ T2).length (G ++ T2) shAttr [.str x.name, wv] x.u := New.st (News.str hnx (News.one n2 (by simp)))
  obtain ⟨w', G', a3, hG', _, _⟩ := hG.push (T := T2) (d := .struct [(0, 9), (1, 30)]) (by_ := 40) (z := [.str [], .slc none 0]) (sz := 2) hel rfl rfl (by decide) (by decide) (by decide) (by simp; unfold maxMade; omega)
  rw [← take_get hx] at hG'
  have hwv := New.one1 n2
  have hw' := hG'.one
  simp only [List.append_assoc, List.length_append] at a3
  simp [r2, r3, r11, r12, r13, hi, ex, l0, l1, l2, a2, a3, Keep_append, elemT, fillL, zerosL, St.new, buildV, structPlace, hod, hoa, hox, hwv, hwo, hw', hw, List.lookup]
  exact ⟨k, by omega, i + 1, by omega, _, _, _, ⟨rfl, rfl, rfl⟩, by simp [r2], w', by simp, by simp [r11], by simp [r12], by simp, hG'⟩
theorem TreeOk.dns {t : PTree} (h : TreeOk t) : ∀ x ∈ t.entries, EntryOk x := fun x hx => by
 obtain ⟨j, hj, rfl⟩ := List.getElem_of_mem hx
 exact (h.2.1.2 j _ (List.getElem?_eq_getElem hj)).1
def SmallC (c : PClass) : Prop := c.must.length ≤ 1048576 ∧ c.may.length ≤ 1048576 ∧ c.single.length ≤ 1048576
def SmallT (t : PTree) : Prop := (t.schema.length ≤ 1048576 ∧ ∀ c ∈ t.schema, SmallC c) ∧ t.entries.length ≤ 1048576 ∧ ∀ e ∈ t.entries, SmallE e
end Go.Proofs.Try1
end
section
namespace Go.Proofs.Try1
open Go Go.Lite
attribute [-simp] WP_region WP_cond
attribute [local simp] WP_regionF WP_condF ThenW_some ThenW_none CondW_true CondW_false
attribute [local simp low] CondW_bool
def classS : Str := [99, 108, 97, 115, 115]
def knownL (l : List PClass) : List Str := classS :: l.flatMap fun c => c.must ++ c.may
theorem strs_one {G : List Ob} {t : Str} (ht : t.length ≤ maxLen) : AStrs (G ++ [.mk true 1 [.str t]]) (.slc (some (G.length, 0)) 1) [t] := by
 have := strs_pre (G := G ++ [.mk true 1 [.str t]]) (id := G.length) (own := true) (cs := [t]) (k := 1) (by rw [get_last]; rfl) (by simp) (by unfold maxLen; omega) (by simp; exact ht)
 simpa using this
theorem classes_idxF {H : List Ob} {v : V} {xs : List PClass} (h : AClasses H v xs) {i : Nat} {x : PClass} (hx : xs[i]? = some x) : ∃ id o w1 w2 w3,
  (∀ (e s b : Nat) (z : List V) (ty : Nat → LT) (k : IntKind), (ty e).size = 4 → indexR ⟨.slice e, s, b, z⟩ ty (.val v) (.int k i) = some (.val (.ptr (some (id, o))))) ∧
  (∀ G, (∃ S, G = H ++ S) → (∀ T : LT, T.one → ∀ r c, loadAt T ⟨r, c, G⟩ (.hp id (o + 1)) = some w1) ∧ (∀ T : LT, T.one → ∀ r c, loadAt T ⟨r, c, G⟩ (.hp id (o + 2)) = some w2) ∧
  (∀ T : LT, T.many 4 → ∀ r c, loadAt T ⟨r, c, G⟩ (.hp id o) = some (.agg [.str x.name, w1, w2, w3]))) ∧ AStrs H w1 x.must ∧ AStrs H w2 x.may ∧ AStrs H w3 x.single ∧ id < H.length := by
 obtain ⟨id, o, own, cells, e1, e2, e3, e4⟩ := ASl.idx h hx (by decide)
 obtain ⟨w1, w2, w3, e4, e7, e8, e9, e5⟩ := class_at.1 e4
 refine ⟨id, o, w1, w2, w3, e1, ?_, e8, e9, e5, (List.getElem?_eq_some_iff.1 e2).1⟩
 rintro G ⟨S, rfl⟩
 have e2' := up_append (T := S) _ _ e2
 exact ⟨load1 e2' (by simpa using cells_get e4 (j := 1) rfl), load1 e2' (by simpa using cells_get e4 (j := 2) rfl), loadN e2' e3 (by decide) e4⟩
theorem s_L05Known {H : List Ob} {v : V} {l : List PClass} (h : AClasses H v l) (hb : ∀ c ∈ l, c.must.length ≤ 10 ∧ c.may.length ≤ 10) (hl : l.length ≤ 6) :
  ∃ T w l', callW C 186 [v] H = some (w, H ++ T) ∧ AStrs (H ++ T) w l' ∧ (∀ x, x ∈ l' ↔ x ∈ knownL l) := by
 suffices hs : Ret C 186 [v] H fun w H' => ∃ T l', H' = H ++ T ∧ AStrs (H ++ T) w l' ∧ (∀ x, x ∈ l' ↔ x ∈ knownL l) by
  obtain ⟨q, H', hc, T, l', rfl, hr⟩ := hs
  exact ⟨T, q, l', hc, hr⟩
 rw [op186]
 have hone := h.one
 simp [code186, Tryz.f186, St.new, elemT, fillL, zerosL]
 have hinit : AStrs (H ++ [.mk true 1 [.str classS]]) (.slc (some (H.length, 0)) 1) [classS] := strs_one (by decide)
 refine WP_loop (fun k σ => ∃ (i : Nat) (r : Nat → R) (T : List Ob) (w : V) (ks : List Str), i + k = l.length ∧ σ = ⟨r, 0, H ++ T⟩ ∧ r 0 = .val v ∧ r 3 = .val w ∧ r 4 = .val (.int .i64 i) ∧ AStrs (H ++ T) w ks ∧ (∀ x, x ∈ ks ↔ x ∈ knownL (l.take i)) ∧ ks.length ≤ 1 + 20 * i) ?_ l.length _ ⟨0, _, _, _, [classS], by simp, rfl, by simp, by simp, by simp, hinit, by simp [knownL], by simp⟩
 rintro k σ ⟨i, r, T, w, ks, hik, rfl, r0, r3, r4, hw, hmem, hlen⟩
 have hlT : AClasses (H ++ T) v l := h.ext
 have hwo := hw.one
 cases k with
 | zero =>
  have hi : i = l.length := by omega
  subst hi
  rw [List.take_length] at hmem
  obtain ⟨T', hg, hw'⟩ := hw.gc
  simp [r0, r3, r4, hlT.len, hwo, hg, regionL_none, regionL_some, List.lookup]
  exact ⟨ks, hw', hmem⟩
 | succ k =>
  have hi : i < l.length := by omega
  obtain ⟨c, hc⟩ : ∃ c, l[i]? = some c := ⟨l[i], by simp [hi]⟩
  have hcb := hb c (List.mem_of_getElem? hc)
  have hw1 : IntKind.i64.wrap ((i : Int) + 1) = ((i : Int) + 1) := wrap_i64 (by omega) (by omega)
  have hstep : ∀ m, m ∈ knownL (l.take (i + 1)) ↔ m ∈ knownL (l.take i) ∨ m ∈ c.must ∨ m ∈ c.may := fun m => by
   unfold knownL
   rw [take_get hc, List.flatMap_append]
   simp [or_assoc]
  simp [r0, r3, r4, hi, hlT.len, regionL_none, regionL_some, List.lookup]
  refine WP.mono (Q := fun ex σ' => ∃ (r : Nat → R) (T : List Ob) (w : V) (ks : List Str), ex = .exit 2 ∧ σ' = ⟨r, 0, H ++ T⟩ ∧ r 0 = .val v ∧ r 3 = .val w ∧ r 4 = .val (.int .i64 i) ∧ AStrs (H ++ T) w ks ∧ (∀ x, x ∈ ks ↔ x ∈ knownL (l.take i) ∨ x ∈ c.must) ∧ ks.length ≤ 11 + 20 * i) ?_ ?_
  ·refine WP_loop (fun k σ => ∃ (j : Nat) (r : Nat → R) (T : List Ob) (w : V) (ks : List Str), j + k = c.must.length ∧ σ = ⟨r, 0, H ++ T⟩ ∧ r 0 = .val v ∧ r 3 = .val w ∧ r 4 = .val (.int .i64 i) ∧ r 5 = .val (.int .i64 j) ∧ AStrs (H ++ T) w ks ∧ (∀ x, x ∈ ks ↔ x ∈ knownL (l.take i) ∨ x ∈ c.must.take j) ∧ ks.length ≤ 1 + 20 * i + j) ?_ c.must.length _ ⟨0, _, T, w, ks, by simp, rfl, by simp [r0], by simp [r3], by simp [r4], by simp, hw, by simp [hmem], by omega⟩
   clear hw hmem hlen hwo hlT r0 r3 r4 ks w T r
   rintro k σ ⟨j, r, T, w, ks, hjk, rfl, r0, r3, r4, r5, hw, hmem, hlen⟩
   have hlT : AClasses (H ++ T) v l := h.ext
   have hwo := hw.one
   obtain ⟨id, o, w1, w2, w3, e1, ll, q1, q2, q3, _⟩ := classes_idxF h hc
   obtain ⟨l1, l2, _⟩ := ll (H ++ T) ⟨_, rfl⟩
   cases k with
   | zero =>
    have hj : j = c.must.length := by omega
    subst hj
    rw [List.take_length] at hmem
    simp [r0, r3, r4, r5, hi, e1, l1, q1.len, regionL_none, regionL_some, List.lookup]
    exact ⟨_, T, ⟨rfl, rfl⟩, by simp [r0], w, by simp [r3], by simp [r4], ks, hw, hmem, by omega⟩
   | succ k =>
    have hj : j < c.must.length := by omega
    obtain ⟨x, hx⟩ : ∃ x, c.must[j]? = some x := ⟨c.must[j], by simp [hj]⟩
    have hw2 : IntKind.i64.wrap ((j : Int) + 1) = ((j : Int) + 1) := wrap_i64 (by omega) (by omega)
    obtain ⟨id2, o2, f1, f0, hxl⟩ := strs_idx (q1.ext (T := T)) hx
    obtain ⟨T2, w', ks', c1, hw', hm', hl'⟩ := s_L05Put hw hxl (by omega)
    have hwo' := hw'.one
    simp [r0, r3, r4, r5, hi, hj, e1, l1, f1, f0, q1.len, c1, hw2, hwo', regionL_none, regionL_some, List.lookup]
    refine ⟨k, by omega, j + 1, by omega, _, T ++ T2, ⟨rfl, by simp⟩, by simp [r0], w', by simp, by simp [r4], by simp, ks', by simpa using hw', fun y => ?_, by omega⟩
    rw [hm' y, hmem y, take_get hx, List.mem_append, List.mem_singleton]
    constructor
    ·rintro (h | h | h)
     ·exact .inr (.inr h)
     ·exact .inl h
     ·exact .inr (.inl h)
    ·rintro (h | h | h)
     ·exact .inr (.inl h)
     ·exact .inr (.inr h)
     ·exact .inl h
  ·clear hw hmem hlen hwo hlT r0 r3 r4 ks w T r
   rintro ex σ' ⟨r, T, w, ks, rfl, rfl, r0, r3, r4, hw, hmem, hlen⟩
   simp [r0, r3, r4, regionL_none, regionL_some, List.lookup]
   refine WP.mono (Q := fun ex σ' => ∃ (r : Nat → R) (T : List Ob) (w : V) (ks : List Str), ex = .exit 4 ∧ σ' = ⟨r, 0, H ++ T⟩ ∧ r 0 = .val v ∧ r 3 = .val w ∧ r 4 = .val (.int .i64 i) ∧ AStrs (H ++ T) w ks ∧ (∀ x, x ∈ ks ↔ (x ∈ knownL (l.take i) ∨ x ∈ c.must) ∨ x ∈ c.may) ∧ ks.length ≤ 21 + 20 * i) ?_ ?_
   ·refine WP_loop (fun k σ => ∃ (j : Nat) (r : Nat → R) (T : List Ob) (w : V) (ks : List Str), j + k = c.may.length ∧ σ = ⟨r, 0, H ++ T⟩ ∧ r 0 = .val v ∧ r 3 = .val w ∧ r 4 = .val (.int .i64 i) ∧ r 6 = .val (.int .i64 j) ∧ AStrs (H ++ T) w ks ∧ (∀ x, x ∈ ks ↔ (x ∈ knownL (l.take i) ∨ x ∈ c.must) ∨ x ∈ c.may.take j) ∧ ks.length ≤ 11 + 20 * i + j) ?_ c.may.length _ ⟨0, _, T, w, ks, by simp, rfl, by simp [r0], by simp [r3], by simp [r4], by simp, hw, by simp [hmem], by omega⟩
    clear hw hmem hlen r0 r3 r4 ks w T r
    rintro k σ ⟨j, r, T, w, ks, hjk, rfl, r0, r3, r4, r6, hw, hmem, hlen⟩
    have hlT : AClasses (H ++ T) v l := h.ext
    have hwo := hw.one
    obtain ⟨id, o, w1, w2, w3, e1, ll, q1, q2, q3, _⟩ := classes_idxF h hc
    obtain ⟨l1, l2, _⟩ := ll (H ++ T) ⟨_, rfl⟩
    cases k with
    | zero =>
     have hj : j = c.may.length := by omega
     subst hj
     rw [List.take_length] at hmem
     simp [r0, r3, r4, r6, hi, e1, l2, q2.len, regionL_none, regionL_some, List.lookup]
     exact ⟨_, T, ⟨rfl, rfl⟩, by simp [r0], w, by simp [r3], by simp [r4], ks, hw, hmem, by omega⟩
    | succ k =>
     have hj : j < c.may.length := by omega
     obtain ⟨x, hx⟩ : ∃ x, c.may[j]? = some x := ⟨c.may[j], by simp [hj]⟩
     have hw2 : IntKind.i64.wrap ((j : Int) + 1) = ((j : Int) + 1) := wrap_i64 (by omega) (by omega)
     obtain ⟨id2, o2, f1, f0, hxl⟩ := strs_idx (q2.ext (T := T)) hx
     obtain ⟨T2, w', ks', c1, hw', hm', hl'⟩ := s_L05Put hw hxl (by omega)
     have hwo' := hw'.one
     simp [r0, r3, r4, r6, hi, hj, e1, l2, f1, f0, q2.len, c1, hw2, hwo', regionL_none, regionL_some, List.lookup]
     refine ⟨k, by omega, j + 1, by omega, _, T ++ T2, ⟨rfl, by simp⟩, by simp [r0], w', by simp, by simp [r4], by simp, ks', by simpa using hw', fun y => ?_, by omega⟩
     rw [hm' y, hmem y, take_get hx, List.mem_append, List.mem_singleton]
     constructor
     ·rintro (h | h | h)
      ·exact .inr (.inr h)
      ·exact .inl h
      ·exact .inr (.inl h)
     ·rintro (h | h | h)
      ·exact .inr (.inl h)
      ·exact .inr (.inr h)
      ·exact .inl h
   ·clear hw hmem hlen r0 r3 r4 ks w T r
    rintro ex σ' ⟨r, T, w, ks, rfl, rfl, r0, r3, r4, hw, hmem, hlen⟩
    simp [r0, r3, r4, hw1, regionL_none, regionL_some, List.lookup]
    exact ⟨k, by omega, i + 1, by omega, _, T, ⟨rfl, rfl⟩, by simp [r0], w, by simp [r3], by simp, ks, hw, fun x => by rw [hmem x, hstep x, or_assoc], by omega⟩
def OwnS (b : Nat) (w : V) : Prop := ∀ q o n, w = .slc (some (q, o)) n → b ≤ q
theorem i_known {H : List Ob} {v : V} {l : List PClass} (h : AClasses H v l) (hb : ∀ c ∈ l, c.must.length ≤ 10 ∧ c.may.length ≤ 10) (hl : l.length ≤ 6) :
  ∃ T w l', callW C 193 [v] H = some (w, H ++ T) ∧ AStrs (H ++ T) w l' ∧ (∀ x, x ∈ l' ↔ x ∈ knownL l) ∧ (∀ q o n, w = .slc (some (q, o)) n → H.length ≤ q) := by
 suffices hs : Ret C 193 [v] H fun w H' => ∃ T l', H' = H ++ T ∧ AStrs (H ++ T) w l' ∧ (∀ x, x ∈ l' ↔ x ∈ knownL l) ∧ OwnS H.length w by
  obtain ⟨q, H', hc, T, l', rfl, hr⟩ := hs
  exact ⟨T, q, l', hc, hr⟩
 rw [op193]
 have hone := h.one
 simp [code193, Tryz.f193, St.new, elemT, fillL, zerosL, h.len, hone]
 have g0 : Gs H (H ++ [.mk true 1 [.str classS]]) (.slc (some (H.length, 0)) 1) ([classS].map V.str) := ⟨_, H.length, rfl, Nat.le_refl _, get_last, rfl⟩
 have hlen : ∀ i, (knownL (l.take i)).length ≤ 1 + 20 * i := fun i => by
  induction i with
  | zero => simp [knownL]
  | succ i ih =>
   by_cases hi : i < l.length
   ·have hc : l[i]? = some l[i] := by simp [hi]
    have := hb _ (List.mem_of_getElem? hc)
    have e : knownL (l.take (i + 1)) = knownL (l.take i) ++ (l[i].must ++ l[i].may) := by unfold knownL; rw [take_get hc, List.flatMap_append]; simp
    rw [e, List.length_append, List.length_append]
    omega
   ·rw [List.take_of_length_le (by omega)] at ih ⊢
    omega
 have hms : ∀ i, ∀ s ∈ knownL (l.take i), s.length ≤ maxLen := fun i s hs => by
  rcases List.mem_cons.1 hs with rfl | hs
  ·decide
  ·obtain ⟨c, hc, hs⟩ := List.mem_flatMap.1 hs
   obtain ⟨j, hj, rfl⟩ := List.getElem_of_mem (List.mem_of_mem_take hc)
   obtain ⟨_, _, _, _, _, _, _, q1, q2, _⟩ := classes_idxF h (List.getElem?_eq_getElem hj)
   rcases List.mem_append.1 hs with hs | hs
   ·exact q1.max s hs
   ·exact q2.max s hs
 refine WP_loop (fun k σ => ∃ (i n : Nat) (r : Nat → R) (G : List Ob) (w : V), i + k = l.length ∧ σ = ⟨r, n, G⟩ ∧ r 3 = .val w ∧ r 7 = .val v ∧ r 8 = .val (.int .i64 l.length) ∧ r 9 = .val (.int .i64 i) ∧ Gs H G w ((knownL (l.take i)).map V.str)) ?_ l.length _ ⟨0, _, _, _, .slc (some (H.length, 0)) 1, by simp, rfl, by simp, by simp, by simp, by simp, by rw [List.take_zero]; exact g0⟩
 rintro k σ ⟨i, n, r, G, w, hik, rfl, r3, r7, r8, r9, hG⟩
 obtain ⟨S, hS⟩ := hG.ext
 have hlG : AClasses G v l := by rw [hS]; exact h.ext
 have hwo := hG.one
 cases k with
 | zero =>
  have hi : i = l.length := by omega
  subst hi
  have hle := hlen l.length
  have hm := hms l.length
  rw [List.take_length] at hG hle hm
  have hw := (hG.strs (by unfold maxLen; omega) hm).1
  obtain ⟨T, p, m, c1, _, ⟨l', hl', hmem, _⟩, hnp⟩ := i_unionM (H := G ++ [.mk true 1 [w]]) (id := G.length) (own := true) (va := w) (l := knownL l) get_last hw.ext (by omega)
  simp only [hS, List.append_assoc] at hl'
  obtain ⟨T', hg, hat⟩ := hl'.gc
  simp only [List.append_assoc] at c1
  rw [← List.append_assoc, ← hS] at hg
  simp [r3, r7, r8, r9, hwo, St.new, elemT, fillL, zerosL, c1, hg, regionL_none, regionL_some, List.lookup]
  exact ⟨T', by simpa using hg, l', hat, hmem, fun q o n h => by cases h; have := hnp _ _ rfl; rw [hS] at this; simp at this; omega⟩
 | succ k =>
  have hi : i < l.length := by omega
  obtain ⟨c, hc⟩ : ∃ c, l[i]? = some c := ⟨l[i], by simp [hi]⟩
  have hcb := hb c (List.mem_of_getElem? hc)
  have hle := hlen i
  have hw1 : IntKind.i64.wrap ((i : Int) + 1) = ((i : Int) + 1) := wrap_i64 (by omega) (by omega)
  obtain ⟨id, o, w1, w2, w3, e1, ll, q1, q2, q3, hid⟩ := classes_idxF h hc
  obtain ⟨l1, l2, l4⟩ := ll G ⟨_, hS⟩
  have n1 := strs_new q1 (G := G) ⟨_, hS⟩
  obtain ⟨x1, G1, p1, g1⟩ := hG.many (d := .str) (b := 16) (z := [.str []]) (n1 _ _ _) strs_ones (by simp; unfold maxMade; omega) (by decide) (by decide) rfl
  have n2 := strs_new q2 g1.ext
  obtain ⟨x2, G2, p2, g2⟩ := g1.many (d := .str) (b := 16) (z := [.str []]) (n2 _ _ _) strs_ones (by simp; unfold maxMade; omega) (by decide) (by decide) rfl
  have o1 := g1.one
  have o2 := g2.one
  have s1 := q1.one
  have s2 := q2.one
  have s3 := q3.one
  simp [r3, r7, r8, r9, hi, e1, l1, l2, l4, hwo, o1, o2, s1, s2, s3, St.new, elemT, fillL, zerosL, p1, p2, hw1, regionL_none, regionL_some, List.lookup]
  exact ⟨k, by omega, i + 1, by omega, _, _, _, ⟨rfl, rfl, rfl⟩, x2, by simp, by simp [r7], by simp [r8], by simp, by rw [show knownL (l.take (i + 1)) = knownL (l.take i) ++ c.must ++ c.may by unfold knownL; rw [take_get hc, List.flatMap_append]; simp]; simpa using g2⟩
end Go.Proofs.Try1
end
section
namespace Go.Proofs.Try1
open Go Go.Lite
structure PTreeOut where
 tree : PTree
 entries : List PEntry
 code : Int
def PTreeOut.u (o : PTreeOut) : U := .st [o.tree.u, .lst (o.entries.map PEntry.u), .int o.code]
abbrev shTreeOut : Sh := .st [shTree, .slice shEntry, .int .i64]
def illT (c : Int) : PTreeOut := ⟨⟨[], []⟩, [], c⟩
theorem s_IllT {H : List Ob} {c : Int} : callW C 89 [.int .i64 c] H = some (.agg [.slc none 0, .slc none 0, .slc none 0, .int .i64 c], H) := by
 apply Ret.eq
 rw [op89]
 simp [code89, Tryz.f89, buildV, structPlace, fillL, zerosL]
def TOut (H : List Ob) (o : PTreeOut) (q : V) (H' : List Ob) : Prop := ∃ T w1 w2 w3, q = .agg [w1, w2, w3, .int .i64 o.code] ∧ H' = H ++ T ∧ New H.length (H ++ T).length (H ++ T) shTreeOut [w1, w2, w3, .int .i64 o.code] o.u
theorem TOut.ill {H : List Ob} {c : Int} (h : (Lit.int .i64 c).wf = true) : TOut H (illT c) (.agg [.slc none 0, .slc none 0, .slc none 0, .int .i64 c]) H :=
 ⟨[], .slc none 0, .slc none 0, .slc none 0, rfl, by simp, New.st (News.cons (c1 := [.slc none 0, .slc none 0]) (m := H.length) (New.st (News.nilS (News.nilS News.nil))) (News.nilS (News.int h News.nil)) (Nat.le_refl _) (by simp))⟩
theorem TOut.of {H G : List Ob} {t : PTree} {w1 w2 : V} (hT : ∃ T, G = H ++ T) (hn : New H.length G.length G shTree [w1, w2] t.u) : TOut H ⟨t, [], 0⟩ (.agg [w1, w2, .slc none 0, .int .i64 0]) (gcH H G (.agg [w1, w2, .slc none 0, .int .i64 0])) := by
 obtain ⟨T, rfl⟩ := hT
 have h2 : New H.length (H ++ T).length (H ++ T) shTreeOut [w1, w2, .slc none 0, .int .i64 0] (PTreeOut.u ⟨t, [], 0⟩) := New.st (News.cons (c1 := [w1, w2]) (m := (H ++ T).length) hn (News.nilS (News.int (by decide) News.nil)) (by simp) (Nat.le_refl _))
 obtain ⟨T', h3, h4⟩ := h2.gcA
 exact ⟨T', w1, w2, .slc none 0, rfl, h3, h4⟩
def UnderOk (dn base : List PRdn) : Prop := base.length ≤ dn.length ∧ keyD (dn.drop (dn.length - base.length)) = keyD base
theorem rdns_drop {H : List Ob} {v : V} {l : List PRdn} (h : ARdns H v l) {k : Nat} (hk : k ≤ l.length) (h0 : 0 < l.length) :
  ∃ id off own cells, v = .slc (some (id, off)) l.length ∧ H[id]? = some (.mk own 2 cells) ∧ ARdns H (.slc (some (id, off + k * 2)) (l.length - k)) (l.drop k) := by
 have hb := h.bound
 rcases h.sl with ⟨rfl, h1⟩ | ⟨id, off, own, cells, rfl, h2, h3, h4⟩
 ·have : l = [] := by simpa using h1
  subst this
  simp at h0
 ·rw [List.length_map] at h3 ⊢
  refine ⟨id, off, own, cells, rfl, h2, ?_⟩
  have hsz : shRdn.size = 2 := rfl
  rw [hsz] at h2 h3 h4
  refine At_slice.2 ⟨_, _, rfl, rfl, by simp; omega, .inr ⟨id, off + k * 2, own, cells, by simp, h2, ?_, fun i x hx => ?_⟩⟩
  ·rw [hsz, List.length_map, List.length_drop]; omega
  ·have := h4 (k + i) x (by rw [List.getElem?_map] at hx ⊢; rw [List.getElem?_drop] at hx; exact hx)
   rw [hsz, show off + k * 2 + i * 2 = off + (k + i) * 2 by omega]
   exact this
theorem DnOk.drop {l : List PRdn} (hd : DnOk l) (k : Nat) : DnOk (l.drop k) :=
 ⟨fun j x hx => hd.1 (k + j) x (by rw [List.getElem?_drop] at hx; exact hx), by have := hd.2; simp; omega⟩
theorem s_Under {H : List Ob} {v w : V} {dn base : List PRdn} (h : ARdns H v dn) (hb : ARdns H w base) (h1 : DnOk dn) (h2 : DnOk base) (hl : 0 < dn.length) :
  callW C 137 [v, w] H = some (.bool (dec (UnderOk dn base)), H) := by
 apply Ret.dec
 rw [op137]
 have e1 : ¬ (400 : Int) < dn.length := by have := h1.2; omega
 have e2 : ¬ (400 : Int) < base.length := by have := h2.2; omega
 have c1 := s_Dn h
 have c2 := s_Dn hb
 rw [dec_pos h1] at c1
 rw [dec_pos h2] at c2
 by_cases g : base.length ≤ dn.length
 rotate_left
 ·have g' : (dn.length : Int) < base.length := by omega
  simp [code137, Tryz.f137, h.len, hb.len, e1, e2, c1, c2, g']
  exact fun h => g h.1
 have g' : ¬ (dn.length : Int) < base.length := by omega
 have hw : IntKind.i64.wrap ((dn.length : Int) - base.length) = ((dn.length - base.length : Nat) : Int) := by
  have := h1.2
  rw [wrap_i64 (by omega) (by omega)]; omega
 obtain ⟨id, off, own, cells, hv, hcell, hd⟩ := rdns_drop h (k := dn.length - base.length) (by omega) hl
 have hst : strideIs H id 2 = true := by simp [strideIs, hcell]
 have c3 := s_Key hd (DnOk.drop h1 _)
 have c4 := s_Key hb h2
 have hle : dn.length - base.length ≤ dn.length := by omega
 rw [hv] at h c1 ⊢
 simp [code137, Tryz.f137, h.len, hb.len, e1, e2, c1, c2, g', hw, hst, c3, c4, hle]
 by_cases gk : keyD (dn.drop (dn.length - base.length)) = keyD base
 ·exact .inr ⟨gk, g, gk⟩
 ·exact .inl ⟨gk, fun h => gk h.2⟩
end Go.Proofs.Try1
end
section
namespace Go.Proofs.Try1
open Go Go.Lite
attribute [-simp] WP_region WP_cond
attribute [local simp] WP_regionF WP_condF ThenW_some ThenW_none CondW_true CondW_false
attribute [local simp low] CondW_bool
theorem s_Is {n a b : Int} {H : List Ob} : callW C 92 [.int .i64 n, .int .i64 a, .int .i64 b] H = some (.bool (dec (a ≤ n ∧ n ≤ b)), H) := by
 apply Ret.dec
 rw [op92]
 by_cases h1 : a ≤ n
 ·by_cases h2 : n ≤ b
  ·simp [code92, Tryz.f92, h1, h2]
  ·simp [code92, Tryz.f92, h1, h2]
 ·simp [code92, Tryz.f92, h1]
theorem s_Node {n : PNode} {H : List Ob} : callW C 272 [.agg n.cs] H = some (.bool (dec (NodeOk n)), H) := by
 apply Ret.dec
 rw [op272]
 have c1 := s_Is (n := n.many) (a := 1) (b := 20) (H := H)
 have c2 := s_Name (t := n.attr) (H := H)
 have c3 := s_Value (t := n.value) (H := H)
 unfold NodeOk PNode.Inner
 by_cases o1 : n.op = 1
 ·by_cases g1 : n.attr = []
  ·by_cases g2 : n.value = []
   ·by_cases g3 : 1 ≤ n.many ∧ n.many ≤ 20
    ·rw [dec_pos g3] at c1
     simp [code272, Tryz.f272, o1, g1, g2, c1, g3]
    ·rw [dec_neg g3] at c1
     simp [code272, Tryz.f272, o1, g1, g2, c1]
     omega
   ·have e2 : List.isEmpty n.value = false := by simpa using g2
    simp [code272, Tryz.f272, o1, g1, g2, e2]
  ·have e1 : List.isEmpty n.attr = false := by simpa using g1
   simp [code272, Tryz.f272, o1, g1, e1]
 by_cases o2 : n.op = 2
 ·by_cases g1 : n.attr = []
  ·by_cases g2 : n.value = []
   ·by_cases g3 : 1 ≤ n.many ∧ n.many ≤ 20
    ·rw [dec_pos g3] at c1
     simp [code272, Tryz.f272, o2, g1, g2, c1, g3]
    ·rw [dec_neg g3] at c1
     simp [code272, Tryz.f272, o2, g1, g2, c1]
     omega
   ·have e2 : List.isEmpty n.value = false := by simpa using g2
    simp [code272, Tryz.f272, o2, g1, g2, e2]
  ·have e1 : List.isEmpty n.attr = false := by simpa using g1
   simp [code272, Tryz.f272, o2, g1, e1]
 by_cases o3 : n.op = 3
 ·by_cases g1 : n.attr = []
  ·by_cases g2 : n.value = []
   ·by_cases g3 : n.many = 1
    ·simp [code272, Tryz.f272, o3, g1, g2, g3]
    ·simp [code272, Tryz.f272, o3, g1, g2, g3]
   ·have e2 : List.isEmpty n.value = false := by simpa using g2
    simp [code272, Tryz.f272, o3, g1, g2, e2]
  ·have e1 : List.isEmpty n.attr = false := by simpa using g1
   simp [code272, Tryz.f272, o3, g1, e1]
 by_cases o5 : n.op = 5
 ·by_cases g1 : NameOk n.attr
  ·rw [dec_pos g1] at c2
   by_cases g2 : n.value = []
   ·by_cases g3 : n.many = 0
    ·simp [code272, Tryz.f272, o5, g1, g2, g3, c2]
    ·simp [code272, Tryz.f272, o5, g1, g2, g3, c2]
   ·have e2 : List.isEmpty n.value = false := by simpa using g2
    simp [code272, Tryz.f272, o5, g1, g2, c2, e2]
  ·rw [dec_neg g1] at c2
   simp [code272, Tryz.f272, o5, g1, c2]
 by_cases o4 : n.op = 4 ∨ n.op = 6 ∨ n.op = 7 ∨ n.op = 8
 ·by_cases g1 : NameOk n.attr
  ·rw [dec_pos g1] at c2
   by_cases g2 : ValueOk n.value
   ·rw [dec_pos g2] at c3
    by_cases g3 : n.many = 0
    ·rcases o4 with o4 | o4 | o4 | o4 <;> simp [code272, Tryz.f272, o4, g1, g2, g3, c2, c3]
    ·rcases o4 with o4 | o4 | o4 | o4 <;> simp [code272, Tryz.f272, o4, g1, g2, g3, c2, c3]
   ·rw [dec_neg g2] at c3
    rcases o4 with o4 | o4 | o4 | o4 <;> simp [code272, Tryz.f272, o4, g1, g2, c2, c3]
  ·rw [dec_neg g1] at c2
   rcases o4 with o4 | o4 | o4 | o4 <;> simp [code272, Tryz.f272, o4, g1, c2]
 ·obtain ⟨o6, o7, o8, o9⟩ : ¬ n.op = 4 ∧ ¬ n.op = 6 ∧ ¬ n.op = 7 ∧ ¬ n.op = 8 := ⟨fun h => o4 (.inl h), fun h => o4 (.inr (.inl h)), fun h => o4 (.inr (.inr (.inl h))), fun h => o4 (.inr (.inr (.inr h)))⟩
  simp [code272, Tryz.f272, o1, o2, o3, o5, o6, o7, o8, o9]
noncomputable def endI : Option (Nat × Nat) → Int
 | some q => q.1
 | none => -1
theorem s_End {v : V} {f : List PNode} {H : List Ob} (h : ANodes H v f) (hl : f.length ≤ 20) : ∀ d i : Nat, d ≤ 5 → i ≤ f.length →
  callW C 185 [v, .int .i64 i, .int .i64 (6 - d : Nat)] H = some (.int .i64 (endI (fdep f d i)), H)
 | 0, i, hd, hi => by
  suffices hs : Ret C 185 [v, .int .i64 i, .int .i64 (6 - 0 : Nat)] H fun q H' => q = .int .i64 (endI (fdep f 0 i)) ∧ H' = H by
   obtain ⟨q, H', hc, rfl, rfl⟩ := hs
   exact hc
  rw [op185]
  by_cases g : i < f.length
  ·have g' : ¬ (f.length : Int) ≤ i := by omega
   simp [code185, Tryz.f185, h.len, g', endI, fdep]
  ·have g' : (f.length : Int) ≤ i := by omega
   simp [code185, Tryz.f185, h.len, g', endI, fdep]
 | d + 1, i, hd, hi => by
  suffices hs : Ret C 185 [v, .int .i64 i, .int .i64 (6 - (d + 1) : Nat)] H fun q H' => q = .int .i64 (endI (fdep f (d + 1) i)) ∧ H' = H by
   obtain ⟨q, H', hc, rfl, rfl⟩ := hs
   exact hc
  rw [op185]
  have hdp : ¬ (5 : Int) < (6 - (d + 1) : Nat) := by omega
  have hdw : IntKind.i64.wrap (((6 - (d + 1) : Nat) : Int) + 1) = ((6 - d : Nat) : Int) := by rw [wrap_i64 (by omega) (by omega)]; omega
  generalize hdd : ((6 - (d + 1) : Nat) : Int) = dd at hdp hdw
  rcases Nat.lt_or_ge i f.length with g | g
  rotate_left
  ·have g' : (f.length : Int) ≤ i := by omega
   simp [code185, Tryz.f185, h.len, g', endI, fdep, List.getElem?_eq_none g, hdd]
  have g' : ¬ (f.length : Int) ≤ i := by omega
  obtain ⟨x, hx⟩ : ∃ c, f[i]? = some c := ⟨f[i], by simp [g]⟩
  obtain ⟨id, o, e1, l0, l1, _, _, _, w4⟩ := nodes_idx h hx
  have l0' := l0 []
  have l1' := l1 []
  simp only [List.append_nil] at l0' l1'
  have c1 := s_Node (n := x) (H := H)
  by_cases g1 : NodeOk x
  rotate_left
  ·rw [dec_neg g1] at c1
   simp [code185, Tryz.f185, h.len, g', hdp, e1, l1', c1, endI, fdep, hx, dec_neg g1, hdd]
  have hm := g1.many_le
  rw [dec_pos g1] at c1
  have hw : IntKind.i64.wrap ((i : Int) + 1) = ((i : Int) + 1) := wrap_i64 (by omega) (by omega)
  have l0'' : ∀ T : LT, T.one → ∀ r c, loadAt T ⟨r, c, H⟩ (.hp id (o + 3)) = some (.int .i64 x.many) := fun T hT r c => (l0' T hT r c).2.2.2
  have hgoal : endI (fdep f (d + 1) i) = endI (frep (fdep f d) x.many.toNat (i + 1, 0)) := by
   show endI (match f[i]? with
    | none => none
    | some n => if dec (NodeOk n) = true then (frep (fdep f d) n.many.toNat (i + 1, 0)).map fun p => (p.1, p.2 + 1) else none) = _
   rw [hx]
   simp only [dec_pos g1, if_true]
   cases frep (fdep f d) x.many.toNat (i + 1, 0) <;> rfl
  rw [hgoal]
  simp [code185, Tryz.f185, h.len, g', hdp, e1, l1', l0'', c1, hw, hdd]
  refine WP_loop (fun k σ => ∃ (m : Nat) (p : Option (Nat × Nat)) (a : Int) (r : Nat → R), σ = ⟨r, 0, H⟩ ∧ r 0 = .val v ∧ r 1 = .val (.int .i64 a) ∧ r 2 = .val (.int .i64 dd) ∧ r 7 = .val (.int .i64 m) ∧ m ≤ 20 ∧ k = (if p.isSome then m else 0) ∧ a = endI p ∧ (∀ q, p = some q → q.1 ≤ f.length) ∧ (p.bind fun q => frep (fdep f d) m q) = frep (fdep f d) x.many.toNat (i + 1, 0)) ?_ x.many.toNat _ ⟨x.many.toNat, some (i + 1, 0), i + 1, _, rfl, by simp, by simp, by simp, by simp; omega, by omega, by simp, by simp [endI], fun q e => by cases e; exact g, rfl⟩
  rintro k σ ⟨m, p, a, r, rfl, r0, r1, r2, r7, hm20, hk, ha, hq, hp⟩
  cases p with
  | none =>
   simp only [Option.isSome_none, Bool.false_eq_true, if_false] at hk
   subst hk
   simp only [Option.bind_none] at hp
   subst ha
   by_cases hm0 : 0 < m
   ·simp [r0, r1, r2, r7, hm0, endI, ← hp]
   ·simp [r0, r1, r2, r7, hm0, endI, ← hp]
  | some q =>
   simp only [Option.isSome_some, if_true] at hk
   subst hk
   simp only [Option.bind_some] at hp
   have hql := hq q rfl
   subst ha
   cases k with
   | zero =>
    have : q = q := rfl
    simp only [frep] at hp
    simp [r0, r1, r2, r7, endI, ← hp]
   | succ k =>
    have c2 := s_End h hl d q.1 (by omega) hql
    have hw2 : IntKind.i64.wrap (((k + 1 : Nat) : Int) - 1) = (k : Int) := by rw [wrap_i64 (by omega) (by omega)]; omega
    have hw3 : IntKind.i64.wrap ((k : Int) + 1 - 1) = (k : Int) := by rw [wrap_i64 (by omega) (by omega)]; omega
    have h0 : (0 : Int) < (k : Int) + 1 := by omega
    have h1 : (0 : Int) ≤ (q.1 : Int) := by omega
    cases hsub : fdep f d q.1 with
    | none =>
     rw [hsub] at c2
     simp only [frep, hsub] at hp
     simp [r0, r1, r2, r7, h0, h1, endI, c2, hw2, hw3, hdw]
     exact ⟨0, by omega, k, by rw [wrap_i64 (by omega) (by omega)], by omega, none, by simp, rfl, by simp, by simpa using hp⟩
    | some q2 =>
     rw [hsub] at c2
     simp only [frep, hsub] at hp
     have hq2 := fdep_some _ _ _ hsub
     simp [r0, r1, r2, r7, h0, h1, endI, c2, hw2, hw3, hdw]
     exact ⟨k, by omega, k, by rw [wrap_i64 (by omega) (by omega)], by omega, some (q2.1, max q.2 q2.2), by simp, rfl, fun a b e => by cases e; exact hq2.2.1, by simpa using hp⟩
theorem s_FilterRight {v : V} {f : List PNode} {H : List Ob} (h : ANodes H v f) : callW C 91 [v] H = some (.bool (dec (FilterOk f)), H) := by
 apply Ret.dec
 rw [op91]
 by_cases g : f.length ≤ 20
 rotate_left
 ·have g' : ¬ (f.length : Int) ≤ 20 := by omega
  simp [code91, Tryz.f91, h.len, g']
  exact fun h => g h.1
 have g' : (f.length : Int) ≤ 20 := by omega
 have c1 := s_End h g 5 0 (by omega) (by omega)
 simp only [Int.natCast_zero, show ((6 - 5 : Nat) : Int) = 1 from rfl] at c1
 cases hf : fdep f 5 0 with
 | none =>
  rw [hf] at c1
  have e : ¬ (-1 : Int) = (f.length : Int) := by omega
  simp [code91, Tryz.f91, h.len, g', c1, endI, e]
  rintro ⟨_, x, hx⟩
  rw [hf] at hx
  cases hx
 | some q =>
  rw [hf] at c1
  by_cases e : q.1 = f.length
  ·have e' : (q.1 : Int) = f.length := by omega
   simp [code91, Tryz.f91, h.len, g', c1, endI, e']
   exact ⟨g, q.2, by rw [hf, ← e]⟩
  ·have e' : ¬ (q.1 : Int) = f.length := by omega
   simp [code91, Tryz.f91, h.len, g', c1, endI, e']
   rintro ⟨_, x, hx⟩
   rw [hf] at hx
   cases hx
   exact e rfl
noncomputable def depI (i : Nat) : Option (Nat × Nat) → V
 | some q => .tup [.int .i64 ((q.1 - i : Nat) : Int), .int .i64 (q.2 : Int)]
 | none => .tup [.int .i64 0, .int .i64 0]
theorem depth_in {v : V} {f : List PNode} {H : List Ob} (d i : Nat) (hi : i < f.length) (hl : f.length ≤ 100) (hdb : d ≤ 100) {x : PNode} (hx : f[i]? = some x) (h : ANodes H v (f.drop i)) (hn : x.Inner) (hok : NodeOk x)
  (ih : ∀ (w : V) (j : Nat) (G : List Ob), i < j → j ≤ f.length → ANodes G w (f.drop j) → callW C 191 [w] G = some (depI j (fdep f d j), G)) :
  callW C 191 [v] H = some (depI i (fdep f (d + 1) i), H) := by
 suffices hs : Ret C 191 [v] H fun q H' => q = depI i (fdep f (d + 1) i) ∧ H' = H by
  obtain ⟨q, H', hc, rfl, rfl⟩ := hs
  exact hc
 rw [op191]
 obtain ⟨fs, hfs⟩ : ∃ fs, fs = f.drop i := ⟨_, rfl⟩
 have hfl : fs.length = f.length - i := by rw [hfs]; simp
 have hn0 : ¬ fs = [] := by intro h; rw [h] at hfl; simp at hfl; omega
 have hn0' : ¬ (fs.length : Int) = 0 := by omega
 have hx0 : fs[0]? = some x := by rw [hfs, List.getElem?_drop]; exact hx
 rw [← hfs] at h
 obtain ⟨id, o, e1, l0, l1, _, _, _, w4⟩ := nodes_idx h hx0
 have e1' := fun (e s b : Nat) (z : List V) (ty : Nat → LT) => e1 e s b z ty .i64
 have l1' := l1 []
 simp only [List.append_nil, Int.natCast_zero] at l1' e1'
 have hm : x.attr = [] ∧ x.value = [] ∧ 1 ≤ x.many ∧ x.many ≤ 20 ∧ (x.op = 3 → x.many = 1) := by
  rcases hok with ⟨_, a⟩ | ⟨a, _⟩ | ⟨a, _⟩
  ·exact a
  ·unfold PNode.Inner at hn; omega
  ·unfold PNode.Inner at hn; omega
 obtain ⟨m1, m2, m3, m4, m5⟩ := hm
 have m3' : ¬ x.many < 1 := by omega
 have m4' : ¬ 20 < x.many := by omega
 have hgoal : depI i (fdep f (d + 1) i) = depI i ((frep (fdep f d) x.many.toNat (i + 1, 0)).map fun p => (p.1, p.2 + 1)) := by
  show depI i (match f[i]? with
   | none => none
   | some n => if dec (NodeOk n) = true then (frep (fdep f d) n.many.toNat (i + 1, 0)).map fun p => (p.1, p.2 + 1) else none) = _
  rw [hx]
  simp only [dec_pos hok, if_true]
 rw [hgoal]
 have hmn : x.many = (x.many.toNat : Int) := by omega
 have hmb : x.many.toNat ≤ 20 := by omega
 obtain ⟨mm, hmm⟩ : ∃ mm, mm = x.many.toNat := ⟨_, rfl⟩
 rw [← hmm] at hmn hmb ⊢
 rcases hn with ho | ho | ho
 ·simp [code191, Tryz.f191, fillL, zerosL, buildV, structPlace, h.len, hn0, hn0', e1', l1', ho, m1, m2, m3', m4']
  refine WP_loop (fun k σ => ∃ (p : Nat × Nat) (r : Nat → R), σ = ⟨r, 1, H⟩ ∧ r 0 = .val v ∧ r 5 = .val (.int .i64 ((p.1 - i : Nat) : Int)) ∧ r 6 = .val (.int .i64 (p.2 : Int)) ∧ r 50 = .val (.int .i64 (mm : Int)) ∧ k ≤ mm ∧ r 51 = .val (.int .i64 ((mm - k : Nat) : Int)) ∧ i < p.1 ∧ p.1 ≤ f.length ∧ p.2 ≤ d ∧ frep (fdep f d) k p = frep (fdep f d) mm (i + 1, 0)) ?_ mm _ ⟨(i + 1, 0), _, rfl, by simp, by simp, by simp, by simp [hmn], Nat.le_refl _, by simp, by simp, by simp; omega, by simp, rfl⟩
  rintro k σ ⟨p, r, rfl, r0, r5, r6, r50, hkm, r51, hip, hpl, hpd, hp⟩
  cases k with
  | zero =>
   have e1 : ¬ ((mm - 0 : Nat) : Int) < mm := by omega
   simp only [frep] at hp
   have hw : IntKind.i64.wrap ((p.2 : Int) + 1) = ((p.2 + 1 : Nat) : Int) := by rw [wrap_i64 (by omega) (by omega)]; omega
   simp [r0, r5, r6, r50, r51, ← hp, depI, hw]
  | succ k =>
   have e1 : ((mm - (k + 1) : Nat) : Int) < mm := by omega
   have hw1 : IntKind.i64.wrap (((mm - (k + 1) : Nat) : Int) + 1) = ((mm - k : Nat) : Int) := by rw [wrap_i64 (by omega) (by omega)]; omega
   obtain ⟨ids, off, own, cells, hv, hcell, hd⟩ := h.drop (k := p.1 - i) (by omega) (by omega)
   have hdj : fs.drop (p.1 - i) = f.drop p.1 := by rw [hfs, List.drop_drop]; congr 1; omega
   rw [hdj] at hd
   have hst : strideIs H ids 4 = true := by simp [strideIs, hcell]
   have hsz : shNode.size = 4 := rfl
   rw [hsz] at hd
   have c2 := ih _ p.1 H hip hpl hd
   have hle : p.1 - i ≤ fs.length := by omega
   cases hsub : fdep f d p.1 with
   | none =>
    rw [hsub] at c2
    simp only [frep, hsub] at hp
    simp only [depI] at c2
    simp [r0, r5, r6, r50, r51, e1, hv, hst, hle, c2, ← hp, depI]
   | some q =>
    rw [hsub] at c2
    simp only [frep, hsub] at hp
    simp only [depI] at c2
    have hq := fdep_some _ _ _ hsub
    have e2 : ¬ ((q.1 - p.1 : Nat) : Int) = 0 := by omega
    have e2' : ¬ (q.1 - p.1 : Nat) = 0 := by omega
    have hw2 : IntKind.i64.wrap (((p.1 - i : Nat) : Int) + ((q.1 - p.1 : Nat) : Int)) = ((q.1 - i : Nat) : Int) := by rw [wrap_i64 (by omega) (by omega)]; omega
    have hmx : maxV [.int .i64 (p.2 : Int), .int .i64 (q.2 : Int)] = some (.int .i64 ((max p.2 q.2 : Nat) : Int)) := by
     simp [maxV]
     omega
    simp [r0, r5, r6, r50, r51, e1, hv, hst, hle, c2, e2, e2', hw1, hw2, hmx]
    exact ⟨k, by omega, q.1, rfl, max p.2 q.2, rfl, by omega, rfl, by omega, by omega, by omega, hp⟩
 ·simp [code191, Tryz.f191, fillL, zerosL, buildV, structPlace, h.len, hn0, hn0', e1', l1', ho, m1, m2, m3', m4']
  refine WP_loop (fun k σ => ∃ (p : Nat × Nat) (r : Nat → R), σ = ⟨r, 1, H⟩ ∧ r 0 = .val v ∧ r 5 = .val (.int .i64 ((p.1 - i : Nat) : Int)) ∧ r 6 = .val (.int .i64 (p.2 : Int)) ∧ r 50 = .val (.int .i64 (mm : Int)) ∧ k ≤ mm ∧ r 51 = .val (.int .i64 ((mm - k : Nat) : Int)) ∧ i < p.1 ∧ p.1 ≤ f.length ∧ p.2 ≤ d ∧ frep (fdep f d) k p = frep (fdep f d) mm (i + 1, 0)) ?_ mm _ ⟨(i + 1, 0), _, rfl, by simp, by simp, by simp, by simp [hmn], Nat.le_refl _, by simp, by simp, by simp; omega, by simp, rfl⟩
  rintro k σ ⟨p, r, rfl, r0, r5, r6, r50, hkm, r51, hip, hpl, hpd, hp⟩
  cases k with
  | zero =>
   have e1 : ¬ ((mm - 0 : Nat) : Int) < mm := by omega
   simp only [frep] at hp
   have hw : IntKind.i64.wrap ((p.2 : Int) + 1) = ((p.2 + 1 : Nat) : Int) := by rw [wrap_i64 (by omega) (by omega)]; omega
   simp [r0, r5, r6, r50, r51, ← hp, depI, hw]
  | succ k =>
   have e1 : ((mm - (k + 1) : Nat) : Int) < mm := by omega
   have hw1 : IntKind.i64.wrap (((mm - (k + 1) : Nat) : Int) + 1) = ((mm - k : Nat) : Int) := by rw [wrap_i64 (by omega) (by omega)]; omega
   obtain ⟨ids, off, own, cells, hv, hcell, hd⟩ := h.drop (k := p.1 - i) (by omega) (by omega)
   have hdj : fs.drop (p.1 - i) = f.drop p.1 := by rw [hfs, List.drop_drop]; congr 1; omega
   rw [hdj] at hd
   have hst : strideIs H ids 4 = true := by simp [strideIs, hcell]
   have hsz : shNode.size = 4 := rfl
   rw [hsz] at hd
   have c2 := ih _ p.1 H hip hpl hd
   have hle : p.1 - i ≤ fs.length := by omega
   cases hsub : fdep f d p.1 with
   | none =>
    rw [hsub] at c2
    simp only [frep, hsub] at hp
    simp only [depI] at c2
    simp [r0, r5, r6, r50, r51, e1, hv, hst, hle, c2, ← hp, depI]
   | some q =>
    rw [hsub] at c2
    simp only [frep, hsub] at hp
    simp only [depI] at c2
    have hq := fdep_some _ _ _ hsub
    have e2 : ¬ ((q.1 - p.1 : Nat) : Int) = 0 := by omega
    have e2' : ¬ (q.1 - p.1 : Nat) = 0 := by omega
    have hw2 : IntKind.i64.wrap (((p.1 - i : Nat) : Int) + ((q.1 - p.1 : Nat) : Int)) = ((q.1 - i : Nat) : Int) := by rw [wrap_i64 (by omega) (by omega)]; omega
    have hmx : maxV [.int .i64 (p.2 : Int), .int .i64 (q.2 : Int)] = some (.int .i64 ((max p.2 q.2 : Nat) : Int)) := by
     simp [maxV]
     omega
    simp [r0, r5, r6, r50, r51, e1, hv, hst, hle, c2, e2, e2', hw1, hw2, hmx]
    exact ⟨k, by omega, q.1, rfl, max p.2 q.2, rfl, by omega, rfl, by omega, by omega, by omega, hp⟩
 ·have m5' := m5 ho
  simp [code191, Tryz.f191, fillL, zerosL, buildV, structPlace, h.len, hn0, hn0', e1', l1', ho, m1, m2, m5']
  refine WP_loop (fun k σ => ∃ (p : Nat × Nat) (r : Nat → R), σ = ⟨r, 1, H⟩ ∧ r 0 = .val v ∧ r 5 = .val (.int .i64 ((p.1 - i : Nat) : Int)) ∧ r 6 = .val (.int .i64 (p.2 : Int)) ∧ r 50 = .val (.int .i64 (mm : Int)) ∧ k ≤ mm ∧ r 51 = .val (.int .i64 ((mm - k : Nat) : Int)) ∧ i < p.1 ∧ p.1 ≤ f.length ∧ p.2 ≤ d ∧ frep (fdep f d) k p = frep (fdep f d) mm (i + 1, 0)) ?_ mm _ ⟨(i + 1, 0), _, rfl, by simp, by simp, by simp, by simp; omega, Nat.le_refl _, by simp, by simp, by simp; omega, by simp, rfl⟩
  rintro k σ ⟨p, r, rfl, r0, r5, r6, r50, hkm, r51, hip, hpl, hpd, hp⟩
  cases k with
  | zero =>
   have e1 : ¬ ((mm - 0 : Nat) : Int) < mm := by omega
   simp only [frep] at hp
   have hw : IntKind.i64.wrap ((p.2 : Int) + 1) = ((p.2 + 1 : Nat) : Int) := by rw [wrap_i64 (by omega) (by omega)]; omega
   simp [r0, r5, r6, r50, r51, ← hp, depI, hw]
  | succ k =>
   have e1 : ((mm - (k + 1) : Nat) : Int) < mm := by omega
   have hw1 : IntKind.i64.wrap (((mm - (k + 1) : Nat) : Int) + 1) = ((mm - k : Nat) : Int) := by rw [wrap_i64 (by omega) (by omega)]; omega
   obtain ⟨ids, off, own, cells, hv, hcell, hd⟩ := h.drop (k := p.1 - i) (by omega) (by omega)
   have hdj : fs.drop (p.1 - i) = f.drop p.1 := by rw [hfs, List.drop_drop]; congr 1; omega
   rw [hdj] at hd
   have hst : strideIs H ids 4 = true := by simp [strideIs, hcell]
   have hsz : shNode.size = 4 := rfl
   rw [hsz] at hd
   have c2 := ih _ p.1 H hip hpl hd
   have hle : p.1 - i ≤ fs.length := by omega
   cases hsub : fdep f d p.1 with
   | none =>
    rw [hsub] at c2
    simp only [frep, hsub] at hp
    simp only [depI] at c2
    simp [r0, r5, r6, r50, r51, e1, hv, hst, hle, c2, ← hp, depI]
   | some q =>
    rw [hsub] at c2
    simp only [frep, hsub] at hp
    simp only [depI] at c2
    have hq := fdep_some _ _ _ hsub
    have e2 : ¬ ((q.1 - p.1 : Nat) : Int) = 0 := by omega
    have e2' : ¬ (q.1 - p.1 : Nat) = 0 := by omega
    have hw2 : IntKind.i64.wrap (((p.1 - i : Nat) : Int) + ((q.1 - p.1 : Nat) : Int)) = ((q.1 - i : Nat) : Int) := by rw [wrap_i64 (by omega) (by omega)]; omega
    have hmx : maxV [.int .i64 (p.2 : Int), .int .i64 (q.2 : Int)] = some (.int .i64 ((max p.2 q.2 : Nat) : Int)) := by
     simp [maxV]
     omega
    simp [r0, r5, r6, r50, r51, e1, hv, hst, hle, c2, e2, e2', hw1, hw2, hmx]
    exact ⟨k, by omega, q.1, rfl, max p.2 q.2, rfl, by omega, rfl, by omega, by omega, by omega, hp⟩
theorem leaf_in {f : List PNode} {i : Nat} {x : PNode} (hx : f[i]? = some x) (d : Nat) (h : ¬ x.Inner) : fdep f (d + 1) i = if dec (NodeOk x) = true then some (i + 1, 1) else none := by
 show (match f[i]? with
   | none => none
   | some n => if dec (NodeOk n) = true then (frep (fdep f d) n.many.toNat (i + 1, 0)).map fun (p : Nat × Nat) => (p.1, p.2 + 1) else none) = _
 rw [hx]
 by_cases hok : NodeOk x
 ·have hm : x.many = 0 := by
   rcases hok with ⟨a, _⟩ | ⟨_, _, _, a⟩ | ⟨_, _, _, a⟩
   ·exact absurd a h
   ·exact a
   ·exact a
  simp only [dec_pos hok, if_true, hm]
  rfl
 ·simp only [dec_neg hok, Bool.false_eq_true, if_false]
theorem not_in {f : List PNode} {i : Nat} {x : PNode} (hx : f[i]? = some x) (d : Nat) (h : ¬ NodeOk x) : fdep f (d + 1) i = none := by
 show (match f[i]? with
   | none => none
   | some n => if dec (NodeOk n) = true then (frep (fdep f d) n.many.toNat (i + 1, 0)).map fun (p : Nat × Nat) => (p.1, p.2 + 1) else none) = _
 rw [hx]
 simp only [dec_neg h, Bool.false_eq_true, if_false]
theorem depth_leaf {v : V} {f : List PNode} {H : List Ob} (d i : Nat) (hi : i < f.length) {x : PNode} (hx : f[i]? = some x) (h : ANodes H v (f.drop i)) (hn : x.op = 4 ∨ x.op = 5 ∨ x.op = 6 ∨ x.op = 7 ∨ x.op = 8) :
  callW C 191 [v] H = some (depI i (fdep f (d + 1) i), H) := by
 suffices hs : Ret C 191 [v] H fun q H' => q = depI i (fdep f (d + 1) i) ∧ H' = H by
  obtain ⟨q, H', hc, rfl, rfl⟩ := hs
  exact hc
 rw [op191]
 obtain ⟨fs, hfs⟩ : ∃ fs, fs = f.drop i := ⟨_, rfl⟩
 have hfl : fs.length = f.length - i := by rw [hfs]; simp
 have hn0 : ¬ fs = [] := by intro h; rw [h] at hfl; simp at hfl; omega
 have hn0' : ¬ (fs.length : Int) = 0 := by omega
 have hx0 : fs[0]? = some x := by rw [hfs, List.getElem?_drop]; exact hx
 rw [← hfs] at h
 obtain ⟨id, o, e1, l0, l1, _, _, _, w4⟩ := nodes_idx h hx0
 have e1' := fun (e s b : Nat) (z : List V) (ty : Nat → LT) => e1 e s b z ty .i64
 have l1' := l1 []
 simp only [List.append_nil, Int.natCast_zero] at l1' e1'
 have hni : ¬ x.Inner := by unfold PNode.Inner; omega
 rw [leaf_in hx d hni]
 have c2 := i_Name (t := x.attr) (H := H)
 have c3 := i_Value (t := x.value) (H := H)
 have hok : NodeOk x ↔ x.many = 0 ∧ NameOk x.attr ∧ (x.op = 5 ∧ x.value = [] ∨ x.op ≠ 5 ∧ ValueOk x.value) := by
  unfold NodeOk
  constructor
  ·rintro (⟨a, _⟩ | ⟨a, b, c, d⟩ | ⟨a, b, c, d⟩)
   ·exact absurd a hni
   ·exact ⟨d, b, .inl ⟨a, c⟩⟩
   ·exact ⟨d, b, .inr ⟨by omega, c⟩⟩
  ·rintro ⟨a, b, ⟨c, d⟩ | ⟨c, d⟩⟩
   ·exact .inr (.inl ⟨c, b, d, a⟩)
   ·exact .inr (.inr ⟨by omega, b, d, a⟩)
 have hvn : ∀ (b : Bool), (b = true ↔ NodeOk x) → dec (NodeOk x) = b := by
  intro b hb
  cases b
  ·exact dec_neg (fun h => by have := hb.2 h; simp at this)
  ·exact dec_pos (hb.1 rfl)
 by_cases hv : x.op = 5 ∧ x.value = [] ∨ x.op ≠ 5 ∧ ValueOk x.value
 rotate_left
 ·rw [dec_neg (fun h => hv (hok.1 h).2.2)]
  by_cases o5 : x.op = 5
  ·have g2 : ¬ x.value = [] := fun h => hv (.inl ⟨o5, h⟩)
   have e2 : List.isEmpty x.value = false := by simpa using g2
   simp [code191, Tryz.f191, fillL, zerosL, buildV, structPlace, h.len, hn0, hn0', e1', l1', o5, g2, e2, depI]
  ·have g2 : ¬ ValueOk x.value := fun h => hv (.inr ⟨o5, h⟩)
   rw [dec_neg g2] at c3
   rcases hn with o4 | o4 | o4 | o4 | o4
   ·simp [code191, Tryz.f191, fillL, zerosL, buildV, structPlace, h.len, hn0, hn0', e1', l1', o4, c3, depI]
   ·exact absurd o4 o5
   ·simp [code191, Tryz.f191, fillL, zerosL, buildV, structPlace, h.len, hn0, hn0', e1', l1', o4, c3, depI]
   ·simp [code191, Tryz.f191, fillL, zerosL, buildV, structPlace, h.len, hn0, hn0', e1', l1', o4, c3, depI]
   ·simp [code191, Tryz.f191, fillL, zerosL, buildV, structPlace, h.len, hn0, hn0', e1', l1', o4, c3, depI]
 by_cases hm : x.many = 0
 rotate_left
 ·rw [dec_neg (fun h => hm (hok.1 h).1)]
  rcases hv with ⟨o5, hv⟩ | ⟨o5, hv⟩
  ·simp [code191, Tryz.f191, fillL, zerosL, buildV, structPlace, h.len, hn0, hn0', e1', l1', o5, hv, hm, depI]
  ·rw [dec_pos hv] at c3
   rcases hn with o4 | o4 | o4 | o4 | o4
   ·simp [code191, Tryz.f191, fillL, zerosL, buildV, structPlace, h.len, hn0, hn0', e1', l1', o4, c3, hm, depI]
   ·exact absurd o4 o5
   ·simp [code191, Tryz.f191, fillL, zerosL, buildV, structPlace, h.len, hn0, hn0', e1', l1', o4, c3, hm, depI]
   ·simp [code191, Tryz.f191, fillL, zerosL, buildV, structPlace, h.len, hn0, hn0', e1', l1', o4, c3, hm, depI]
   ·simp [code191, Tryz.f191, fillL, zerosL, buildV, structPlace, h.len, hn0, hn0', e1', l1', o4, c3, hm, depI]
 by_cases g1 : NameOk x.attr
 ·rw [dec_pos g1] at c2
  rw [dec_pos (hok.2 ⟨hm, g1, hv⟩)]
  rcases hv with ⟨o5, hv⟩ | ⟨o5, hv⟩
  ·simp [code191, Tryz.f191, fillL, zerosL, buildV, structPlace, h.len, hn0, hn0', e1', l1', o5, hv, hm, c2, depI]
  ·rw [dec_pos hv] at c3
   rcases hn with o4 | o4 | o4 | o4 | o4
   ·simp [code191, Tryz.f191, fillL, zerosL, buildV, structPlace, h.len, hn0, hn0', e1', l1', o4, c3, hm, c2, depI]
   ·exact absurd o4 o5
   ·simp [code191, Tryz.f191, fillL, zerosL, buildV, structPlace, h.len, hn0, hn0', e1', l1', o4, c3, hm, c2, depI]
   ·simp [code191, Tryz.f191, fillL, zerosL, buildV, structPlace, h.len, hn0, hn0', e1', l1', o4, c3, hm, c2, depI]
   ·simp [code191, Tryz.f191, fillL, zerosL, buildV, structPlace, h.len, hn0, hn0', e1', l1', o4, c3, hm, c2, depI]
 ·rw [dec_neg g1] at c2
  rw [dec_neg (fun h => g1 (hok.1 h).2.1)]
  rcases hv with ⟨o5, hv⟩ | ⟨o5, hv⟩
  ·simp [code191, Tryz.f191, fillL, zerosL, buildV, structPlace, h.len, hn0, hn0', e1', l1', o5, hv, hm, c2, depI]
  ·rw [dec_pos hv] at c3
   rcases hn with o4 | o4 | o4 | o4 | o4
   ·simp [code191, Tryz.f191, fillL, zerosL, buildV, structPlace, h.len, hn0, hn0', e1', l1', o4, c3, hm, c2, depI]
   ·exact absurd o4 o5
   ·simp [code191, Tryz.f191, fillL, zerosL, buildV, structPlace, h.len, hn0, hn0', e1', l1', o4, c3, hm, c2, depI]
   ·simp [code191, Tryz.f191, fillL, zerosL, buildV, structPlace, h.len, hn0, hn0', e1', l1', o4, c3, hm, c2, depI]
   ·simp [code191, Tryz.f191, fillL, zerosL, buildV, structPlace, h.len, hn0, hn0', e1', l1', o4, c3, hm, c2, depI]
theorem depth_bad {v : V} {f : List PNode} {H : List Ob} (d i : Nat) (hi : i < f.length) {x : PNode} (hx : f[i]? = some x) (h : ANodes H v (f.drop i)) (hn : x.Inner) (hb : ¬ NodeOk x) :
  callW C 191 [v] H = some (depI i (fdep f (d + 1) i), H) := by
 suffices hs : Ret C 191 [v] H fun q H' => q = depI i (fdep f (d + 1) i) ∧ H' = H by
  obtain ⟨q, H', hc, rfl, rfl⟩ := hs
  exact hc
 rw [op191]
 obtain ⟨fs, hfs⟩ : ∃ fs, fs = f.drop i := ⟨_, rfl⟩
 have hfl : fs.length = f.length - i := by rw [hfs]; simp
 have hn0 : ¬ fs = [] := by intro h; rw [h] at hfl; simp at hfl; omega
 have hn0' : ¬ (fs.length : Int) = 0 := by omega
 have hx0 : fs[0]? = some x := by rw [hfs, List.getElem?_drop]; exact hx
 rw [← hfs] at h
 obtain ⟨id, o, e1, l0, l1, _, _, _, w4⟩ := nodes_idx h hx0
 have e1' := fun (e s b : Nat) (z : List V) (ty : Nat → LT) => e1 e s b z ty .i64
 have l1' := l1 []
 simp only [List.append_nil, Int.natCast_zero] at l1' e1'
 rw [not_in hx d hb]
 by_cases g1 : x.attr = []
 rotate_left
 ·have e1 : List.isEmpty x.attr = false := by simpa using g1
  rcases hn with ho | ho | ho <;> simp [code191, Tryz.f191, fillL, zerosL, buildV, structPlace, h.len, hn0, hn0', e1', l1', ho, g1, e1, depI]
 by_cases g2 : x.value = []
 rotate_left
 ·have e2 : List.isEmpty x.value = false := by simpa using g2
  rcases hn with ho | ho | ho <;> simp [code191, Tryz.f191, fillL, zerosL, buildV, structPlace, h.len, hn0, hn0', e1', l1', ho, g1, g2, e2, depI]
 by_cases g3 : x.many < 1
 ·rcases hn with ho | ho | ho <;> simp [code191, Tryz.f191, fillL, zerosL, buildV, structPlace, h.len, hn0, hn0', e1', l1', ho, g1, g2, g3, depI]
 by_cases g4 : 20 < x.many
 ·by_cases g5 : x.many = 1
  ·omega
  ·rcases hn with ho | ho | ho <;> simp [code191, Tryz.f191, fillL, zerosL, buildV, structPlace, h.len, hn0, hn0', e1', l1', ho, g1, g2, g3, g4, g5, depI]
 by_cases o3 : x.op = 3
 ·by_cases g5 : x.many = 1
  ·exact absurd (.inl ⟨hn, g1, g2, by omega, by omega, fun _ => g5⟩) hb
  ·simp [code191, Tryz.f191, fillL, zerosL, buildV, structPlace, h.len, hn0, hn0', e1', l1', o3, g1, g2, g3, g4, g5, depI]
 ·exact absurd (.inl ⟨hn, g1, g2, by omega, by omega, fun h => absurd h o3⟩) hb
theorem depth_odd {v : V} {f : List PNode} {H : List Ob} (d i : Nat) (hi : i < f.length) {x : PNode} (hx : f[i]? = some x) (h : ANodes H v (f.drop i)) (hn : ¬ x.Inner) (ho : ¬ (x.op = 4 ∨ x.op = 5 ∨ x.op = 6 ∨ x.op = 7 ∨ x.op = 8)) (hb : ¬ NodeOk x) :
  callW C 191 [v] H = some (depI i (fdep f (d + 1) i), H) := by
 suffices hs : Ret C 191 [v] H fun q H' => q = depI i (fdep f (d + 1) i) ∧ H' = H by
  obtain ⟨q, H', hc, rfl, rfl⟩ := hs
  exact hc
 rw [op191]
 obtain ⟨fs, hfs⟩ : ∃ fs, fs = f.drop i := ⟨_, rfl⟩
 have hfl : fs.length = f.length - i := by rw [hfs]; simp
 have hn0 : ¬ fs = [] := by intro h; rw [h] at hfl; simp at hfl; omega
 have hn0' : ¬ (fs.length : Int) = 0 := by omega
 have hx0 : fs[0]? = some x := by rw [hfs, List.getElem?_drop]; exact hx
 rw [← hfs] at h
 obtain ⟨id, o, e1, l0, l1, _, _, _, w4⟩ := nodes_idx h hx0
 have e1' := fun (e s b : Nat) (z : List V) (ty : Nat → LT) => e1 e s b z ty .i64
 have l1' := l1 []
 simp only [List.append_nil, Int.natCast_zero] at l1' e1'
 rw [not_in hx d hb]
 unfold PNode.Inner at hn
 obtain ⟨o1, o2, o3⟩ : ¬ x.op = 1 ∧ ¬ x.op = 2 ∧ ¬ x.op = 3 := ⟨fun h => hn (.inl h), fun h => hn (.inr (.inl h)), fun h => hn (.inr (.inr h))⟩
 obtain ⟨o4, o5, o6, o7, o8⟩ : ¬ x.op = 4 ∧ ¬ x.op = 5 ∧ ¬ x.op = 6 ∧ ¬ x.op = 7 ∧ ¬ x.op = 8 := by omega
 simp [code191, Tryz.f191, fillL, zerosL, buildV, structPlace, h.len, hn0, hn0', e1', l1', o1, o2, o3, o4, o5, o6, o7, o8, depI]
theorem i_depthOf {f : List PNode} (hl : f.length ≤ 100) : ∀ (d : Nat) (v : V) (i : Nat) (H : List Ob), d ≤ 100 → i ≤ f.length → f.length - i ≤ d → ANodes H v (f.drop i) →
  callW C 191 [v] H = some (depI i (fdep f d i), H) := by
 intro d
 induction d with
 | zero =>
  intro v i H hd hi hfi h
  suffices hs : Ret C 191 [v] H fun q H' => q = depI i (fdep f 0 i) ∧ H' = H by
   obtain ⟨q, H', hc, rfl, rfl⟩ := hs
   exact hc
  rw [op191]
  have he : f.drop i = [] := by simp; omega
  rw [he] at h
  have hlen := h.len (e := 226) (s := 1) (b := 24) (z := [.slc none 0])
  simp [code191, Tryz.f191, h.len, depI, fdep]
 | succ d ih =>
  intro v i H hd hi hfi h
  rcases Nat.lt_or_ge i f.length with g | g
  rotate_left
  ·suffices hs : Ret C 191 [v] H fun q H' => q = depI i (fdep f (d + 1) i) ∧ H' = H by
    obtain ⟨q, H', hc, rfl, rfl⟩ := hs
    exact hc
   rw [op191]
   have he : f.drop i = [] := by simp; omega
   rw [he] at h
   simp [code191, Tryz.f191, h.len, depI, fdep, List.getElem?_eq_none g]
  obtain ⟨x, hx⟩ : ∃ c, f[i]? = some c := ⟨f[i], by simp [g]⟩
  by_cases hn : x.Inner
  ·by_cases hok : NodeOk x
   ·exact depth_in d i g hl (by omega) hx h hn hok fun w j G h1 h2 h3 => ih w j G (by omega) h2 (by omega) h3
   ·exact depth_bad d i g hx h hn hok
  ·by_cases hop : x.op = 4 ∨ x.op = 5 ∨ x.op = 6 ∨ x.op = 7 ∨ x.op = 8
   ·exact depth_leaf d i g hx h hop
   ·have hok : ¬ NodeOk x := by
     rintro (⟨a, _⟩ | ⟨a, _⟩ | ⟨a, _⟩)
     ·exact hn a
     ·omega
     ·omega
    exact depth_odd d i g hx h hn hop hok
theorem i_FilterRight {v : V} {f : List PNode} {H : List Ob} (h : ANodes H v f) : callW C 100 [v] H = some (.bool (dec (FilterOk f)), H) := by
 apply Ret.dec
 rw [op100]
 by_cases g : f.length ≤ 20
 rotate_left
 ·have g' : (20 : Int) < f.length := by omega
  simp [code100, Tryz.f100, h.len, g']
  exact fun h => g h.1
 have g' : ¬ (20 : Int) < f.length := by omega
 have c1 := i_depthOf (f := f) (by omega) 20 v 0 H (by omega) (by omega) (by omega) h
 rw [filter_ok]
 cases hf : fdep f 20 0 with
 | none =>
  rw [hf] at c1
  simp only [depI] at c1
  simp [code100, Tryz.f100, h.len, g', c1]
 | some q =>
  rw [hf] at c1
  simp only [depI, Nat.sub_zero] at c1
  have hq := fdep_some _ _ _ hf
  have h0 : 0 < q.1 := by omega
  by_cases e : q.1 = f.length
  ·have h1 : 0 < f.length := by omega
   by_cases e5 : q.2 ≤ 5
   ·have e5' : (q.2 : Int) ≤ 5 := by omega
    simp [code100, Tryz.f100, h.len, g', c1, e, h1, e5']
    exact ⟨g, q.2, by rw [← e], e5⟩
   ·have e5' : ¬ (q.2 : Int) ≤ 5 := by omega
    simp [code100, Tryz.f100, h.len, g', c1, e, h1, e5']
    intro _ x hx
    rw [hx] at e5
    exact Nat.lt_of_not_le e5
  ·have e' : ¬ (q.1 : Int) = f.length := by omega
   simp [code100, Tryz.f100, h.len, g', c1, e, e', h0]
   intro _ x hx
   rw [hx] at e
   exact absurd rfl e
end Go.Proofs.Try1
end
