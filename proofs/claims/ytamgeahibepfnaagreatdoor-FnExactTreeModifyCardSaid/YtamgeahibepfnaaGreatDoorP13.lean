/- Part 13 of the proof of a law: the interpreter, its soundness, and what functions of the program compute over it. Conditions: none but those that each theorem names. -/
import Derived.Test.YtamgeahibepfnaaGreatDoorP12
import Derived.Test.YtamgeahibepfnaaGreatDoorP07
import Derived.Test.YtamgeahibepfnaaGreatDoorP08
import Derived.Test.YtamgeahibepfnaaGreatDoorP11
import Derived.Test.YtamgeahibepfnaaGreatDoorP09

set_option linter.all false
set_option maxRecDepth 20000
set_option maxHeartbeats 40000000
section
namespace Go.Proofs.Try1
open Go Go.Lite
theorem RY {l : List PAttr} (h : fZ l) (must : List Str) : (must.filter fun t => !decide (0 < (valsOf l t).length)) = must.filter fun t => (bT PAttr.name l t).isNone := by
 congr 1
 funext t
 unfold valsOf
 cases hf : bT PAttr.name l t with
 | none => rfl
 | some a =>
  have hm := List.mem_of_find?_eq_some hf
  obtain ⟨j, hj, rfl⟩ := List.getElem_of_mem hm
  have := (h.1 j _ (List.getElem?_eq_getElem hj)).2.2.2.1
  simp
  omega
theorem QD {H : List Ob} {ide : Nat} {own : Bool} {vl vd va : V} {l : List PClass} {e : PEntry} (he : H[ide]? = some (.mk own 2 [vd, va])) (hl : bg H vl l) (hd : dK H vd e.dn) (ha : bK H va e.attrs) (g1 : fE l) (g2 : EntryOk e) :
  callW C 213 [vl, .ptr (some (ide, 0))] H = some (.bool (dec (fF l e)), H) := by
 apply Ret.dec
 rw [acv]
 have hgb : ∀ X b, fB H (H ++ X) (.bool b) = H := fun X b => lw
 have hod := hd.one
 have hoa := ha.one
 have hpw : e.attrs.Pairwise fun a b => a.name < b.name := gB (fun j x hx => (g2.2.2.1 j x hx).2.1)
 have hal : e.attrs.length ≤ 1000 := by have := g2.2.2.2; omega
 have hcl : ∀ c ∈ l, c.must.length ≤ 1000 ∧ c.may.length ≤ 1000 ∧ c.single.length ≤ 1000 := fun c hc => by
  obtain ⟨j, hj, rfl⟩ := List.getElem_of_mem hc
  have := (g1.1 j _ (List.getElem?_eq_getElem hj)).1
  have h1 := this.l1; have h2 := this.l2; have h3 := this.l3
  omega
 obtain ⟨T1, cs, ok, c3, hres⟩ := NP he ha hal hpw hl hcl
 rcases hres with ⟨rfl, c, w1, w2, w3, hc1, rfl, q1, q2, q3⟩ | ⟨rfl, hc1, rfl⟩
 rotate_left
 ·simp [uQ, Tryz.f213, c3, hgb]
  rintro ⟨c, h1, _⟩
  rw [hc1] at h1
  cases h1
 have hc : c ∈ l := by
  unfold jg at hc1
  split at hc1
  ·exact List.mem_of_find?_eq_some hc1
  ·cases hc1
 have hfit : ∀ c', jg l e.attrs = some c' → c' = c := fun c' h => by rw [hc1] at h; cases h; rfl
 obtain ⟨T2, w, c4, hb⟩ := Ou (H := H ++ T1) (ide := ide) (own := own) (es := 2) (vd := vd) (va := va) (aS _ _ he) (ha.ext (T := T1)) hal hpw q1 q2.one q3.one (hcl c hc).1
 rw [RY g2.2.2] at hb
 obtain ⟨F, hbF, _, _⟩ := hb
 have hw : AStrs (H ++ T1 ++ T2) w (lacks c e.attrs) := AtF.at _ hbF
 obtain ⟨K, hK⟩ : ∃ K, K = T1 ++ T2 := ⟨_, rfl⟩
 rw [List.append_assoc, ← hK] at c4 hw
 by_cases m1 : lacks c e.attrs = []
 rotate_left
 ·have hl0 : (0 : Int) < (lacks c e.attrs).length := by
   have : (lacks c e.attrs).length ≠ 0 := fun h => m1 (List.length_eq_zero_iff.1 h)
   omega
  simp [uQ, Tryz.f213, c3, c4, hgb, q1.one, q2.one, q3.one, hw.len, hl0, m1]
  refine ⟨by omega, ?_⟩
  rintro ⟨c', h1, h2, _⟩
  obtain rfl := hfit c' h1
  exact m1 h2
 have he' : (H ++ K)[ide]? = some (.mk own 2 [vd, va]) := aS _ _ he
 have ld0 := aY (o := 0) (v := vd) he' rfl
 have ld1 := aY (o := 1) (v := va) he' rfl
 have haK := ha.ext (T := K)
 have hdK := hd.ext (T := K)
 have q1K : AStrs (H ++ K) w1 c.must := by have := q1.ext (T := T2); rwa [List.append_assoc, ← hK] at this
 have q2K : AStrs (H ++ K) w2 c.may := by have := q2.ext (T := T2); rwa [List.append_assoc, ← hK] at this
 have q3K : AStrs (H ++ K) w3 c.single := by have := q3.ext (T := T2); rwa [List.append_assoc, ← hK] at this
 simp [uQ, Tryz.f213, c3, c4, hgb, q1.one, q2.one, q3.one, hw.len, m1, ld0, ld1, haK.len]
 have hb2 : e.attrs.length ≤ 9223372036854775807 := ha.bound
 refine aA (fun k σ => ∃ (i : Nat) (r : Nat → R), i + k = e.attrs.length ∧ (∀ a ∈ e.attrs.take i, ku c a) ∧ σ = ⟨r, 1 + i, H ++ K⟩ ∧ r 1 = .val (.ptr (some (ide, 0))) ∧ r 5 = .box 0 [.str c.name, w1, w2, w3] ∧ r 27 = .val va ∧ r 28 = .val (.int .i64 e.attrs.length) ∧ r 29 = .val (.int .i64 i)) ?_ e.attrs.length _ ⟨0, _, by omega, by simp, rfl, by simp, by simp, by simp, by simp, by simp⟩
 rintro k σ ⟨i, r, hik, hpre2, rfl, r1, r5, r27, r28, r29⟩
 cases k with
 | zero =>
  have hi : i = e.attrs.length := by omega
  subst hi
  rw [List.take_length] at hpre2
  obtain ⟨x, hx⟩ : ∃ c, e.dn[0]? = some c := ⟨e.dn[0]'g2.1, by simp⟩
  obtain ⟨id, o, e1, l0, l1, _, _⟩ := qX hdK hx
  simp only [Int.ofNat_eq_natCast, Int.natCast_zero] at e1
  have hid := qO l0
  rw [List.length_append] at hid
  have hide : ide < H.length + K.length := by have := (List.getElem?_eq_some_iff.1 he).1; omega
  have c5 := jG (t := x.value) (H := H ++ K)
  have c6 := P5 (t := x.attr) (n := norm x.value) he' haK hal hpw
  simp [r1, r5, r27, r28, r29, ld0, ld1, e1, l0, l1, hid, hide, c5, c6, hgb, af, ai, List.lookup]
  by_cases hH : nV e.attrs x.attr (norm x.value)
  ·exact .inr ⟨au hH, c, hc1, m1, hpre2, x, hx, hH⟩
  ·exact .inl ⟨ak hH, fun ⟨_, _, _, _, y, h1, h2⟩ => by rw [hx] at h1; cases h1; exact hH h2⟩
 | succ k =>
  have hi : i < e.attrs.length := by omega
  obtain ⟨a, hs⟩ : ∃ a, e.attrs[i]? = some a := ⟨e.attrs[i], by simp [hi]⟩
  obtain ⟨id2, o2, w, f1, m1, m2, m3, aw, _⟩ := fK haK hs
  have hw : IntKind.i64.wrap ((i : Int) + 1) = ((i : Int) + 1) := wrap_i64 (by omega) (by omega)
  have d1 := mQ (t := a.name) q1K
  have d2 := mQ (t := a.name) q2K
  have d3 := mQ (t := a.name) q3K
  have hstep : ku c a → ∀ t ∈ e.attrs.take (i + 1), ku c t := fun h t ht => by
   rw [dA hs] at ht
   rcases List.mem_append.1 ht with h' | h'
   ·exact hpre2 t h'
   ·obtain rfl := List.mem_singleton.1 h'
    exact h
  have hbad : ¬ ku c a → ¬ fF l e := by
   rintro h ⟨c', hc', _, hl', _⟩
   obtain rfl := hfit c' hc'
   exact h (hl' a (List.mem_of_getElem? hs))
  have hvl : (1 : Int) < (a.vals.length : Int) ↔ 1 < a.vals.length := by omega
  by_cases n1 : a.name = [99, 108, 97, 115, 115]
  ·by_cases n4 : 1 < a.vals.length
   ·by_cases n5 : a.name ∈ c.single
    ·rw [au n5] at d3
     rw [n1] at d1 d2 d3
     simp [r1, r5, r27, r28, r29, hi, f1, m1, m2, m3, d1, d2, d3, aw.len, aw.one, q1.one, q2.one, q3.one, hw, hgb, af, ai, List.lookup, n1, n4, hvl]
     exact hbad fun h => h.2 ⟨n4, n5⟩
    ·rw [ak n5] at d3
     rw [n1] at d1 d2 d3
     simp [r1, r5, r27, r28, r29, hi, f1, m1, m2, m3, d1, d2, d3, aw.len, aw.one, q1.one, q2.one, q3.one, hw, hgb, af, ai, List.lookup, n1, n4, hvl]
     exact ⟨k, by omega, i + 1, by omega, hstep ⟨.inl n1, fun h => n5 h.2⟩, _, ⟨rfl, by omega⟩, by simp [r1], by simp [r5], by simp [r27], by simp [r28], by simp⟩
   ·rw [n1] at d1 d2 d3
    simp [r1, r5, r27, r28, r29, hi, f1, m1, m2, m3, d1, d2, d3, aw.len, aw.one, q1.one, q2.one, q3.one, hw, hgb, af, ai, List.lookup, n1, n4, hvl]
    exact ⟨k, by omega, i + 1, by omega, hstep ⟨.inl n1, fun h => n4 h.1⟩, _, ⟨rfl, by omega⟩, by simp [r1], by simp [r5], by simp [r27], by simp [r28], by simp⟩
  by_cases n2 : a.name ∈ c.must
  ·rw [au n2] at d1
   by_cases n4 : 1 < a.vals.length
   ·by_cases n5 : a.name ∈ c.single
    ·rw [au n5] at d3
     simp [r1, r5, r27, r28, r29, hi, f1, m1, m2, m3, d1, d2, d3, aw.len, aw.one, q1.one, q2.one, q3.one, hw, hgb, af, ai, List.lookup, n1, n4, hvl]
     exact hbad fun h => h.2 ⟨n4, n5⟩
    ·rw [ak n5] at d3
     simp [r1, r5, r27, r28, r29, hi, f1, m1, m2, m3, d1, d2, d3, aw.len, aw.one, q1.one, q2.one, q3.one, hw, hgb, af, ai, List.lookup, n1, n4, hvl]
     exact ⟨k, by omega, i + 1, by omega, hstep ⟨.inr (.inl n2), fun h => n5 h.2⟩, _, ⟨rfl, by omega⟩, by simp [r1], by simp [r5], by simp [r27], by simp [r28], by simp⟩
   ·simp [r1, r5, r27, r28, r29, hi, f1, m1, m2, m3, d1, d2, d3, aw.len, aw.one, q1.one, q2.one, q3.one, hw, hgb, af, ai, List.lookup, n1, n4, hvl]
    exact ⟨k, by omega, i + 1, by omega, hstep ⟨.inr (.inl n2), fun h => n4 h.1⟩, _, ⟨rfl, by omega⟩, by simp [r1], by simp [r5], by simp [r27], by simp [r28], by simp⟩
  rw [ak n2] at d1
  by_cases n3 : a.name ∈ c.may
  ·rw [au n3] at d2
   by_cases n4 : 1 < a.vals.length
   ·by_cases n5 : a.name ∈ c.single
    ·rw [au n5] at d3
     simp [r1, r5, r27, r28, r29, hi, f1, m1, m2, m3, d1, d2, d3, aw.len, aw.one, q1.one, q2.one, q3.one, hw, hgb, af, ai, List.lookup, n1, n4, hvl]
     exact hbad fun h => h.2 ⟨n4, n5⟩
    ·rw [ak n5] at d3
     simp [r1, r5, r27, r28, r29, hi, f1, m1, m2, m3, d1, d2, d3, aw.len, aw.one, q1.one, q2.one, q3.one, hw, hgb, af, ai, List.lookup, n1, n4, hvl]
     exact ⟨k, by omega, i + 1, by omega, hstep ⟨.inr (.inr n3), fun h => n5 h.2⟩, _, ⟨rfl, by omega⟩, by simp [r1], by simp [r5], by simp [r27], by simp [r28], by simp⟩
   ·simp [r1, r5, r27, r28, r29, hi, f1, m1, m2, m3, d1, d2, d3, aw.len, aw.one, q1.one, q2.one, q3.one, hw, hgb, af, ai, List.lookup, n1, n4, hvl]
    exact ⟨k, by omega, i + 1, by omega, hstep ⟨.inr (.inr n3), fun h => n4 h.1⟩, _, ⟨rfl, by omega⟩, by simp [r1], by simp [r5], by simp [r27], by simp [r28], by simp⟩
  ·rw [ak n3] at d2
   simp [r1, r5, r27, r28, r29, hi, f1, m1, m2, m3, d1, d2, d3, aw.len, aw.one, q1.one, q2.one, q3.one, hw, hgb, af, ai, List.lookup, n1, hvl]
   exact hbad fun h => by
    rcases h.1 with h | h | h
    ·exact n1 h
    ·exact n2 h
    ·exact n3 h
theorem Ur {H : List Ob} {v : V} {l : List PClass} (h : bg H v l) : callW C 257 [v] H = some (.bool (decide (400 < l.length)), H) := by
 apply Ret.eq
 rw [aez]
 have hi : (400 : Int) < (l.length : Int) ↔ 400 < l.length := by omega
 simp [EZ, Tryz.f257, h.len, hi]
theorem Uz {H : List Ob} {vl vd va : V} {l : List PClass} {e : PEntry} (hl : bg H vl l) (hd : dK H vd e.dn) (ha : bK H va e.attrs) (g1 : fE l) :
  ∃ r : Int, callW C 169 [vl, .agg [vd, va]] H = some (.int .i64 r, H) ∧ (r = 0 ↔ EntryOk e ∧ fF l e) := by
 suffices hs : Ret C 169 [vl, .agg [vd, va]] H fun q H' => (∃ r : Int, q = .int .i64 r ∧ (r = 0 ↔ EntryOk e ∧ fF l e)) ∧ H' = H by
  obtain ⟨q, H', hc, ⟨r, rfl, hr⟩, rfl⟩ := hs
  exact ⟨r, hc, hr⟩
 rw [abP]
 have hod := hd.one
 have hoa := ha.one
 have hgi : ∀ X n, fB H (H ++ X) (.int .i64 n) = H := fun X n => dP
 have c0 := Ur (hl.ext (T := [.mk true 2 [vd, va]]))
 have c1 := Ip (hl.ext (T := [.mk true 2 [vd, va]]))
 have c2 := U4 (hd.ext (T := [.mk true 2 [vd, va]])) (ha.ext (T := [.mk true 2 [vd, va]]))
 have g0 : ¬ 400 < l.length := by have := g1.2; omega
 rw [au g1] at c1
 have ld := nT (H := H ++ [.mk true 2 [vd, va]]) (o := 0) (n := 2) get_last (by simp) (by decide) rfl
 simp at ld
 by_cases g2 : EntryOk e
 rotate_left
 ·rw [ak g2] at c2
  simp [vU, Tryz.f169, c0, c1, c2, g0, ld, hod, hoa, aV, hgi, g2]
 rw [au g2] at c2
 have c3 := QD (H := H ++ [.mk true 2 [vd, va]]) (ide := H.length) (own := true) get_last hl.ext hd.ext ha.ext g1 g2
 by_cases g3 : fF l e
 ·rw [au g3] at c3
  simp [vU, Tryz.f169, c0, c1, c2, c3, g0, ld, hod, hoa, aV, hgi, g2, g3]
 ·rw [ak g3] at c3
  simp [vU, Tryz.f169, c0, c1, c2, c3, g0, ld, hod, hoa, aV, hgi, g2, g3]
theorem NG {H : List Ob} {w1 w2 : V} {x : PEntry} {t : Str} (h : dK H w1 x.dn) (hd : DnOk x.dn) (ho : aP w2 = true ∧ cellsOf w2 = some [w2]) : callW C 274 [.agg [w1, w2], .str t] H = some (.int .i64 (qc (dG x.dn) t), H) := by
 apply Ret.eq
 rw [YK]
 have c1 := Nq h hd
 simp [E8, Tryz.f274, VC, c1, h.one, ho]
theorem OO {H : List Ob} {v : V} {l : List PEntry} {t : Str} (h : bW H v l) (hl : l.length ≤ 1000) (hok : ∀ x ∈ l, DnOk x.dn) (hp : l.Pairwise fun a b => (dG a.dn) < (dG b.dn)) :
  ∃ (i : Nat) (ok : Bool), callW C 273 [v, .str t, .fn 274 [] []] H = some (.tup [.int .i64 i, .bool ok], H) ∧
   i ≤ l.length ∧ (∀ q a, q < i → l[q]? = some a → df (dG a.dn) t) ∧ (∀ q a, i ≤ q → l[q]? = some a → ¬ df (dG a.dn) t) ∧ (ok = true ↔ ∃ a, l[i]? = some a ∧ (dG a.dn) = t) := by
 suffices hs : Ret C 273 [v, .str t, .fn 274 [] []] H fun q H' =>
   (∃ (i : Nat) (ok : Bool), q = .tup [.int .i64 i, .bool ok] ∧ i ≤ l.length ∧ (∀ q a, q < i → l[q]? = some a → df (dG a.dn) t) ∧ (∀ q a, i ≤ q → l[q]? = some a → ¬ df (dG a.dn) t) ∧ (ok = true ↔ ∃ a, l[i]? = some a ∧ (dG a.dn) = t)) ∧ H' = H by
  obtain ⟨q, H', hc, ⟨i, ok, rfl, h1⟩, rfl⟩ := hs
  exact ⟨i, ok, hc, h1⟩
 rw [ae3]
 simp [FY, Tryz.f273, h.len]
 refine aA (fun k σ => ∃ (i j : Nat) (r : Nat → R), j - i = k ∧ i ≤ j ∧ j ≤ l.length ∧ σ = ⟨r, 0, H⟩ ∧ r 0 = .val v ∧ r 1 = .val (.str t) ∧ r 2 = .val (.fn 274 [] []) ∧ r 8 = .val (.int .i64 l.length) ∧ r 9 = .val (.int .i64 i) ∧ r 10 = .val (.int .i64 j) ∧
  (∀ q a, q < i → l[q]? = some a → df (dG a.dn) t) ∧ (∀ q a, j ≤ q → l[q]? = some a → ¬ df (dG a.dn) t)) ?_ l.length _ ⟨0, l.length, _, by omega, by omega, by omega, rfl, by simp, by simp, by simp, by simp, by simp, by simp, fun q a h => by omega, fun q a h1 h2 => by have := (List.getElem?_eq_some_iff.1 h2).1; omega⟩
 rintro k σ ⟨i, j, r, hk, hij, hjl, rfl, r0, r1, r2, r8, r9, r10, hlo, hhi⟩
 cases k with
 | succ k =>
  have hlt : (i : Int) < j := by omega
  have hlt' : i < j := by omega
  have hw1 : IntKind.i64.wrap ((i : Int) + j) = (i : Int) + j := wrap_i64 (by omega) (by omega)
  have hw2 : IntKind.u64.wrap ((i : Int) + j) = (i : Int) + j := by unfold IntKind.wrap; simp [IntKind.bits, IntKind.signed]; omega
  have hq : ((i : Int) + j).fdiv 2 = (((i + j) / 2 : Nat) : Int) := by rw [Int.fdiv_eq_ediv_of_nonneg _ (by omega)]; omega
  obtain ⟨m, hm⟩ : ∃ m, m = (i + j) / 2 := ⟨_, rfl⟩
  rw [← hm] at hq
  have hw3 : IntKind.i64.wrap (m : Int) = m := wrap_i64 (by omega) (by omega)
  have hw4 : IntKind.i64.wrap ((m : Int) + 1) = (m : Int) + 1 := wrap_i64 (by omega) (by omega)
  have hml : m < l.length := by omega
  obtain ⟨a, ha⟩ : ∃ a, l[m]? = some a := ⟨l[m], List.getElem?_eq_getElem hml⟩
  obtain ⟨id, o, w1, w2, e1, l0, l1, l2, hvs, hva, _⟩ := dM h ha
  have c1 := NG (t := t) hvs (hok a (List.mem_of_getElem? ha)) hva.one
  have hord : ∀ q b, l[q]? = some b → (q < m → (dG b.dn) < (dG a.dn)) ∧ (m < q → (dG a.dn) < (dG b.dn)) := fun q b hb => by
   obtain ⟨hq1, hb⟩ := List.getElem?_eq_some_iff.1 hb
   obtain ⟨_, ha⟩ := List.getElem?_eq_some_iff.1 ha
   have := List.pairwise_iff_getElem.1 hp
   exact ⟨fun hh => by have := this q m hq1 hml hh; rwa [hb, ha] at this, fun hh => by have := this m q hml hq1 hh; rwa [hb, ha] at this⟩
  by_cases g1 : df (dG a.dn) t
  ·have g1' := sQ.2 g1
   simp [r0, r1, r2, r8, r9, r10, hlt, hlt', hw1, hw2, hq, hw3, hw4, e1, l2, c1, g1', jo, IntKind.bits]
   refine ⟨j - (m + 1), by omega, m + 1, j, by omega, by omega, by omega, by omega, rfl, fun q b hq1 hb => ?_, hhi⟩
   by_cases hqm : q = m
   ·subst hqm; rw [ha] at hb; cases hb; exact g1
   ·exact (bD _ _).2 (List.lt_trans ((hord q b hb).1 (by omega)) ((bD _ _).1 g1))
  ·have g1' : ¬ qc (dG a.dn) t < 0 := mt sQ.1 g1
   simp [r0, r1, r2, r8, r9, r10, hlt, hlt', hw1, hw2, hq, hw3, hw4, e1, l2, c1, g1', jo, IntKind.bits]
   refine ⟨m - i, by omega, i, m, by omega, by omega, by omega, rfl, rfl, hlo, fun q b hq1 hb hlt2 => ?_⟩
   by_cases hqm : q = m
   ·subst hqm; rw [ha] at hb; cases hb; exact g1 hlt2
   ·exact g1 ((bD _ _).2 (List.lt_trans ((hord q b hb).2 (by omega)) ((bD _ _).1 hlt2)))
 | zero =>
  have hij' : i = j := by omega
  subst hij'
  by_cases hil : i < l.length
  ·have hilI : (i : Int) < l.length := by omega
   obtain ⟨a, ha⟩ : ∃ a, l[i]? = some a := ⟨l[i], List.getElem?_eq_getElem hil⟩
   obtain ⟨id, o, w1, w2, e1, l0, l1, l2, hvs, hva, _⟩ := dM h ha
   have c1 := NG (t := t) hvs (hok a (List.mem_of_getElem? ha)) hva.one
   by_cases g1 : (dG a.dn) = t
   ·have g1' := qL.2 g1
    simp [r0, r1, r2, r8, r9, r10, hil, e1, l2, c1, g1']
    exact ⟨i, rfl, by omega, hlo, hhi, a, ha, g1⟩
   ·have g1' : ¬ qc (dG a.dn) t = 0 := mt qL.1 g1
    simp [r0, r1, r2, r8, r9, r10, hil, e1, l2, c1, g1']
    exact ⟨i, rfl, by omega, hlo, hhi, fun b hb => by rw [ha] at hb; cases hb; exact g1⟩
  ·simp [r0, r1, r2, r8, r9, r10, hil]
   exact ⟨i, rfl, by omega, hlo, hhi, fun b hb => by have := (List.getElem?_eq_some_iff.1 hb).1; omega⟩
theorem BX {H : List Ob} {idt : Nat} {own : Bool} {es : Nat} {vs ve vd : V} {l : List PEntry} {dn : List PRdn} (ht : H[idt]? = some (.mk own es [vs, ve])) (h : bW H ve l) (hl : l.length ≤ 1000) (hok : ∀ x ∈ l, DnOk x.dn) (hp : l.Pairwise fun a b => dG a.dn < dG b.dn) (hd : dK H vd dn) (hdn : DnOk dn) :
  ∃ (i : Nat) (ok : Bool), callW C 192 [.ptr (some (idt, 0)), vd] H = some (.tup [.int .i64 i, .bool ok], H) ∧
   i ≤ l.length ∧ (∀ q a, q < i → l[q]? = some a → df (dG a.dn) (dG dn)) ∧ (∀ q a, i ≤ q → l[q]? = some a → ¬ df (dG a.dn) (dG dn)) ∧ (ok = true ↔ ∃ a, l[i]? = some a ∧ dG a.dn = dG dn) := by
 obtain ⟨i, ok, c1, h1⟩ := OO (t := dG dn) h hl hok hp
 refine ⟨i, ok, ?_, h1⟩
 apply Ret.eq
 rw [aea]
 have c2 := Nq hd hdn
 have ld := aY (o := 1) (v := ve) ht rfl
 have hid : idt < H.length := (List.getElem?_eq_some_iff.1 ht).1
 simp [ER, Tryz.f192, c1, c2, ld, hid, af, ai, List.lookup]
theorem Ju {H : List Ob} {idt : Nat} {own : Bool} {es : Nat} {vs ve vd : V} {l : List PEntry} {dn : List PRdn} (ht : H[idt]? = some (.mk own es [vs, ve])) (h : bW H ve l) (hl : l.length ≤ 1000) (hok : ∀ x ∈ l, DnOk x.dn) (hp : l.Pairwise fun a b => dG a.dn < dG b.dn) (hd : dK H vd dn) (hdn : DnOk dn) :
  callW C 173 [.ptr (some (idt, 0)), vd] H = some (.bool (dec (iy l dn)), H) := by
 apply Ret.dec
 rw [aan]
 by_cases g1 : dn.length ≤ 1
 ·have g1' : (dn.length : Int) ≤ 1 := by omega
  simp [uZ, Tryz.f173, hd.len, g1']
  exact .inl g1
 have g1' : ¬ (dn.length : Int) ≤ 1 := by omega
 obtain ⟨id, off, own', cells, hv, hcell, at_⟩ := CQ hd (by omega)
 have hst : bF H id 2 = true := by simp [bF, hcell]
 have q1 : 1 ≤ dn.length := by omega
 obtain ⟨i, ok, c1, hil, hlo, hhi, hok'⟩ := BX ht h hl hok hp at_ hdn.tail
 have hpar : ok = true ↔ iy l dn := by
  rw [hok']
  constructor
  ·rintro ⟨a, ha, he⟩
   exact .inr ⟨a, List.mem_of_getElem? ha, he⟩
  ·rintro (hh | ⟨y, hy, he⟩)
   ·omega
   ·obtain ⟨j, hj, rfl⟩ := List.getElem_of_mem hy
    have hji : ¬ j < i := fun hh => by
     have := hlo j _ hh (List.getElem?_eq_getElem hj)
     rw [he] at this
     exact List.lt_irrefl _ ((bD _ _).1 this)
    have hnl := hhi i
    by_cases hij : i = j
    ·subst hij
     exact ⟨_, List.getElem?_eq_getElem hj, he⟩
    ·have hi2 : i < l.length := by omega
     have h1 := hhi i _ (Nat.le_refl _) (List.getElem?_eq_getElem hi2)
     have h2 := List.pairwise_iff_getElem.1 hp i j hi2 hj (by omega)
     rw [he] at h2
     exact absurd ((bD _ _).2 h2) h1
 rw [hv] at hd ⊢
 cases ok with
 | true =>
  have := hpar.1 rfl
  simp [uZ, Tryz.f173, hd.len, g1', hst, q1, c1, this]
 | false =>
  have : ¬ iy l dn := fun hh => by have := hpar.2 hh; cases this
  simp [uZ, Tryz.f173, hd.len, g1', hst, q1, c1, this]
theorem GX {H : List Ob} {v : V} {l : List PEntry} {g : Nat} {a b : List V} (h : bW H v l) (p : PEntry → Bool) (hg : ∀ x ∈ l, ∀ w1 w2, dK H w1 x.dn → bK H w2 x.attrs → callW C g (a ++ ([.agg [w1, w2]] ++ b)) H = some (.bool (p x), H)) :
  ∃ r : Int, callW C 259 [v, .fn g a b] H = some (.int .i64 r, H) ∧ (0 ≤ r ↔ ∃ x ∈ l, p x = true) := by
 suffices hs : Ret C 259 [v, .fn g a b] H fun q H' => (∃ r : Int, q = .int .i64 r ∧ (0 ≤ r ↔ ∃ x ∈ l, p x = true)) ∧ H' = H by
  obtain ⟨q, H', hc, ⟨r, rfl, hr⟩, rfl⟩ := hs
  exact ⟨r, hc, hr⟩
 rw [acY]
 have hb : l.length ≤ 9223372036854775807 := h.bound
 simp [Fp, Tryz.f259, h.len]
 refine aA (fun k σ => ∃ (i : Nat) (r : Nat → R), i + k = l.length ∧ σ = ⟨r, 0, H⟩ ∧ r 0 = .val v ∧ r 1 = .val (.fn g a b) ∧ r 7 = .val (.int .i64 l.length) ∧ r 8 = .val (.int .i64 i) ∧ ∀ j x, j < i → l[j]? = some x → p x = false) ?_ l.length _ ⟨0, _, by simp, rfl, by simp, by simp, by simp, by simp, by simp⟩
 rintro k σ ⟨i, r, hik, rfl, r0, r1, r7, r8, hall⟩
 cases k with
 | zero =>
  have hi : i = l.length := by omega
  subst hi
  have hx := fD (P := fun j (x : PEntry) => p x = false) hall
  simp [r0, r1, r7, r8]
  intro x hm
  obtain ⟨j, hj, rfl⟩ := List.getElem_of_mem hm
  exact hx j _ (List.getElem?_eq_getElem hj)
 | succ k =>
  have hi : i < l.length := by omega
  obtain ⟨x, hx⟩ : ∃ c, l[i]? = some c := ⟨l[i], by simp [hi]⟩
  have hw : IntKind.i64.wrap ((i : Int) + 1) = ((i : Int) + 1) := wrap_i64 (by omega) (by omega)
  obtain ⟨id, o, w1, w2, e1, l0, l1, lm, a1, a2, _⟩ := dM h hx
  have c1 := hg x (List.mem_of_getElem? hx) w1 w2 a1 a2
  simp only [List.singleton_append] at c1
  have ho1 := a1.one
  have ho2 := a2.one
  cases hp : p x with
  | false =>
   rw [hp] at c1
   simp [r0, r1, r7, r8, hi, e1, lm, c1, hw, ho1, ho2]
   exact ⟨k, by omega, i + 1, by omega, by omega, di (P := fun j (x : PEntry) => p x = false) hall hx hp⟩
  | true =>
   rw [hp] at c1
   simp [r0, r1, r7, r8, hi, e1, lm, c1, hw, ho1, ho2]
   exact ⟨x, List.mem_of_getElem? hx, hp⟩
theorem yG {H : List Ob} {v : V} {l : List PEntry} {g : Nat} {a b : List V} (h : bW H v l) (p : PEntry → Bool) (hg : ∀ x ∈ l, ∀ w1 w2, dK H w1 x.dn → bK H w2 x.attrs → callW C g (a ++ ([.agg [w1, w2]] ++ b)) H = some (.bool (p x), H)) :
  callW C 171 [v, .fn g a b] H = some (.bool (dec (∃ x ∈ l, p x = true)), H) := by
 obtain ⟨r, c1, hr⟩ := GX h p hg
 apply Ret.dec
 rw [agL]
 by_cases g1 : 0 ≤ r
 ·have := hr.1 g1
  simp [yS, Tryz.f171, c1, g1]
  exact this
 ·have : ¬ ∃ x ∈ l, p x = true := fun h => g1 (hr.2 h)
  simp [yS, Tryz.f171, c1, g1]
  intro x hx
  cases hp : p x with
  | false => rfl
  | true => exact absurd ⟨x, hx, hp⟩ this
theorem PH {H : List Ob} {idt : Nat} {own : Bool} {es : Nat} {vs ve w1 w2 : V} {l : List PEntry} {x : PEntry} (ht : H[idt]? = some (.mk own es [vs, ve])) (h : bW H ve l) (hl : l.length ≤ 1000) (hok : ∀ x ∈ l, DnOk x.dn) (hp : l.Pairwise fun a b => dG a.dn < dG b.dn) (hd : dK H w1 x.dn) (ho : aP w2 = true ∧ cellsOf w2 = some [w2]) (hx : DnOk x.dn) :
  callW C 172 [.agg [w1, w2], .ptr (some (idt, 0))] H = some (.bool (!dec (iy l x.dn)), H) := by
 apply Ret.eq
 rw [aep]
 have c1 := Ju ht h hl hok hp hd hx
 simp [EX, Tryz.f172, c1, hd.one, ho]
theorem Jn {H : List Ob} {vs ve : V} {t : PTree} (hs : bg H vs t.schema) (h : bW H ve t.entries) : callW C 80 [.agg [vs, ve]] H = some (.bool (dec (TreeOk t)), H) := by
 apply Ret.dec
 rw [alv]
 have hos := hs.one
 have hoe := h.one
 have hgb : ∀ X b, fB H (H ++ X) (.bool b) = H := fun X b => lw
 obtain ⟨K, hK⟩ : ∃ K, K = H ++ [.mk true 2 [vs, ve]] := ⟨_, rfl⟩
 have hKt : K[H.length]? = some (.mk true 2 [vs, ve]) := by rw [hK]; exact get_last
 have hsK : bg K vs t.schema := by rw [hK]; exact hs.ext
 have hK2 : bW K ve t.entries := by rw [hK]; exact h.ext
 have ld0 := aY (o := 0) (v := vs) hKt rfl
 have ld1 := aY (o := 1) (v := ve) hKt rfl
 have hgK : ∀ b, fB H K (.bool b) = H := fun b => by rw [hK]; exact lw
 have hKl : H.length < K.length := by rw [hK]; simp
 have c1 := Ip hsK
 by_cases g1 : fE t.schema
 rotate_left
 ·rw [ak g1] at c1
  simp [zB, Tryz.f80, hos, hoe, aV, ← hK, ld0, c1, hgK]
  exact fun h => g1 h.1
 rw [au g1] at c1
 by_cases g2 : 20 < t.entries.length
 ·have g2' : (20 : Int) < t.entries.length := by omega
  simp [zB, Tryz.f80, hos, hoe, aV, ← hK, ld0, ld1, c1, hK2.len, g2', hgK]
  exact fun h => by have := h.2.1.1; omega
 have g2' : ¬ (20 : Int) < t.entries.length := by omega
 simp [zB, Tryz.f80, hos, hoe, aV, ← hK, ld0, ld1, c1, hK2.len, g2']
 have hb : t.entries.length ≤ 20 := by omega
 refine aA (fun k σ => ∃ (i n : Nat) (r : Nat → R), i + k = t.entries.length ∧ σ = ⟨r, n, K⟩ ∧ r 1 = .val (.ptr (some (H.length, 0))) ∧ r 16 = .val ve ∧ r 17 = .val (.int .i64 t.entries.length) ∧ r 18 = .val (.int .i64 i) ∧ ∀ j x, j < i → t.entries[j]? = some x → EntryOk x ∧ fF t.schema x ∧ cu (fun e => dG e.dn) t.entries j x) ?_ t.entries.length _ ⟨0, _, _, by omega, rfl, by simp, by simp, by simp, by simp, by simp⟩
 rintro k σ ⟨i, n, r, hik, rfl, r1, r16, r17, r18, hall⟩
 cases k with
 | zero =>
  have hi : i = t.entries.length := by omega
  subst hi
  have hE := fD (P := fun j (x : PEntry) => EntryOk x ∧ fF t.schema x ∧ cu (fun e => dG e.dn) t.entries j x) hall
  have hdn : ∀ x ∈ t.entries, DnOk x.dn := fun x hx => by
   obtain ⟨j, hj, rfl⟩ := List.getElem_of_mem hx
   exact (hE j _ (List.getElem?_eq_getElem hj)).1.2.1
  have hpw : t.entries.Pairwise fun a b => dG a.dn < dG b.dn := gB (key := fun e => dG e.dn) (fun j x hx => (hE j x hx).2.2)
  have c2 := yG (g := 172) (a := []) (b := [.ptr (some (H.length, 0))]) hK2 (fun x => !dec (iy t.entries x.dn)) (fun x hx w1 w2 a1 a2 => PH hKt hK2 (by omega) hdn hpw a1 a2.one (hdn x hx))
  by_cases g3 : ∀ x ∈ t.entries, iy t.entries x.dn
  ·have hn : ¬ ∃ x ∈ t.entries, (!dec (iy t.entries x.dn)) = true := by
    rintro ⟨x, hx, he⟩
    rw [au (g3 x hx)] at he
    cases he
   rw [ak hn] at c2
   have hT : TreeOk t := ⟨g1, ⟨hb, hE⟩, g3⟩
   simp [r1, r16, r17, r18, ld0, ld1, c2, hgK, hT]
  ·have hn : ∃ x ∈ t.entries, (!dec (iy t.entries x.dn)) = true := by
    refine Classical.byContradiction fun hh => g3 fun x hx => Classical.byContradiction fun hp => hh ⟨x, hx, by rw [ak hp]; rfl⟩
   rw [au hn] at c2
   have hT : ¬ TreeOk t := fun h => g3 h.2.2
   simp [r1, r16, r17, r18, ld0, ld1, c2, hgK, hT]
 | succ k =>
  have hi : i < t.entries.length := by omega
  obtain ⟨x, hx⟩ : ∃ c, t.entries[i]? = some c := ⟨t.entries[i], by simp [hi]⟩
  have hw : IntKind.i64.wrap ((i : Int) + 1) = ((i : Int) + 1) := wrap_i64 (by omega) (by omega)
  obtain ⟨id, o, w1, w2, e1, l0, l1, lm, a1, a2, _⟩ := dM hK2 hx
  have hid := qO l0
  obtain ⟨f, c3, hf⟩ := Uz hsK a1 a2 g1
  have hstep := fun h => di (P := fun j (x : PEntry) => EntryOk x ∧ fF t.schema x ∧ cu (fun e => dG e.dn) t.entries j x) hall hx h
  have ho1 := a1.one
  have ho2 := a2.one
  by_cases q1 : EntryOk x ∧ fF t.schema x
  rotate_left
  ·have hf0 : ¬ f = 0 := fun e => q1 (hf.1 e)
   have hn : ¬ TreeOk t := fun hd => q1 ⟨(hd.2.1.2 i x hx).1, (hd.2.1.2 i x hx).2.1⟩
   simp [r1, r16, r17, r18, hi, e1, l0, l1, lm, ld0, ld1, hid, hKl, c3, hf0, hn, ho1, ho2, hgK, af, ai, List.lookup]
  have hf0 : f = 0 := hf.2 q1
  subst hf0
  by_cases hi0 : i = 0
  ·have := hstep ⟨q1.1, q1.2, fun y hy => by omega⟩
   subst hi0
   simp at e1
   simp [r1, r16, r17, r18, hi, e1, l0, l1, lm, ld0, ld1, hid, hKl, c3, ho1, ho2, hgK, af, ai, List.lookup]
   exact ⟨k, by omega, 1, by omega, _, _, ⟨rfl, rfl⟩, by simp [r1], by simp [r16], by simp [r17], by simp, this⟩
  ·have hip : 0 < i := by omega
   obtain ⟨y, hy⟩ : ∃ c, t.entries[i - 1]? = some c := ⟨t.entries[i - 1]'(by omega), by simp⟩
   obtain ⟨id', o', w1', w2', e1', l0', _, _, a1', _⟩ := dM hK2 hy
   have hid' := qO l0'
   have hyok := (hall (i - 1) y (by omega) hy).1
   have c4 := Nq a1 q1.1.2.1
   have c5 := Nq a1' hyok.2.1
   have hw1 : IntKind.i64.wrap ((i : Int) - 1) = ((i - 1 : Nat) : Int) := by rw [wrap_i64 (by omega) (by omega)]; omega
   by_cases q3 : df (dG y.dn) (dG x.dn)
   ·have := hstep ⟨q1.1, q1.2, fun z _ hz => by rw [hy] at hz; cases hz; exact q3⟩
    simp [r1, r16, r17, r18, hi, e1, l0, l1, lm, ld0, ld1, hid, hid', hKl, c3, c4, c5, e1', l0', hw, hw1, hip, jb q3, ho1, ho2, hgK, af, ai, List.lookup]
    exact ⟨k, by omega, i + 1, by omega, _, _, ⟨rfl, rfl⟩, by simp [r1], by simp [r16], by simp [r17], by simp, this⟩
   ·have hn : ¬ TreeOk t := fun hd => q3 ((hd.2.1.2 i x hx).2.2 y hip hy)
    simp [r1, r16, r17, r18, hi, e1, l0, l1, lm, ld0, ld1, hid, hid', hKl, c3, c4, c5, e1', l0', hw, hw1, hip, iP q3, ho1, ho2, hgK, af, ai, List.lookup, hn]
def NOut (H : List Ob) (o : PEntryOut) (q : V) (H' : List Ob) : Prop := ∃ T w1 w2, q = .agg [w1, w2, .int .i64 o.code] ∧ H' = H ++ T ∧ New H.length (H ++ T).length (H ++ T) kR [w1, w2, .int .i64 o.code] o.u
theorem NOut.ill {H : List Ob} {c : Int} (h : (Lit.int .i64 c).wf = true) : NOut H (lJ c) (.agg [.slc none 0, .slc none 0, .int .i64 c]) H :=
 ⟨[], .slc none 0, .slc none 0, rfl, by simp, New.st (News.cons (c1 := [.slc none 0, .slc none 0]) (m := H.length) (New.st (News.nilS (News.nilS News.nil))) (News.int h News.nil) (Nat.le_refl _) (by simp))⟩
theorem NOut.of {H G : List Ob} {e : PEntry} {w1 w2 : V} (hT : ∃ T, G = H ++ T) (hn : New H.length G.length G shEntry [w1, w2] e.u) : NOut H ⟨e, 0⟩ (.agg [w1, w2, .int .i64 0]) (fB H G (.agg [w1, w2, .int .i64 0])) := by
 obtain ⟨T, rfl⟩ := hT
 have h2 : New H.length (H ++ T).length (H ++ T) kR [w1, w2, .int .i64 0] (PEntryOut.u ⟨e, 0⟩) := New.st (News.cons (c1 := [w1, w2]) (m := (H ++ T).length) hn (News.int (by decide) News.nil) (by simp) (Nat.le_refl _))
 obtain ⟨T', h3, h4⟩ := h2.gcA
 exact ⟨T', w1, w2, rfl, h3, h4⟩
def NOutB (b : Nat) (H : List Ob) (o : PEntryOut) (q : V) (H' : List Ob) : Prop := ∃ T w1 w2, q = .agg [w1, w2, .int .i64 o.code] ∧ H' = H ++ T ∧ New b (H ++ T).length (H ++ T) kR [w1, w2, .int .i64 o.code] o.u
theorem NOutB.base {H : List Ob} {X : List Ob} {o : PEntryOut} {q : V} {H' : List Ob} (h : NOutB H.length (H ++ X) o q H') : NOut H o q (fB H H' q) := by
 obtain ⟨T, w1, w2, rfl, rfl, h3⟩ := h
 rw [List.append_assoc] at h3 ⊢
 obtain ⟨T', h4, h5⟩ := h3.gcA
 exact ⟨T', w1, w2, rfl, h4, h5⟩
theorem NOutB.one {b : Nat} {H : List Ob} {o : PEntryOut} {q : V} {H' : List Ob} (h : NOutB b H o q H') : ∃ w1 w2, q = .agg [w1, w2, .int .i64 o.code] ∧ (aP w1 = true ∧ cellsOf w1 = some [w1]) ∧ (aP w2 = true ∧ cellsOf w2 = some [w2]) := by
 obtain ⟨T, w1, w2, rfl, rfl, h3⟩ := h
 obtain ⟨_, _, hcs, a1, a2, _⟩ := fU.1 h3.at
 cases hcs
 exact ⟨w1, w2, rfl, a1.one, a2.one⟩
theorem MI {H : List Ob} {c : Int} : callW C 281 [.int .i64 c] H = some (.agg [.slc none 0, .slc none 0, .int .i64 c], H) := by
 apply Ret.eq
 rw [ahU]
 simp [DI, Tryz.f281, aW, aH, ay]
theorem ahB {H : List Ob} {v : V} {l : List Str} (h : AStrs H v l) : callW C 297 [v] H = some (.bool (dec (lC l)), H) := by
 apply Ret.dec
 rw [ahf]
 have hb : l.length ≤ 9223372036854775807 := h.bound
 simp [Ep, Tryz.f297]
 refine aA (fun k σ => ∃ (i : Nat) (r : Nat → R), i + k = l.length ∧ σ = ⟨r, 0, H⟩ ∧ r 0 = .val v ∧ r 3 = .val (.int .i64 i) ∧ ∀ j x, j < i → l[j]? = some x → aN x ∧ ∀ q y, q < j → l[q]? = some y → norm y ≠ norm x) ?_ l.length _ ⟨0, _, by simp, rfl, by simp, by simp, by simp⟩
 rintro k σ ⟨i, r, hik, rfl, r0, r3, hall⟩
 cases k with
 | zero =>
  have hi : i = l.length := by omega
  subst hi
  have hx := fD (P := fun j (x : Str) => aN x ∧ ∀ q y, q < j → l[q]? = some y → norm y ≠ norm x) hall
  by_cases g2 : l.length ≤ 4
  ·have g2' : (l.length : Int) ≤ 4 := by omega
   have hv : lC l := ⟨hx, g2⟩
   simp [r0, r3, h.len, g2', hv]
  ·have g2' : ¬ (l.length : Int) ≤ 4 := by omega
   have hv : ¬ lC l := fun h => g2 h.2
   simp [r0, r3, h.len, g2', hv]
 | succ k =>
  have hi : i < l.length := by omega
  obtain ⟨x, hx⟩ : ∃ c, l[i]? = some c := ⟨l[i], by simp [hi]⟩
  have hw : IntKind.i64.wrap ((i : Int) + 1) = ((i : Int) + 1) := wrap_i64 (by omega) (by omega)
  obtain ⟨id, o, e1, l0, _⟩ := dB h hx
  have c1 := zu (t := x) (H := H)
  have c2 := jJ (t := x) (H := H)
  have hstep := fun h => di (P := fun j (x : Str) => aN x ∧ ∀ q y, q < j → l[q]? = some y → norm y ≠ norm x) hall hx h
  rcases h.sub with ⟨rfl, rfl⟩ | ⟨id0, off, own, cells, rfl, hid, hcl, hsub⟩
  ·simp at hi
  have hsi : bF H id0 1 = true := by simp [bF, hid]
  have hlt : id0 < H.length := (List.getElem?_eq_some_iff.1 hid).1
  have hp := hsub 0 i (by omega) (by omega)
  simp only [Nat.zero_mul, Nat.add_zero, Nat.sub_zero, List.drop_zero] at hp
  obtain ⟨q, c3, hq⟩ := UI (n := norm x) hp
  have hil : (i : Int) ≤ l.length := by omega
  have hil' : i ≤ l.length := by omega
  by_cases g1 : aN x
  ·rw [au g1] at c1
   by_cases g2 : 0 ≤ q
   ·obtain ⟨y, hy, hyn⟩ := hq.mem.1 g2
    have hn : ¬ lC l := fun hd => by
     obtain ⟨j, hj, rfl⟩ := List.getElem_of_mem hy
     have hj2 : j < i ∧ j < l.length := by rw [List.length_take] at hj; omega
     exact (hd.1 i x hx).2 j (l.take i)[j] hj2.1 (by rw [List.getElem_take]; exact List.getElem?_eq_getElem hj2.2) (by simpa using hyn)
    simp [r0, r3, hi, e1, l0, c1, c2, c3, hw, hsi, hlt, hil, hil', g2, hn]
   ·have hnn := mt hq.mem.2 g2
    have := hstep ⟨g1, fun j y hj hy => fun e => hnn ⟨y, List.mem_of_getElem? (i := j) (by rw [List.getElem?_take_of_lt hj]; exact hy), by simpa using e⟩⟩
    simp [r0, r3, hi, e1, l0, c1, c2, c3, hw, hsi, hlt, hil, hil', g2]
    exact ⟨k, by omega, i + 1, by omega, by omega, this⟩
  ·rw [ak g1] at c1
   have hn : ¬ lC l := fun hd => g1 (hd.1 i x hx).1
   simp [r0, r3, hi, e1, l0, c1, hn]
theorem Su {G : List Ob} {w : V} {o : List Str} {x : Str} {j : Nat} {B : List Ob} (hG : Gs B G w (o.map V.str)) (ho : o.length ≤ 1000) (hj : j ≤ o.length) :
  ∃ id v1 G1 v2 G2 v3 G3, w = .slc (some (id, 0)) o.length ∧ bF (G ++ [.mk true 1 []]) id 1 = true ∧ bI ⟨.str, 1, 16, [.str []]⟩ (G ++ [.mk true 1 []]) (.slc (some (G.length, 0)) 0) (.slc (some (id, 0)) j) = some (v1, G1) ∧ (∃ T1, G1 = G ++ T1) ∧
   bI ⟨.str, 1, 16, [.str []]⟩ (G1 ++ [.mk true 1 [.str x]]) v1 (.slc (some (G1.length, 0)) 1) = some (v2, G2) ∧ bF G2 id 1 = true ∧
   bI ⟨.str, 1, 16, [.str []]⟩ G2 v2 (.slc (some (id, j)) (o.length - j)) = some (v3, G3) ∧ Gs B G3 v3 ((o.take j ++ x :: o.drop j).map V.str) := by
 obtain ⟨T, id, rfl, h1, h2, rfl⟩ := hG
 have hid : id < (B ++ T).length := (List.getElem?_eq_some_iff.1 h2).1
 have hu : ∀ S, (B ++ T ++ S)[id]? = some (.mk true 1 (o.map V.str)) := fun S => aS _ _ h2
 have hu1 := hu [.mk true 1 []]
 have n1 : aU ⟨.str, 1, 16, [.str []]⟩ (B ++ T ++ [.mk true 1 []]) (.slc (some (id, 0)) j) = some ((o.map V.str).take j, ((o.map V.str).take j).length) := by
  have hl : ((o.map V.str).take j).length = j := by simp; omega
  simp only [aU, Nat.mul_one, bH, hu1, hl]
  by_cases h0 : j = 0
  ·subst h0; simp
  ·simp only [h0, if_false]
   unfold eP
   rw [if_pos (by simp; omega)]
   simp
 obtain ⟨v1, G1, a1, g1⟩ := (Gs.init (H := B ++ T)).many n1 (List.all_eq_true.2 fun a ha => by obtain ⟨s, _, rfl⟩ := List.mem_map.1 (List.mem_of_mem_take ha); rfl) (by simp; unfold aK; omega) (by decide) (by decide) rfl
 rw [List.nil_append] at g1
 obtain ⟨v2, G2, a2, g2⟩ := g1.push (x := .str x) (z := [.str []]) (d := .str) (b := 16) rfl (by simp; unfold aK; omega) (by decide) (by decide) rfl
 obtain ⟨S, rfl⟩ := g2.ext
 have n3 : aU ⟨.str, 1, 16, [.str []]⟩ (B ++ T ++ S) (.slc (some (id, j)) (o.length - j)) = some ((o.map V.str).drop j, ((o.map V.str).drop j).length) := by
  have hl : ((o.map V.str).drop j).length = o.length - j := by simp
  simp only [aU, Nat.mul_one, bH, hu S, hl]
  by_cases h0 : o.length - j = 0
  ·rw [h0, List.drop_of_length_le (by simp; omega)]; simp
  ·simp only [h0, if_false]
   unfold eP
   rw [if_pos (by simp; omega), List.take_of_length_le (by simp)]
 obtain ⟨v3, G3, a3, g3⟩ := g2.many n3 (List.all_eq_true.2 fun a ha => by obtain ⟨s, _, rfl⟩ := List.mem_map.1 (List.mem_of_mem_drop ha); rfl) (by simp; unfold aK; omega) (by decide) (by decide) rfl
 refine ⟨id, v1, G1, v2, _, v3, G3, by simp, by unfold bF; rw [hu1]; rfl, a1, g1.ext, a2, by unfold bF; rw [hu S]; rfl, a3, ?_⟩
 have := g3.low (H := B) ⟨T, rfl⟩
 simpa [List.map_take, List.map_drop] using this
theorem Wq {H : List Ob} {v : V} {l : List Str} (h : AStrs H v l) (hl : l.length ≤ 1000) : ∃ T w, callW C 334 [v] H = some (w, H ++ T) ∧ New H.length (H ++ T).length (H ++ T) (.slice .str) [w] (.lst ((dw l).map jl)) := by
 suffices hs : Ret C 334 [v] H fun q H' => ∃ T, H' = H ++ T ∧ New H.length (H ++ T).length (H ++ T) (.slice .str) [q] (.lst ((dw l).map jl)) by
  obtain ⟨q, H', hc, T, rfl, hr⟩ := hs
  exact ⟨T, q, hc, hr⟩
 rw [aai]
 have hmax := h.max
 simp [FI, Tryz.f334, aJ, aH, ax, St.new]
 refine aA (fun k σ => ∃ (i : Nat) (r : Nat → R) (G : List Ob) (w : V), i + k = l.length ∧ σ = ⟨r, 0, G⟩ ∧ r 0 = .val v ∧ r 3 = .val w ∧ r 4 = .val (.int .i64 i) ∧ Gs H G w (((l.take i).foldl wX []).map V.str)) ?_ l.length _ ⟨0, _, H ++ [.mk true 1 []], .slc (some (H.length, 0)) 0, by simp, rfl, by simp, by simp, by simp, by simpa using Gs.init⟩
 rintro k σ ⟨i, r, G, w, hik, rfl, r0, r3, r4, hG⟩
 obtain ⟨T, hT⟩ := hG.ext
 have hv : AStrs G v l := by rw [hT]; exact h.ext
 have hlp := (jq (l.take i) []).length_eq
 rw [List.nil_append, List.length_take] at hlp
 obtain ⟨o, ho⟩ : ∃ o, o = (l.take i).foldl wX [] := ⟨_, rfl⟩
 rw [← ho] at hG hlp
 have hmem : ∀ s ∈ o, s.length ≤ maxLen := fun s hs => hmax s (by
  have := (jq (l.take i) []).mem_iff (a := s)
  rw [← ho, List.nil_append] at this
  exact List.mem_of_mem_take (this.1 hs))
 have hos : AStrs G w o := (hG.strs (by unfold maxLen; omega) hmem).1
 cases k with
 | zero =>
  have hi : i = l.length := by omega
  subst hi
  rw [List.take_length] at ho
  have hn := hG.new (by unfold maxLen; omega) hmem
  simp [r0, r3, r4, hv.len, hG.gc]
  refine ⟨T, hT, ?_⟩
  rw [dw, ← ho, ← hT]
  simpa [hT] using hn
 | succ k =>
  have hi : i < l.length := by omega
  obtain ⟨x, hx⟩ : ∃ c, l[i]? = some c := ⟨l[i], by simp [hi]⟩
  have hw : IntKind.i64.wrap ((i : Int) + 1) = ((i : Int) + 1) := wrap_i64 (by omega) (by omega)
  obtain ⟨idx, ox, ex, lxT, _, hxl⟩ := OY h hx
  have lx := lxT G ⟨T, hT⟩
  have hxlo : idx < G.length := by rw [hT, List.length_append]; omega
  have cx := jJ (t := x) (H := G)
  have hins : (l.take (i + 1)).foldl wX [] = wX o x := by rw [dA hx, List.foldl_append, ← ho]; rfl
  simp [r0, r3, r4, hi, hv.len]
  refine aA (fun m σ => ∃ (j : Nat) (r : Nat → R), j + m = o.length ∧ σ = ⟨r, 0, G⟩ ∧ r 0 = .val v ∧ r 3 = .val w ∧ r 4 = .val (.int .i64 i) ∧ r 5 = .val (.int .i64 j) ∧ ∀ q y, q < j → o[q]? = some y → df (norm y) (norm x)) ?_ o.length _ ⟨0, _, by simp, rfl, by simp [r0], by simp [r3], by simp [r4], by simp, by simp⟩
  clear r0 r3 r4 r
  rintro m σ ⟨j, r, hjm, rfl, r0, r3, r4, r5, hall⟩
  by_cases hcont : ∃ y, o[j]? = some y ∧ df (norm y) (norm x)
  ·obtain ⟨y, hy, g1⟩ := hcont
   have hjo : j < o.length := (List.getElem?_eq_some_iff.1 hy).1
   obtain ⟨idy, oy, ey, ly, _⟩ := dB hos hy
   have hylo := qO ly
   have cy := jJ (t := y) (H := G)
   have hwj : IntKind.i64.wrap ((j : Int) + 1) = ((j : Int) + 1) := wrap_i64 (by omega) (by omega)
   simp [r0, r3, r4, r5, hjo, hos.len, ey, ly, cy, ex, lx, cx, hxlo, hylo, jb g1, hwj]
   exact ⟨m - 1, by omega, j + 1, by omega, by omega, di (P := fun q (y : Str) => df (norm y) (norm x)) hall hy g1⟩
  ·have htw := AY (p := fun y => dec (df (norm y) (norm x))) (l := o) (k := j) (by omega) (fun q y hq hy => au (hall q y hq hy)) (fun y hy => ak fun g => hcont ⟨y, hy, g⟩)
   obtain ⟨id, v1, G1, v2, G2, v3, G3, rfl, s1, a1, ⟨T1, hT1⟩, a2, s2, a3, g3⟩ := Su (x := x) hG (by omega) (show j ≤ o.length by omega)
   have lx1 := lxT G1 ⟨T ++ T1, by rw [hT1, hT, List.append_assoc]⟩
   have hjl : (j : Int) ≤ o.length := by omega
   have hjl' : j ≤ o.length := by omega
   have hgi : Gs H G3 v3 ((wX o x).map V.str) := by unfold wX; rw [htw.1, htw.2]; exact g3
   rw [← hins] at hgi
   by_cases hjo : j < o.length
   ·obtain ⟨y, hy⟩ : ∃ c, o[j]? = some c := ⟨o[j], by simp [hjo]⟩
    obtain ⟨idy, oy, ey, ly, _⟩ := dB hos hy
    have hylo := qO ly
    have cy := jJ (t := y) (H := G)
    have g1 : ¬ df (norm y) (norm x) := fun g => hcont ⟨y, hy, g⟩
    simp [r0, r3, r4, r5, hjo, hos.len, ey, ly, cy, ex, lx, cx, hxlo, hylo, iP g1, hjl, hjl', s1, a1, ex, lx1, a2, s2, a3, aJ, aH, ax, St.new, hw]
    exact ⟨k, by omega, i + 1, by omega, _, _, ⟨rfl, rfl⟩, by simp [r0], v3, by simp, by simp [r4], hgi⟩
   ·simp [r0, r3, r4, r5, hjo, hos.len, hjl, hjl', s1, a1, ex, lx1, a2, s2, a3, aJ, aH, ax, St.new, hw]
    exact ⟨k, by omega, i + 1, by omega, _, _, ⟨rfl, rfl⟩, by simp [r0], v3, by simp, by simp [r4], hgi⟩
def qQ (e : PEntry) : Prop := e.dn.length ≤ 1048576 ∧ e.attrs.length ≤ 1048576 ∧ ∀ a ∈ e.attrs, a.vals.length ≤ 1048576
theorem JG {H : List Ob} {vd va : V} {e : PEntry} (hd : dK H vd e.dn) (ha : bK H va e.attrs) (hb : qQ e) :
  ∃ T w1 w2, callW C 188 [.agg [vd, va]] H = some (.agg [w1, w2], H ++ T) ∧ New H.length (H ++ T).length (H ++ T) shEntry [w1, w2] e.u := by
 suffices hs : Ret C 188 [.agg [vd, va]] H fun q H' => ∃ T w1 w2, q = .agg [w1, w2] ∧ H' = H ++ T ∧ New H.length (H ++ T).length (H ++ T) shEntry [w1, w2] e.u by
  obtain ⟨q, H', hc, T, w1, w2, rfl, rfl, hr⟩ := hs
  exact ⟨T, w1, w2, hc, hr⟩
 rw [ahs]
 have hod := hd.one
 have hoa := ha.one
 obtain ⟨w1, T1, a1, n1⟩ := gX (d := .struct [(0, 9), (1, 9)]) (by_ := 32) (z := [.str [], .str []]) (sz := 2) hd rfl rfl rfl (by decide) (by decide) (by decide) (by have := hb.1; unfold aK; omega)
 have hb2 := hb.2.1
 have how := New.one1 n1
 simp [Eh, Tryz.f188, hod, hoa, aJ, aH, ax, St.new, aV, a1, aW, ay, how]
 obtain ⟨K, hK⟩ : ∃ K, K = H ++ T1 := ⟨_, rfl⟩
 rw [← hK] at n1 ⊢
 have haK : bK K va e.attrs := by rw [hK]; exact ha.ext
 refine aA (fun k σ => ∃ (i : Nat) (r : Nat → R) (G : List Ob) (w : V), i + k = e.attrs.length ∧ σ = ⟨r, 3, G⟩ ∧ r 1 = .box 0 [vd, va] ∧ r 2 = .box 1 [.slc none 0, .slc none 0] ∧ r 3 = .box 2 [w1, w] ∧ r 4 = .val (.int .i64 i) ∧ LstF K G shAttr PAttr.u w (e.attrs.take i)) ?_ e.attrs.length _ ⟨0, _, K, .slc none 0, by simp, rfl, by simp, by simp, by simp, by simp, by simpa using LstF.nil⟩
 rintro k σ ⟨i, r, G, w, hik, rfl, r1, r2, r3, r4, hG⟩
 obtain ⟨S, hS⟩ := hG.pre
 have haG : bK G va e.attrs := by rw [hS]; exact haK.ext
 have hwo := hG.one
 cases k with
 | zero =>
  have hi : i = e.attrs.length := by omega
  subst hi
  rw [List.take_length] at hG
  have n2 := hG.new ha.bound
  have hne : New H.length G.length G shEntry [w1, w] e.u := by
   refine New.st (News.cons (m := K.length) (c1 := [w1]) ?_ (News.one n2 (by rw [hS]; simp)) (by rw [hK]; simp) (by rw [hS]; simp))
   rw [hS]; exact n1.ext
  obtain ⟨T', hg, hn⟩ := (show New H.length G.length (H ++ (T1 ++ S)) shEntry [w1, w] e.u by rw [← List.append_assoc, ← hK, ← hS]; exact hne).gcA
  rw [← List.append_assoc, ← hK, ← hS] at hg
  simp [r1, r2, r3, r4, haG.len, hg, how, hwo]
  exact ⟨T', w1, w, ⟨rfl, rfl⟩, rfl, by simpa using hn⟩
 | succ k =>
  have hi : i < e.attrs.length := by omega
  obtain ⟨x, hx⟩ : ∃ c, e.attrs[i]? = some c := ⟨e.attrs[i], by simp [hi]⟩
  have hw : IntKind.i64.wrap ((i : Int) + 1) = ((i : Int) + 1) := wrap_i64 (by omega) (by omega)
  obtain ⟨id, o, wx, ex, lx, hvx, hnx, hidx, _⟩ := uH ha hx
  have hGH : G = H ++ (T1 ++ S) := by rw [hS, hK, List.append_assoc]
  obtain ⟨l0, l1, l2⟩ := lx G ⟨_, hGH⟩
  obtain ⟨l0', l1', l2'⟩ := lx (G ++ [.mk true 1 []]) ⟨_, by rw [hGH, List.append_assoc]⟩
  have hidG : id < G.length := by rw [hGH]; simp; omega
  have hvG : AStrs G wx x.vals := by rw [hGH]; exact hvx.ext
  have hbx := hb.2.2 x (List.mem_of_getElem? hx)
  obtain ⟨wv, T2, a2, n2⟩ := gX (d := .str) (by_ := 16) (z := [.str []]) (sz := 1) hvG rfl rfl rfl (by decide) (by decide) (by decide) (by unfold aK; omega)
  have hel : New G.length (G ++ T2).length (G ++ T2) shAttr [.str x.name, wv] x.u := New.st (News.str hnx (News.one n2 (by simp)))
  obtain ⟨w', G', a3, hG', _, _⟩ := hG.push (T := T2) (d := .struct [(0, 9), (1, 30)]) (by_ := 40) (z := [.str [], .slc none 0]) (sz := 2) hel rfl rfl (by decide) (by decide) (by decide) (by simp; unfold aK; omega)
  rw [← dA hx] at hG'
  have hwv := New.one1 n2
  have hk : Keep G.length (G ++ [.mk true 1 []]) (G ++ T2) := Ig (Nat.le_refl _)
  have hw' := hG'.one
  simp only [List.append_assoc, List.length_append] at a3
  simp [r1, r2, r3, r4, hi, haG.len, ex, l0, l1, hidG, a2, a3, hk, jQ, aJ, aH, ax, St.new, aW, ay, hod, hoa, hwv, hwo, hw', hw, List.lookup]
  exact ⟨k, by omega, i + 1, by omega, _, _, ⟨rfl, rfl⟩, by simp [r1], by simp [r2], w', by simp, by simp, hG'⟩
noncomputable def ig (pre : List PAttr) (n : Str) (vs : List Str) (done : Bool) : List PAttr := pre.filter (fun a => dec (df a.name n)) ++ (if done = true ∧ vs ≠ [] then [⟨n, dw vs⟩] else []) ++ pre.filter (fun a => dec (df n a.name))
theorem Dh {a b c : Str} (h1 : df a b) (h2 : df b c) : df a c := (bD _ _).2 (List.lt_trans ((bD _ _).1 h1) ((bD _ _).1 h2))
theorem eG {a b : Str} (h1 : df a b) : ¬ df b a := fun h => cZ _ (Dh h1 h)
theorem EJ (a b : Str) : df a b ∨ a = b ∨ df b a := by
 by_cases h1 : df a b
 ·exact .inl h1
 ·by_cases h2 : df b a
  ·exact .inr (.inr h2)
  ·refine .inr (.inl (List.le_antisymm (fun hh => h2 ((bD _ _).2 hh)) (fun hh => h1 ((bD _ _).2 hh))))
section
variable {pre : List PAttr} {a : PAttr} {n : Str} {vs : List Str} {done : Bool}
theorem sK {p : PAttr → Bool} (h : ∀ b ∈ pre, p b = false) : pre.filter p = [] := List.filter_eq_nil_iff.2 fun b hb => by rw [h b hb]; decide
theorem VS (hs : ∀ b ∈ pre, df b.name a.name) (hd : done = true ↔ vs = [] ∨ ∃ b ∈ pre, ¬ df b.name n) (h : df a.name n) : ig pre n vs done ++ [a] = ig (pre ++ [a]) n vs done ∧ (done = true ↔ vs = [] ∨ ∃ b ∈ pre ++ [a], ¬ df b.name n) := by
 have h1 : ∀ b ∈ pre, df b.name n := fun b hb => Dh (hs b hb) h
 have hno : ¬ ∃ b ∈ pre, ¬ df b.name n := fun ⟨b, hb, hn⟩ => hn (h1 b hb)
 have hmid : (if done = true ∧ vs ≠ [] then [(⟨n, dw vs⟩ : PAttr)] else []) = [] := if_neg fun ⟨h2, h3⟩ => (hd.1 h2).elim h3 hno
 have e1 := sK (pre := pre) (p := fun a => dec (df n a.name)) fun b hb => ak (eG (h1 b hb))
 refine ⟨?_, ?_⟩
 ·unfold ig
  rw [hmid, List.filter_append, List.filter_append, e1]
  simp [au h, ak (eG h)]
 ·rw [hd]
  constructor
  ·rintro (h2 | ⟨b, hb, hn⟩)
   ·exact .inl h2
   ·exact absurd (h1 b hb) hn
  ·rintro (h2 | ⟨b, hb, hn⟩)
   ·exact .inl h2
   ·rcases List.mem_append.1 hb with hb | hb
    ·exact absurd (h1 b hb) hn
    ·simp at hb; subst hb; exact absurd h hn
theorem put_eq (hs : ∀ b ∈ pre, df b.name a.name) (hd : done = true ↔ vs = [] ∨ ∃ b ∈ pre, ¬ df b.name n) (h : a.name = n) :
  (done = true → vs = []) ∧ ig pre n vs done ++ (if done = true then [] else [⟨n, dw vs⟩]) = ig (pre ++ [a]) n vs true := by
 have h1 : ∀ b ∈ pre, df b.name n := fun b hb => h ▸ hs b hb
 have hno : ¬ ∃ b ∈ pre, ¬ df b.name n := fun ⟨b, hb, hn⟩ => hn (h1 b hb)
 have hv : done = true → vs = [] := fun h2 => (hd.1 h2).elim id fun h3 => absurd h3 hno
 have e1 := sK (pre := pre) (p := fun a => dec (df n a.name)) fun b hb => ak (eG (h1 b hb))
 refine ⟨hv, ?_⟩
 unfold ig
 rw [List.filter_append, List.filter_append, e1]
 subst h
 cases done with
 | true => simp [hv rfl, ak (cZ a.name)]
 | false =>
  have : vs ≠ [] := fun h2 => by have := hd.2 (.inl h2); cases this
  simp [this, ak (cZ a.name)]
theorem WJ (hs : ∀ b ∈ pre, df b.name a.name) (hd : done = true ↔ vs = [] ∨ ∃ b ∈ pre, ¬ df b.name n) (h : df n a.name) :
  (ig pre n vs done ++ (if done = true then [] else [⟨n, dw vs⟩])) ++ [a] = ig (pre ++ [a]) n vs true := by
 unfold ig
 rw [List.filter_append, List.filter_append]
 cases done with
 | true => simp [au h, ak (eG h)]
 | false =>
  have h2 : vs ≠ [] := fun h2 => by have := hd.2 (.inl h2); cases this
  have h1 : ∀ b ∈ pre, df b.name n := fun b hb => Classical.byContradiction fun hn => by have := hd.2 (.inr ⟨b, hb, hn⟩); cases this
  have e1 := sK (pre := pre) (p := fun a => dec (df n a.name)) fun b hb => ak (eG (h1 b hb))
  rw [e1]
  simp [h2, au h, ak (eG h)]
theorem TU (hd : done = true ↔ vs = [] ∨ ∃ b ∈ pre, ¬ df b.name n) : ig pre n vs done ++ (if done = true then [] else [⟨n, dw vs⟩]) = bC pre n (dw vs) := by
 have hz : dw vs = [] ↔ vs = [] := by rw [← List.length_eq_zero_iff, jW, List.length_eq_zero_iff]
 unfold ig bC
 cases done with
 | true =>
  by_cases h2 : vs = []
  ·simp [h2, O7]
  ·simp [h2, hz]
 | false =>
  have h2 : vs ≠ [] := fun h2 => by have := hd.2 (.inl h2); cases this
  have h1 : ∀ b ∈ pre, df b.name n := fun b hb => Classical.byContradiction fun hn => by have := hd.2 (.inr ⟨b, hb, hn⟩); cases this
  have e1 := sK (pre := pre) (p := fun a => dec (df n a.name)) fun b hb => ak (eG (h1 b hb))
  rw [e1]
  simp [h2, hz]
end
theorem SQ {H : List Ob} {vd va vv : V} {e : PEntry} {n : Str} {vs : List Str} (hd : dK H vd e.dn) (ha : bK H va e.attrs) (hb : qQ e) (hp : e.attrs.Pairwise fun a b => a.name < b.name) (hn : n.length ≤ maxLen) (hv : AStrs H vv vs) (hvl : vs.length ≤ 1000) :
  ∃ T w1 w2, callW C 282 [.agg [vd, va], .str n, vv] H = some (.agg [w1, w2], H ++ T) ∧ At (H ++ T) shEntry [w1, w2] (xy e n (dw vs)).u ∧ ¬ eY H w2 := by
 suffices hs : Ret C 282 [.agg [vd, va], .str n, vv] H fun q H' => ∃ T w1 w2, q = .agg [w1, w2] ∧ H' = H ++ T ∧ At (H ++ T) shEntry [w1, w2] (xy e n (dw vs)).u ∧ ¬ eY H w2 by
  obtain ⟨q, H', hc, T, w1, w2, rfl, rfl, hr⟩ := hs
  exact ⟨T, w1, w2, hc, hr⟩
 rw [afp]
 have hod := hd.one
 have hoa := ha.one
 obtain ⟨T1, d1, a1, c1, n1⟩ := JG hd ha hb
 obtain ⟨K, hK⟩ : ∃ K, K = H ++ T1 := ⟨_, rfl⟩
 rw [← hK] at n1 c1
 obtain ⟨_, _, hcs, hd1, ha1⟩ := iw.1 n1.at
 cases hcs
 obtain ⟨T2, wv, c2, n2⟩ := Wq (H := K ++ [.mk true 2 []]) (v := vv) (l := vs) (by rw [hK]; exact hv.ext.ext) hvl
 obtain ⟨K3, hK3⟩ : ∃ K3, K3 = K ++ [.mk true 2 []] ++ T2 := ⟨_, rfl⟩
 rw [← hK3] at n2 c2
 have hoD := hd1.one
 have hoA := ha1.one
 have hoV := New.one1 n2
 have hL0 : Lst K K3 shAttr PAttr.u (.slc (some (K.length, 0)) 0) [] := by
  rw [hK3]
  have h := Lst.init (B := K) (sh := shAttr) (f := PAttr.u)
  exact h.ext
 obtain ⟨F, f1, f2, f3⟩ := New.st (News.str hn (News.one n2 (by rw [hK3]; simp)))
 have fx : AtF K3 shAttr [.str n, wv] (⟨n, dw vs⟩ : PAttr).u F := f1
 have hvsI : ((vs.length : Int) = 0) = (vs = []) := by rw [← List.length_eq_zero_iff]; simp
 simp [DZ, Tryz.f282, c1, c2, hod, hoa, hoD, hoA, hoV, hv.len, aJ, aH, ax, St.new, aV, aW, ay, hvsI]
 have hbl := hb.2.1
 refine aA (fun k σ => ∃ (i : Nat) (r : Nat → R) (G : List Ob) (w : V) (done : Bool), i + k = e.attrs.length ∧ σ = ⟨r, 4, G⟩ ∧ r 1 = .val (.str n) ∧ r 6 = .box 1 [.slc none 0, .slc none 0] ∧ r 7 = .box 2 [d1, a1] ∧ r 8 = .val w ∧ r 9 = .box 3 [.str n, wv] ∧ r 10 = .val (.bool done) ∧ r 11 = .val (.int .i64 i) ∧
  Lst K G shAttr PAttr.u w (ig (e.attrs.take i) n vs done) ∧ (done = true ↔ vs = [] ∨ ∃ b ∈ e.attrs.take i, ¬ df b.name n) ∧ AtF G shAttr [.str n, wv] (⟨n, dw vs⟩ : PAttr).u F ∧ (∀ q ∈ F, ∀ m, w ≠ .slc (some (q, 0)) m) ∧ w ≠ .slc none 0) ?_ e.attrs.length _
  ⟨0, _, K3, .slc (some (K.length, 0)) 0, decide (vs = []), by simp, rfl, by simp, by simp, by simp, by simp, by simp, by simp, by simp, by simpa [ig] using hL0, by simp, fx, fun q hq m => by have := (f3 q hq).1; simp at this ⊢; omega, by simp⟩
 rintro k σ ⟨i, r, G, w, done, hik, rfl, r1, r6, r7, r8, r9, r10, r11, hG, hdone, hx, hxw, hwn⟩
 obtain ⟨S, hS⟩ := hG.pre
 have hwo := hG.one
 have haG : bK G a1 e.attrs := by rw [hS]; exact ha1.ext
 have hxc : [V.str n, wv].length = 2 := rfl
 have hpl : ∀ d, (ig (e.attrs.take i) n vs d).length ≤ 2097160 := fun d => by
  unfold ig
  have e1 := List.length_filter_le (fun a : PAttr => dec (df a.name n)) (e.attrs.take i)
  have e2 := List.length_filter_le (fun a : PAttr => dec (df n a.name)) (e.attrs.take i)
  have e3 := List.length_take_le i e.attrs
  have e4 : (if d = true ∧ vs ≠ [] then [(⟨n, dw vs⟩ : PAttr)] else []).length ≤ 1 := by split <;> simp
  simp only [List.length_append]
  omega
 have hmm : ∀ k : Nat, k ≤ 2097165 → k * 40 ≤ aK := fun k hk => by unfold aK; omega
 cases k with
 | zero =>
  have hi : i = e.attrs.length := by omega
  subst hi
  rw [List.take_length] at hG hdone hpl
  have hend := TU hdone
  cases done with
  | true =>
   simp only [if_true, List.append_nil] at hend
   rw [hend] at hG
   have hb3 : (bC e.attrs n (dw vs)).length ≤ maxLen := by rw [← hend]; have := hpl true; unfold maxLen; omega
   have hat : At G shEntry [d1, w] (xy e n (dw vs)).u := iw.2 ⟨d1, w, rfl, by rw [hS]; exact hd1.ext, hG.at hb3⟩
   have hnl : ¬ eY H w := hG.notlow hwn (by rw [hK]; simp)
   have hgc : fB H G (.agg [d1, w]) = G := kD fun h => hnl h.2.1
   simp [r1, r6, r7, r8, r9, r10, r11, haG.len, hgc, hoD, hoA, hwo]
   exact ⟨T1 ++ S, d1, w, ⟨rfl, rfl⟩, by rw [hS, hK]; simp, by rw [← List.append_assoc, ← hK, ← hS]; exact hat, hnl⟩
  | false =>
   simp only [Bool.false_eq_true, if_false] at hend
   obtain ⟨w', G', p1, hG', _, _, hw', hfr, _⟩ := hG.push (T := []) (x := ⟨n, dw vs⟩) (c := [.str n, wv]) (d := .struct [(0, 9), (1, 30)]) (by_ := 40) (z := [.str [], .slc none 0]) (sz := 2) (.inl ⟨F, by rw [List.append_nil]; exact hx, hxw⟩) rfl rfl (by decide) (by decide) (by decide) (hmm _ (by have := hpl false; omega))
   rw [hend] at hG'
   obtain ⟨S', hS'⟩ := hG'.pre
   have hwo' := hG'.one
   have hb3 : (bC e.attrs n (dw vs)).length ≤ maxLen := by rw [← hend]; have := hpl false; simp; unfold maxLen; omega
   have hat : At G' shEntry [d1, w'] (xy e n (dw vs)).u := iw.2 ⟨d1, w', rfl, by rw [hS']; exact hd1.ext, hG'.at hb3⟩
   have hnl : ¬ eY H w' := hG'.notlow (by rw [hw']; simp) (by rw [hK]; simp)
   have hgc : fB H G' (.agg [d1, w']) = G' := kD fun h => hnl h.2.1
   simp only [List.append_nil] at p1
   simp [r1, r6, r7, r8, r9, r10, r11, haG.len, hgc, hoD, hoA, hoV, hwo, hwo', aJ, aH, ax, St.new, p1]
   exact ⟨T1 ++ S', d1, w', ⟨rfl, rfl⟩, by rw [hS', hK]; simp, by rw [← List.append_assoc, ← hK, ← hS']; exact hat, hnl⟩
 | succ k =>
  have hi : i < e.attrs.length := by omega
  obtain ⟨a, hxa⟩ : ∃ c, e.attrs[i]? = some c := ⟨e.attrs[i], by simp [hi]⟩
  have hw : IntKind.i64.wrap ((i : Int) + 1) = ((i : Int) + 1) := wrap_i64 (by omega) (by omega)
  have htk := dA hxa
  have hsort : ∀ b ∈ e.attrs.take i, df b.name a.name := fun b hb => by
   obtain ⟨j, hj, rfl⟩ := List.getElem_of_mem hb
   have hj2 : j < i ∧ j < e.attrs.length := by rw [List.length_take] at hj; omega
   rw [List.getElem_take]
   obtain ⟨hi', rfl⟩ := List.getElem?_eq_some_iff.1 hxa
   exact (bD _ _).2 (List.pairwise_iff_getElem.1 hp j i hj2.2 hi hj2.1)
  obtain ⟨id, o, wx, ex, lx, hvx, hnx, hidx, hatx⟩ := uH ha1 hxa
  obtain ⟨l0, l1, l2⟩ := lx G ⟨_, hS⟩
  have hox := hvx.one
  rcases EJ a.name n with hlt | heq | hgt
  ·obtain ⟨q1, q2⟩ := VS hsort hdone hlt
   obtain ⟨w', G', p1, hG', _, _, hw', hfr, _⟩ := hG.push (T := []) (x := a) (c := [.str a.name, wx]) (d := .struct [(0, 9), (1, 30)]) (by_ := 40) (z := [.str [], .slc none 0]) (sz := 2) (.inr hatx) rfl rfl (by decide) (by decide) (by decide) (hmm _ (by have := hpl done; omega))
   rw [q1, ← htk] at hG'
   rw [← htk] at q2
   rw [List.append_nil] at hw' hfr
   obtain ⟨k1, k2⟩ := pq hx hxw hw' hfr
   simp only [List.append_nil] at p1
   have hne : ¬ a.name = n := fun e => cZ _ (e ▸ hlt)
   cases done with
   | false =>
    simp [r1, r6, r7, r8, r9, r10, r11, hi, haG.len, ex, l0, l2, iP (eG hlt), hne, hoD, hoA, hoV, hox, aJ, aH, ax, St.new, p1, hw]
    exact ⟨k, by omega, i + 1, by omega, _, _, ⟨rfl, rfl⟩, by simp [r1], by simp [r6], by simp [r7], w', by simp, by simp [r9], .inl ⟨by simp [r10], by simp, hG', by simpa using q2, k1, k2, by rw [hw']; simp⟩⟩
   | true =>
    simp [r1, r6, r7, r8, r9, r10, r11, hi, haG.len, ex, l0, l2, iP (eG hlt), hne, hoD, hoA, hoV, hox, aJ, aH, ax, St.new, p1, hw]
    exact ⟨k, by omega, i + 1, by omega, _, _, ⟨rfl, rfl⟩, by simp [r1], by simp [r6], by simp [r7], w', by simp, by simp [r9], .inr ⟨by simp [r10], by simp, hG', by simpa using q2, k1, k2, by rw [hw']; simp⟩⟩
  ·obtain ⟨q1, q2⟩ := put_eq hsort hdone heq
   have hdone' : true = true ↔ vs = [] ∨ ∃ b ∈ e.attrs.take (i + 1), ¬ df b.name n := ⟨fun _ => .inr ⟨a, by rw [htk]; simp, by rw [heq]; exact cZ n⟩, fun _ => rfl⟩
   cases done with
   | true =>
    simp only [if_true, List.append_nil] at q2
    rw [q2, ← htk] at hG
    simp [r1, r6, r7, r8, r9, r10, r11, hi, haG.len, ex, l0, l2, heq, iP (cZ n), hoD, hoA, hoV, hox, hw]
    exact ⟨k, by omega, i + 1, by omega, _, _, ⟨rfl, rfl⟩, by simp [r1], by simp [r6], by simp [r7], w, by simp [r8], by simp [r9], .inr ⟨by simp [r10], by simp, hG, by simpa using hdone', hx, hxw, hwn⟩⟩
   | false =>
    simp only [Bool.false_eq_true, if_false] at q2
    obtain ⟨w', G', p1, hG', _, _, hw', hfr, _⟩ := hG.push (T := []) (x := ⟨n, dw vs⟩) (c := [.str n, wv]) (d := .struct [(0, 9), (1, 30)]) (by_ := 40) (z := [.str [], .slc none 0]) (sz := 2) (.inl ⟨F, by rw [List.append_nil]; exact hx, hxw⟩) rfl rfl (by decide) (by decide) (by decide) (hmm _ (by have := hpl false; omega))
    rw [q2, ← htk] at hG'
    rw [List.append_nil] at hw' hfr
    obtain ⟨k1, k2⟩ := pq hx hxw hw' hfr
    simp only [List.append_nil] at p1
    simp [r1, r6, r7, r8, r9, r10, r11, hi, haG.len, ex, l0, l2, heq, iP (cZ n), hoD, hoA, hoV, hox, aJ, aH, ax, St.new, p1, hw]
    exact ⟨k, by omega, i + 1, by omega, _, _, ⟨rfl, rfl⟩, by simp [r1], by simp [r6], by simp [r7], w', by simp, by simp [r9], .inr ⟨by simp, by simp, hG', by simpa using hdone', k1, k2, by rw [hw']; simp⟩⟩
  ·have q2 := WJ hsort hdone hgt
   have hne : ¬ a.name = n := fun e => cZ _ (e ▸ hgt)
   have hdone' : true = true ↔ vs = [] ∨ ∃ b ∈ e.attrs.take (i + 1), ¬ df b.name n := ⟨fun _ => .inr ⟨a, by rw [htk]; simp, eG hgt⟩, fun _ => rfl⟩
   cases done with
   | true =>
    simp only [if_true, List.append_nil] at q2
    obtain ⟨w', G', p1, hG', _, _, hw', hfr, _⟩ := hG.push (T := []) (x := a) (c := [.str a.name, wx]) (d := .struct [(0, 9), (1, 30)]) (by_ := 40) (z := [.str [], .slc none 0]) (sz := 2) (.inr hatx) rfl rfl (by decide) (by decide) (by decide) (hmm _ (by have := hpl true; omega))
    rw [q2, ← htk] at hG'
    rw [List.append_nil] at hw' hfr
    obtain ⟨k1, k2⟩ := pq hx hxw hw' hfr
    simp only [List.append_nil] at p1
    simp [r1, r6, r7, r8, r9, r10, r11, hi, haG.len, ex, l0, l2, hne, hoD, hoA, hoV, hox, aJ, aH, ax, St.new, p1, hw]
    exact ⟨k, by omega, i + 1, by omega, _, _, ⟨rfl, rfl⟩, by simp [r1], by simp [r6], by simp [r7], w', by simp, by simp [r9], .inr ⟨by simp [r10], by simp, hG', by simpa using hdone', k1, k2, by rw [hw']; simp⟩⟩
   | false =>
    simp only [Bool.false_eq_true, if_false] at q2
    obtain ⟨w', G', p1, hG', _, _, hw', hfr, _⟩ := hG.push (T := []) (x := ⟨n, dw vs⟩) (c := [.str n, wv]) (d := .struct [(0, 9), (1, 30)]) (by_ := 40) (z := [.str [], .slc none 0]) (sz := 2) (.inl ⟨F, by rw [List.append_nil]; exact hx, hxw⟩) rfl rfl (by decide) (by decide) (by decide) (hmm _ (by have := hpl false; omega))
    rw [List.append_nil] at hw' hfr
    obtain ⟨k1, k2⟩ := pq hx hxw hw' hfr
    obtain ⟨S', hS'⟩ := hG'.pre
    have haG' : bK G' a1 e.attrs := by rw [hS']; exact ha1.ext
    obtain ⟨l0', l1', l2'⟩ := lx G' ⟨_, hS'⟩
    obtain ⟨w'', G'', p2, hG'', _, _, hw'', hfr', _⟩ := hG'.push (T := []) (x := a) (c := [.str a.name, wx]) (d := .struct [(0, 9), (1, 30)]) (by_ := 40) (z := [.str [], .slc none 0]) (sz := 2) (.inr hatx) rfl rfl (by decide) (by decide) (by decide) (hmm _ (by have := hpl false; simp; omega))
    rw [q2, ← htk] at hG''
    rw [List.append_nil] at hw'' hfr'
    obtain ⟨k3, k4⟩ := pq k1 k2 hw'' hfr'
    simp only [List.append_nil] at p1 p2
    simp [r1, r6, r7, r8, r9, r10, r11, hi, haG.len, haG'.len, ex, l0, l2, l0', l2', hne, jb hgt, hoD, hoA, hoV, hox, aJ, aH, ax, St.new, p1, p2, hw]
    exact ⟨k, by omega, i + 1, by omega, _, _, ⟨rfl, rfl⟩, by simp [r1], by simp [r6], by simp [r7], w'', by simp, by simp [r9], .inr ⟨by simp, by simp, hG'', by simpa using hdone', k3, k4, by rw [hw'']; simp⟩⟩
theorem EntryOk.small {e : PEntry} (h : EntryOk e) : qQ e := by
 obtain ⟨_, h1, h2⟩ := h
 refine ⟨by have := h1.2; omega, by have := h2.2; omega, fun a ha => ?_⟩
 obtain ⟨j, hj, rfl⟩ := List.getElem_of_mem ha
 have := (h2.1 j _ (List.getElem?_eq_getElem hj)).2.2.2.2
 omega
theorem EntryOk.rise {e : PEntry} (h : EntryOk e) : e.attrs.Pairwise fun a b => a.name < b.name := gB (fun j x hx => (h.2.2.1 j x hx).2.1)
theorem TR {H : List Ob} {c : Int} (h : (Lit.int .i64 c).wf = true) : At H kR [.slc none 0, .slc none 0, .int .i64 c] (lJ c).u :=
 fU.2 ⟨_, _, rfl, aj.2 ⟨_, _, rfl, rfl, by simp [lJ], .inl ⟨rfl, rfl⟩⟩, aj.2 ⟨_, _, rfl, rfl, by simp [lJ], .inl ⟨rfl, rfl⟩⟩, h⟩
def EOut (H : List Ob) (o : PEntryOut) (q : V) (H' : List Ob) : Prop := ∃ T w1 w2, q = .agg [w1, w2, .int .i64 o.code] ∧ H' = H ++ T ∧ At (H ++ T) kR [w1, w2, .int .i64 o.code] o.u ∧ fB H (H ++ T) (.agg [w1, w2, .int .i64 o.code]) = H ++ T ∧ (o.code = 0 → ¬ eY H w2) ∧ (o.code ≠ 0 → w1 = .slc none 0 ∧ w2 = .slc none 0 ∧ T = [])
theorem EOut.ill {H : List Ob} {c : Int} (h : (Lit.int .i64 c).wf = true ∧ c ≠ 0) : EOut H (lJ c) (.agg [.slc none 0, .slc none 0, .int .i64 c]) H :=
 ⟨[], .slc none 0, .slc none 0, rfl, by simp, by rw [List.append_nil]; exact TR h.1, by rw [List.append_nil]; exact kK, fun hc => absurd hc h.2, fun _ => ⟨rfl, rfl, rfl⟩⟩
theorem acL {H : List Ob} {vd va vv : V} {e : PEntry} {n : Str} {vs : List Str} (hd : dK H vd e.dn) (ha : bK H va e.attrs) (hb : qQ e) (hp : e.attrs.Pairwise fun a b => a.name < b.name) (hn : n.length ≤ maxLen) (hv : AStrs H vv vs) (hvl : vs.length ≤ 1000) :
  ∃ q H', callW C 298 [.agg [vd, va], .str n, vv] H = some (q, H') ∧ EOut H (jm e n vs) q H' := by
 suffices hs : Ret C 298 [.agg [vd, va], .str n, vv] H fun q H' => EOut H (jm e n vs) q H' by
  obtain ⟨q, H', hc, hr⟩ := hs
  exact ⟨q, H', hc, hr⟩
 rw [agw]
 have hod := hd.one
 have hoa := ha.one
 obtain ⟨r, c1, hr⟩ := VJ (t := n) ha hod.2
 have c2 := MI (H := H) (c := 9)
 by_cases g : vs ≠ [] ∧ 8 ≤ e.attrs.length ∧ bT PAttr.name e.attrs n = none
 ·have hz : 0 < vs.length := List.length_pos_iff.2 g.1
  have hz' : ¬ vs = [] := g.1
  have h8 : (8 : Int) ≤ e.attrs.length := by have := g.2.1; omega
  have hr0 : r = -1 := by
   rcases hr.pos with ⟨k, a, h1, h2, h3⟩ | ⟨h1, _⟩
   ·rw [g.2.2] at h3; cases h3
   ·exact h1
  subst hr0
  have hpo : jm e n vs = lJ 9 := if_pos g
  rw [hpo]
  simp [rX, Tryz.f298, c1, c2, hod, hoa, hv.len, ha.len, hz, h8]
  exact EOut.ill (by decide)
 ·have hpo : jm e n vs = ⟨xy e n (dw vs), 0⟩ := if_neg g
  obtain ⟨T, w1, w2, c3, hat, hnl⟩ := SQ hd ha hb hp hn hv hvl
  obtain ⟨v1, v2, hcs, a1, a2⟩ := iw.1 hat
  cases hcs
  have ho1 := a1.one
  have ho2 := a2.one
  have hgc : fB H (H ++ T) (.agg [w1, w2, .int .i64 0]) = H ++ T := kD fun h => hnl h.2.1
  rw [hpo]
  have fin : EOut H ⟨xy e n (dw vs), 0⟩ (.agg [w1, w2, .int .i64 0]) (H ++ T) := ⟨T, w1, w2, rfl, rfl, fU.2 ⟨_, _, rfl, a1, a2, show (Lit.int .i64 0).wf = true by decide⟩, hgc, fun _ => hnl, fun h => absurd rfl h⟩
  by_cases g1 : vs = []
  ·subst g1
   simp [rX, Tryz.f298, c1, c2, c3, hod, hoa, hv.len, ha.len, aW, ay, aH, ho1, ho2, hgc]
   exact fin
  have hz : 0 < vs.length := List.length_pos_iff.2 g1
  by_cases g2 : 8 ≤ e.attrs.length
  ·have h8 : (8 : Int) ≤ e.attrs.length := by omega
   have hr0 : ¬ r < 0 := by
    rcases hr.pos with ⟨k, a, h1, h2, h3⟩ | ⟨h1, h3⟩
    ·omega
    ·exact absurd ⟨g1, g2, h3⟩ g
   simp [rX, Tryz.f298, c1, c2, c3, hod, hoa, hv.len, ha.len, hz, h8, hr0, aW, ay, aH, ho1, ho2, hgc]
   exact fin
  ·have h8 : ¬ (8 : Int) ≤ e.attrs.length := by omega
   simp [rX, Tryz.f298, c1, c2, c3, hod, hoa, hv.len, ha.len, hz, h8, aW, ay, aH, ho1, ho2, hgc]
   exact fin
theorem Sr {H : List Ob} {v : V} {l : List PRdn} (h : dK H v l) (hl : l.length ≤ 1048576) :
  ∃ T w, callW C 276 [v] H = some (w, H ++ T) ∧ New H.length (H ++ T).length (H ++ T) (.slice shRdn) [w] (.lst (l.map PRdn.u)) := by
 suffices hs : Ret C 276 [v] H fun q H' => ∃ T, H' = H ++ T ∧ New H.length (H ++ T).length (H ++ T) (.slice shRdn) [q] (.lst (l.map PRdn.u)) by
  obtain ⟨q, H', hc, T, rfl, hr⟩ := hs
  exact ⟨T, q, hc, hr⟩
 rw [W9]
 obtain ⟨w, T1, a1, n1⟩ := gX (d := .struct [(0, 9), (1, 9)]) (by_ := 32) (z := [.str [], .str []]) (sz := 2) h rfl rfl rfl (by decide) (by decide) (by decide) (by unfold aK; omega)
 obtain ⟨T', hg, hn⟩ := n1.gc1
 rcases h.sub with ⟨rfl, rfl⟩ | ⟨id, off, own, cells, rfl, _⟩
 ·simp [zx, Tryz.f276]
  exact New.nil
 ·simp [zx, Tryz.f276, aJ, aH, ax, St.new, a1, hg]
  simpa using hn
theorem wY {H : List Ob} {v : V} {l : List Str} (h : AStrs H v l) (hl : l.length ≤ 1048576) :
  ∃ T w, callW C 277 [v] H = some (w, H ++ T) ∧ New H.length (H ++ T).length (H ++ T) (.slice .str) [w] (.lst (l.map jl)) := by
 suffices hs : Ret C 277 [v] H fun q H' => ∃ T, H' = H ++ T ∧ New H.length (H ++ T).length (H ++ T) (.slice .str) [q] (.lst (l.map jl)) by
  obtain ⟨q, H', hc, T, rfl, hr⟩ := hs
  exact ⟨T, q, hc, hr⟩
 rw [Vt]
 obtain ⟨w, T1, a1, n1⟩ := gX (d := .str) (by_ := 16) (z := [.str []]) (sz := 1) h rfl rfl rfl (by decide) (by decide) (by decide) (by unfold aK; omega)
 obtain ⟨T', hg, hn⟩ := n1.gc1
 rcases h.sub with ⟨rfl, rfl⟩ | ⟨id, off, own, cells, rfl, _⟩
 ·simp [qH, Tryz.f277]
  exact New.nil
 ·simp [qH, Tryz.f277, aJ, aH, ax, St.new, a1, hg]
  simpa using hn
theorem I7 {H : List Ob} {vd va : V} {e : PEntry} (hd : dK H vd e.dn) (ha : bK H va e.attrs) (hb : qQ e) :
  ∃ T w1 w2, callW C 195 [.agg [vd, va]] H = some (.agg [w1, w2], H ++ T) ∧ New H.length (H ++ T).length (H ++ T) shEntry [w1, w2] e.u := by
 suffices hs : Ret C 195 [.agg [vd, va]] H fun q H' => ∃ T w1 w2, q = .agg [w1, w2] ∧ H' = H ++ T ∧ New H.length (H ++ T).length (H ++ T) shEntry [w1, w2] e.u by
  obtain ⟨q, H', hc, T, w1, w2, rfl, rfl, hr⟩ := hs
  exact ⟨T, w1, w2, hc, hr⟩
 rw [ahd]
 have hod := hd.one
 have hoa := ha.one
 obtain ⟨T1, w1, a1, n1⟩ := Sr hd hb.1
 have hb2 := hb.2.1
 have how := New.one1 n1
 obtain ⟨K, hK⟩ : ∃ K, K = H ++ T1 := ⟨_, rfl⟩
 rw [← hK] at n1 a1
 have haK : bK K va e.attrs := by rw [hK]; exact ha.ext
 simp [GZ, Tryz.f195, hod, hoa, a1, aW, ay, aH, how, haK.len]
 refine aA (fun k σ => ∃ (i n : Nat) (r : Nat → R) (G : List Ob) (w : V), i + k = e.attrs.length ∧ σ = ⟨r, n, G⟩ ∧ r 2 = .box 1 [.slc none 0, .slc none 0] ∧ r 3 = .box 2 [w1, w] ∧ r 11 = .val va ∧ r 12 = .val (.int .i64 e.attrs.length) ∧ r 13 = .val (.int .i64 i) ∧ LstF K G shAttr PAttr.u w (e.attrs.take i)) ?_ e.attrs.length _ ⟨0, 3, _, K, .slc none 0, by simp, rfl, by simp, by simp, by simp, by simp, by simp, by simpa using LstF.nil⟩
 rintro k σ ⟨i, cn, r, G, w, hik, rfl, r2, r3, r11, r12, r13, hG⟩
 obtain ⟨S, hS⟩ := hG.pre
 have haG : bK G va e.attrs := by rw [hS]; exact haK.ext
 have hwo := hG.one
 cases k with
 | zero =>
  have hi : i = e.attrs.length := by omega
  subst hi
  rw [List.take_length] at hG
  have n2 := hG.new ha.bound
  have hne : New H.length G.length G shEntry [w1, w] e.u := by
   refine New.st (News.cons (m := K.length) (c1 := [w1]) ?_ (News.one n2 (by rw [hS]; simp)) (by rw [hK]; simp) (by rw [hS]; simp))
   rw [hS]; exact n1.ext
  obtain ⟨T', hg, hn⟩ := (show New H.length G.length (H ++ (T1 ++ S)) shEntry [w1, w] e.u by rw [← List.append_assoc, ← hK, ← hS]; exact hne).gcA
  rw [← List.append_assoc, ← hK, ← hS] at hg
  simp [r2, r3, r11, r12, r13, hg, how, hwo]
  exact ⟨T', w1, w, ⟨rfl, rfl⟩, rfl, by simpa using hn⟩
 | succ k =>
  have hi : i < e.attrs.length := by omega
  obtain ⟨x, hx⟩ : ∃ c, e.attrs[i]? = some c := ⟨e.attrs[i], by simp [hi]⟩
  have hw : IntKind.i64.wrap ((i : Int) + 1) = ((i : Int) + 1) := wrap_i64 (by omega) (by omega)
  obtain ⟨id, o, wx, ex, lx, hvx, hnx, hidx, _⟩ := uH ha hx
  have hGH : G = H ++ (T1 ++ S) := by rw [hS, hK, List.append_assoc]
  obtain ⟨l0, l1, l2⟩ := lx G ⟨_, hGH⟩
  have hvG : AStrs G wx x.vals := by rw [hGH]; exact hvx.ext
  have hox := hvG.one
  have hbx := hb.2.2 x (List.mem_of_getElem? hx)
  obtain ⟨T2, wv, a2, n2⟩ := wY hvG hbx
  have hel : New G.length (G ++ T2).length (G ++ T2) shAttr [.str x.name, wv] x.u := New.st (News.str hnx (News.one n2 (by simp)))
  obtain ⟨w', G', a3, hG', _, _⟩ := hG.push (T := T2) (d := .struct [(0, 9), (1, 30)]) (by_ := 40) (z := [.str [], .slc none 0]) (sz := 2) hel rfl rfl (by decide) (by decide) (by decide) (by simp; unfold aK; omega)
  rw [← dA hx] at hG'
  have hwv := New.one1 n2
  have hw' := hG'.one
  simp only [List.append_assoc, List.length_append] at a3
  simp [r2, r3, r11, r12, r13, hi, ex, l0, l1, l2, a2, a3, jQ, aJ, aH, ax, St.new, aW, ay, hod, hoa, hox, hwv, hwo, hw', hw, List.lookup]
  exact ⟨k, by omega, i + 1, by omega, _, _, _, ⟨rfl, rfl, rfl⟩, by simp [r2], w', by simp, by simp [r11], by simp [r12], by simp, hG'⟩
theorem OG {H : List Ob} {v : V} {l : List PAttr} {t : Str} (h : bK H v l) (hl : l.length ≤ 1000) (hp : l.Pairwise fun a b => a.name < b.name) :
  ∃ (i : Nat) (ok : Bool), callW C 357 [v, .str t, .fn 358 [] []] H = some (.tup [.int .i64 i, .bool ok], H) ∧
   i ≤ l.length ∧ (∀ q a, q < i → l[q]? = some a → df a.name t) ∧ (∀ q a, i ≤ q → l[q]? = some a → ¬ df a.name t) ∧ (ok = true ↔ ∃ a, l[i]? = some a ∧ a.name = t) := by
 suffices hs : Ret C 357 [v, .str t, .fn 358 [] []] H fun q H' =>
   (∃ (i : Nat) (ok : Bool), q = .tup [.int .i64 i, .bool ok] ∧ i ≤ l.length ∧ (∀ q a, q < i → l[q]? = some a → df a.name t) ∧ (∀ q a, i ≤ q → l[q]? = some a → ¬ df a.name t) ∧ (ok = true ↔ ∃ a, l[i]? = some a ∧ a.name = t)) ∧ H' = H by
  obtain ⟨q, H', hc, ⟨i, ok, rfl, h1⟩, rfl⟩ := hs
  exact ⟨i, ok, hc, h1⟩
 rw [Vw]
 simp [yJ, Tryz.f357, h.len]
 refine aA (fun k σ => ∃ (i j : Nat) (r : Nat → R), j - i = k ∧ i ≤ j ∧ j ≤ l.length ∧ σ = ⟨r, 0, H⟩ ∧ r 0 = .val v ∧ r 1 = .val (.str t) ∧ r 2 = .val (.fn 358 [] []) ∧ r 8 = .val (.int .i64 l.length) ∧ r 9 = .val (.int .i64 i) ∧ r 10 = .val (.int .i64 j) ∧
  (∀ q a, q < i → l[q]? = some a → df a.name t) ∧ (∀ q a, j ≤ q → l[q]? = some a → ¬ df a.name t)) ?_ l.length _ ⟨0, l.length, _, by omega, by omega, by omega, rfl, by simp, by simp, by simp, by simp, by simp, by simp, fun q a h => by omega, fun q a h1 h2 => by have := (List.getElem?_eq_some_iff.1 h2).1; omega⟩
 rintro k σ ⟨i, j, r, hk, hij, hjl, rfl, r0, r1, r2, r8, r9, r10, hlo, hhi⟩
 cases k with
 | succ k =>
  have hlt : (i : Int) < j := by omega
  have hlt' : i < j := by omega
  have hw1 : IntKind.i64.wrap ((i : Int) + j) = (i : Int) + j := wrap_i64 (by omega) (by omega)
  have hw2 : IntKind.u64.wrap ((i : Int) + j) = (i : Int) + j := by unfold IntKind.wrap; simp [IntKind.bits, IntKind.signed]; omega
  have hq : ((i : Int) + j).fdiv 2 = (((i + j) / 2 : Nat) : Int) := by rw [Int.fdiv_eq_ediv_of_nonneg _ (by omega)]; omega
  obtain ⟨m, hm⟩ : ∃ m, m = (i + j) / 2 := ⟨_, rfl⟩
  rw [← hm] at hq
  have hw3 : IntKind.i64.wrap (m : Int) = m := wrap_i64 (by omega) (by omega)
  have hw4 : IntKind.i64.wrap ((m : Int) + 1) = (m : Int) + 1 := wrap_i64 (by omega) (by omega)
  have hml : m < l.length := by omega
  obtain ⟨a, ha⟩ : ∃ a, l[m]? = some a := ⟨l[m], List.getElem?_eq_getElem hml⟩
  obtain ⟨id, o, w, e1, l0, l1, l2, hvs, _⟩ := fK h ha
  have c1 := wz (n := a.name) (t := t) (w := w) (H := H) hvs.one.2
  have hord : ∀ q b, l[q]? = some b → (q < m → b.name < a.name) ∧ (m < q → a.name < b.name) := fun q b hb => by
   obtain ⟨hq1, hb⟩ := List.getElem?_eq_some_iff.1 hb
   obtain ⟨_, ha⟩ := List.getElem?_eq_some_iff.1 ha
   have := List.pairwise_iff_getElem.1 hp
   exact ⟨fun hh => by have := this q m hq1 hml hh; rwa [hb, ha] at this, fun hh => by have := this m q hml hq1 hh; rwa [hb, ha] at this⟩
  by_cases g1 : df a.name t
  ·have g1' := sQ.2 g1
   simp [r0, r1, r2, r8, r9, r10, hlt, hlt', hw1, hw2, hq, hw3, hw4, e1, l2, c1, g1', jo, IntKind.bits]
   refine ⟨j - (m + 1), by omega, m + 1, j, by omega, by omega, by omega, by omega, rfl, fun q b hq1 hb => ?_, hhi⟩
   by_cases hqm : q = m
   ·subst hqm; rw [ha] at hb; cases hb; exact g1
   ·exact (bD _ _).2 (List.lt_trans ((hord q b hb).1 (by omega)) ((bD _ _).1 g1))
  ·have g1' : ¬ qc a.name t < 0 := mt sQ.1 g1
   simp [r0, r1, r2, r8, r9, r10, hlt, hlt', hw1, hw2, hq, hw3, hw4, e1, l2, c1, g1', jo, IntKind.bits]
   refine ⟨m - i, by omega, i, m, by omega, by omega, by omega, rfl, rfl, hlo, fun q b hq1 hb hlt2 => ?_⟩
   by_cases hqm : q = m
   ·subst hqm; rw [ha] at hb; cases hb; exact g1 hlt2
   ·exact g1 ((bD _ _).2 (List.lt_trans ((hord q b hb).2 (by omega)) ((bD _ _).1 hlt2)))
 | zero =>
  have hij' : i = j := by omega
  subst hij'
  by_cases hil : i < l.length
  ·have hilI : (i : Int) < l.length := by omega
   obtain ⟨a, ha⟩ : ∃ a, l[i]? = some a := ⟨l[i], List.getElem?_eq_getElem hil⟩
   obtain ⟨id, o, w, e1, l0, l1, l2, hvs, _⟩ := fK h ha
   have c1 := wz (n := a.name) (t := t) (w := w) (H := H) hvs.one.2
   by_cases g1 : a.name = t
   ·have g1' := qL.2 g1
    simp [r0, r1, r2, r8, r9, r10, hil, e1, l2, c1, g1']
    exact ⟨i, rfl, by omega, hlo, hhi, a, ha, g1⟩
   ·have g1' : ¬ qc a.name t = 0 := mt qL.1 g1
    simp [r0, r1, r2, r8, r9, r10, hil, e1, l2, c1, g1']
    exact ⟨i, rfl, by omega, hlo, hhi, fun b hb => by rw [ha] at hb; cases hb; exact g1⟩
  ·simp [r0, r1, r2, r8, r9, r10, hil]
   exact ⟨i, rfl, by omega, hlo, hhi, fun b hb => by have := (List.getElem?_eq_some_iff.1 hb).1; omega⟩
theorem MX {H : List Ob} {ide : Nat} {own : Bool} {es : Nat} {vd va : V} {l : List PAttr} {t : Str} (he : H[ide]? = some (.mk own es [vd, va])) (h : bK H va l) (hl : l.length ≤ 1000) (hp : l.Pairwise fun a b => a.name < b.name) :
  ∃ (i : Nat) (ok : Bool), callW C 337 [.ptr (some (ide, 0)), .str t] H = some (.tup [.int .i64 i, .bool ok], H) ∧ i ≤ l.length ∧ (∀ q a, q < i → l[q]? = some a → df a.name t) ∧ (∀ q a, i ≤ q → l[q]? = some a → ¬ df a.name t) ∧ (ok = true ↔ ∃ a, l[i]? = some a ∧ a.name = t) := by
 obtain ⟨i, ok, c1, h1⟩ := OG (t := t) h hl hp
 refine ⟨i, ok, ?_, h1⟩
 apply Ret.eq
 rw [VB]
 have ld := aY (o := 1) (v := va) he rfl
 simp [yR, Tryz.f337, ld, c1]
theorem TreeOk.dns {t : PTree} (h : TreeOk t) : ∀ x ∈ t.entries, EntryOk x := fun x hx => by
 obtain ⟨j, hj, rfl⟩ := List.getElem_of_mem hx
 exact (h.2.1.2 j _ (List.getElem?_eq_getElem hj)).1
def Ah (c : PClass) : Prop := c.must.length ≤ 1048576 ∧ c.may.length ≤ 1048576 ∧ c.single.length ≤ 1048576
theorem Vb {H : List Ob} {v1 v2 v3 : V} {c : PClass} (h1 : AStrs H v1 c.must) (h2 : AStrs H v2 c.may) (h3 : AStrs H v3 c.single) (hn : c.name.length ≤ maxLen) (hb : Ah c) :
  ∃ T w1 w2 w3, callW C 346 [.agg [.str c.name, v1, v2, v3]] H = some (.agg [.str c.name, w1, w2, w3], H ++ T) ∧ New H.length (H ++ T).length (H ++ T) bz [.str c.name, w1, w2, w3] c.u := by
 suffices hs : Ret C 346 [.agg [.str c.name, v1, v2, v3]] H fun q H' => ∃ T w1 w2 w3, q = .agg [.str c.name, w1, w2, w3] ∧ H' = H ++ T ∧ New H.length (H ++ T).length (H ++ T) bz [.str c.name, w1, w2, w3] c.u by
  obtain ⟨q, H', hc, T, w1, w2, w3, rfl, rfl, hr⟩ := hs
  exact ⟨T, w1, w2, w3, hc, hr⟩
 rw [acb]
 obtain ⟨w1, T1, a1, n1⟩ := gX (d := .str) (by_ := 16) (z := [.str []]) (sz := 1) h1 rfl rfl rfl (by decide) (by decide) (by decide) (by have := hb.1; unfold aK; omega)
 obtain ⟨A, hA⟩ : ∃ A, A = H ++ T1 := ⟨_, rfl⟩
 rw [← hA] at a1 n1
 obtain ⟨w2, T2, a2, n2⟩ := gX (d := .str) (by_ := 16) (z := [.str []]) (sz := 1) (by rw [hA]; exact h2.ext : AStrs A v2 c.may) rfl rfl rfl (by decide) (by decide) (by decide) (by have := hb.2.1; unfold aK; omega)
 obtain ⟨B, hB⟩ : ∃ B, B = A ++ T2 := ⟨_, rfl⟩
 rw [← hB] at a2 n2
 obtain ⟨w3, T3, a3, n3⟩ := gX (d := .str) (by_ := 16) (z := [.str []]) (sz := 1) (by rw [hB, hA]; exact h3.ext.ext : AStrs B v3 c.single) rfl rfl rfl (by decide) (by decide) (by decide) (by have := hb.2.2; unfold aK; omega)
 have ho1 := New.one1 n1
 have ho2 := New.one1 n2
 have ho3 := New.one1 n3
 have hAl : H.length ≤ A.length := by rw [hA]; simp
 have hBl : A.length ≤ B.length := by rw [hB]; simp
 have hne : New H.length (B ++ T3).length (B ++ T3) bz [.str c.name, w1, w2, w3] c.u :=
  New.st (News.str hn (News.cons (m := A.length) (c1 := [w1]) (by rw [hB, List.append_assoc]; exact n1.ext) (News.cons (m := B.length) (c1 := [w2]) n2.ext (News.one n3 (by simp)) hBl (by simp)) hAl (by simp; omega)))
 have hGH : B ++ T3 = H ++ (T1 ++ T2 ++ T3) := by rw [hB, hA]; simp
 rw [hGH] at hne
 obtain ⟨T', hg, hn'⟩ := hne.gcA
 rw [← hGH] at hg
 have o1 := h1.one
 have o2 := h2.one
 have o3 := h3.one
 simp [D5, Tryz.f346, o1, o2, o3, aJ, aH, ax, St.new, a1, a2, a3, ← hA, ← hB, ho1, ho2, ho3, hg, List.lookup]
 exact ⟨T', w1, w2, w3, ⟨rfl, rfl, rfl⟩, rfl, by simpa using hn'⟩
theorem Q5 {H : List Ob} {vl : V} {l : List PClass} (h : bg H vl l) (hb : l.length ≤ 1048576 ∧ ∀ c ∈ l, Ah c) :
  ∃ T w, callW C 300 [vl] H = some (w, H ++ T) ∧ New H.length (H ++ T).length (H ++ T) (.slice bz) [w] (.lst (l.map PClass.u)) := by
 suffices hs : Ret C 300 [vl] H fun q H' => ∃ T, H' = H ++ T ∧ New H.length (H ++ T).length (H ++ T) (.slice bz) [q] (.lst (l.map PClass.u)) by
  obtain ⟨q, H', hc, T, rfl, hr⟩ := hs
  exact ⟨T, q, hc, hr⟩
 rw [adP]
 have hbl := hb.1
 simp [Gp, Tryz.f300, aJ, aH, ax, St.new]
 refine aA (fun k σ => ∃ (i : Nat) (r : Nat → R) (G : List Ob) (w : V), i + k = l.length ∧ σ = ⟨r, 0, G⟩ ∧ r 0 = .val vl ∧ r 3 = .val w ∧ r 4 = .val (.int .i64 i) ∧ LstF H G bz PClass.u w (l.take i)) ?_ l.length _ ⟨0, _, H ++ [.mk true 4 []], .slc (some (H.length, 0)) 0, by simp, rfl, by simp, by simp, by simp, by rw [List.take_zero]; exact LstF.init (sh := bz)⟩
 rintro k σ ⟨i, r, G, w, hik, rfl, r0, r3, r4, hG⟩
 obtain ⟨S, hS⟩ := hG.pre
 have hlG : bg G vl l := by rw [hS]; exact h.ext
 have hwo := hG.one
 cases k with
 | zero =>
  have hi : i = l.length := by omega
  subst hi
  rw [List.take_length] at hG
  have n2 := hG.new h.bound
  obtain ⟨T', hg, hn⟩ := (show New H.length G.length (H ++ S) (.slice bz) [w] (.lst (l.map PClass.u)) by rw [← hS]; exact n2).gc1
  rw [← hS] at hg
  simp [r0, r3, r4, hlG.len, hg, hwo]
  simpa using hn
 | succ k =>
  have hi : i < l.length := by omega
  obtain ⟨x, hx⟩ : ∃ c, l[i]? = some c := ⟨l[i], by simp [hi]⟩
  have hw : IntKind.i64.wrap ((i : Int) + 1) = ((i : Int) + 1) := wrap_i64 (by omega) (by omega)
  obtain ⟨id, o, w1, w2, w3, e1, l0, l4, q1, q2, q3, _, hnm⟩ := gQ hlG hx
  obtain ⟨T2, y1, y2, y3, c1, n1⟩ := Vb q1 q2 q3 hnm (hb.2 x (List.mem_of_getElem? hx))
  obtain ⟨w', G', a3, hG', _, _⟩ := hG.push (T := T2) (d := .struct [(0, 9), (1, 30), (2, 30), (3, 30)]) (by_ := 88) (z := [.str [], .slc none 0, .slc none 0, .slc none 0]) (sz := 4) n1 rfl rfl (by decide) (by decide) (by decide) (by simp; unfold aK; omega)
  rw [← dA hx] at hG'
  obtain ⟨_, _, _, hcy, _, b1, b2, b3⟩ := rO.1 n1.at
  cases hcy
  have hw' := hG'.one
  have o1 := q1.one
  have o2 := q2.one
  have o3 := q3.one
  have p1 := b1.one
  have p2 := b2.one
  have p3 := b3.one
  simp only [List.append_assoc, List.length_append] at a3
  simp [r0, r3, r4, hi, hlG.len, e1, l0, l4, c1, a3, aJ, aH, ax, St.new, aW, o1, o2, o3, p1, p2, p3, hwo, hw', hw]
  exact ⟨k, by omega, i + 1, by omega, _, _, ⟨rfl, rfl⟩, by simp [r0], w', by simp, by simp, hG'⟩
def DN (t : PTree) : Prop := (t.schema.length ≤ 1048576 ∧ ∀ c ∈ t.schema, Ah c) ∧ t.entries.length ≤ 1048576 ∧ ∀ e ∈ t.entries, qQ e
theorem UC {H : List Ob} {vs ve : V} {t : PTree} (hs : bg H vs t.schema) (h : bW H ve t.entries) (hb : DN t) :
  ∃ T w1 w2, callW C 218 [.agg [vs, ve]] H = some (.agg [w1, w2], H ++ T) ∧ New H.length (H ++ T).length (H ++ T) dL [w1, w2] t.u := by
 suffices hs : Ret C 218 [.agg [vs, ve]] H fun q H' => ∃ T w1 w2, q = .agg [w1, w2] ∧ H' = H ++ T ∧ New H.length (H ++ T).length (H ++ T) dL [w1, w2] t.u by
  obtain ⟨q, H', hc, T, w1, w2, rfl, rfl, hr⟩ := hs
  exact ⟨T, w1, w2, hc, hr⟩
 rw [agP]
 have hos := hs.one
 have hoe := h.one
 have hbe := hb.2.1
 obtain ⟨T1, w1, c1, n1⟩ := Q5 hs hb.1
 have how := New.one1 n1
 obtain ⟨K, hK⟩ : ∃ K, K = H ++ T1 := ⟨_, rfl⟩
 rw [← hK] at n1 c1
 have hKl : H.length ≤ K.length := by rw [hK]; simp
 have haK : bW K ve t.entries := by rw [hK]; exact h.ext
 simp [Eu, Tryz.f218, hos, hoe, c1, aH, ax, aW, ay, how]
 refine aA (fun k σ => ∃ (i : Nat) (r : Nat → R) (G : List Ob) (w : V), i + k = t.entries.length ∧ σ = ⟨r, 3, G⟩ ∧ r 1 = .box 0 [vs, ve] ∧ r 2 = .box 1 [.slc none 0, .slc none 0] ∧ r 3 = .box 2 [w1, w] ∧ r 4 = .val (.int .i64 i) ∧ LstF K G shEntry PEntry.u w (t.entries.take i)) ?_ t.entries.length _ ⟨0, _, K, .slc none 0, by simp, rfl, by simp, by simp, by simp, by simp, by simpa using LstF.nil⟩
 rintro k σ ⟨i, r, G, w, hik, rfl, r1, r2, r3, r4, hG⟩
 obtain ⟨S, hS⟩ := hG.pre
 have haG : bW G ve t.entries := by rw [hS]; exact haK.ext
 have hwo := hG.one
 cases k with
 | zero =>
  have hi : i = t.entries.length := by omega
  subst hi
  rw [List.take_length] at hG
  have n2 := hG.new h.bound
  have hne : New H.length G.length G dL [w1, w] t.u := by
   refine New.st (News.cons (m := K.length) (c1 := [w1]) ?_ (News.one n2 (by rw [hS]; simp)) hKl (by rw [hS]; simp))
   rw [hS]; exact n1.ext
  obtain ⟨T', hg, hn⟩ := (show New H.length G.length (H ++ (T1 ++ S)) dL [w1, w] t.u by rw [← List.append_assoc, ← hK, ← hS]; exact hne).gcA
  rw [← List.append_assoc, ← hK, ← hS] at hg
  simp [r1, r2, r3, r4, haG.len, hg, how, hwo]
  exact ⟨T', w1, w, ⟨rfl, rfl⟩, rfl, by simpa using hn⟩
 | succ k =>
  have hi : i < t.entries.length := by omega
  obtain ⟨x, hx⟩ : ∃ c, t.entries[i]? = some c := ⟨t.entries[i], by simp [hi]⟩
  have hw : IntKind.i64.wrap ((i : Int) + 1) = ((i : Int) + 1) := wrap_i64 (by omega) (by omega)
  obtain ⟨id, o, v1, v2, e1, l0, l1, lm, a1, a2, _⟩ := dM haG hx
  have hid := qO l0
  obtain ⟨T2, y1, y2, c2, n2⟩ := JG a1 a2 (hb.2.2 x (List.mem_of_getElem? hx))
  obtain ⟨_, _, hcy, b1, b2⟩ := iw.1 n2.at
  cases hcy
  obtain ⟨w', G', a3, hG', _, _⟩ := hG.push (T := T2) (d := .struct [(0, 35), (1, 41)]) (by_ := 48) (z := [.slc none 0, .slc none 0]) (sz := 2) n2 rfl rfl (by decide) (by decide) (by decide) (by simp; unfold aK; omega)
  rw [← dA hx] at hG'
  have hw' := hG'.one
  have o1 := a1.one
  have o2 := a2.one
  have p1 := b1.one
  have p2 := b2.one
  simp only [List.append_assoc, List.length_append] at a3
  simp [r1, r2, r3, r4, hi, haG.len, e1, l0, l1, lm, hid, c2, a3, jQ, aJ, aH, ax, St.new, aW, ay, hos, hoe, o1, o2, p1, p2, hwo, hw', hw, how, af, ai, List.lookup]
  exact ⟨k, by omega, i + 1, by omega, _, _, ⟨rfl, rfl⟩, by simp [r1], by simp [r2], w', by simp, by simp, hG'⟩
structure PTreeOut where
 tree : PTree
 entries : List PEntry
 code : Int
def PTreeOut.u (o : PTreeOut) : U := .st [o.tree.u, .lst (o.entries.map PEntry.u), .int o.code]
abbrev gz : Sh := .st [dL, .slice shEntry, .int .i64]
def xA (c : Int) : PTreeOut := ⟨⟨[], []⟩, [], c⟩
theorem Tt {H : List Ob} {c : Int} : callW C 89 [.int .i64 c] H = some (.agg [.slc none 0, .slc none 0, .slc none 0, .int .i64 c], H) := by
 apply Ret.eq
 rw [am2]
 simp [JI, Tryz.f89, aW, ay, aH, ax]
def TOut (H : List Ob) (o : PTreeOut) (q : V) (H' : List Ob) : Prop := ∃ T w1 w2 w3, q = .agg [w1, w2, w3, .int .i64 o.code] ∧ H' = H ++ T ∧ New H.length (H ++ T).length (H ++ T) gz [w1, w2, w3, .int .i64 o.code] o.u
theorem TOut.ill {H : List Ob} {c : Int} (h : (Lit.int .i64 c).wf = true) : TOut H (xA c) (.agg [.slc none 0, .slc none 0, .slc none 0, .int .i64 c]) H :=
 ⟨[], .slc none 0, .slc none 0, .slc none 0, rfl, by simp, New.st (News.cons (c1 := [.slc none 0, .slc none 0]) (m := H.length) (New.st (News.nilS (News.nilS News.nil))) (News.nilS (News.int h News.nil)) (Nat.le_refl _) (by simp))⟩
theorem TOut.of {H G : List Ob} {t : PTree} {w1 w2 : V} (hT : ∃ T, G = H ++ T) (hn : New H.length G.length G dL [w1, w2] t.u) : TOut H ⟨t, [], 0⟩ (.agg [w1, w2, .slc none 0, .int .i64 0]) (fB H G (.agg [w1, w2, .slc none 0, .int .i64 0])) := by
 obtain ⟨T, rfl⟩ := hT
 have h2 : New H.length (H ++ T).length (H ++ T) gz [w1, w2, .slc none 0, .int .i64 0] (PTreeOut.u ⟨t, [], 0⟩) := New.st (News.cons (c1 := [w1, w2]) (m := (H ++ T).length) hn (News.nilS (News.int (by decide) News.nil)) (by simp) (Nat.le_refl _))
 obtain ⟨T', h3, h4⟩ := h2.gcA
 exact ⟨T', w1, w2, .slc none 0, rfl, h3, h4⟩
theorem uJ : tC 36 gz := by
 intro H cs ds u w h h'
 replace h := bV.1 h
 obtain ⟨usa, rfl, h⟩ := h
 replace h := ag.1 h
 obtain ⟨ca0, da0, ua0, rra0, rfl, rfl, ha0, h⟩ := h
 replace h := ag.1 h
 obtain ⟨ca1, da1, ua1, rra1, rfl, rfl, ha1, h⟩ := h
 replace h := ag.1 h
 obtain ⟨ca2, da2, ua2, rra2, rfl, rfl, ha2, h⟩ := h
 replace h := aO.1 h
 obtain ⟨rfl, rfl⟩ := h
 have ka0 := ha0
 replace ha0 := bV.1 ha0
 obtain ⟨usa0_, rfl, ha0⟩ := ha0
 replace ha0 := ag.1 ha0
 obtain ⟨ca0_0, da0_0, ua0_0, rra0_0, rfl, rfl, ha0_0, ha0⟩ := ha0
 replace ha0 := ag.1 ha0
 obtain ⟨ca0_1, da0_1, ua0_1, rra0_1, rfl, rfl, ha0_1, ha0⟩ := ha0
 replace ha0 := aO.1 ha0
 obtain ⟨rfl, rfl⟩ := ha0
 have ka0_0 := ha0_0
 replace ha0_0 := aj.1 ha0_0
 obtain ⟨va0_0, la0_0, rfl, rfl, wa0_0, hva0_0⟩ := ha0_0
 have oa0_0 := hva0_0.one
 have ka0_1 := ha0_1
 replace ha0_1 := aj.1 ha0_1
 obtain ⟨va0_1, la0_1, rfl, rfl, wa0_1, hva0_1⟩ := ha0_1
 have oa0_1 := hva0_1.one
 have ka1 := ha1
 replace ha1 := aj.1 ha1
 obtain ⟨va1, la1, rfl, rfl, wa1, hva1⟩ := ha1
 have oa1 := hva1.one
 replace ha2 := jK.1 ha2
 obtain ⟨na2, rfl, rfl, wa2⟩ := ha2
 replace h' := bV.1 h'
 obtain ⟨usb, rfl, h'⟩ := h'
 replace h' := ag.1 h'
 obtain ⟨cb0, db0, ub0, rrb0, rfl, rfl, hb0, h'⟩ := h'
 replace h' := ag.1 h'
 obtain ⟨cb1, db1, ub1, rrb1, rfl, rfl, hb1, h'⟩ := h'
 replace h' := ag.1 h'
 obtain ⟨cb2, db2, ub2, rrb2, rfl, rfl, hb2, h'⟩ := h'
 replace h' := aO.1 h'
 obtain ⟨rfl, rfl⟩ := h'
 have kb0 := hb0
 replace hb0 := bV.1 hb0
 obtain ⟨usb0_, rfl, hb0⟩ := hb0
 replace hb0 := ag.1 hb0
 obtain ⟨cb0_0, db0_0, ub0_0, rrb0_0, rfl, rfl, hb0_0, hb0⟩ := hb0
 replace hb0 := ag.1 hb0
 obtain ⟨cb0_1, db0_1, ub0_1, rrb0_1, rfl, rfl, hb0_1, hb0⟩ := hb0
 replace hb0 := aO.1 hb0
 obtain ⟨rfl, rfl⟩ := hb0
 have kb0_0 := hb0_0
 replace hb0_0 := aj.1 hb0_0
 obtain ⟨vb0_0, lb0_0, rfl, rfl, wb0_0, hvb0_0⟩ := hb0_0
 have ob0_0 := hvb0_0.one
 have kb0_1 := hb0_1
 replace hb0_1 := aj.1 hb0_1
 obtain ⟨vb0_1, lb0_1, rfl, rfl, wb0_1, hvb0_1⟩ := hb0_1
 have ob0_1 := hvb0_1.one
 have kb1 := hb1
 replace hb1 := aj.1 hb1
 obtain ⟨vb1, lb1, rfl, rfl, wb1, hvb1⟩ := hb1
 have ob1 := hvb1.one
 replace hb2 := jK.1 hb2
 obtain ⟨nb2, rfl, rfl, wb2⟩ := hb2
 obtain ⟨t0, e0, q0⟩ := Nk H _ _ _ _ ka0 kb0
 simp only [aG, List.headD_cons, List.append_nil, List.cons_append, List.nil_append] at q0
 cases t0 with
 | false =>
  have e0 : ¬ (.st [(.lst la0_0), (.lst la0_1)]) = (U.st [(U.lst lb0_0), (U.lst lb0_1)]) := fun h => by simpa using e0.2 h
  refine ⟨false, by simp only [U.st.injEq, List.cons.injEq, e0, and_false, false_and, Bool.false_eq_true], ?_⟩
  apply Ret.eq
  rw [Vq]
  simp [xO, Tryz.f36, aG, q0, oa0_0, oa0_1, oa1, ob0_0, ob0_1, ob1]
 | true =>
 have e0 := e0.1 rfl
 obtain ⟨t1, e1, q1⟩ := Dn H _ _ _ _ ka1 kb1
 simp only [aG, List.headD_cons, List.append_nil, List.cons_append, List.nil_append] at q1
 cases t1 with
 | false =>
  have e1 : ¬ (.lst la1) = (U.lst lb1) := fun h => by simpa using e1.2 h
  refine ⟨false, by simp only [U.st.injEq, List.cons.injEq, e1, and_false, false_and, Bool.false_eq_true], ?_⟩
  apply Ret.eq
  rw [Vq]
  simp [xO, Tryz.f36, aG, q0, q1, oa0_0, oa0_1, oa1, ob0_0, ob0_1, ob1]
 | true =>
 have e1 := e1.1 rfl
 by_cases e2 : na2 = nb2
 rotate_left
 ·refine ⟨false, by simp [e2], ?_⟩
  apply Ret.eq
  rw [Vq]
  simp [xO, Tryz.f36, aG, q0, q1, e2, oa0_0, oa0_1, oa1, ob0_0, ob0_1, ob1]
 subst e2
 refine ⟨true, by simp only [e0, e1], ?_⟩
 apply Ret.eq
 rw [Vq]
 simp [xO, Tryz.f36, aG, q0, q1, oa0_0, oa0_1, oa1, ob0_0, ob0_1, ob1]
end Go.Proofs.Try1
end
