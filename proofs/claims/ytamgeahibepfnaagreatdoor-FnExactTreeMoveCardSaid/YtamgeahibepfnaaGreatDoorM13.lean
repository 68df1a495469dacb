/- Part 13 of the proof of a law: the interpreter, its soundness, and what functions of the program compute over it. Conditions: none but those that each theorem names. -/
import Derived.Test.YtamgeahibepfnaaGreatDoorM12
import Derived.Test.YtamgeahibepfnaaGreatDoorM09
import Derived.Test.YtamgeahibepfnaaGreatDoorM10
import Derived.Test.YtamgeahibepfnaaGreatDoorM08
import Derived.Test.YtamgeahibepfnaaGreatDoorM06
import Derived.Test.YtamgeahibepfnaaGreatDoorM11

set_option linter.all false
set_option maxRecDepth 20000
set_option maxHeartbeats 40000000
section
namespace Go.Proofs.Try1
open Go Go.Lite
theorem Rj {H : List Ob} {v : V} {l : List PRdn} (h : bH H v l) (hl : l.length ≤ 1048576) :
  ∃ T w, callW C 276 [v] H = some (w, H ++ T) ∧ New H.length (H ++ T).length (H ++ T) (.slice shRdn) [w] (.lst (l.map PRdn.u)) := by
 suffices hs : Ret C 276 [v] H fun q H' => ∃ T, H' = H ++ T ∧ New H.length (H ++ T).length (H ++ T) (.slice shRdn) [q] (.lst (l.map PRdn.u)) by
  obtain ⟨q, H', hc, T, rfl, hr⟩ := hs
  exact ⟨T, q, hc, hr⟩
 rw [acU]
 obtain ⟨w, T1, a1, n1⟩ := ig (d := .struct [(0, 9), (1, 9)]) (by_ := 32) (z := [.str [], .str []]) (sz := 2) h rfl rfl rfl (by decide) (by decide) (by decide) (by unfold aJ; omega)
 obtain ⟨T', hg, hn⟩ := n1.gc1
 rcases h.sub with ⟨rfl, rfl⟩ | ⟨id, off, own, cells, rfl, _⟩
 ·simp [yD, Tryz.f276]
  exact New.nil
 ·simp [yD, Tryz.f276, aI, aH, ax, St.new, a1, hg]
  simpa using hn
theorem vH {H : List Ob} {v : V} {l : List Str} (h : AStrs H v l) (hl : l.length ≤ 1048576) :
  ∃ T w, callW C 277 [v] H = some (w, H ++ T) ∧ New H.length (H ++ T).length (H ++ T) (.slice .str) [w] (.lst (l.map kN)) := by
 suffices hs : Ret C 277 [v] H fun q H' => ∃ T, H' = H ++ T ∧ New H.length (H ++ T).length (H ++ T) (.slice .str) [q] (.lst (l.map kN)) by
  obtain ⟨q, H', hc, T, rfl, hr⟩ := hs
  exact ⟨T, q, hc, hr⟩
 rw [UF]
 obtain ⟨w, T1, a1, n1⟩ := ig (d := .str) (by_ := 16) (z := [.str []]) (sz := 1) h rfl rfl rfl (by decide) (by decide) (by decide) (by unfold aJ; omega)
 obtain ⟨T', hg, hn⟩ := n1.gc1
 rcases h.sub with ⟨rfl, rfl⟩ | ⟨id, off, own, cells, rfl, _⟩
 ·simp [oH, Tryz.f277]
  exact New.nil
 ·simp [oH, Tryz.f277, aI, aH, ax, St.new, a1, hg]
  simpa using hn
theorem GM {H : List Ob} {vd va : V} {e : PEntry} (hd : bH H vd e.dn) (ha : bK H va e.attrs) (hb : ry e) :
  ∃ T w1 w2, callW C 195 [.agg [vd, va]] H = some (.agg [w1, w2], H ++ T) ∧ New H.length (H ++ T).length (H ++ T) shEntry [w1, w2] e.u := by
 suffices hs : Ret C 195 [.agg [vd, va]] H fun q H' => ∃ T w1 w2, q = .agg [w1, w2] ∧ H' = H ++ T ∧ New H.length (H ++ T).length (H ++ T) shEntry [w1, w2] e.u by
  obtain ⟨q, H', hc, T, w1, w2, rfl, rfl, hr⟩ := hs
  exact ⟨T, w1, w2, hc, hr⟩
 rw [WY]
 have hod := hd.one
 have hoa := ha.one
 obtain ⟨T1, w1, a1, n1⟩ := Rj hd hb.1
 have hb2 := hb.2.1
 have how := New.one1 n1
 obtain ⟨K, hK⟩ : ∃ K, K = H ++ T1 := ⟨_, rfl⟩
 rw [← hK] at n1 a1
 have haK : bK K va e.attrs := by rw [hK]; exact ha.ext
 simp [ET, Tryz.f195, hod, hoa, a1, aS, ay, aH, how, haK.len]
 refine aB (fun k σ => ∃ (i n : Nat) (r : Nat → R) (G : List Ob) (w : V), i + k = e.attrs.length ∧ σ = ⟨r, n, G⟩ ∧ r 2 = .box 1 [.slc none 0, .slc none 0] ∧ r 3 = .box 2 [w1, w] ∧ r 11 = .val va ∧ r 12 = .val (.int .i64 e.attrs.length) ∧ r 13 = .val (.int .i64 i) ∧ LstF K G shAttr PAttr.u w (e.attrs.take i)) ?_ e.attrs.length _ ⟨0, 3, _, K, .slc none 0, by simp, rfl, by simp, by simp, by simp, by simp, by simp, by simpa using LstF.nil⟩
 rintro k σ ⟨i, cn, r, G, w, hik, rfl, r2, r3, r11, r12, r13, hG⟩
 obtain ⟨S, hS⟩ := hG.pre
 have haG : bK G va e.attrs := by rw [hS]; exact haK.ext
 have hwo := hG.one
 cases k with
 | zero =>
  have hi : i = e.attrs.length := by omega
  subst hi
  rw [List.take_length] at hG
  have n2 := hG.new ha.bound
  have hne : New H.length G.length G shEntry [w1, w] e.u := by
   refine New.st (News.cons (m := K.length) (c1 := [w1]) ?_ (News.one n2 (by rw [hS]; simp)) (by rw [hK]; simp) (by rw [hS]; simp))
   rw [hS]; exact n1.ext
  obtain ⟨T', hg, hn⟩ := (show New H.length G.length (H ++ (T1 ++ S)) shEntry [w1, w] e.u by rw [← List.append_assoc, ← hK, ← hS]; exact hne).gcA
  rw [← List.append_assoc, ← hK, ← hS] at hg
  simp [r2, r3, r11, r12, r13, hg, how, hwo]
  exact ⟨T', w1, w, ⟨rfl, rfl⟩, rfl, by simpa using hn⟩
 | succ k =>
  have hi : i < e.attrs.length := by omega
  obtain ⟨x, hx⟩ : ∃ c, e.attrs[i]? = some c := ⟨e.attrs[i], by simp [hi]⟩
  have hw : IntKind.i64.wrap ((i : Int) + 1) = ((i : Int) + 1) := wrap_i64 (by omega) (by omega)
  obtain ⟨id, o, wx, ex, lx, hvx, hnx, hidx, _⟩ := tJ ha hx
  have hGH : G = H ++ (T1 ++ S) := by rw [hS, hK, List.append_assoc]
  obtain ⟨l0, l1, l2⟩ := lx G ⟨_, hGH⟩
  have hvG : AStrs G wx x.vals := by rw [hGH]; exact hvx.ext
  have hox := hvG.one
  have hbx := hb.2.2 x (List.mem_of_getElem? hx)
  obtain ⟨T2, wv, a2, n2⟩ := vH hvG hbx
  have hel : New G.length (G ++ T2).length (G ++ T2) shAttr [.str x.name, wv] x.u := New.st (News.str hnx (News.one n2 (by simp)))
  obtain ⟨w', G', a3, hG', _, _⟩ := hG.push (T := T2) (d := .struct [(0, 9), (1, 30)]) (by_ := 40) (z := [.str [], .slc none 0]) (sz := 2) hel rfl rfl (by decide) (by decide) (by decide) (by simp; unfold aJ; omega)
  rw [← dh hx] at hG'
  have hwv := New.one1 n2
  have hw' := hG'.one
  simp only [List.append_assoc, List.length_append] at a3
  simp [r2, r3, r11, r12, r13, hi, ex, l0, l1, l2, a2, a3, fU, aI, aH, ax, St.new, aS, ay, hod, hoa, hox, hwv, hwo, hw', hw, List.lookup]
  exact ⟨k, by omega, i + 1, by omega, _, _, _, ⟨rfl, rfl, rfl⟩, by simp [r2], w', by simp, by simp [r11], by simp [r12], by simp, hG'⟩
theorem MN {H : List Ob} {v : V} {l : List PAttr} {t : Str} (h : bK H v l) (hl : l.length ≤ 1000) (hp : l.Pairwise fun a b => a.name < b.name) :
  ∃ (i : Nat) (ok : Bool), callW C 357 [v, .str t, .fn 358 [] []] H = some (.tup [.int .i64 i, .bool ok], H) ∧
   i ≤ l.length ∧ (∀ q a, q < i → l[q]? = some a → cO a.name t) ∧ (∀ q a, i ≤ q → l[q]? = some a → ¬ cO a.name t) ∧ (ok = true ↔ ∃ a, l[i]? = some a ∧ a.name = t) := by
 suffices hs : Ret C 357 [v, .str t, .fn 358 [] []] H fun q H' =>
   (∃ (i : Nat) (ok : Bool), q = .tup [.int .i64 i, .bool ok] ∧ i ≤ l.length ∧ (∀ q a, q < i → l[q]? = some a → cO a.name t) ∧ (∀ q a, i ≤ q → l[q]? = some a → ¬ cO a.name t) ∧ (ok = true ↔ ∃ a, l[i]? = some a ∧ a.name = t)) ∧ H' = H by
  obtain ⟨q, H', hc, ⟨i, ok, rfl, h1⟩, rfl⟩ := hs
  exact ⟨i, ok, hc, h1⟩
 rw [UH]
 simp [yR, Tryz.f357, h.len]
 refine aB (fun k σ => ∃ (i j : Nat) (r : Nat → R), j - i = k ∧ i ≤ j ∧ j ≤ l.length ∧ σ = ⟨r, 0, H⟩ ∧ r 0 = .val v ∧ r 1 = .val (.str t) ∧ r 2 = .val (.fn 358 [] []) ∧ r 8 = .val (.int .i64 l.length) ∧ r 9 = .val (.int .i64 i) ∧ r 10 = .val (.int .i64 j) ∧
  (∀ q a, q < i → l[q]? = some a → cO a.name t) ∧ (∀ q a, j ≤ q → l[q]? = some a → ¬ cO a.name t)) ?_ l.length _ ⟨0, l.length, _, by omega, by omega, by omega, rfl, by simp, by simp, by simp, by simp, by simp, by simp, fun q a h => by omega, fun q a h1 h2 => by have := (List.getElem?_eq_some_iff.1 h2).1; omega⟩
 rintro k σ ⟨i, j, r, hk, hij, hjl, rfl, r0, r1, r2, r8, r9, r10, hlo, hhi⟩
 cases k with
 | succ k =>
  have hlt : (i : Int) < j := by omega
  have hlt' : i < j := by omega
  have hw1 : IntKind.i64.wrap ((i : Int) + j) = (i : Int) + j := wrap_i64 (by omega) (by omega)
  have hw2 : IntKind.u64.wrap ((i : Int) + j) = (i : Int) + j := by unfold IntKind.wrap; simp [IntKind.bits, IntKind.signed]; omega
  have hq : ((i : Int) + j).fdiv 2 = (((i + j) / 2 : Nat) : Int) := by rw [Int.fdiv_eq_ediv_of_nonneg _ (by omega)]; omega
  obtain ⟨m, hm⟩ : ∃ m, m = (i + j) / 2 := ⟨_, rfl⟩
  rw [← hm] at hq
  have hw3 : IntKind.i64.wrap (m : Int) = m := wrap_i64 (by omega) (by omega)
  have hw4 : IntKind.i64.wrap ((m : Int) + 1) = (m : Int) + 1 := wrap_i64 (by omega) (by omega)
  have hml : m < l.length := by omega
  obtain ⟨a, ha⟩ : ∃ a, l[m]? = some a := ⟨l[m], List.getElem?_eq_getElem hml⟩
  obtain ⟨id, o, w, e1, l0, l1, l2, hvs, _⟩ := fB h ha
  have c1 := uF (n := a.name) (t := t) (w := w) (H := H) hvs.one.2
  have hord : ∀ q b, l[q]? = some b → (q < m → b.name < a.name) ∧ (m < q → a.name < b.name) := fun q b hb => by
   obtain ⟨hq1, hb⟩ := List.getElem?_eq_some_iff.1 hb
   obtain ⟨_, ha⟩ := List.getElem?_eq_some_iff.1 ha
   have := List.pairwise_iff_getElem.1 hp
   exact ⟨fun hh => by have := this q m hq1 hml hh; rwa [hb, ha] at this, fun hh => by have := this m q hml hq1 hh; rwa [hb, ha] at this⟩
  by_cases g1 : cO a.name t
  ·have g1' := rW.2 g1
   simp [r0, r1, r2, r8, r9, r10, hlt, hlt', hw1, hw2, hq, hw3, hw4, e1, l2, c1, g1', jh, IntKind.bits]
   refine ⟨j - (m + 1), by omega, m + 1, j, by omega, by omega, by omega, by omega, rfl, fun q b hq1 hb => ?_, hhi⟩
   by_cases hqm : q = m
   ·subst hqm; rw [ha] at hb; cases hb; exact g1
   ·exact (bI _ _).2 (List.lt_trans ((hord q b hb).1 (by omega)) ((bI _ _).1 g1))
  ·have g1' : ¬ oQ a.name t < 0 := mt rW.1 g1
   simp [r0, r1, r2, r8, r9, r10, hlt, hlt', hw1, hw2, hq, hw3, hw4, e1, l2, c1, g1', jh, IntKind.bits]
   refine ⟨m - i, by omega, i, m, by omega, by omega, by omega, rfl, rfl, hlo, fun q b hq1 hb hlt2 => ?_⟩
   by_cases hqm : q = m
   ·subst hqm; rw [ha] at hb; cases hb; exact g1 hlt2
   ·exact g1 ((bI _ _).2 (List.lt_trans ((hord q b hb).2 (by omega)) ((bI _ _).1 hlt2)))
 | zero =>
  have hij' : i = j := by omega
  subst hij'
  by_cases hil : i < l.length
  ·have hilI : (i : Int) < l.length := by omega
   obtain ⟨a, ha⟩ : ∃ a, l[i]? = some a := ⟨l[i], List.getElem?_eq_getElem hil⟩
   obtain ⟨id, o, w, e1, l0, l1, l2, hvs, _⟩ := fB h ha
   have c1 := uF (n := a.name) (t := t) (w := w) (H := H) hvs.one.2
   by_cases g1 : a.name = t
   ·have g1' := oK.2 g1
    simp [r0, r1, r2, r8, r9, r10, hil, e1, l2, c1, g1']
    exact ⟨i, rfl, by omega, hlo, hhi, a, ha, g1⟩
   ·have g1' : ¬ oQ a.name t = 0 := mt oK.1 g1
    simp [r0, r1, r2, r8, r9, r10, hil, e1, l2, c1, g1']
    exact ⟨i, rfl, by omega, hlo, hhi, fun b hb => by rw [ha] at hb; cases hb; exact g1⟩
  ·simp [r0, r1, r2, r8, r9, r10, hil]
   exact ⟨i, rfl, by omega, hlo, hhi, fun b hb => by have := (List.getElem?_eq_some_iff.1 hb).1; omega⟩
theorem Ug {H : List Ob} {ide : Nat} {own : Bool} {es : Nat} {vd va : V} {l : List PAttr} {t : Str} (he : H[ide]? = some (.mk own es [vd, va])) (h : bK H va l) (hl : l.length ≤ 1000) (hp : l.Pairwise fun a b => a.name < b.name) :
  ∃ (i : Nat) (ok : Bool), callW C 337 [.ptr (some (ide, 0)), .str t] H = some (.tup [.int .i64 i, .bool ok], H) ∧ i ≤ l.length ∧ (∀ q a, q < i → l[q]? = some a → cO a.name t) ∧ (∀ q a, i ≤ q → l[q]? = some a → ¬ cO a.name t) ∧ (ok = true ↔ ∃ a, l[i]? = some a ∧ a.name = t) := by
 obtain ⟨i, ok, c1, h1⟩ := MN (t := t) h hl hp
 refine ⟨i, ok, ?_, h1⟩
 apply Ret.eq
 rw [UM]
 have ld := aY (o := 1) (v := va) he rfl
 simp [yV, Tryz.f337, ld, c1]
theorem TreeOk.dns {t : PTree} (h : TreeOk t) : ∀ x ∈ t.entries, EntryOk x := fun x hx => by
 obtain ⟨j, hj, rfl⟩ := List.getElem_of_mem hx
 exact (h.2.1.2 j _ (List.getElem?_eq_getElem hj)).1
def Ar (c : PClass) : Prop := c.must.length ≤ 1048576 ∧ c.may.length ≤ 1048576 ∧ c.single.length ≤ 1048576
theorem Uf {H : List Ob} {v1 v2 v3 : V} {c : PClass} (h1 : AStrs H v1 c.must) (h2 : AStrs H v2 c.may) (h3 : AStrs H v3 c.single) (hn : c.name.length ≤ maxLen) (hb : Ar c) :
  ∃ T w1 w2 w3, callW C 346 [.agg [.str c.name, v1, v2, v3]] H = some (.agg [.str c.name, w1, w2, w3], H ++ T) ∧ New H.length (H ++ T).length (H ++ T) bG [.str c.name, w1, w2, w3] c.u := by
 suffices hs : Ret C 346 [.agg [.str c.name, v1, v2, v3]] H fun q H' => ∃ T w1 w2 w3, q = .agg [.str c.name, w1, w2, w3] ∧ H' = H ++ T ∧ New H.length (H ++ T).length (H ++ T) bG [.str c.name, w1, w2, w3] c.u by
  obtain ⟨q, H', hc, T, w1, w2, w3, rfl, rfl, hr⟩ := hs
  exact ⟨T, w1, w2, w3, hc, hr⟩
 rw [aaw]
 obtain ⟨w1, T1, a1, n1⟩ := ig (d := .str) (by_ := 16) (z := [.str []]) (sz := 1) h1 rfl rfl rfl (by decide) (by decide) (by decide) (by have := hb.1; unfold aJ; omega)
 obtain ⟨A, hA⟩ : ∃ A, A = H ++ T1 := ⟨_, rfl⟩
 rw [← hA] at a1 n1
 obtain ⟨w2, T2, a2, n2⟩ := ig (d := .str) (by_ := 16) (z := [.str []]) (sz := 1) (by rw [hA]; exact h2.ext : AStrs A v2 c.may) rfl rfl rfl (by decide) (by decide) (by decide) (by have := hb.2.1; unfold aJ; omega)
 obtain ⟨B, hB⟩ : ∃ B, B = A ++ T2 := ⟨_, rfl⟩
 rw [← hB] at a2 n2
 obtain ⟨w3, T3, a3, n3⟩ := ig (d := .str) (by_ := 16) (z := [.str []]) (sz := 1) (by rw [hB, hA]; exact h3.ext.ext : AStrs B v3 c.single) rfl rfl rfl (by decide) (by decide) (by decide) (by have := hb.2.2; unfold aJ; omega)
 have ho1 := New.one1 n1
 have ho2 := New.one1 n2
 have ho3 := New.one1 n3
 have hAl : H.length ≤ A.length := by rw [hA]; simp
 have hBl : A.length ≤ B.length := by rw [hB]; simp
 have hne : New H.length (B ++ T3).length (B ++ T3) bG [.str c.name, w1, w2, w3] c.u :=
  New.st (News.str hn (News.cons (m := A.length) (c1 := [w1]) (by rw [hB, List.append_assoc]; exact n1.ext) (News.cons (m := B.length) (c1 := [w2]) n2.ext (News.one n3 (by simp)) hBl (by simp)) hAl (by simp; omega)))
 have hGH : B ++ T3 = H ++ (T1 ++ T2 ++ T3) := by rw [hB, hA]; simp
 rw [hGH] at hne
 obtain ⟨T', hg, hn'⟩ := hne.gcA
 rw [← hGH] at hg
 have o1 := h1.one
 have o2 := h2.one
 have o3 := h3.one
 simp [D8, Tryz.f346, o1, o2, o3, aI, aH, ax, St.new, a1, a2, a3, ← hA, ← hB, ho1, ho2, ho3, hg, List.lookup]
 exact ⟨T', w1, w2, w3, ⟨rfl, rfl, rfl⟩, rfl, by simpa using hn'⟩
theorem RS {H : List Ob} {vl : V} {l : List PClass} (h : aW H vl l) (hb : l.length ≤ 1048576 ∧ ∀ c ∈ l, Ar c) :
  ∃ T w, callW C 300 [vl] H = some (w, H ++ T) ∧ New H.length (H ++ T).length (H ++ T) (.slice bG) [w] (.lst (l.map PClass.u)) := by
 suffices hs : Ret C 300 [vl] H fun q H' => ∃ T, H' = H ++ T ∧ New H.length (H ++ T).length (H ++ T) (.slice bG) [q] (.lst (l.map PClass.u)) by
  obtain ⟨q, H', hc, T, rfl, hr⟩ := hs
  exact ⟨T, q, hc, hr⟩
 rw [aec]
 have hbl := hb.1
 simp [CY, Tryz.f300, aI, aH, ax, St.new]
 refine aB (fun k σ => ∃ (i : Nat) (r : Nat → R) (G : List Ob) (w : V), i + k = l.length ∧ σ = ⟨r, 0, G⟩ ∧ r 0 = .val vl ∧ r 3 = .val w ∧ r 4 = .val (.int .i64 i) ∧ LstF H G bG PClass.u w (l.take i)) ?_ l.length _ ⟨0, _, H ++ [.mk true 4 []], .slc (some (H.length, 0)) 0, by simp, rfl, by simp, by simp, by simp, by rw [List.take_zero]; exact LstF.init (sh := bG)⟩
 rintro k σ ⟨i, r, G, w, hik, rfl, r0, r3, r4, hG⟩
 obtain ⟨S, hS⟩ := hG.pre
 have hlG : aW G vl l := by rw [hS]; exact h.ext
 have hwo := hG.one
 cases k with
 | zero =>
  have hi : i = l.length := by omega
  subst hi
  rw [List.take_length] at hG
  have n2 := hG.new h.bound
  obtain ⟨T', hg, hn⟩ := (show New H.length G.length (H ++ S) (.slice bG) [w] (.lst (l.map PClass.u)) by rw [← hS]; exact n2).gc1
  rw [← hS] at hg
  simp [r0, r3, r4, hlG.len, hg, hwo]
  simpa using hn
 | succ k =>
  have hi : i < l.length := by omega
  obtain ⟨x, hx⟩ : ∃ c, l[i]? = some c := ⟨l[i], by simp [hi]⟩
  have hw : IntKind.i64.wrap ((i : Int) + 1) = ((i : Int) + 1) := wrap_i64 (by omega) (by omega)
  obtain ⟨id, o, w1, w2, w3, e1, l0, l4, q1, q2, q3, _, hnm⟩ := gK hlG hx
  obtain ⟨T2, y1, y2, y3, c1, n1⟩ := Uf q1 q2 q3 hnm (hb.2 x (List.mem_of_getElem? hx))
  obtain ⟨w', G', a3, hG', _, _⟩ := hG.push (T := T2) (d := .struct [(0, 9), (1, 30), (2, 30), (3, 30)]) (by_ := 88) (z := [.str [], .slc none 0, .slc none 0, .slc none 0]) (sz := 4) n1 rfl rfl (by decide) (by decide) (by decide) (by simp; unfold aJ; omega)
  rw [← dh hx] at hG'
  obtain ⟨_, _, _, hcy, _, b1, b2, b3⟩ := qR.1 n1.at
  cases hcy
  have hw' := hG'.one
  have o1 := q1.one
  have o2 := q2.one
  have o3 := q3.one
  have p1 := b1.one
  have p2 := b2.one
  have p3 := b3.one
  simp only [List.append_assoc, List.length_append] at a3
  simp [r0, r3, r4, hi, hlG.len, e1, l0, l4, c1, a3, aI, aH, ax, St.new, aS, o1, o2, o3, p1, p2, p3, hwo, hw', hw]
  exact ⟨k, by omega, i + 1, by omega, _, _, ⟨rfl, rfl⟩, by simp [r0], w', by simp, by simp, hG'⟩
def tV (t : PTree) : Prop := (t.schema.length ≤ 1048576 ∧ ∀ c ∈ t.schema, Ar c) ∧ t.entries.length ≤ 1048576 ∧ ∀ e ∈ t.entries, ry e
theorem LY {H : List Ob} {vs ve : V} {t : PTree} (hs : aW H vs t.schema) (h : bC H ve t.entries) (hb : tV t) :
  ∃ T w1 w2, callW C 218 [.agg [vs, ve]] H = some (.agg [w1, w2], H ++ T) ∧ New H.length (H ++ T).length (H ++ T) cu [w1, w2] t.u := by
 suffices hs : Ret C 218 [.agg [vs, ve]] H fun q H' => ∃ T w1 w2, q = .agg [w1, w2] ∧ H' = H ++ T ∧ New H.length (H ++ T).length (H ++ T) cu [w1, w2] t.u by
  obtain ⟨q, H', hc, T, w1, w2, rfl, rfl, hr⟩ := hs
  exact ⟨T, w1, w2, hc, hr⟩
 rw [abY]
 have hos := hs.one
 have hoe := h.one
 have hbe := hb.2.1
 obtain ⟨T1, w1, c1, n1⟩ := RS hs hb.1
 have how := New.one1 n1
 obtain ⟨K, hK⟩ : ∃ K, K = H ++ T1 := ⟨_, rfl⟩
 rw [← hK] at n1 c1
 have hKl : H.length ≤ K.length := by rw [hK]; simp
 have haK : bC K ve t.entries := by rw [hK]; exact h.ext
 simp [D7, Tryz.f218, hos, hoe, c1, aH, ax, aS, ay, how]
 refine aB (fun k σ => ∃ (i : Nat) (r : Nat → R) (G : List Ob) (w : V), i + k = t.entries.length ∧ σ = ⟨r, 3, G⟩ ∧ r 1 = .box 0 [vs, ve] ∧ r 2 = .box 1 [.slc none 0, .slc none 0] ∧ r 3 = .box 2 [w1, w] ∧ r 4 = .val (.int .i64 i) ∧ LstF K G shEntry PEntry.u w (t.entries.take i)) ?_ t.entries.length _ ⟨0, _, K, .slc none 0, by simp, rfl, by simp, by simp, by simp, by simp, by simpa using LstF.nil⟩
 rintro k σ ⟨i, r, G, w, hik, rfl, r1, r2, r3, r4, hG⟩
 obtain ⟨S, hS⟩ := hG.pre
 have haG : bC G ve t.entries := by rw [hS]; exact haK.ext
 have hwo := hG.one
 cases k with
 | zero =>
  have hi : i = t.entries.length := by omega
  subst hi
  rw [List.take_length] at hG
  have n2 := hG.new h.bound
  have hne : New H.length G.length G cu [w1, w] t.u := by
   refine New.st (News.cons (m := K.length) (c1 := [w1]) ?_ (News.one n2 (by rw [hS]; simp)) hKl (by rw [hS]; simp))
   rw [hS]; exact n1.ext
  obtain ⟨T', hg, hn⟩ := (show New H.length G.length (H ++ (T1 ++ S)) cu [w1, w] t.u by rw [← List.append_assoc, ← hK, ← hS]; exact hne).gcA
  rw [← List.append_assoc, ← hK, ← hS] at hg
  simp [r1, r2, r3, r4, haG.len, hg, how, hwo]
  exact ⟨T', w1, w, ⟨rfl, rfl⟩, rfl, by simpa using hn⟩
 | succ k =>
  have hi : i < t.entries.length := by omega
  obtain ⟨x, hx⟩ : ∃ c, t.entries[i]? = some c := ⟨t.entries[i], by simp [hi]⟩
  have hw : IntKind.i64.wrap ((i : Int) + 1) = ((i : Int) + 1) := wrap_i64 (by omega) (by omega)
  obtain ⟨id, o, v1, v2, e1, l0, l1, lm, a1, a2, _⟩ := dA haG hx
  have hid := qB l0
  obtain ⟨T2, y1, y2, c2, n2⟩ := Es a1 a2 (hb.2.2 x (List.mem_of_getElem? hx))
  obtain ⟨_, _, hcy, b1, b2⟩ := iq.1 n2.at
  cases hcy
  obtain ⟨w', G', a3, hG', _, _⟩ := hG.push (T := T2) (d := .struct [(0, 35), (1, 41)]) (by_ := 48) (z := [.slc none 0, .slc none 0]) (sz := 2) n2 rfl rfl (by decide) (by decide) (by decide) (by simp; unfold aJ; omega)
  rw [← dh hx] at hG'
  have hw' := hG'.one
  have o1 := a1.one
  have o2 := a2.one
  have p1 := b1.one
  have p2 := b2.one
  simp only [List.append_assoc, List.length_append] at a3
  simp [r1, r2, r3, r4, hi, haG.len, e1, l0, l1, lm, hid, c2, a3, fU, aI, aH, ax, St.new, aS, ay, hos, hoe, o1, o2, p1, p2, hwo, hw', hw, how, ae, ag, List.lookup]
  exact ⟨k, by omega, i + 1, by omega, _, _, ⟨rfl, rfl⟩, by simp [r1], by simp [r2], w', by simp, by simp, hG'⟩
structure PTreeOut where
 tree : PTree
 entries : List PEntry
 code : Int
def PTreeOut.u (o : PTreeOut) : U := .st [o.tree.u, .lst (o.entries.map PEntry.u), .int o.code]
abbrev gB : Sh := .st [cu, .slice shEntry, .int .i64]
def yl (c : Int) : PTreeOut := ⟨⟨[], []⟩, [], c⟩
theorem PD {H : List Ob} {c : Int} : callW C 89 [.int .i64 c] H = some (.agg [.slc none 0, .slc none 0, .slc none 0, .int .i64 c], H) := by
 apply Ret.eq
 rw [alM]
 simp [Jt, Tryz.f89, aS, ay, aH, ax]
def TOut (H : List Ob) (o : PTreeOut) (q : V) (H' : List Ob) : Prop := ∃ T w1 w2 w3, q = .agg [w1, w2, w3, .int .i64 o.code] ∧ H' = H ++ T ∧ New H.length (H ++ T).length (H ++ T) gB [w1, w2, w3, .int .i64 o.code] o.u
theorem TOut.ill {H : List Ob} {c : Int} (h : (Lit.int .i64 c).wf = true) : TOut H (yl c) (.agg [.slc none 0, .slc none 0, .slc none 0, .int .i64 c]) H :=
 ⟨[], .slc none 0, .slc none 0, .slc none 0, rfl, by simp, New.st (News.cons (c1 := [.slc none 0, .slc none 0]) (m := H.length) (New.st (News.nilS (News.nilS News.nil))) (News.nilS (News.int h News.nil)) (Nat.le_refl _) (by simp))⟩
theorem TOut.of {H G : List Ob} {t : PTree} {w1 w2 : V} (hT : ∃ T, G = H ++ T) (hn : New H.length G.length G cu [w1, w2] t.u) : TOut H ⟨t, [], 0⟩ (.agg [w1, w2, .slc none 0, .int .i64 0]) (fM H G (.agg [w1, w2, .slc none 0, .int .i64 0])) := by
 obtain ⟨T, rfl⟩ := hT
 have h2 : New H.length (H ++ T).length (H ++ T) gB [w1, w2, .slc none 0, .int .i64 0] (PTreeOut.u ⟨t, [], 0⟩) := New.st (News.cons (c1 := [w1, w2]) (m := (H ++ T).length) hn (News.nilS (News.int (by decide) News.nil)) (by simp) (Nat.le_refl _))
 obtain ⟨T', h3, h4⟩ := h2.gcA
 exact ⟨T', w1, w2, .slc none 0, rfl, h3, h4⟩
theorem tN : uH 36 gB := by
 intro H cs ds u w h h'
 replace h := df.1 h
 obtain ⟨usa, rfl, h⟩ := h
 replace h := ai.1 h
 obtain ⟨ca0, da0, ua0, rra0, rfl, rfl, ha0, h⟩ := h
 replace h := ai.1 h
 obtain ⟨ca1, da1, ua1, rra1, rfl, rfl, ha1, h⟩ := h
 replace h := ai.1 h
 obtain ⟨ca2, da2, ua2, rra2, rfl, rfl, ha2, h⟩ := h
 replace h := aV.1 h
 obtain ⟨rfl, rfl⟩ := h
 have ka0 := ha0
 replace ha0 := df.1 ha0
 obtain ⟨usa0_, rfl, ha0⟩ := ha0
 replace ha0 := ai.1 ha0
 obtain ⟨ca0_0, da0_0, ua0_0, rra0_0, rfl, rfl, ha0_0, ha0⟩ := ha0
 replace ha0 := ai.1 ha0
 obtain ⟨ca0_1, da0_1, ua0_1, rra0_1, rfl, rfl, ha0_1, ha0⟩ := ha0
 replace ha0 := aV.1 ha0
 obtain ⟨rfl, rfl⟩ := ha0
 have ka0_0 := ha0_0
 replace ha0_0 := ak.1 ha0_0
 obtain ⟨va0_0, la0_0, rfl, rfl, wa0_0, hva0_0⟩ := ha0_0
 have oa0_0 := hva0_0.one
 have ka0_1 := ha0_1
 replace ha0_1 := ak.1 ha0_1
 obtain ⟨va0_1, la0_1, rfl, rfl, wa0_1, hva0_1⟩ := ha0_1
 have oa0_1 := hva0_1.one
 have ka1 := ha1
 replace ha1 := ak.1 ha1
 obtain ⟨va1, la1, rfl, rfl, wa1, hva1⟩ := ha1
 have oa1 := hva1.one
 replace ha2 := rC.1 ha2
 obtain ⟨na2, rfl, rfl, wa2⟩ := ha2
 replace h' := df.1 h'
 obtain ⟨usb, rfl, h'⟩ := h'
 replace h' := ai.1 h'
 obtain ⟨cb0, db0, ub0, rrb0, rfl, rfl, hb0, h'⟩ := h'
 replace h' := ai.1 h'
 obtain ⟨cb1, db1, ub1, rrb1, rfl, rfl, hb1, h'⟩ := h'
 replace h' := ai.1 h'
 obtain ⟨cb2, db2, ub2, rrb2, rfl, rfl, hb2, h'⟩ := h'
 replace h' := aV.1 h'
 obtain ⟨rfl, rfl⟩ := h'
 have kb0 := hb0
 replace hb0 := df.1 hb0
 obtain ⟨usb0_, rfl, hb0⟩ := hb0
 replace hb0 := ai.1 hb0
 obtain ⟨cb0_0, db0_0, ub0_0, rrb0_0, rfl, rfl, hb0_0, hb0⟩ := hb0
 replace hb0 := ai.1 hb0
 obtain ⟨cb0_1, db0_1, ub0_1, rrb0_1, rfl, rfl, hb0_1, hb0⟩ := hb0
 replace hb0 := aV.1 hb0
 obtain ⟨rfl, rfl⟩ := hb0
 have kb0_0 := hb0_0
 replace hb0_0 := ak.1 hb0_0
 obtain ⟨vb0_0, lb0_0, rfl, rfl, wb0_0, hvb0_0⟩ := hb0_0
 have ob0_0 := hvb0_0.one
 have kb0_1 := hb0_1
 replace hb0_1 := ak.1 hb0_1
 obtain ⟨vb0_1, lb0_1, rfl, rfl, wb0_1, hvb0_1⟩ := hb0_1
 have ob0_1 := hvb0_1.one
 have kb1 := hb1
 replace hb1 := ak.1 hb1
 obtain ⟨vb1, lb1, rfl, rfl, wb1, hvb1⟩ := hb1
 have ob1 := hvb1.one
 replace hb2 := rC.1 hb2
 obtain ⟨nb2, rfl, rfl, wb2⟩ := hb2
 obtain ⟨t0, e0, q0⟩ := MI H _ _ _ _ ka0 kb0
 simp only [aG, List.headD_cons, List.append_nil, List.cons_append, List.nil_append] at q0
 cases t0 with
 | false =>
  have e0 : ¬ (.st [(.lst la0_0), (.lst la0_1)]) = (U.st [(U.lst lb0_0), (U.lst lb0_1)]) := fun h => by simpa using e0.2 h
  refine ⟨false, by simp only [U.st.injEq, List.cons.injEq, e0, and_false, false_and, Bool.false_eq_true], ?_⟩
  apply Ret.eq
  rw [Tv]
  simp [wU, Tryz.f36, aG, q0, oa0_0, oa0_1, oa1, ob0_0, ob0_1, ob1]
 | true =>
 have e0 := e0.1 rfl
 obtain ⟨t1, e1, q1⟩ := BC H _ _ _ _ ka1 kb1
 simp only [aG, List.headD_cons, List.append_nil, List.cons_append, List.nil_append] at q1
 cases t1 with
 | false =>
  have e1 : ¬ (.lst la1) = (U.lst lb1) := fun h => by simpa using e1.2 h
  refine ⟨false, by simp only [U.st.injEq, List.cons.injEq, e1, and_false, false_and, Bool.false_eq_true], ?_⟩
  apply Ret.eq
  rw [Tv]
  simp [wU, Tryz.f36, aG, q0, q1, oa0_0, oa0_1, oa1, ob0_0, ob0_1, ob1]
 | true =>
 have e1 := e1.1 rfl
 by_cases e2 : na2 = nb2
 rotate_left
 ·refine ⟨false, by simp [e2], ?_⟩
  apply Ret.eq
  rw [Tv]
  simp [wU, Tryz.f36, aG, q0, q1, e2, oa0_0, oa0_1, oa1, ob0_0, ob0_1, ob1]
 subst e2
 refine ⟨true, by simp only [e0, e1], ?_⟩
 apply Ret.eq
 rw [Tv]
 simp [wU, Tryz.f36, aG, q0, q1, oa0_0, oa0_1, oa1, ob0_0, ob0_1, ob1]
theorem JE : Ic 43 gB := by
 intro H cs u F k h hn hk
 obtain ⟨us, rfl, g0⟩ := dY.1 h
 obtain ⟨c1, c2, u1, us1, F1, F2, rfl, rfl, rfl, h1, g1⟩ := aC.1 g0
 obtain ⟨c3, c4, u2, us2, F3, F4, rfl, rfl, rfl, h2, g2⟩ := aC.1 g1
 obtain ⟨c5, c6, u3, us3, F5, F6, rfl, rfl, rfl, h3, g3⟩ := aC.1 g2
 obtain ⟨rfl, rfl, rfl⟩ := di.1 g3
 obtain ⟨⟨n, rfl, rfl, w⟩, rfl⟩ := vK.1 h3
 obtain ⟨e, rfl⟩ := tK (AtF.at _ h1)
 obtain ⟨v1, v2, rfl, a1, a2⟩ := mZ.1 (AtF.at _ h1)
 obtain ⟨v3, l3, rfl, rfl, l3b, _⟩ := aA.1 h2
 have ho1 := a1.one
 have ho2 := a2.one
 have ho3 : aN v3 = true ∧ cellsOf v3 = some [v3] := by
  have := At.ones _ (AtF.at _ h2)
  simp only [List.all_cons, List.all_nil, Bool.and_true] at this
  exact ⟨this, jC this⟩
 simp only [List.append_nil] at hn ⊢
 simp only [uI, lN, nO, qN, Nat.add_zero] at hk ⊢
 obtain ⟨n1, n2, nd⟩ := List.nodup_append.1 hn
 obtain ⟨H1, q1, len1, fr1, m1⟩ := Me H [v1, v2] _ F1 k h1 n1 (by omega)
 have h2' := AtF.frame (H' := H1) _ (fun q hq => fr1 q fun hm => nd q hm q hq rfl) h2
 obtain ⟨H2, q2, len2, fr2, m2⟩ := BI H1 [v3] _ F3 (k + dI e.u) h2' n2 (by omega)
 have m1' := AtF.frame (H' := H2) _ (fun q hq => fr2 q fun hm => nd q hq q hm rfl) m1
 simp only [aG, List.headD_cons] at q1 q2
 apply Ret.mark
 rw [ajv]
 simp only [Int.natCast_add] at q1 q2
 simp [Jq, Tryz.f43, aG, q1, q2, ho1, ho2, ho3, qj (len2.trans len1)]
 refine ⟨by omega, len2.trans len1, fun q hq1 hq2 => (fr2 q hq2).trans (fr1 q hq1), ?_⟩
 have hA : AtF H2 gB [v1, v2, v3, .int .i64 n] (.st [mkV e.u k, mkV (.lst l3) (k + dI e.u), .int n]) (F1 ++ F3) := dY.2 ⟨_, rfl, aC.2 ⟨[v1, v2], [v3, .int .i64 n], _, [_, .int n], F1, F3, rfl, rfl, rfl, m1', aC.2 ⟨[v3], [.int .i64 n], _, [.int n], F3, [], rfl, rfl, (List.append_nil _).symm, m2, aC.2 ⟨[.int .i64 n], [], _, [], [], [], rfl, rfl, rfl, vK.2 ⟨⟨n, rfl, rfl, w⟩, rfl⟩, di.2 ⟨rfl, rfl, rfl⟩⟩⟩⟩⟩
 have hM : mkV (U.st [e.u, .lst l3, .int n]) k = .st [mkV e.u k, mkV (.lst l3) (k + dI e.u), .int n] := by simp [mkV, IK]
 rw [hM]
 exact hA
theorem uN : uj 44 gB := by
 intro H cs u k h hk
 obtain ⟨us, hu, g0⟩ := df.1 h
 obtain ⟨us, rfl, rfl⟩ := OO hu
 obtain ⟨c1, c2, u1, us1, rfl, hu1, h1, g1⟩ := ai.1 g0
 obtain ⟨u1, us, rfl, rfl, rfl⟩ := nR hu1
 obtain ⟨c3, c4, u2, us2, rfl, hu2, h2, g2⟩ := ai.1 g1
 obtain ⟨u2, us, rfl, rfl, rfl⟩ := nR hu2
 obtain ⟨c5, c6, u3, us3, rfl, hu3, h3, g3⟩ := ai.1 g2
 obtain ⟨u3, us, rfl, rfl, rfl⟩ := nR hu3
 obtain ⟨rfl, hu4⟩ := aV.1 g3
 obtain rfl := Hf hu4
 obtain ⟨n, rfl, hn, w⟩ := rC.1 h3
 obtain rfl := TP hn
 obtain ⟨e, he⟩ := tK h1
 have h1' := h1
 rw [he] at h1'
 obtain ⟨v1, v2, rfl, a1, a2⟩ := mZ.1 h1'
 obtain ⟨v3, rfl⟩ := lX (At.len _ h2 : _ = 1)
 have ho1 := a1.one
 have ho2 := a2.one
 have ho3 : aN v3 = true ∧ cellsOf v3 = some [v3] := by
  have := At.ones _ h2
  simp only [List.all_cons, List.all_nil, Bool.and_true] at this
  exact ⟨this, jC this⟩
 simp only [uI, lN, nO, qN, Nat.add_zero] at hk ⊢
 have q1 := NU H [v1, v2] u1 k h1 (by omega)
 have q2 := xR H [v3] u2 (k + dI u1) h2 (by omega)
 simp only [aG, List.headD_cons, Int.natCast_add] at q1 q2
 have p1 : ¬ ((k : Int) + (dI u1 : Nat) < 0) := by omega
 have p2 : ¬ ((k : Int) + (dI u1 : Nat) + (dI u2 : Nat) < 0) := by omega
 apply Ret.eq
 rw [ai8]
 simp [I9, Tryz.f44, aG, q1, q2, p1, p2, ho1, ho2, ho3, Int.add_assoc]
 omega
end Go.Proofs.Try1
end
section
namespace Go.Proofs.Try1
open Go Go.Lite
attribute [-simp] lL rO
attribute [local simp] oU vP qy oV pg mY
attribute [local simp low] qi
theorem sK {H : List Ob} {c0 : List V} {u0 : U} {c1 : List V} {u1 : U} {c2 : List V} {u2 : U} {c3 : List V} {u3 : U}  {uR : U} (h0 : At H cu c0 u0) (h1 : At H (.slice shRdn) c1 u1) (h2 : At H shRdn c2 u2) (h3 : At H (.slice shRdn) c3 u3)
  (hS : ∀ (G : List Ob) (x0 x1 x2 x3 : List V), At G cu x0 u0 → At G (.slice shRdn) x1 u1 → At G shRdn x2 u2 → At G (.slice shRdn) x3 u3 → ∃ G' y, callW C 46 [aG cu x0, aG (.slice shRdn) x1, aG shRdn x2, aG (.slice shRdn) x3] G = some (aG gB y, G') ∧ Le G G' ∧ At G' gB y uR)
  (hI : ∀ (G : List Ob) (x0 x1 x2 x3 : List V), At G cu x0 u0 → At G (.slice shRdn) x1 u1 → At G shRdn x2 u2 → At G (.slice shRdn) x3 u3 → ∃ G' y, callW C 48 [aG cu x0, aG (.slice shRdn) x1, aG shRdn x2, aG (.slice shRdn) x3] G = some (aG gB y, G') ∧ Le G G' ∧ New G.length G'.length G' gB y uR)
  (hR : 1 + dI uR ≤ 50000000) : Ret C 7 [aG cu c0, aG (.slice shRdn) c1, aG shRdn c2, aG (.slice shRdn) c3] H fun r _ => r = .bool true := by
 rw [op7]
 obtain ⟨c0_0, c0_1, rfl⟩ := uM (At.len _ h0 : _ = 2)
 have on0 := dm h0
 simp only [List.mem_cons, List.not_mem_nil, or_false, forall_eq_or_imp, forall_eq] at on0
 obtain ⟨c1_0, rfl⟩ := lX (At.len _ h1 : _ = 1)
 have on1 := dm h1
 simp only [List.mem_cons, List.not_mem_nil, or_false, forall_eq_or_imp, forall_eq] at on1
 obtain ⟨c2_0, c2_1, rfl⟩ := uM (At.len _ h2 : _ = 2)
 have on2 := dm h2
 simp only [List.mem_cons, List.not_mem_nil, or_false, forall_eq_or_imp, forall_eq] at on2
 obtain ⟨c3_0, rfl⟩ := lX (At.len _ h3 : _ = 1)
 have on3 := dm h3
 simp only [List.mem_cons, List.not_mem_nil, or_false, forall_eq_or_imp, forall_eq] at on3
 simp only [aG, List.headD_cons]
 have b0 := SN H [c0_0, c0_1] _ (1048576) h0 (by omega)
 simp only [aG, List.headD_cons] at b0
 by_cases g0 : wt u0 ≤ 1048576
 rotate_left
 ·rw [if_neg g0] at b0
  simp at b0
  simp [y9, Tryz.f7, on0, on1, on2, on3, b0]
 rw [if_pos g0] at b0
 have hw0 : wt u0 ≤ 1048576 := by omega
 have p0 : ¬ (((1048576 - wt u0 : Nat) : Int) < 0) := by omega
 obtain ⟨LL0, hLL0⟩ : ∃ n, n = 1048576 - wt u0 := ⟨_, rfl⟩
 rw [← hLL0] at b0 p0
 have q0 : LL0 + wt u0 = 1048576 := by omega
 have b1 := Dv H [c1_0] _ (LL0) h1 (by omega)
 simp only [aG, List.headD_cons] at b1
 by_cases g1 : wt u1 ≤ LL0
 rotate_left
 ·rw [if_neg g1] at b1
  simp at b0 b1
  simp [y9, Tryz.f7, on0, on1, on2, on3, b0, p0, b1]
 rw [if_pos g1] at b1
 have hw1 : wt u1 ≤ 1048576 := by omega
 have p1 : ¬ (((LL0 - wt u1 : Nat) : Int) < 0) := by omega
 obtain ⟨LL1, hLL1⟩ : ∃ n, n = LL0 - wt u1 := ⟨_, rfl⟩
 rw [← hLL1] at b1 p1
 have q1 : LL1 + wt u1 = LL0 := by omega
 have b2 := QO H [c2_0, c2_1] _ (LL1) h2 (by omega)
 simp only [aG, List.headD_cons] at b2
 by_cases g2 : wt u2 ≤ LL1
 rotate_left
 ·rw [if_neg g2] at b2
  simp at b0 b1 b2
  simp [y9, Tryz.f7, on0, on1, on2, on3, b0, p0, b1, p1, b2]
 rw [if_pos g2] at b2
 have hw2 : wt u2 ≤ 1048576 := by omega
 have p2 : ¬ (((LL1 - wt u2 : Nat) : Int) < 0) := by omega
 obtain ⟨LL2, hLL2⟩ : ∃ n, n = LL1 - wt u2 := ⟨_, rfl⟩
 rw [← hLL2] at b2 p2
 have q2 : LL2 + wt u2 = LL1 := by omega
 have b3 := Dv H [c3_0] _ (LL2) h3 (by omega)
 simp only [aG, List.headD_cons] at b3
 by_cases g3 : wt u3 ≤ LL2
 rotate_left
 ·rw [if_neg g3] at b3
  simp at b0 b1 b2 b3
  simp [y9, Tryz.f7, on0, on1, on2, on3, b0, p0, b1, p1, b2, p2, b3]
 rw [if_pos g3] at b3
 have hw3 : wt u3 ≤ 1048576 := by omega
 have p3 : ¬ (((LL2 - wt u3 : Nat) : Int) < 0) := by omega
 obtain ⟨LL3, hLL3⟩ : ∃ n, n = LL2 - wt u3 := ⟨_, rfl⟩
 rw [← hLL3] at b3 p3
 have q3 : LL3 + wt u3 = LL2 := by omega
 have L0 : Le H H := Le.refl
 obtain ⟨G1, y0, k1, s1, n1⟩ := toN yJ (h0.Le L0) hw0
 have l1 := s1.len
 have L1 := L0.trans s1
 obtain ⟨y0_0, y0_1, rfl⟩ := uM (At.len _ n1.at : _ = 2)
 have o1 := dm n1.at
 simp only [List.mem_cons, List.not_mem_nil, or_false, forall_eq_or_imp, forall_eq] at o1
 simp only [aG, List.headD_cons] at k1
 obtain ⟨G2, y1, k2, s2, n2⟩ := toN lF (h1.Le L1) hw1
 have l2 := s2.len
 have L2 := L1.trans s2
 obtain ⟨y1_0, rfl⟩ := lX (At.len _ n2.at : _ = 1)
 have o2 := dm n2.at
 simp only [List.mem_cons, List.not_mem_nil, or_false, forall_eq_or_imp, forall_eq] at o2
 simp only [aG, List.headD_cons] at k2
 obtain ⟨G3, y2, k3, s3, n3⟩ := toN EZ (h2.Le L2) hw2
 have l3 := s3.len
 have L3 := L2.trans s3
 obtain ⟨y2_0, y2_1, rfl⟩ := uM (At.len _ n3.at : _ = 2)
 have o3 := dm n3.at
 simp only [List.mem_cons, List.not_mem_nil, or_false, forall_eq_or_imp, forall_eq] at o3
 simp only [aG, List.headD_cons] at k3
 obtain ⟨G4, y3, k4, s4, n4⟩ := toN lF (h3.Le L3) hw3
 have l4 := s4.len
 have L4 := L3.trans s4
 obtain ⟨y3_0, rfl⟩ := lX (At.len _ n4.at : _ = 1)
 have o4 := dm n4.at
 simp only [List.mem_cons, List.not_mem_nil, or_false, forall_eq_or_imp, forall_eq] at o4
 simp only [aG, List.headD_cons] at k4
 obtain ⟨G5, w, k5, s5, n5⟩ := hS _ [y0_0, y0_1] [y1_0] [y2_0, y2_1] [y3_0] (n1.at.Le (Le.trans (Le.trans s2 s3) s4)) (n2.at.Le (Le.trans s3 s4)) (n3.at.Le s4) (n4.at.Le Le.refl)
 have l5 := s5.len
 have L5 := L4.trans s5
 obtain ⟨w_0, w_1, w_2, w_3, rfl⟩ := list4 (At.len _ n5 : _ = 4)
 have o5 := dm n5
 simp only [List.mem_cons, List.not_mem_nil, or_false, forall_eq_or_imp, forall_eq] at o5
 simp only [aG, List.headD_cons] at k5
 obtain ⟨G6, z0, k6, s6, n6⟩ := toN yJ (h0.Le L5) hw0
 have l6 := s6.len
 have L6 := L5.trans s6
 obtain ⟨z0_0, z0_1, rfl⟩ := uM (At.len _ n6.at : _ = 2)
 have o6 := dm n6.at
 simp only [List.mem_cons, List.not_mem_nil, or_false, forall_eq_or_imp, forall_eq] at o6
 simp only [aG, List.headD_cons] at k6
 obtain ⟨G7, z1, k7, s7, n7⟩ := toN lF (h1.Le L6) hw1
 have l7 := s7.len
 have L7 := L6.trans s7
 obtain ⟨z1_0, rfl⟩ := lX (At.len _ n7.at : _ = 1)
 have o7 := dm n7.at
 simp only [List.mem_cons, List.not_mem_nil, or_false, forall_eq_or_imp, forall_eq] at o7
 simp only [aG, List.headD_cons] at k7
 obtain ⟨G8, z3, k8, s8, n8⟩ := toN lF (h3.Le L7) hw3
 have l8 := s8.len
 have L8 := L7.trans s8
 obtain ⟨z3_0, rfl⟩ := lX (At.len _ n8.at : _ = 1)
 have o8 := dm n8.at
 simp only [List.mem_cons, List.not_mem_nil, or_false, forall_eq_or_imp, forall_eq] at o8
 simp only [aG, List.headD_cons] at k8
 obtain ⟨G9, z2, k9, s9, n9⟩ := toN EZ (h2.Le L8) hw2
 have l9 := s9.len
 have L9 := L8.trans s9
 obtain ⟨z2_0, z2_1, rfl⟩ := uM (At.len _ n9.at : _ = 2)
 have o9 := dm n9.at
 simp only [List.mem_cons, List.not_mem_nil, or_false, forall_eq_or_imp, forall_eq] at o9
 simp only [aG, List.headD_cons] at k9
 obtain ⟨G10, g, k10, s10, n10⟩ := hI _ [z0_0, z0_1] [z1_0] [z2_0, z2_1] [z3_0] (n6.at.Le (Le.trans (Le.trans s7 s8) s9)) (n7.at.Le (Le.trans s8 s9)) (n9.at.Le Le.refl) (n8.at.Le s9)
 have l10 := s10.len
 have L10 := L9.trans s10
 obtain ⟨g_0, g_1, g_2, g_3, rfl⟩ := list4 (At.len _ n10.at : _ = 4)
 have o10 := dm n10.at
 simp only [List.mem_cons, List.not_mem_nil, or_false, forall_eq_or_imp, forall_eq] at o10
 simp only [aG, List.headD_cons] at k10
 have k11 := eqN tN n10.at (n5.Le (Le.trans (Le.trans (Le.trans (Le.trans s6 s7) s8) s9) s10))
 simp only [aG, List.headD_cons] at k11
 obtain ⟨G11, v0, k12, s11, n11⟩ := toN yJ (h0.Le L10) hw0
 have l11 := s11.len
 have L11 := L10.trans s11
 obtain ⟨v0_0, v0_1, rfl⟩ := uM (At.len _ n11.at : _ = 2)
 have o11 := dm n11.at
 simp only [List.mem_cons, List.not_mem_nil, or_false, forall_eq_or_imp, forall_eq] at o11
 simp only [aG, List.headD_cons] at k12
 have k13 := eqN MI (n6.at.Le (Le.trans (Le.trans (Le.trans (Le.trans s7 s8) s9) s10) s11)) n11.at
 simp only [aG, List.headD_cons] at k13
 obtain ⟨G12, v1, k14, s12, n12⟩ := toN lF (h1.Le L11) hw1
 have l12 := s12.len
 have L12 := L11.trans s12
 obtain ⟨v1_0, rfl⟩ := lX (At.len _ n12.at : _ = 1)
 have o12 := dm n12.at
 simp only [List.mem_cons, List.not_mem_nil, or_false, forall_eq_or_imp, forall_eq] at o12
 simp only [aG, List.headD_cons] at k14
 have k15 := eqN Eu (n7.at.Le (Le.trans (Le.trans (Le.trans (Le.trans s8 s9) s10) s11) s12)) n12.at
 simp only [aG, List.headD_cons] at k15
 obtain ⟨G13, v3, k16, s13, n13⟩ := toN lF (h3.Le L12) hw3
 have l13 := s13.len
 have L13 := L12.trans s13
 obtain ⟨v3_0, rfl⟩ := lX (At.len _ n13.at : _ = 1)
 have o13 := dm n13.at
 simp only [List.mem_cons, List.not_mem_nil, or_false, forall_eq_or_imp, forall_eq] at o13
 simp only [aG, List.headD_cons] at k16
 have k17 := eqN Eu (n8.at.Le (Le.trans (Le.trans (Le.trans (Le.trans s9 s10) s11) s12) s13)) n13.at
 simp only [aG, List.headD_cons] at k17
 have hsum : wt u0 + wt u1 + wt u2 + wt u3 ≤ 1048576 := by omega
 have cb0 := oL h0 40 (by decide)
 have cb1 := oL h1 40 (by decide)
 have cb2 := oL h2 40 (by decide)
 have cb3 := oL h3 40 (by decide)
 have m6 := n6.Le (Le.trans (Le.trans (Le.trans (Le.trans (Le.trans (Le.trans s7 s8) s9) s10) s11) s12) s13)
 have m7 := n7.Le (Le.trans (Le.trans (Le.trans (Le.trans (Le.trans s8 s9) s10) s11) s12) s13)
 have m8 := n8.Le (Le.trans (Le.trans (Le.trans (Le.trans s9 s10) s11) s12) s13)
 have mR := n10.Le (Le.trans (Le.trans s11 s12) s13)
 obtain ⟨M0, k18, ml0, mf0, mn0⟩ := mkN (k := 1) Me m6 (by omega)
 simp only [aG, List.headD_cons] at k18
 have m7 := New.frame (G' := M0) m7 (fun q h1 h2 => mf0 q (by omega))
 have m8 := New.frame (G' := M0) m8 (fun q h1 h2 => mf0 q (by omega))
 have mR := New.frame (G' := M0) mR (fun q h1 h2 => mf0 q (by omega))
 obtain ⟨K0, hK0⟩ : ∃ n, n = 1 + dI u0 := ⟨_, rfl⟩
 rw [← hK0] at k18
 obtain ⟨M1, k19, ml1, mf1, mn1⟩ := mkN (k := K0) Fp m7 (by omega)
 simp only [aG, List.headD_cons] at k19
 have m8 := New.frame (G' := M1) m8 (fun q h1 h2 => mf1 q (by omega))
 have mR := New.frame (G' := M1) mR (fun q h1 h2 => mf1 q (by omega))
 obtain ⟨K1, hK1⟩ : ∃ n, n = K0 + dI u1 := ⟨_, rfl⟩
 rw [← hK1] at k19
 obtain ⟨M2, k20, ml2, mf2, mn2⟩ := mkN (k := K1) Fp m8 (by omega)
 simp only [aG, List.headD_cons] at k20
 have mR := New.frame (G' := M2) mR (fun q h1 h2 => mf2 q (by omega))
 obtain ⟨K2, hK2⟩ : ∃ n, n = K1 + dI u3 := ⟨_, rfl⟩
 rw [← hK2] at k20
 have hKb : K2 ≤ 50000000 := by omega
 have pK : ¬ ((K2 : Int) < 0) := by omega
 have upS : Up G5 M2 := fun q o hq => by
  have hql := (List.getElem?_eq_some_iff.1 hq).1
  rw [mf2 q (.inl (by omega)), mf1 q (.inl (by omega)), mf0 q (.inl (by omega))]
  exact ((Le.trans (Le.trans (Le.trans (Le.trans (Le.trans (Le.trans (Le.trans s6 s7) s8) s9) s10) s11) s12) s13) : Le _ _).up q o hq
 have k21 := eqN tN mR.at (n5.Up upS)
 simp only [aG, List.headD_cons] at k21
 obtain ⟨Q, k22, ql, qf, qn⟩ := mkN (k := 1) JE mR hR
 simp only [aG, List.headD_cons] at k22
 have upQ : Up G5 Q := fun q o hq => by
  have hql := (List.getElem?_eq_some_iff.1 hq).1
  rw [qf q (.inl (by omega))]
  exact upS q o hq
 have upH : Up H Q := L5.up.trans upQ
 have k23 := uN Q [g_0, g_1, g_2, g_3] _ 1 qn.at hR
 simp only [aG, List.headD_cons] at k23
 have R0 : Le Q Q := Le.refl
 have L14 := R0
 obtain ⟨G15, zz0, k24, s15, n15⟩ := toN yJ ((h0.Up upH).Le L14) hw0
 have l15 := s15.len
 have L15 := L14.trans s15
 obtain ⟨zz0_0, zz0_1, rfl⟩ := uM (At.len _ n15.at : _ = 2)
 have o15 := dm n15.at
 simp only [List.mem_cons, List.not_mem_nil, or_false, forall_eq_or_imp, forall_eq] at o15
 simp only [aG, List.headD_cons] at k24
 obtain ⟨G16, zz1, k25, s16, n16⟩ := toN lF ((h1.Up upH).Le L15) hw1
 have l16 := s16.len
 have L16 := L15.trans s16
 obtain ⟨zz1_0, rfl⟩ := lX (At.len _ n16.at : _ = 1)
 have o16 := dm n16.at
 simp only [List.mem_cons, List.not_mem_nil, or_false, forall_eq_or_imp, forall_eq] at o16
 simp only [aG, List.headD_cons] at k25
 obtain ⟨G17, zz2, k26, s17, n17⟩ := toN EZ ((h2.Up upH).Le L16) hw2
 have l17 := s17.len
 have L17 := L16.trans s17
 obtain ⟨zz2_0, zz2_1, rfl⟩ := uM (At.len _ n17.at : _ = 2)
 have o17 := dm n17.at
 simp only [List.mem_cons, List.not_mem_nil, or_false, forall_eq_or_imp, forall_eq] at o17
 simp only [aG, List.headD_cons] at k26
 obtain ⟨G18, zz3, k27, s18, n18⟩ := toN lF ((h3.Up upH).Le L17) hw3
 have l18 := s18.len
 have L18 := L17.trans s18
 obtain ⟨zz3_0, rfl⟩ := lX (At.len _ n18.at : _ = 1)
 have o18 := dm n18.at
 simp only [List.mem_cons, List.not_mem_nil, or_false, forall_eq_or_imp, forall_eq] at o18
 simp only [aG, List.headD_cons] at k27
 obtain ⟨G19, gg, k28, s19, n19⟩ := hI _ [zz0_0, zz0_1] [zz1_0] [zz2_0, zz2_1] [zz3_0] (n15.at.Le (Le.trans (Le.trans s16 s17) s18)) (n16.at.Le (Le.trans s17 s18)) (n17.at.Le s18) (n18.at.Le Le.refl)
 have l19 := s19.len
 have L19 := L18.trans s19
 obtain ⟨gg_0, gg_1, gg_2, gg_3, rfl⟩ := list4 (At.len _ n19.at : _ = 4)
 have o19 := dm n19.at
 simp only [List.mem_cons, List.not_mem_nil, or_false, forall_eq_or_imp, forall_eq] at o19
 simp only [aG, List.headD_cons] at k28
 have k29 := eqN tN n19.at ((n5.Up upQ).Le L19)
 simp only [aG, List.headD_cons] at k29
 have k30 := uN G19 [g_0, g_1, g_2, g_3] _ 1 (qn.at.Le L19) hR
 simp only [aG, List.headD_cons] at k30
 obtain ⟨KR, hKR⟩ : ∃ n, n = 1 + dI uR := ⟨_, rfl⟩
 rw [← hKR] at k22
 rw [← hKR] at k23
 rw [← hKR] at k30
 have pR : ¬ ((KR : Int) < 0) := by omega
 clear upS upQ upH
 simp at b0 k18 k22 k23 k30
 simp (maxSteps := 2000000) [y9, Tryz.f7, on0, on1, on2, on3, b0, p0, b1, p1, b2, p2, b3, p3, k1, o1, k2, o2, k3, o3, k4, o4, k5, o5, k6, o6, k7, o7, k8, o8, k9, o9, k10, o10, k11, k12, o11, k13, k14, o12, k15, k16, o13, k17, k18, k19, k20, pK, k21, k22, k23, k24, o15, k25, o16, k26, o17, k27, o18, k28, o19, k29, k30, pR, ae, ag, List.lookup]
end Go.Proofs.Try1
end
section
namespace Go.Lite
open Go
section
variable {α : Type} {G : List Ob} {sh : Sh} {f : α → U} {v : V} {l : List α} {F : List Nat}
theorem y7 {D : List V} {s i j : Nat} (h : j * s + s ≤ i * s) : ((D.take (i * s)).drop (j * s)).take s = (D.drop (j * s)).take s := by
 apply List.ext_getElem?
 intro q
 by_cases hq : q < s
 ·rw [List.getElem?_take_of_lt hq, List.getElem?_take_of_lt hq, List.getElem?_drop, List.getElem?_take_of_lt (by omega), List.getElem?_drop]
 ·rw [List.getElem?_eq_none (by simp; omega), List.getElem?_eq_none (by simp; omega)]
theorem NG {D c : List V} {s n i : Nat} (hD : D.length = n * s) (hc : c.length = s) (hi : i ≤ n) {j : Nat} :
  (j < i → ((D.take (i * s) ++ c ++ D.drop (i * s)).drop (j * s)).take s = (D.drop (j * s)).take s) ∧ (j = i → ((D.take (i * s) ++ c ++ D.drop (i * s)).drop (j * s)).take s = c) ∧
  (∀ t, j = i + 1 + t → ((D.take (i * s) ++ c ++ D.drop (i * s)).drop (j * s)).take s = (D.drop ((i + t) * s)).take s) := by
 have hin : i * s ≤ n * s := Nat.mul_le_mul_right _ hi
 have hA : (D.take (i * s)).length = i * s := by simp; omega
 refine ⟨fun h => ?_, fun h => ?_, fun t h => ?_⟩
 ·have hm := dW (s := s) h
  rw [List.append_assoc, List.drop_append_of_le_length (by omega), List.take_append_of_le_length (by simp; omega)]
  exact y7 hm
 ·subst h
  rw [List.append_assoc, List.drop_append_of_le_length (by omega), List.drop_of_length_le (by omega), List.nil_append, List.take_append_of_le_length (by omega), List.take_of_length_le (by omega)]
 ·subst h
  have e1 : (i + 1 + t) * s = (D.take (i * s) ++ c).length + t * s := by rw [List.length_append, hA, hc]; simp [Nat.add_mul]
  rw [e1, ← List.drop_drop, List.drop_left, List.drop_drop]
  congr 2
  rw [Nat.add_mul]
theorem take_get? {α : Type} {l : List α} {i j : Nat} {x : α} : (l.take i ++ x :: l.drop i)[j]? = if j < i ∧ j < l.length then l[j]? else if j = min i l.length then some x else l[j - 1]? := by
 by_cases h1 : j < (l.take i).length
 ·rw [List.getElem?_append_left h1]
  have h2 : j < i ∧ j < l.length := by simp at h1; omega
  rw [if_pos h2, List.getElem?_take_of_lt h2.1]
 ·rw [List.getElem?_append_right (by omega)]
  have h2 : ¬ (j < i ∧ j < l.length) := by simp at h1; omega
  rw [if_neg h2]
  have hl : (l.take i).length = min i l.length := List.length_take
  by_cases h3 : j = min i l.length
  ·rw [if_pos h3, hl, h3, Nat.sub_self]; rfl
  ·rw [if_neg h3, hl]
   obtain ⟨k, hk⟩ : ∃ k, j - min i l.length = k + 1 := ⟨j - min i l.length - 1, by omega⟩
   rw [hk, List.getElem?_cons_succ, List.getElem?_drop]
   by_cases h4 : i ≤ l.length
   ·congr 1; omega
   ·rw [List.getElem?_eq_none (by omega), List.getElem?_eq_none (by omega)]
theorem mO {Fs : List (List Nat)} {K : List Nat} {i : Nat} : ∀ q, q ∈ (Fs.take i ++ K :: Fs.drop i).flatten ↔ q ∈ Fs.flatten ∨ q ∈ K := by
 intro q
 have h : Fs.flatten = (Fs.take i).flatten ++ (Fs.drop i).flatten := by rw [← List.flatten_append, List.take_append_drop]
 rw [h, List.flatten_append, List.flatten_cons]
 simp only [List.mem_append]
 constructor
 ·rintro (h | h | h) <;> simp [h]
 ·rintro ((h | h) | h) <;> simp [h]
theorem mV {Fs : List (List Nat)} {K : List Nat} {i : Nat} (h1 : Fs.flatten.Nodup) (h2 : K.Nodup) (h3 : ∀ q ∈ K, q ∉ Fs.flatten) : (Fs.take i ++ K :: Fs.drop i).flatten.Nodup := by
 have h : Fs.flatten = (Fs.take i).flatten ++ (Fs.drop i).flatten := by rw [← List.flatten_append, List.take_append_drop]
 rw [h] at h1 h3
 rw [List.flatten_append, List.flatten_cons]
 obtain ⟨a1, a2, a3⟩ := List.nodup_append.1 h1
 refine List.nodup_append.2 ⟨a1, List.nodup_append.2 ⟨h2, a2, fun a ha b hb e => ?_⟩, fun a ha b hb e => ?_⟩
 ·subst e; exact h3 a ha (List.mem_append_right _ hb)
 ·subst e
  rcases List.mem_append.1 hb with hb | hb
  ·exact h3 a hb (List.mem_append_left _ ha)
  ·exact a3 a ha a hb rfl
theorem KY (h : AtF G (.slice sh) [v] (.lst (l.map f)) F) (hn : F.Nodup) {x : α} {c : List V} {K : List Nat} (hx : AtF G sh c (f x) K) (hxn : K.Nodup) (hd : ∀ q ∈ K, q ∉ F) {i : Nat} (hi : i ≤ l.length) (hl : l.length ≤ 1000000) (hs : sh.size ≠ 0) :
  ∃ v' G' F', fG sh.size [v, .int .i64 i, .slc (some (G.length, 0)) 1] (G ++ [.mk true sh.size c]) = some (v', G') ∧ AtF G' (.slice sh) [v'] (.lst ((l.take i ++ x :: l.drop i).map f)) F' ∧ F'.Nodup ∧
   (∀ q ∈ F', q ∈ F ∨ q ∈ K ∨ q = G.length + 1) ∧ (∀ q, q ∉ F → q < G.length → G'[q]? = G[q]?) ∧ G'.length = G.length + 2 ∧ v' = .slc (some (G.length + 1, 0)) (l.length + 1) := by
 obtain ⟨w, us, hw, hus, hlen, h⟩ := aA.1 h
 cases hw
 cases hus
 have hcl : c.length = sh.size := At.len _ (AtF.at _ hx)
 have hco : c.all aN = true := At.ones _ (AtF.at _ hx)
 have hget : (G ++ [Ob.mk true sh.size c])[G.length]? = some (.mk true sh.size c) := get_last
 have hK := AtF.mem _ hx
 have hcond : sh.size = sh.size ∧ c.length = sh.size ∧ (0 : Int) ≤ (i : Int) ∧ (i : Int) ≤ ((l.length : Nat) : Int) ∧ l.length ≤ 1000000 ∧ c.all aN = true := ⟨rfl, hcl, by omega, by omega, hl, hco⟩
 rcases h with ⟨rfl, hl0, rfl⟩ | ⟨id, off, cells, Fs, rfl, h2, h3, h4, rfl, h6⟩
 ·have hl0 : l = [] := by simpa using hl0
  subst hl0
  have hi0 : i = 0 := by simpa using hi
  subst hi0
  refine ⟨.slc (some (G.length + 1, 0)) 1, G ++ [.mk true sh.size c] ++ [.mk true sh.size c], (G.length + 1) :: K, ?_, ?_, ?_, fun q hq => ?_, fun q _ hq => ?_, by simp, by simp⟩
  ·simp [fG, hcl, hco]
  ·refine aA.2 ⟨_, [f x], rfl, rfl, by simp [maxLen], .inr ⟨G.length + 1, 0, c, [K], rfl, by simp, by simp [hcl], rfl, by simp, fun j y Fj hy hFj => ?_⟩⟩
   have hj : j = 0 := by have := (List.getElem?_eq_some_iff.1 hy).1; simpa using this
   subst hj
   cases hy
   cases hFj
   rw [Nat.zero_mul, Nat.add_zero, List.drop_zero, List.take_of_length_le (by omega)]
   exact hx.ext.ext
  ·exact List.nodup_cons.2 ⟨fun hm => by have := hK _ hm; omega, hxn⟩
  ·rcases List.mem_cons.1 hq with rfl | hq
   ·exact .inr (.inr rfl)
   ·exact .inr (.inl hq)
  ·rw [List.append_assoc, List.getElem?_append_left hq]
 ·rw [List.length_map] at h3 h4 hlen
  have hid : id < G.length := (List.getElem?_eq_some_iff.1 h2).1
  have hidx : id ≠ G.length := by omega
  obtain ⟨D, hD⟩ : ∃ D, D = (cells.drop off).take (l.length * sh.size) := ⟨_, rfl⟩
  have hDl : D.length = l.length * sh.size := by rw [hD]; simp; omega
  have hg2 : (G ++ [Ob.mk true sh.size c])[id]? = some (.mk true sh.size cells) := aZ _ _ h2
  have him : i * sh.size ≤ l.length * sh.size := Nat.mul_le_mul_right _ hi
  have hcells : ((cells.drop off).take (i * sh.size)) ++ c ++ (((cells.drop off).take (l.length * sh.size)).drop (i * sh.size)) = D.take (i * sh.size) ++ c ++ D.drop (i * sh.size) := by
   rw [hD, List.take_take, Nat.min_eq_left him]
  obtain ⟨N, hN⟩ : ∃ N, N = D.take (i * sh.size) ++ c ++ D.drop (i * sh.size) := ⟨_, rfl⟩
  have hNl : N.length = (l.length + 1) * sh.size := by
   have e1 : (D.take (i * sh.size)).length = i * sh.size := by rw [List.length_take, hDl]; omega
   rw [hN, List.length_append, List.length_append, e1, hcl, List.length_drop, hDl, Nat.add_mul]; omega
  have hlen2 : ((G ++ [Ob.mk true sh.size c]).set id .dead).length = G.length + 1 := by simp
  have hfr : ∀ q, q ≠ id → q < G.length → ((G ++ [Ob.mk true sh.size c]).set id .dead ++ [Ob.mk true sh.size N])[q]? = G[q]? := fun q hq hql => by
   rw [List.getElem?_append_left (by omega), List.getElem?_set_ne (fun e => hq e.symm), List.getElem?_append_left hql]
  obtain ⟨hnid, hnf⟩ := List.nodup_cons.1 hn
  have hFlt : ∀ j y Fj, (l.map f)[j]? = some y → Fs[j]? = some Fj → ∀ q ∈ Fj, q < G.length ∧ q ≠ id := fun j y Fj hy hFj q hq => ⟨AtF.mem _ (h6 j y Fj hy hFj) q hq, fun e => hnid (e ▸ List.mem_flatten.2 ⟨Fj, List.mem_of_getElem? hFj, hq⟩)⟩
  have hlen3 : (l.take i ++ x :: l.drop i).length = l.length + 1 := by simp; omega
  have hKid : id ∉ K := fun hm => hd id hm List.mem_cons_self
  refine ⟨.slc (some (G.length + 1, 0)) (l.length + 1), (G ++ [Ob.mk true sh.size c]).set id .dead ++ [Ob.mk true sh.size N], (G.length + 1) :: (Fs.take i ++ K :: Fs.drop i).flatten, ?_, ?_, ?_, fun q hq => ?_, fun q hqF hq => hfr q (fun e => hqF (by rw [e]; exact List.mem_cons_self)) hq, by simp, by simp⟩
  ·have hone : ((cells.drop off).take (l.length * sh.size)).all aN = true := by
    rw [← hD]
    refine su hDl fun j hj => ?_
    obtain ⟨Fj, hFj⟩ : ∃ Fj, Fs[j]? = some Fj := ⟨_, List.getElem?_eq_getElem (by omega)⟩
    have h7 := h6 j (f l[j]) Fj (by rw [List.getElem?_map, List.getElem?_eq_getElem hj]; rfl) hFj
    rw [hD, kD h3 hj]
    exact At.ones _ (AtF.at _ h7)
   simp only [fG, hget, List.length_map, hg2]
   rw [if_pos ⟨trivial, hcond.2⟩, if_pos ⟨trivial, hidx, h3, hone⟩, Int.toNat_natCast, hcells, ← hN]
   simp
  ·refine aA.2 ⟨.slc (some (G.length + 1, 0)) (l.length + 1), (l.take i ++ x :: l.drop i).map f, rfl, rfl, by rw [List.length_map, hlen3]; unfold maxLen; omega, .inr ⟨G.length + 1, 0, N, Fs.take i ++ K :: Fs.drop i, by rw [List.length_map, hlen3], by rw [← hlen2, get_last], by rw [List.length_map, hlen3, hNl]; omega, by rw [List.length_map, hlen3]; simp; omega, rfl, fun j y Fj hy hFj => ?_⟩⟩
   rw [List.getElem?_map, take_get?] at hy
   rw [take_get?] at hFj
   obtain ⟨c1, c2, c3⟩ := NG (j := j) hDl hcl hi
   rw [← hN] at c1 c2 c3
   rw [Nat.zero_add]
   have hmin : min i l.length = i := by omega
   have hmin' : min i Fs.length = i := by omega
   by_cases j1 : j < i
   ·rw [if_pos ⟨j1, by omega⟩] at hy hFj
    rw [c1 j1, hD, kD h3 (by omega)]
    have h7 := h6 j y Fj (by rw [List.getElem?_map]; exact hy) hFj
    exact AtF.frame _ (fun q hq => hfr q (hFlt j y Fj (by rw [List.getElem?_map]; exact hy) hFj q hq).2 (hFlt j y Fj (by rw [List.getElem?_map]; exact hy) hFj q hq).1) h7
   ·rw [if_neg (by omega)] at hy hFj
    by_cases j2 : j = i
    ·rw [hmin, if_pos j2] at hy
     rw [hmin', if_pos j2] at hFj
     cases hy
     cases hFj
     rw [c2 j2]
     exact AtF.frame _ (fun q hq => hfr q (fun e => hKid (e ▸ hq)) (hK q hq)) hx
    ·rw [hmin, if_neg j2] at hy
     rw [hmin', if_neg j2] at hFj
     obtain ⟨t, ht⟩ : ∃ t, j = i + 1 + t := ⟨j - i - 1, by omega⟩
     have hj1 : j - 1 = i + t := by omega
     rw [hj1] at hy hFj
     have hlt : i + t < l.length := by
      cases hh : l[i + t]? with
      | none => rw [hh] at hy; cases hy
      | some z => exact (List.getElem?_eq_some_iff.1 hh).1
     rw [c3 t ht, hD, kD h3 hlt]
     have h7 := h6 (i + t) y Fj (by rw [List.getElem?_map]; exact hy) hFj
     exact AtF.frame _ (fun q hq => hfr q (hFlt _ y Fj (by rw [List.getElem?_map]; exact hy) hFj q hq).2 (hFlt _ y Fj (by rw [List.getElem?_map]; exact hy) hFj q hq).1) h7
  ·refine List.nodup_cons.2 ⟨fun hm => ?_, mV hnf hxn fun q hq hm => hd q hq (List.mem_cons_of_mem _ hm)⟩
   rcases (mO _).1 hm with hm | hm
   ·obtain ⟨Fj, hF1, hF2⟩ := List.mem_flatten.1 hm
    obtain ⟨j, hj, rfl⟩ := List.getElem_of_mem hF1
    have := hFlt j ((l.map f)[j]'(by simp; omega)) Fs[j] (List.getElem?_eq_getElem _) (List.getElem?_eq_getElem _) _ hF2
    omega
   ·have := hK _ hm; omega
  ·rcases List.mem_cons.1 hq with rfl | hq
   ·exact .inr (.inr rfl)
   ·rcases (mO _).1 hq with hq | hq
    ·exact .inl (List.mem_cons_of_mem _ hq)
    ·exact .inr (.inl hq)
end
theorem IL {cells xs : List V} {o t s : Nat} (h : o + xs.length ≤ cells.length) (ht : t + s ≤ xs.length) : ((setRange cells o xs).drop (o + t)).take s = (xs.drop t).take s := by
 unfold setRange
 have h1 : (cells.take o).length = o := by simp; omega
 rw [List.append_assoc, ← List.drop_drop, List.drop_left' h1, List.drop_append_of_le_length (by omega), List.take_append_of_le_length (by simp; omega)]
theorem wM {cells : List V} {o : Nat} : setRange cells o [] = cells := by simp [setRange]
section
variable {α : Type} {G : List Ob} {sh : Sh} {f : α → U} {v : V} {l : List α} {F : List Nat}
theorem LZ (h : AtF G (.slice sh) [v] (.lst (l.map f)) F) (hn : F.Nodup) {i : Nat} (hi : i < l.length) (z : List V) (hz : z.length = sh.size) :
  ∃ id off cells xs F', v = .slc (some (id, off)) l.length ∧ G[id]? = some (.mk true sh.size cells) ∧ off + l.length * sh.size ≤ cells.length ∧ xs = (cells.drop (off + (i + 1) * sh.size)).take ((l.length - (i + 1)) * sh.size) ∧ xs.length = (l.length - (i + 1)) * sh.size ∧ xs.all aN = true ∧ id ∈ F ∧
   AtF (G.set id (.mk true sh.size (setRange (setRange cells (off + i * sh.size) xs) (off + (l.length - 1) * sh.size) z))) (.slice sh) [.slc (some (id, off)) (l.length - 1)] (.lst ((l.take i ++ l.drop (i + 1)).map f)) F' ∧ F'.Nodup ∧ ∀ q ∈ F', q ∈ F := by
 have h0 := h
 obtain ⟨w, us, hw, hus, hlen, h⟩ := aA.1 h
 cases hw
 cases hus
 rcases h with ⟨rfl, hl0, rfl⟩ | ⟨id, off, cells, Fs, rfl, h2, h3, h4, rfl, h6⟩
 ·have hl0 : l = [] := by simpa using hl0
  subst hl0
  simp at hi
 rw [List.length_map] at h3 h4 hlen ⊢
 have hid : id < G.length := (List.getElem?_eq_some_iff.1 h2).1
 have hsl : ASl G sh f (.slc (some (id, off)) l.length) l := by have := AtF.at _ h0; rwa [List.length_map] at this
 obtain ⟨s, hs⟩ : ∃ s, s = sh.size := ⟨_, rfl⟩
 rw [← hs] at h2 h3 h6 hz ⊢
 obtain ⟨m, hm⟩ : ∃ m, l.length = i + 1 + m := ⟨l.length - (i + 1), by omega⟩
 have e1 : l.length - (i + 1) = m := by omega
 have e2 : l.length - 1 = i + m := by omega
 rw [e1, e2]
 have f1 : l.length * s = i * s + s + m * s := by rw [hm, Nat.add_mul, Nat.add_mul, Nat.one_mul]
 have f2 : (i + 1) * s = i * s + s := by rw [Nat.add_mul, Nat.one_mul]
 have f3 : (i + m) * s = i * s + m * s := Nat.add_mul _ _ _
 obtain ⟨xs, hxs⟩ : ∃ xs, xs = (cells.drop (off + (i + 1) * s)).take (m * s) := ⟨_, rfl⟩
 have hxl : xs.length = m * s := by rw [hxs]; simp; omega
 have hch : ∀ j, j < l.length → ((cells.drop (off + j * s)).take s).all aN = true := fun j hj => by
  have := h6 j (f l[j]) (Fs[j]'(by omega)) (by rw [List.getElem?_map, List.getElem?_eq_getElem hj]; rfl) (List.getElem?_eq_getElem _)
  exact At.ones _ (AtF.at _ this)
 have hxo : xs.all aN = true := su (n := m) (s := s) hxl fun j hj => by
  rw [hxs, kD (by omega) hj, Nat.add_assoc, ← Nat.add_mul]
  exact hch _ (by omega)
 obtain ⟨hnid, hnf⟩ := List.nodup_cons.1 hn
 obtain ⟨N, hN⟩ : ∃ N, N = setRange (setRange cells (off + i * s) xs) (off + (i + m) * s) z := ⟨_, rfl⟩
 have hl1 : (setRange cells (off + i * s) xs).length = cells.length := fP (by omega)
 have hNl : N.length = cells.length := by rw [hN, fP (by rw [hl1, hz]; omega), hl1]
 have hfr : ∀ q, q ≠ id → (G.set id (.mk true s N))[q]? = G[q]? := fun q hq => List.getElem?_set_ne fun e => hq e.symm
 have hdec : Fs.flatten = (Fs.take i).flatten ++ (Fs.drop i).flatten := by rw [← List.flatten_append, List.take_append_drop]
 have hsub : List.Sublist (Fs.take i ++ Fs.drop (i + 1)).flatten Fs.flatten := by
  rw [hdec, List.flatten_append]
  refine List.Sublist.append (List.Sublist.refl _) ?_
  have hd : Fs.drop i = Fs[i]'(by omega) :: Fs.drop (i + 1) := List.drop_eq_getElem_cons (by omega)
  rw [hd, List.flatten_cons]
  exact List.sublist_append_right _ _
 have hlen3 : (l.take i ++ l.drop (i + 1)).length = i + m := by simp; omega
 refine ⟨id, off, cells, xs, id :: (Fs.take i ++ Fs.drop (i + 1)).flatten, rfl, h2, h3, hxs, hxl, hxo, List.mem_cons_self, ?_, List.nodup_cons.2 ⟨fun hm => hnid (hsub.subset hm), hnf.sublist hsub⟩, fun q hq => ?_⟩
 ·rw [← hN]
  refine aA.2 ⟨_, _, rfl, rfl, by rw [List.length_map, hlen3]; omega, .inr ⟨id, off, N, Fs.take i ++ Fs.drop (i + 1), by rw [List.length_map, hlen3], by rw [List.getElem?_set_self hid, hs], by rw [List.length_map, hlen3, hNl, ← hs]; omega, by rw [List.length_map, hlen3]; simp; omega, rfl, fun j y Fj hy hFj => ?_⟩⟩
  rw [← hs]
  rw [List.getElem?_map] at hy
  have hj : j < i + m := by
   cases hh : (l.take i ++ l.drop (i + 1))[j]? with
   | none => rw [hh] at hy; cases hy
   | some z => have := (List.getElem?_eq_some_iff.1 hh).1; omega
  have hjs : j * s + s ≤ (i + m) * s := dW hj
  have hz2 : ((N.drop (off + j * s)).take s) = ((setRange cells (off + i * s) xs).drop (off + j * s)).take s := by
   rw [hN]
   exact iV (by rw [hl1, hz]; omega) (.inl (by omega))
  rw [hz2]
  by_cases j1 : j < i
  ·have hjs' : j * s + s ≤ i * s := dW j1
   rw [iV (by omega) (.inl (by omega))]
   rw [List.getElem?_append_left (by simp; omega), List.getElem?_take_of_lt j1] at hy hFj
   have h7 := h6 j y Fj (by rw [List.getElem?_map]; exact hy) hFj
   exact AtF.frame _ (fun q hq => hfr q fun e => hnid (e ▸ List.mem_flatten.2 ⟨Fj, List.mem_of_getElem? hFj, hq⟩)) h7
  ·obtain ⟨t, ht⟩ : ∃ t, j = i + t := ⟨j - i, by omega⟩
   subst ht
   have htm : t < m := by omega
   have hts : t * s + s ≤ m * s := dW htm
   have e5 : off + (i + t) * s = off + i * s + t * s := by rw [Nat.add_mul]; omega
   rw [e5, IL (by omega) (by omega), hxs, kD (by omega) htm]
   have e6 : off + (i + 1) * s + t * s = off + (i + 1 + t) * s := by rw [Nat.add_mul (i + 1) t]; omega
   rw [e6]
   rw [List.getElem?_append_right (by rw [List.length_take]; omega), List.getElem?_drop] at hy
   rw [List.getElem?_append_right (by rw [List.length_take]; omega), List.getElem?_drop] at hFj
   have e7 : (l.take i).length = i := by simp; omega
   have e8 : (Fs.take i).length = i := by simp; omega
   rw [e7] at hy
   rw [e8] at hFj
   rw [show i + 1 + (i + t - i) = i + 1 + t by omega] at hy hFj
   have h7 := h6 (i + 1 + t) y Fj (by rw [List.getElem?_map]; exact hy) hFj
   exact AtF.frame _ (fun q hq => hfr q fun e => hnid (e ▸ List.mem_flatten.2 ⟨Fj, List.mem_of_getElem? hFj, hq⟩)) h7
 ·rcases List.mem_cons.1 hq with rfl | hq
  ·exact List.mem_cons_self
  ·exact List.mem_cons_of_mem _ (hsub.subset hq)
end
section
variable {α : Type} {G : List Ob} {sh : Sh} {f : α → U} {v : V} {l : List α} {F : List Nat}
theorem P5 (h : AtF G (.slice sh) [v] (.lst (l.map f)) F) (hn : F.Nodup) {i : Nat} (hi : i < l.length) {x : α} {c : List V} {K : List Nat} (hx : AtF G sh c (f x) K) (hxn : K.Nodup) (hd : ∀ q ∈ K, q ∉ F) :
  ∃ id off cells F', v = .slc (some (id, off)) l.length ∧ G[id]? = some (.mk true sh.size cells) ∧ off + l.length * sh.size ≤ cells.length ∧ id ∈ F ∧
   AtF (G.set id (.mk true sh.size (setRange cells (off + i * sh.size) c))) (.slice sh) [v] (.lst ((l.set i x).map f)) F' ∧ F'.Nodup ∧ ∀ q ∈ F', q ∈ F ∨ q ∈ K := by
 obtain ⟨w, us, hw, hus, hlen, h⟩ := aA.1 h
 cases hw
 cases hus
 have hcl : c.length = sh.size := At.len _ (AtF.at _ hx)
 rcases h with ⟨rfl, hl0, rfl⟩ | ⟨id, off, cells, Fs, rfl, h2, h3, h4, rfl, h6⟩
 ·have hl0 : l = [] := by simpa using hl0
  subst hl0
  simp at hi
 rw [List.length_map] at h3 h4 hlen ⊢
 have hid : id < G.length := (List.getElem?_eq_some_iff.1 h2).1
 have his : i * sh.size + sh.size ≤ l.length * sh.size := dW hi
 obtain ⟨hnid, hnf⟩ := List.nodup_cons.1 hn
 have hKid : id ∉ K := fun hm => hd id hm List.mem_cons_self
 obtain ⟨N, hN⟩ : ∃ N, N = setRange cells (off + i * sh.size) c := ⟨_, rfl⟩
 have hNl : N.length = cells.length := by rw [hN, fP (by omega)]
 have hfr : ∀ q, q ≠ id → (G.set id (.mk true sh.size N))[q]? = G[q]? := fun q hq => List.getElem?_set_ne fun e => hq e.symm
 have hset : Fs.set i K = Fs.take i ++ K :: Fs.drop (i + 1) := by rw [List.set_eq_take_append_cons_drop, if_pos (by omega)]
 have hdec : Fs.flatten = (Fs.take i).flatten ++ (Fs.drop i).flatten := by rw [← List.flatten_append, List.take_append_drop]
 have hd2 : Fs.drop i = Fs[i]'(by omega) :: Fs.drop (i + 1) := List.drop_eq_getElem_cons (by omega)
 have hmem : ∀ q ∈ (Fs.set i K).flatten, q ∈ Fs.flatten ∨ q ∈ K := fun q hq => by
  rw [hset, List.flatten_append, List.flatten_cons] at hq
  rw [hdec, hd2, List.flatten_cons]
  simp only [List.mem_append] at hq ⊢
  rcases hq with h | h | h <;> simp [h]
 refine ⟨id, off, cells, id :: (Fs.set i K).flatten, rfl, h2, h3, List.mem_cons_self, ?_, ?_, fun q hq => ?_⟩
 ·rw [← hN]
  refine aA.2 ⟨_, _, rfl, rfl, by simpa using hlen, .inr ⟨id, off, N, Fs.set i K, by simp, List.getElem?_set_self hid, by simp [hNl]; exact h3, by simp [h4], rfl, fun j y Fj hy hFj => ?_⟩⟩
  rw [List.getElem?_map] at hy
  by_cases hji : j = i
  ·subst hji
   rw [List.getElem?_set_self hi] at hy
   rw [List.getElem?_set_self (by omega)] at hFj
   cases hy
   cases hFj
   have := nC (cells := cells) (c := c) (o := off + j * sh.size) (by omega)
   rw [hcl] at this
   rw [← hN] at this
   rw [this]
   exact AtF.frame _ (fun q hq => hfr q fun e => hKid (e ▸ hq)) hx
  ·rw [List.getElem?_set_ne (fun e => hji e.symm)] at hy hFj
   have hj : j < l.length := by
    cases hh : l[j]? with
    | none => rw [hh] at hy; cases hy
    | some z => exact (List.getElem?_eq_some_iff.1 hh).1
   have hjs : j * sh.size + sh.size ≤ l.length * sh.size := dW hj
   have hap : j * sh.size + sh.size ≤ i * sh.size ∨ i * sh.size + sh.size ≤ j * sh.size := by
    rcases Nat.lt_or_gt_of_ne hji with hlt | hlt
    ·exact .inl (dW hlt)
    ·exact .inr (dW hlt)
   have hz : (N.drop (off + j * sh.size)).take sh.size = (cells.drop (off + j * sh.size)).take sh.size := by rw [hN]; exact iV (by omega) (by omega)
   rw [hz]
   have h7 := h6 j y Fj (by rw [List.getElem?_map]; exact hy) hFj
   exact AtF.frame _ (fun q hq => hfr q fun e => hnid (e ▸ List.mem_flatten.2 ⟨Fj, List.mem_of_getElem? hFj, hq⟩)) h7
 ·refine List.nodup_cons.2 ⟨fun hm => (hmem _ hm).elim hnid hKid, ?_⟩
  rw [hset, List.flatten_append, List.flatten_cons]
  rw [hdec, hd2, List.flatten_cons] at hnf
  obtain ⟨a1, a2, a3⟩ := List.nodup_append.1 hnf
  obtain ⟨b1, b2, b3⟩ := List.nodup_append.1 a2
  have hdK : ∀ q ∈ K, q ∉ Fs.flatten := fun q hq hm => hd q hq (List.mem_cons_of_mem _ hm)
  rw [hdec, hd2, List.flatten_cons] at hdK
  refine List.nodup_append.2 ⟨a1, List.nodup_append.2 ⟨hxn, b2, fun a ha b hb e => ?_⟩, fun a ha b hb e => ?_⟩
  ·subst e; exact hdK a ha (by simp [hb])
  ·subst e
   rcases List.mem_append.1 hb with hb | hb
   ·exact hdK a hb (by simp [ha])
   ·exact a3 a ha a (by simp [hb]) rfl
 ·rcases List.mem_cons.1 hq with rfl | hq
  ·exact .inl List.mem_cons_self
  ·exact (hmem q hq).imp (List.mem_cons_of_mem _) fun h => h
end
theorem wV {α : Type} {p : α → Bool} {l : List α} {i : Nat} (h1 : ∀ q x, q < i → l[q]? = some x → p x = true) (h2 : ∀ q x, i ≤ q → l[q]? = some x → p x = false) : l.filter p = l.take i := by
 have : l.filter p = (l.take i).filter p ++ (l.drop i).filter p := by rw [← List.filter_append, List.take_append_drop]
 rw [this, List.filter_eq_self.2, List.filter_eq_nil_iff.2, List.append_nil]
 ·intro x hx
  obtain ⟨j, hj, rfl⟩ := List.getElem_of_mem hx
  rw [h2 (i + j) _ (by omega) (by rw [← List.getElem?_drop]; exact List.getElem?_eq_getElem hj)]
  decide
 ·intro x hx
  obtain ⟨j, hj, rfl⟩ := List.getElem_of_mem hx
  have hj2 : j < i := by rw [List.length_take] at hj; omega
  exact h1 j _ hj2 (by rw [← List.getElem?_take_of_lt hj2]; exact List.getElem?_eq_getElem hj)
theorem xE {α : Type} {p : α → Bool} {l : List α} {i : Nat} (h1 : ∀ q x, q < i → l[q]? = some x → p x = false) (h2 : ∀ q x, i ≤ q → l[q]? = some x → p x = true) : l.filter p = l.drop i := by
 have : l.filter p = (l.take i).filter p ++ (l.drop i).filter p := by rw [← List.filter_append, List.take_append_drop]
 rw [this, List.filter_eq_nil_iff.2, List.nil_append, List.filter_eq_self.2]
 ·intro x hx
  obtain ⟨j, hj, rfl⟩ := List.getElem_of_mem hx
  exact h2 (i + j) _ (by omega) (by rw [← List.getElem?_drop]; exact List.getElem?_eq_getElem hj)
 ·intro x hx
  obtain ⟨j, hj, rfl⟩ := List.getElem_of_mem hx
  have hj2 : j < i := by rw [List.length_take] at hj; omega
  rw [h1 j _ hj2 (by rw [← List.getElem?_take_of_lt hj2]; exact List.getElem?_eq_getElem hj)]
  decide
def Rw (s : Nat) (B G : List Ob) (v : V) (n : Nat) (cs : List V) : Prop :=
 (∃ T, G = B ++ T) ∧ cs.length = n * s ∧ ((v = .slc none 0 ∧ n = 0) ∨ ∃ id, v = .slc (some (id, 0)) n ∧ B.length ≤ id ∧ G[id]? = some (.mk true s cs))
section
variable {s n m : Nat} {B G : List Ob} {v : V} {cs xs : List V}
theorem Rw.nil : Rw s B B (.slc none 0) 0 [] := ⟨⟨[], by simp⟩, by simp, .inl ⟨rfl, rfl⟩⟩
theorem Rw.init (hB : ∃ T, G = B ++ T) : Rw s B (G ++ [.mk true s []]) (.slc (some (G.length, 0)) 0) 0 [] := by
 obtain ⟨T, rfl⟩ := hB
 exact ⟨⟨T ++ [.mk true s []], by simp⟩, by simp, .inr ⟨(B ++ T).length, rfl, by simp, get_last⟩⟩
theorem Rw.pre (h : Rw s B G v n cs) : ∃ T, G = B ++ T := h.1
theorem Rw.ext {T : List Ob} (h : Rw s B G v n cs) : Rw s B (G ++ T) v n cs := by
 obtain ⟨⟨S, rfl⟩, h2, h3⟩ := h
 exact ⟨⟨S ++ T, by simp⟩, h2, h3.imp id fun ⟨id, q1, q2, q3⟩ => ⟨id, q1, q2, aZ _ _ q3⟩⟩
theorem Rw.one (h : Rw s B G v n cs) : aN v = true ∧ cellsOf v = some [v] := by
 rcases h.2.2 with ⟨rfl, _⟩ | ⟨id, rfl, _⟩ <;> exact ⟨rfl, rfl⟩
theorem Rw.many (h : Rw s B G v n cs) {d : LD} {by_ : Nat} {z : List V} {x : V} (hx : aO ⟨d, s, by_, z⟩ G x = some (xs, m)) (hm : xs.length = m * s) (ho : xs.all aN = true)
  (hz : z.length = s) (h0 : 0 < s) (hb0 : 0 < by_) (hb1 : by_ ≤ 1000000) (hb : (n + m) * by_ ≤ aJ) :
  ∃ v' G', bi ⟨d, s, by_, z⟩ G v x = some (v', G') ∧ Rw s B G' v' (n + m) (cs ++ xs) := by
 by_cases hm0 : m = 0
 ·subst hm0
  have hx0 : xs = [] := List.length_eq_zero_iff.1 (by omega)
  subst hx0
  refine ⟨v, G, ?_, by simpa using h⟩
  unfold bi
  rw [if_pos (by simp [fJ, h0, hb0, hb1, hz]), hx]
  simp only [if_true]
  rcases h.2.2 with ⟨rfl, _⟩ | ⟨id, rfl, _⟩ <;> rfl
 obtain ⟨⟨T, rfl⟩, h2, h3⟩ := h
 rcases h3 with ⟨rfl, rfl⟩ | ⟨id, rfl, q2, q3⟩
 ·have hc0 : cs = [] := List.length_eq_zero_iff.1 (by omega)
  subst hc0
  refine ⟨_, _, kT hz h0 hb0 hb1 hx hm0 ho (by simpa using hb), ⟨T ++ [.mk true s xs], by simp⟩, by simp [hm], .inr ⟨(B ++ T).length, by simp, by simp, ?_⟩⟩
  rw [List.nil_append]; exact get_last
 ·refine ⟨_, _, eY hz h0 hb0 hb1 q3 h2 hx hm0 ho hb, ⟨T.set (id - B.length) .dead ++ [.mk true s (cs ++ xs)], ?_⟩, by simp [h2, hm, Nat.add_mul], .inr ⟨(B ++ T).length, rfl, by simp, ?_⟩⟩
  ·rw [List.set_append_right _ _ q2, List.append_assoc]
  ·have hl : ((B ++ T).set id .dead).length = (B ++ T).length := List.length_set
   rw [← hl, get_last]
end
def RowsOk (B : List Ob) (sh : Sh) (cs : List V) (us : List U) (Fs : List (List Nat)) : Prop :=
 cs.length = us.length * sh.size ∧ Fs.length = us.length ∧ ∀ i x F, us[i]? = some x → Fs[i]? = some F → AtF B sh ((cs.drop (i * sh.size)).take sh.size) x F
section
variable {B G : List Ob} {sh : Sh} {cs cs' : List V} {us us' : List U} {Fs Fs' : List (List Nat)} {v : V}
theorem RowsOk.nil : RowsOk B sh [] [] [] := ⟨by simp, rfl, fun i x F h => by cases h⟩
theorem RowsOk.one {c : List V} {x : U} {F : List Nat} (h : AtF B sh c x F) : RowsOk B sh c [x] [F] := by
 have hl : c.length = sh.size := At.len _ (AtF.at _ h)
 refine ⟨by simp [hl], rfl, fun i y K hy hK => ?_⟩
 cases i with
 | zero => cases hy; cases hK; rw [Nat.zero_mul, List.drop_zero, List.take_of_length_le (by omega)]; exact h
 | succ i => cases hy
theorem RowsOk.take (h : RowsOk B sh cs us Fs) {k : Nat} (hk : k ≤ us.length) : RowsOk B sh (cs.take (k * sh.size)) (us.take k) (Fs.take k) := by
 obtain ⟨h1, h2, h3⟩ := h
 have hm : k * sh.size ≤ us.length * sh.size := Nat.mul_le_mul_right _ hk
 refine ⟨by simp [Nat.min_eq_left hk]; omega, by simp; omega, fun i x F hx hF => ?_⟩
 have hi : i < k := by have := (List.getElem?_eq_some_iff.1 hx).1; simp at this; omega
 rw [List.getElem?_take_of_lt hi] at hx hF
 have hs : i * sh.size + sh.size ≤ k * sh.size := dW hi
 have := h3 i x F hx hF
 rw [y7 hs]
 exact this
theorem RowsOk.drop (h : RowsOk B sh cs us Fs) {k : Nat} (hk : k ≤ us.length) : RowsOk B sh (cs.drop (k * sh.size)) (us.drop k) (Fs.drop k) := by
 obtain ⟨h1, h2, h3⟩ := h
 refine ⟨by simp [h1, Nat.sub_mul], by simp; omega, fun i x F hx hF => ?_⟩
 rw [List.getElem?_drop] at hx hF
 have := h3 (k + i) x F hx hF
 rw [List.drop_drop, ← Nat.add_mul]
 exact this
theorem RowsOk.append (h : RowsOk B sh cs us Fs) (h' : RowsOk B sh cs' us' Fs') : RowsOk B sh (cs ++ cs') (us ++ us') (Fs ++ Fs') := by
 obtain ⟨h1, h2, h3⟩ := h
 obtain ⟨k1, k2, k3⟩ := h'
 refine ⟨by simp [h1, k1, Nat.add_mul], by simp [h2, k2], fun i x F hx hF => ?_⟩
 by_cases hi : i < us.length
 ·rw [List.getElem?_append_left hi] at hx
  rw [List.getElem?_append_left (by omega)] at hF
  have hs : i * sh.size + sh.size ≤ us.length * sh.size := dW hi
  rw [List.drop_append_of_le_length (by omega), List.take_append_of_le_length (by simp; omega)]
  exact h3 i x F hx hF
 ·obtain ⟨t, rfl⟩ : ∃ t, i = us.length + t := ⟨i - us.length, by omega⟩
  rw [List.getElem?_append_right (by omega)] at hx hF
  rw [show us.length + t - us.length = t by omega] at hx
  rw [show us.length + t - Fs.length = t by omega] at hF
  have e : (us.length + t) * sh.size = cs.length + t * sh.size := by rw [Nat.add_mul, h1]
  rw [e, List.drop_append, List.drop_eq_nil_of_le (by omega), List.nil_append, Nat.add_sub_cancel_left]
  exact k3 t x F hx hF
theorem RowsOk.ones (h : RowsOk B sh cs us Fs) : cs.all aN = true := by
 refine su (n := us.length) (s := sh.size) h.1 fun j hj => ?_
 have hF : j < Fs.length := by rw [h.2.1]; exact hj
 exact At.ones _ (AtF.at _ (h.2.2 j us[j] Fs[j] (List.getElem?_eq_getElem hj) (List.getElem?_eq_getElem hF)))
theorem RowsOk.mem (h : RowsOk B sh cs us Fs) : ∀ q ∈ Fs.flatten, q < B.length := fun q hq => by
 obtain ⟨F, hF, hq⟩ := List.mem_flatten.1 hq
 obtain ⟨i, hi, rfl⟩ := List.getElem_of_mem hF
 have hi' : i < us.length := by rw [← h.2.1]; exact hi
 exact AtF.mem _ (h.2.2 i us[i] Fs[i] (List.getElem?_eq_getElem hi') (List.getElem?_eq_getElem hi)) q hq
theorem RowsOk.frame (h : RowsOk B sh cs us Fs) (hG : ∀ q ∈ Fs.flatten, G[q]? = B[q]?) : RowsOk G sh cs us Fs :=
 ⟨h.1, h.2.1, fun i x F hx hF => AtF.frame _ (fun q hq => hG q (List.mem_flatten.2 ⟨F, List.mem_of_getElem? hF, hq⟩)) (h.2.2 i x F hx hF)⟩
theorem Rw.slF {n : Nat} (h : Rw sh.size B G v n cs) (hr : RowsOk B sh cs us Fs) (hl : us.length = n) (hb : n ≤ maxLen) (hn : Fs.flatten.Nodup) :
  ∃ F, AtF G (.slice sh) [v] (.lst us) F ∧ F.Nodup ∧ ∀ q ∈ F, q < G.length ∧ (q ∈ Fs.flatten ∨ B.length ≤ q) := by
 obtain ⟨⟨T, rfl⟩, h2, h3⟩ := h
 subst hl
 rcases h3 with ⟨rfl, h0⟩ | ⟨id, rfl, q2, q3⟩
 ·have hu : us = [] := List.length_eq_zero_iff.1 h0
  subst hu
  exact ⟨[], aA.2 ⟨_, _, rfl, rfl, by simp, .inl ⟨rfl, rfl, rfl⟩⟩, List.nodup_nil, fun q hq => by cases hq⟩
 ·have hm := hr.mem
  refine ⟨id :: Fs.flatten, aA.2 ⟨_, _, rfl, rfl, hb, .inr ⟨id, 0, cs, Fs, rfl, q3, by rw [hr.1]; omega, hr.2.1, rfl, fun i x F hx hF => ?_⟩⟩, List.nodup_cons.2 ⟨fun hq => by have := hm id hq; omega, hn⟩, fun q hq => ?_⟩
  ·rw [Nat.zero_add]
   exact (hr.2.2 i x F hx hF).ext
  ·rcases List.mem_cons.1 hq with rfl | hq
   ·exact ⟨(List.getElem?_eq_some_iff.1 q3).1, .inr q2⟩
   ·exact ⟨by have := hm q hq; simp; omega, .inl hq⟩
theorem AtF.rows {F : List Nat} (h : AtF B (.slice sh) [v] (.lst us) F) (hn : F.Nodup) : ∃ p cs Fs, v = .slc p us.length ∧ RowsOk B sh cs us Fs ∧ Fs.flatten.Nodup ∧ (∀ q ∈ Fs.flatten, q ∈ F) ∧
  ((p = none ∧ us = []) ∨ ∃ id off cells, p = some (id, off) ∧ B[id]? = some (.mk true sh.size cells) ∧ id ∈ F ∧ id ∉ Fs.flatten ∧
   ∀ (d : LD) (by_ : Nat) (z : List V) (G : List Ob) (lo hi : Nat), G[id]? = B[id]? → lo ≤ hi → hi ≤ us.length →
    aO ⟨d, sh.size, by_, z⟩ G (.slc (some (id, off + lo * sh.size)) (hi - lo)) = some ((cs.drop (lo * sh.size)).take ((hi - lo) * sh.size), hi - lo)) := by
 obtain ⟨w, us', hw, hus, hlen, h⟩ := aA.1 h
 cases hw
 cases hus
 rcases h with ⟨rfl, rfl, rfl⟩ | ⟨id, off, cells, Fs, rfl, h2, h3, h4, rfl, h6⟩
 ·exact ⟨none, [], [], rfl, RowsOk.nil, by simp, by simp, .inl ⟨rfl, rfl⟩⟩
 ·obtain ⟨hn1, hn2⟩ := List.nodup_cons.1 hn
  have hcl : ((cells.drop off).take (us.length * sh.size)).length = us.length * sh.size := by simp; omega
  refine ⟨some (id, off), (cells.drop off).take (us.length * sh.size), Fs, rfl, ⟨hcl, h4, fun i x F hx hF => ?_⟩, hn2, fun q hq => List.mem_cons_of_mem _ hq, .inr ⟨id, off, cells, rfl, h2, List.mem_cons_self, hn1, fun d by_ z G lo hi hG hlo hhi => ?_⟩⟩
  ·rw [kD h3 (List.getElem?_eq_some_iff.1 hx).1]
   exact h6 i x F hx hF
  ·have e1 : lo * sh.size + (hi - lo) * sh.size = hi * sh.size := by rw [← Nat.add_mul]; congr 1; omega
   have e2 : hi * sh.size ≤ us.length * sh.size := Nat.mul_le_mul_right _ hhi
   have e3 : (((cells.drop off).take (us.length * sh.size)).drop (lo * sh.size)).take ((hi - lo) * sh.size) = (cells.drop (off + lo * sh.size)).take ((hi - lo) * sh.size) := by
    rw [List.drop_take, List.take_take, List.drop_drop, Nat.min_eq_left (by omega)]
   rw [e3]
   simp only [aO, bg, hG, h2]
   by_cases h0 : (hi - lo) * sh.size = 0
   ·rw [if_pos h0, h0, List.take_zero]
   ·rw [if_neg h0]
    unfold dS
    rw [if_pos (by omega)]
end
section
variable {H S X : List Ob} {l : List Nat} {k : Nat} {o : Ob}
theorem NQ : fH l H.length (H ++ S) = H ++ fH l 0 S := by
 apply List.ext_getElem?
 intro i
 rw [iD]
 by_cases hi : i < H.length
 ·rw [List.getElem?_append_left hi, List.getElem?_append_left hi]
  cases H[i]? with
  | none => rfl
  | some o => rw [Option.map_some, if_neg (fun hc => absurd hc.1 (by omega))]
 ·rw [List.getElem?_append_right (by omega), List.getElem?_append_right (by omega), iD]
  have : (H.length ≤ i ∧ l.contains (i - H.length) = true) ↔ (0 ≤ i - H.length ∧ l.contains (i - H.length - 0) = true) := by simp; omega
  simp only [this]
theorem Ce : jK l H.length (H ++ S) (H ++ X) = H ++ jK l 0 S X := by
 apply List.ext_getElem?
 intro i
 rw [iY]
 by_cases hi : i < H.length
 ·rw [List.getElem?_append_left hi, List.getElem?_append_left hi]
  cases H[i]? with
  | none => rfl
  | some o => rw [Option.map_some, if_neg (fun hc => absurd hc.1 (by omega))]
 ·rw [List.getElem?_append_right (by omega), List.getElem?_append_right (by omega), iY]
  have : (H.length ≤ i ∧ l.contains (i - H.length) = true) ↔ (0 ≤ i - H.length ∧ l.contains (i - H.length - 0) = true) := by simp; omega
  simp only [this, List.getD_eq_getElem?_getD]
  rw [List.getElem?_append_right (by omega)]
theorem ug : (H ++ S).set (H.length + k) o = H ++ S.set k o := by
 rw [List.set_append_right _ _ (by omega), Nat.add_sub_cancel_left]
theorem Bj : (H ++ S).set H.length o = H ++ S.set 0 o := by
 rw [List.set_append_right _ _ (by omega), Nat.sub_self]
theorem mF : (H ++ S)[H.length + k]? = S[k]? := by
 rw [List.getElem?_append_right (by omega), Nat.add_sub_cancel_left]
end
end Go.Lite
end
section
namespace Go.Lite
open Go
variable {H T : List Ob}
mutual
theorem At.one_datum : ∀ (sh : Sh) {cs : List V} {u u' : U}, At H sh cs u → At H sh cs u' → u = u'
 | .int k, _, _, _, h, h' => by
  simp only [At] at h h'
  obtain ⟨n, rfl, rfl, _⟩ := h
  obtain ⟨n', e, rfl, _⟩ := h'
  cases e; rfl
 | .bool, _, _, _, h, h' => by
  simp only [At] at h h'
  obtain ⟨n, rfl, rfl⟩ := h
  obtain ⟨n', e, rfl⟩ := h'
  cases e; rfl
 | .str, _, _, _, h, h' => by
  simp only [At] at h h'
  obtain ⟨n, rfl, rfl, _⟩ := h
  obtain ⟨n', e, rfl, _⟩ := h'
  cases e; rfl
 | .slice e, _, _, _, h, h' => by
  simp only [At] at h h'
  obtain ⟨v, l, rfl, rfl, _, h⟩ := h
  obtain ⟨v', l', hv, rfl, _, h'⟩ := h'
  cases hv
  congr 1
  rcases h with ⟨rfl, rfl⟩ | ⟨id, off, own, cells, rfl, h2, h3, h4⟩
  ·rcases h' with ⟨_, rfl⟩ | ⟨id, off, own, cells, e, _⟩
   ·rfl
   ·cases e
  ·rcases h' with ⟨e, _⟩ | ⟨id', off', own', cells', e, g2, g3, g4⟩
   ·cases e
   ·simp only [V.slc.injEq, Option.some.injEq, Prod.mk.injEq] at e
    obtain ⟨⟨rfl, rfl⟩, hl⟩ := e
    rw [h2] at g2
    cases g2
    refine List.ext_getElem hl fun i h1 h5 => ?_
    exact At.one_datum e (h4 i _ (List.getElem?_eq_getElem h1)) (g4 i _ (List.getElem?_eq_getElem h5))
 | .st fs, _, _, _, h, h' => by
  simp only [At] at h h'
  obtain ⟨us, rfl, h⟩ := h
  obtain ⟨us', rfl, h'⟩ := h'
  rw [Ats.one_datum fs h h']
theorem Ats.one_datum : ∀ (fs : List Sh) {cs : List V} {us us' : List U}, Ats H fs cs us → Ats H fs cs us' → us = us'
 | [], _, _, _, h, h' => by simp only [Ats] at h h'; rw [h.2, h'.2]
 | f :: fs, _, _, _, h, h' => by
  simp only [Ats] at h h'
  obtain ⟨c1, c2, u, us, rfl, rfl, h1, h2⟩ := h
  obtain ⟨d1, d2, u', us', e, rfl, g1, g2⟩ := h'
  have hl : c1.length = d1.length := by rw [At.len f h1, At.len f g1]
  obtain ⟨rfl, rfl⟩ := List.append_inj e hl
  rw [At.one_datum f h1 g1, Ats.one_datum fs h2 g2]
end
theorem Du {p : Option (Nat × Nat)} {n : Nat} (h : fD H (.slc p n)) : fD (H ++ T) (.slc p n) := by
 cases p with
 | none => trivial
 | some q =>
  obtain ⟨id, off⟩ := q
  obtain ⟨own, es, cells, h⟩ := h
  exact ⟨own, es, cells, aZ _ _ h⟩
theorem ASl.shape {α : Type} {sh : Sh} {f : α → U} {v : V} {l : List α} (h : ASl H sh f v l) : ∃ p, v = .slc p l.length := by
 rcases h.sub with ⟨rfl, rfl⟩ | ⟨id, off, own, cells, rfl, _⟩ <;> exact ⟨_, rfl⟩
theorem xC {G G' : List Ob} {r : V} (h : ¬ Ext G G') : fM G G' r = G' := by
 unfold fM
 rw [if_neg fun hc => h hc.1]
end Go.Lite
end
section
namespace Go.Proofs.Try1
open Go Go.Lite
noncomputable def jI (e : PEntry) (n v : Str) : PEntryOut :=
 if ∃ x ∈ valsOf e.attrs n, norm x = norm v then wO 7 else if 4 ≤ (valsOf e.attrs n).length ∨ (valsOf e.attrs n = [] ∧ 8 ≤ e.attrs.length) then wO 9 else ⟨JQ e n (dH (valsOf e.attrs n ++ [v])), 0⟩
theorem PV {H : List Ob} {w : V} {l : List Str} {v : Str} (hw : AStrs H w l) (hl : l.length ≤ 1000) (hv : v.length ≤ maxLen) :
  ∃ p1 X1, bi ⟨.str, 1, 16, [.str []]⟩ (H ++ [.mk true 1 [], .dead]) (.slc (some (H.length, 0)) 0) w = some (p1, H ++ X1) ∧ jK [1] 0 [.mk true 1 [], .mk true 1 [.str v]] X1 = X1.set 1 (.mk true 1 [.str v]) ∧ 2 ≤ X1.length ∧ aN p1 = true ∧ cellsOf p1 = some [p1] ∧
   ∃ p2 X2, bi ⟨.str, 1, 16, [.str []]⟩ (H ++ X1.set 1 (.mk true 1 [.str v])) p1 (.slc (some (H.length + 1, 0)) 1) = some (p2, H ++ X2) ∧ X1.length ≤ X2.length ∧ AStrs (H ++ X2) p2 (l ++ [v]) := by
 obtain ⟨p, rfl, hc, hp, _⟩ := pX (T := [.mk true 1 [], .dead]) hw
 have hmx := hw.max
 have fin : ∀ (X : List Ob) (id : Nat), H.length ≤ id → (H ++ X)[id]? = some (.mk true 1 ((l ++ [v]).map V.str)) → AStrs (H ++ X) (.slc (some (id, 0)) (l.length + 1)) (l ++ [v]) := fun X id h1 h2 => by
  have hg : Gs H (H ++ X) (.slc (some (id, 0)) (l.length + 1)) ((l ++ [v]).map V.str) := ⟨X, id, rfl, h1, h2, by simp⟩
  refine (hg.strs (by simp [maxLen]; omega) fun s hs => ?_).1
  rcases List.mem_append.1 hs with h | h
  ·exact hmx s h
  ·rw [List.mem_singleton.1 h]; exact hv
 by_cases h0 : l.length = 0
 ·have hl0 : l = [] := List.length_eq_zero_iff.1 h0
  subst hl0
  refine ⟨.slc (some (H.length, 0)) 0, [.mk true 1 [], .dead], ?_, rfl, by simp, rfl, rfl, ?_⟩
  ·unfold bi
   simp [fJ, aO, bg]
   cases p <;> simp
  ·have e : [Ob.mk true 1 [], .dead].set 1 (.mk true 1 [.str v]) = [.mk true 1 [], .mk true 1 [.str v]] := rfl
   rw [e]
   have hr : (H ++ [Ob.mk true 1 [], Ob.mk true 1 [.str v]])[H.length]? = some (.mk true 1 []) := by simp
   have hx : aO ⟨.str, 1, 16, [.str []]⟩ (H ++ [Ob.mk true 1 [], Ob.mk true 1 [.str v]]) (.slc (some (H.length + 1, 0)) 1) = some ([.str v], 1) := by
    simp [aO, bg, mF, dS]
   have := eY (n := 0) (by rfl) (by decide) (by decide) (by decide) hr (by simp) hx (by decide) (by rfl) (by simp [aJ])
   refine ⟨.slc (some (H.length + 2, 0)) 1, [.dead, .mk true 1 [.str v], .mk true 1 [.str v]], by rw [this]; simp, by simp, ?_⟩
   have := fin [.dead, .mk true 1 [.str v], .mk true 1 [.str v]] (H.length + 2) (by omega) (by rw [mF]; rfl)
   simpa using this
 ·have hm : aO ⟨.str, 1, 16, [.str []]⟩ (H ++ [Ob.mk true 1 [], .dead]) (.slc p l.length) = some (l.map V.str, l.length) := by
   simp [aO, hc]
  have hr : (H ++ [Ob.mk true 1 [], .dead])[H.length]? = some (.mk true 1 []) := by simp
  have ha := eY (n := 0) (by rfl) (by decide) (by decide) (by decide) hr (by simp) hm h0 (by simp [aN]) (by unfold aJ; omega)
  refine ⟨.slc (some (H.length + 2, 0)) l.length, [.dead, .dead, .mk true 1 (l.map V.str)], by rw [ha]; simp, rfl, by simp, rfl, rfl, ?_⟩
  have e : [Ob.dead, .dead, .mk true 1 (l.map V.str)].set 1 (.mk true 1 [.str v]) = [.dead, .mk true 1 [.str v], .mk true 1 (l.map V.str)] := rfl
  rw [e]
  have hr2 : (H ++ [Ob.dead, Ob.mk true 1 [.str v], .mk true 1 (l.map V.str)])[H.length + 2]? = some (.mk true 1 (l.map V.str)) := by rw [mF]; rfl
  have hx : aO ⟨.str, 1, 16, [.str []]⟩ (H ++ [Ob.dead, Ob.mk true 1 [.str v], .mk true 1 (l.map V.str)]) (.slc (some (H.length + 1, 0)) 1) = some ([.str v], 1) := by
   simp [aO, bg, mF, dS]
  have h2 := eY (n := l.length) (by rfl) (by decide) (by decide) (by decide) hr2 (by simp) hx (by decide) (by rfl) (by unfold aJ; omega)
  refine ⟨.slc (some (H.length + 3, 0)) (l.length + 1), [.dead, .mk true 1 [.str v], .dead, .mk true 1 ((l ++ [v]).map V.str)], by rw [h2]; simp [ug], by simp, ?_⟩
  have := fin [.dead, .mk true 1 [.str v], .dead, .mk true 1 ((l ++ [v]).map V.str)] (H.length + 3) (by omega) (by rw [mF]; rfl)
  simpa using this
theorem aga {H : List Ob} {vd va : V} {e : PEntry} {n v : Str} (hd : bH H vd e.dn) (ha : bK H va e.attrs) (hb : ry e) (hp : e.attrs.Pairwise fun a b => a.name < b.name) (hn : n.length ≤ maxLen) (hv : v.length ≤ maxLen) (hvl : ∀ a ∈ e.attrs, a.vals.length ≤ 500) :
  ∃ q H', callW C 204 [.agg [vd, va], .str n, .str v] H = some (q, H') ∧ EOut H (jI e n v) q H' := by
 suffices hs : Ret C 204 [.agg [vd, va], .str n, .str v] H fun q H' => EOut H (jI e n v) q H' by
  obtain ⟨q, H', hc, hr⟩ := hs
  exact ⟨q, H', hc, hr⟩
 rw [Zm]
 have hod := hd.one
 have hoa := ha.one
 obtain ⟨w, c1, hw⟩ := UV (t := n) ha hod.2 hod.1
 have hwl : (valsOf e.attrs n).length ≤ 500 := by
  unfold valsOf
  split
  ·rename_i a h; exact hvl a (List.mem_of_find?_eq_some h)
  ·simp
 have c2 := ku (t := v) (H := H)
 obtain ⟨r, c3, hr⟩ := aeG (n := norm v) hw
 have c4 := UJ (H := H) (c := 7)
 have c5 := UJ (H := H) (c := 9)
 rcases hr with ⟨k, x, h1, h2, h3, rfl⟩ | ⟨h1, rfl⟩
 ·have ho : jI e n v = wO 7 := if_pos ⟨x, List.mem_of_getElem? h1, by simpa using h2⟩
  have hk : (0 : Int) ≤ k := by omega
  rw [ho]
  simp [oJ, Tryz.f204, c1, c2, c3, c4, hk, hod, hoa]
  exact EOut.ill (by decide)
 have hno : ¬ ∃ x ∈ valsOf e.attrs n, norm x = norm v := by
  rintro ⟨x, hx, he⟩
  obtain ⟨j, hj, rfl⟩ := List.getElem_of_mem hx
  have := h1 j _ (List.getElem?_eq_getElem hj)
  simp [he] at this
 by_cases g : 4 ≤ (valsOf e.attrs n).length ∨ (valsOf e.attrs n = [] ∧ 8 ≤ e.attrs.length)
 ·have ho : jI e n v = wO 9 := by unfold jI; rw [if_neg hno, if_pos g]
  rw [ho]
  by_cases g1 : 4 ≤ (valsOf e.attrs n).length
  ·have g1' : (4 : Int) ≤ (valsOf e.attrs n).length := by omega
   simp [oJ, Tryz.f204, c1, c2, c3, c5, hod, hoa, hw.len, g1']
   exact EOut.ill (by decide)
  ·have g1' : ¬ (4 : Int) ≤ (valsOf e.attrs n).length := by omega
   obtain ⟨g2, g3⟩ := g.resolve_left g1
   have g2' : (valsOf e.attrs n).length = 0 := by rw [g2]; rfl
   have g3' : (8 : Int) ≤ e.attrs.length := by omega
   simp [oJ, Tryz.f204, c1, c2, c3, c5, hod, hoa, hw.len, g1', g2, g3', ha.len]
   exact EOut.ill (by decide)
 have g1 : ¬ 4 ≤ (valsOf e.attrs n).length := fun h => g (.inl h)
 have g1' : ¬ (4 : Int) ≤ (valsOf e.attrs n).length := by omega
 have ho : jI e n v = ⟨JQ e n (dH (valsOf e.attrs n ++ [v])), 0⟩ := by unfold jI; rw [if_neg hno, if_neg g]
 obtain ⟨p1, X1, a1, x0, x1, o1, o1', p2, X2, a2, x2, hv2⟩ := PV (v := v) hw (by omega) hv
 obtain ⟨T, w1, w2, c6, hat, hnl⟩ := aaW (H := H ++ X2) hd.ext ha.ext hb hp hn hv2 (by simp; omega)
 obtain ⟨v1, v2, hcs, b1, b2⟩ := iq.1 hat
 cases hcs
 have ho1 := b1.one
 have ho2 := b2.one
 have hnl' : ¬ fD H w2 := fun h => hnl (by
  obtain ⟨p, rfl⟩ := b2.shape
  exact Du h)
 have hgc : fM H (H ++ X2 ++ T) (.agg [w1, w2, .int .i64 0]) = H ++ X2 ++ T := by
  rw [List.append_assoc]
  exact rH fun h => hnl' h.2.1
 rw [ho]
 have fin : EOut H ⟨JQ e n (dH (valsOf e.attrs n ++ [v])), 0⟩ (.agg [w1, w2, .int .i64 0]) (H ++ X2 ++ T) := ⟨X2 ++ T, w1, w2, rfl, by simp, by rw [← List.append_assoc]; exact mQ.2 ⟨_, _, rfl, b1, b2, show (Lit.int .i64 0).wf = true by decide⟩, by rw [← List.append_assoc]; exact hgc⟩
 have hk1 : fH [1] H.length (H ++ [.mk true 1 [], .mk true 1 [.str v]]) = H ++ [.mk true 1 [], .dead] := by rw [NQ]; rfl
 have op2 : aN p2 = true ∧ cellsOf p2 = some [p2] := hv2.one
 simp only [List.append_assoc] at hgc fin c6
 by_cases g2 : valsOf e.attrs n = []
 ·have g3 : ¬ (8 : Int) ≤ e.attrs.length := fun h => g (.inr ⟨g2, by omega⟩)
  have g2' : ((valsOf e.attrs n).length : Int) = 0 := by rw [g2]; rfl
  simp [oJ, Tryz.f204, c1, c2, c3, hod, hoa, hw.len, ha.len, g1', g2', g3, ae, ag, List.lookup, List.replicate, aI, aH, ax, ug, Bj, hk1, Bi, BG, Ce, x0, a1, a2, o1, o1', op2, x1, x2, c6, ho1, ho2, aS, ay, hgc]
  exact fin
 ·have g2' : ¬ ((valsOf e.attrs n).length : Int) = 0 := fun h => g2 (List.length_eq_zero_iff.1 (by omega))
  simp [oJ, Tryz.f204, c1, c2, c3, hod, hoa, hw.len, ha.len, g1', g2, g2', ae, ag, List.lookup, List.replicate, aI, aH, ax, ug, Bj, hk1, Bi, BG, Ce, x0, a1, a2, o1, o1', op2, x1, x2, c6, ho1, ho2, aS, ay, hgc]
  exact fin
end Go.Proofs.Try1
end
