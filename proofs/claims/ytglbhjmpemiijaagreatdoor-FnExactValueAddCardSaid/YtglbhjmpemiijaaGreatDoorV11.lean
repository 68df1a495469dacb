/- Part 11 of the proof of a law: the interpreter, its soundness, and what functions of the program compute over it. Conditions: none but those that each theorem names. -/
import Derived.Test.YtglbhjmpemiijaaGreatDoorV10
import Derived.Sort.AssemblyPlain
import Derived.Test.YtglbhjmpemiijaaGreatDoorV06
import Derived.Test.YtglbhjmpemiijaaGreatDoorV07
import Derived.Test.YtglbhjmpemiijaaGreatDoorV09
import Derived.Test.YtglbhjmpemiijaaGreatDoorV08

section
namespace Go.Proofs.Try1
open Go Go.Lite
set_option linter.unusedSimpArgs false
set_option linter.unusedVariables false

set_option maxRecDepth 10000 in
theorem i_Long {H : List Ob} {v : V} {l : List Str} (h : AStrs H v l) : callW C 101 [v] H = some (.bool (dec (∃ t ∈ l, 8000 < t.length)), H) := by
  apply Ret.dec
  rw [op101]
  have hb : l.length ≤ 9223372036854775807 := h.bound
  simp [code101, Tryz.f101, h.len]
  refine WP_loop (fun k σ => ∃ (i : Nat) (r : Nat → R), i + k = l.length ∧ σ = ⟨r, 0, H⟩ ∧ r 5 = .val v ∧ r 6 = .val (.int .i64 l.length) ∧ r 7 = .val (.int .i64 i) ∧ ∀ j x, j < i → l[j]? = some x → ¬ 8000 < x.length) ?_ l.length _ ⟨0, _, by simp, rfl, by simp, by simp, by simp, by simp⟩
  rintro k σ ⟨i, r, hik, rfl, r5, r6, r7, hall⟩
  cases k with
  | zero =>
    have hi : i = l.length := by omega
    subst hi
    have hx := at_all (P := fun j (x : Str) => ¬ 8000 < x.length) hall
    simp [r5, r6, r7]
    intro x hm
    obtain ⟨j, hj, rfl⟩ := List.getElem_of_mem hm
    have := hx j _ (List.getElem?_eq_getElem hj)
    omega
  | succ k =>
    have hi : i < l.length := by omega
    obtain ⟨x, hx⟩ : ∃ c, l[i]? = some c := ⟨l[i], by simp [hi]⟩
    have hw : IntKind.i64.wrap ((i : Int) + 1) = ((i : Int) + 1) := wrap_i64 (by omega) (by omega)
    obtain ⟨id, o, e1, l0, _⟩ := strs_idx h hx
    by_cases g1 : 8000 < x.length
    · have g1' : (8000 : Int) < x.length := by omega
      simp [r5, r6, r7, hi, e1, l0, g1']
      exact ⟨x, List.mem_of_getElem? hx, g1⟩
    · have g1' : ¬ (8000 : Int) < x.length := by omega
      simp [r5, r6, r7, hi, e1, l0, g1', hw]
      exact ⟨k, by omega, i + 1, by omega, by omega, fun j x hj hx' => Nat.not_lt.1 (at_step (P := fun j (x : Str) => ¬ 8000 < x.length) hall hx g1 j x hj hx')⟩

theorem i_ManyS {H : List Ob} {v : V} {l : List Str} (h : AStrs H v l) : callW C 102 [v] H = some (.bool (decide (400 < l.length)), H) := by
  apply Ret.eq
  rw [op102]
  simp [code102, Tryz.f102, h.len]
  omega

set_option maxRecDepth 10000 in
theorem l_CloneR {H : List Ob} {v : V} {l : List PRdn} (h : ARdns H v l) (hl : l.length ≤ 1048576) :
    ∃ T w, callW C 261 [v] H = some (w, H ++ T) ∧ New H.length (H ++ T).length (H ++ T) (.slice shRdn) [w] (.lst (l.map PRdn.u)) := by
  suffices hs : Ret C 261 [v] H fun q H' => ∃ T, H' = H ++ T ∧ New H.length (H ++ T).length (H ++ T) (.slice shRdn) [q] (.lst (l.map PRdn.u)) by
    obtain ⟨q, H', hc, T, rfl, hr⟩ := hs
    exact ⟨T, q, hc, hr⟩
  rw [op261]
  obtain ⟨w, T1, a1, n1⟩ := append_clone (d := .struct [(0, 9), (1, 9)]) (by_ := 32) (z := [.str [], .str []]) (sz := 2) h rfl rfl rfl (by decide) (by decide) (by decide) (by unfold maxMade; omega)
  obtain ⟨T', hg, hn⟩ := n1.gc1
  rcases h.sub with ⟨rfl, rfl⟩ | ⟨id, off, own, cells, rfl, _⟩
  · simp [code261, Tryz.f261]
    exact New.nil
  · simp [code261, Tryz.f261, elemT, fillL, zerosL, St.new, a1, hg]
    simpa using hn

set_option maxRecDepth 10000 in
set_option maxHeartbeats 4000000 in
theorem l_CloneS {H : List Ob} {v : V} {l : List Str} (h : AStrs H v l) (hl : l.length ≤ 1048576) :
    ∃ T w, callW C 153 [v] H = some (w, H ++ T) ∧ New H.length (H ++ T).length (H ++ T) (.slice .str) [w] (.lst (l.map strU)) := by
  suffices hs : Ret C 153 [v] H fun q H' => ∃ T, H' = H ++ T ∧ New H.length (H ++ T).length (H ++ T) (.slice .str) [q] (.lst (l.map strU)) by
    obtain ⟨q, H', hc, T, rfl, hr⟩ := hs
    exact ⟨T, q, hc, hr⟩
  rw [op153]
  obtain ⟨w, T1, a1, n1⟩ := append_clone (d := .str) (by_ := 16) (z := [.str []]) (sz := 1) h rfl rfl rfl (by decide) (by decide) (by decide) (by unfold maxMade; omega)
  obtain ⟨T', hg, hn⟩ := n1.gc1
  rcases h.sub with ⟨rfl, rfl⟩ | ⟨id, off, own, cells, rfl, _⟩
  · simp [code153, Tryz.f153]
    exact New.nil
  · simp [code153, Tryz.f153, elemT, fillL, zerosL, St.new, a1, hg]
    simpa using hn

set_option maxRecDepth 10000 in
set_option maxHeartbeats 8000000 in
theorem i_copied {H : List Ob} {vd va : V} {e : PEntry} (hd : ARdns H vd e.dn) (ha : AAttrs H va e.attrs) (hb : SmallE e) :
    ∃ T w1 w2, callW C 162 [.agg [vd, va]] H = some (.agg [w1, w2], H ++ T) ∧ New H.length (H ++ T).length (H ++ T) shEntry [w1, w2] e.u := by
  suffices hs : Ret C 162 [.agg [vd, va]] H fun q H' => ∃ T w1 w2, q = .agg [w1, w2] ∧ H' = H ++ T ∧ New H.length (H ++ T).length (H ++ T) shEntry [w1, w2] e.u by
    obtain ⟨q, H', hc, T, w1, w2, rfl, rfl, hr⟩ := hs
    exact ⟨T, w1, w2, hc, hr⟩
  rw [op162]
  have hod := hd.one
  have hoa := ha.one
  obtain ⟨T1, w1, a1, n1⟩ := l_CloneR hd hb.1
  have hb2 := hb.2.1
  have how := New.one1 n1
  obtain ⟨K, hK⟩ : ∃ K, K = H ++ T1 := ⟨_, rfl⟩
  rw [← hK] at n1 a1
  have haK : AAttrs K va e.attrs := by rw [hK]; exact ha.ext
  simp [code162, Tryz.f162, hod, hoa, a1, buildV, structPlace, fillL, how, haK.len]
  refine WP_loop (fun k σ => ∃ (i n : Nat) (r : Nat → R) (G : List Ob) (w : V), i + k = e.attrs.length ∧ σ = ⟨r, n, G⟩ ∧ r 2 = .box 1 [.slc none 0, .slc none 0] ∧ r 3 = .box 2 [w1, w] ∧ r 11 = .val va ∧ r 12 = .val (.int .i64 e.attrs.length) ∧ r 13 = .val (.int .i64 i) ∧ LstF K G shAttr PAttr.u w (e.attrs.take i)) ?_ e.attrs.length _ ⟨0, 3, _, K, .slc none 0, by simp, rfl, by simp, by simp, by simp, by simp, by simp, by simpa using LstF.nil⟩
  rintro k σ ⟨i, cn, r, G, w, hik, rfl, r2, r3, r11, r12, r13, hG⟩
  obtain ⟨S, hS⟩ := hG.pre
  have haG : AAttrs G va e.attrs := by rw [hS]; exact haK.ext
  have hwo := hG.one
  cases k with
  | zero =>
    have hi : i = e.attrs.length := by omega
    subst hi
    rw [List.take_length] at hG
    have n2 := hG.new ha.bound
    have hne : New H.length G.length G shEntry [w1, w] e.u := by
      refine New.st (News.cons (m := K.length) (c1 := [w1]) ?_ (News.one n2 (by rw [hS]; simp)) (by rw [hK]; simp) (by rw [hS]; simp))
      rw [hS]; exact n1.ext
    obtain ⟨T', hg, hn⟩ := (show New H.length G.length (H ++ (T1 ++ S)) shEntry [w1, w] e.u by rw [← List.append_assoc, ← hK, ← hS]; exact hne).gcA
    rw [← List.append_assoc, ← hK, ← hS] at hg
    simp [r2, r3, r11, r12, r13, hg, how, hwo]
    exact ⟨T', w1, w, ⟨rfl, rfl⟩, rfl, by simpa using hn⟩
  | succ k =>
    have hi : i < e.attrs.length := by omega
    obtain ⟨x, hx⟩ : ∃ c, e.attrs[i]? = some c := ⟨e.attrs[i], by simp [hi]⟩
    have hw : IntKind.i64.wrap ((i : Int) + 1) = ((i : Int) + 1) := wrap_i64 (by omega) (by omega)
    obtain ⟨id, o, wx, ex, lx, hvx, hnx, hidx, _⟩ := attrs_idxT ha hx
    have hGH : G = H ++ (T1 ++ S) := by rw [hS, hK, List.append_assoc]
    obtain ⟨l0, l1, l2⟩ := lx G ⟨_, hGH⟩
    have hvG : AStrs G wx x.vals := by rw [hGH]; exact hvx.ext
    have hox := hvG.one
    have hbx := hb.2.2 x (List.mem_of_getElem? hx)
    obtain ⟨T2, wv, a2, n2⟩ := l_CloneS hvG hbx
    have hel : New G.length (G ++ T2).length (G ++ T2) shAttr [.str x.name, wv] x.u := New.st (News.str hnx (News.one n2 (by simp)))
    obtain ⟨w', G', a3, hG', _, _⟩ := hG.push (T := T2) (d := .struct [(0, 9), (1, 26)]) (by_ := 40) (z := [.str [], .slc none 0]) (sz := 2) hel rfl rfl (by decide) (by decide) (by decide) (by simp; unfold maxMade; omega)
    rw [← take_get hx] at hG'
    have hwv := New.one1 n2
    have hw' := hG'.one
    simp only [List.append_assoc, List.length_append] at a3
    simp [r2, r3, r11, r12, r13, hi, ex, l0, l1, l2, a2, a3, Keep_append, elemT, fillL, zerosL, St.new, buildV, structPlace, hod, hoa, hox, hwv, hwo, hw', hw, List.lookup]
    exact ⟨k, by omega, i + 1, by omega, _, _, _, ⟨rfl, rfl, rfl⟩, by simp [r2], w', by simp, by simp [r11], by simp [r12], by simp, hG'⟩

set_option maxRecDepth 10000 in
set_option maxHeartbeats 4000000 in
theorem l_searchS {H : List Ob} {v : V} {l : List PAttr} {t : Str} (h : AAttrs H v l) (hl : l.length ≤ 1000) (hp : l.Pairwise fun a b => a.name < b.name) :
    ∃ (i : Nat) (ok : Bool), callW C 331 [v, .str t, .fn 332 [] []] H = some (.tup [.int .i64 i, .bool ok], H) ∧
      i ≤ l.length ∧ (∀ q a, q < i → l[q]? = some a → LtS a.name t) ∧ (∀ q a, i ≤ q → l[q]? = some a → ¬ LtS a.name t) ∧ (ok = true ↔ ∃ a, l[i]? = some a ∧ a.name = t) := by
  suffices hs : Ret C 331 [v, .str t, .fn 332 [] []] H fun q H' =>
      (∃ (i : Nat) (ok : Bool), q = .tup [.int .i64 i, .bool ok] ∧ i ≤ l.length ∧ (∀ q a, q < i → l[q]? = some a → LtS a.name t) ∧ (∀ q a, i ≤ q → l[q]? = some a → ¬ LtS a.name t) ∧ (ok = true ↔ ∃ a, l[i]? = some a ∧ a.name = t)) ∧ H' = H by
    obtain ⟨q, H', hc, ⟨i, ok, rfl, h1⟩, rfl⟩ := hs
    exact ⟨i, ok, hc, h1⟩
  rw [op331]
  simp [code331, Tryz.f331, h.len]
  refine WP_loop (fun k σ => ∃ (i j : Nat) (r : Nat → R), j - i = k ∧ i ≤ j ∧ j ≤ l.length ∧ σ = ⟨r, 0, H⟩ ∧ r 0 = .val v ∧ r 1 = .val (.str t) ∧ r 2 = .val (.fn 332 [] []) ∧ r 8 = .val (.int .i64 l.length) ∧ r 9 = .val (.int .i64 i) ∧ r 10 = .val (.int .i64 j) ∧
    (∀ q a, q < i → l[q]? = some a → LtS a.name t) ∧ (∀ q a, j ≤ q → l[q]? = some a → ¬ LtS a.name t)) ?_ l.length _ ⟨0, l.length, _, by omega, by omega, by omega, rfl, by simp, by simp, by simp, by simp, by simp, by simp, fun q a h => by omega, fun q a h1 h2 => by have := (List.getElem?_eq_some_iff.1 h2).1; omega⟩
  rintro k σ ⟨i, j, r, hk, hij, hjl, rfl, r0, r1, r2, r8, r9, r10, hlo, hhi⟩
  cases k with
  | succ k =>
    have hlt : (i : Int) < j := by omega
    have hlt' : i < j := by omega
    have hw1 : IntKind.i64.wrap ((i : Int) + j) = (i : Int) + j := wrap_i64 (by omega) (by omega)
    have hw2 : IntKind.u64.wrap ((i : Int) + j) = (i : Int) + j := by unfold IntKind.wrap; simp [IntKind.bits, IntKind.signed]; omega
    have hq : ((i : Int) + j).fdiv 2 = (((i + j) / 2 : Nat) : Int) := by rw [Int.fdiv_eq_ediv_of_nonneg _ (by omega)]; omega
    obtain ⟨m, hm⟩ : ∃ m, m = (i + j) / 2 := ⟨_, rfl⟩
    rw [← hm] at hq
    have hw3 : IntKind.i64.wrap (m : Int) = m := wrap_i64 (by omega) (by omega)
    have hw4 : IntKind.i64.wrap ((m : Int) + 1) = (m : Int) + 1 := wrap_i64 (by omega) (by omega)
    have hml : m < l.length := by omega
    obtain ⟨a, ha⟩ : ∃ a, l[m]? = some a := ⟨l[m], List.getElem?_eq_getElem hml⟩
    obtain ⟨id, o, w, e1, l0, l1, l2, hvs, _⟩ := attrs_idx h ha
    have c1 := i_byName (n := a.name) (t := t) (w := w) (H := H) hvs.one.2
    have hord : ∀ q b, l[q]? = some b → (q < m → b.name < a.name) ∧ (m < q → a.name < b.name) := fun q b hb => by
      obtain ⟨hq1, hb⟩ := List.getElem?_eq_some_iff.1 hb
      obtain ⟨_, ha⟩ := List.getElem?_eq_some_iff.1 ha
      have := List.pairwise_iff_getElem.1 hp
      exact ⟨fun hh => by have := this q m hq1 hml hh; rwa [hb, ha] at this, fun hh => by have := this m q hml hq1 hh; rwa [hb, ha] at this⟩
    by_cases g1 : LtS a.name t
    · have g1' := cmpS_lt.2 g1
      simp [r0, r1, r2, r8, r9, r10, hlt, hlt', hw1, hw2, hq, hw3, hw4, e1, l2, c1, g1', intShift, IntKind.bits]
      refine ⟨j - (m + 1), by omega, m + 1, j, by omega, by omega, by omega, by omega, rfl, fun q b hq1 hb => ?_, hhi⟩
      by_cases hqm : q = m
      · subst hqm; rw [ha] at hb; cases hb; exact g1
      · exact (LtS_iff _ _).2 (List.lt_trans ((hord q b hb).1 (by omega)) ((LtS_iff _ _).1 g1))
    · have g1' : ¬ cmpS a.name t < 0 := mt cmpS_lt.1 g1
      simp [r0, r1, r2, r8, r9, r10, hlt, hlt', hw1, hw2, hq, hw3, hw4, e1, l2, c1, g1', intShift, IntKind.bits]
      refine ⟨m - i, by omega, i, m, by omega, by omega, by omega, rfl, rfl, hlo, fun q b hq1 hb hlt2 => ?_⟩
      by_cases hqm : q = m
      · subst hqm; rw [ha] at hb; cases hb; exact g1 hlt2
      · exact g1 ((LtS_iff _ _).2 (List.lt_trans ((hord q b hb).2 (by omega)) ((LtS_iff _ _).1 hlt2)))
  | zero =>
    have hij' : i = j := by omega
    subst hij'
    by_cases hil : i < l.length
    · have hilI : (i : Int) < l.length := by omega
      obtain ⟨a, ha⟩ : ∃ a, l[i]? = some a := ⟨l[i], List.getElem?_eq_getElem hil⟩
      obtain ⟨id, o, w, e1, l0, l1, l2, hvs, _⟩ := attrs_idx h ha
      have c1 := i_byName (n := a.name) (t := t) (w := w) (H := H) hvs.one.2
      by_cases g1 : a.name = t
      · have g1' := cmpS_eq.2 g1
        simp [r0, r1, r2, r8, r9, r10, hil, e1, l2, c1, g1']
        exact ⟨i, rfl, by omega, hlo, hhi, a, ha, g1⟩
      · have g1' : ¬ cmpS a.name t = 0 := mt cmpS_eq.1 g1
        simp [r0, r1, r2, r8, r9, r10, hil, e1, l2, c1, g1']
        exact ⟨i, rfl, by omega, hlo, hhi, fun b hb => by rw [ha] at hb; cases hb; exact g1⟩
    · simp [r0, r1, r2, r8, r9, r10, hil]
      exact ⟨i, rfl, by omega, hlo, hhi, fun b hb => by have := (List.getElem?_eq_some_iff.1 hb).1; omega⟩

set_option maxRecDepth 10000 in
theorem i_findS {H : List Ob} {ide : Nat} {own : Bool} {es : Nat} {vd va : V} {l : List PAttr} {t : Str} (he : H[ide]? = some (.mk own es [vd, va])) (h : AAttrs H va l) (hl : l.length ≤ 1000) (hp : l.Pairwise fun a b => a.name < b.name) :
    ∃ (i : Nat) (ok : Bool), callW C 226 [.ptr (some (ide, 0)), .str t] H = some (.tup [.int .i64 i, .bool ok], H) ∧ i ≤ l.length ∧ (∀ q a, q < i → l[q]? = some a → LtS a.name t) ∧ (∀ q a, i ≤ q → l[q]? = some a → ¬ LtS a.name t) ∧ (ok = true ↔ ∃ a, l[i]? = some a ∧ a.name = t) := by
  obtain ⟨i, ok, c1, h1⟩ := l_searchS (t := t) h hl hp
  refine ⟨i, ok, ?_, h1⟩
  apply Ret.eq
  rw [op226]
  have ld := load1 (o := 1) (v := va) he rfl
  simp [code226, Tryz.f226, ld, c1]
end Go.Proofs.Try1
end

section
namespace Go.Proofs.Try1
open Go Go.Lite
set_option linter.unusedSimpArgs false
set_option linter.unusedVariables false

theorem gcH_lenS {G G' : List Ob} {r : V} (h : G'.length = G.length) : gcH G G' r = G' := by
  unfold gcH
  split
  · rename_i hc
    obtain ⟨⟨T, rfl⟩, _⟩ := hc
    have : T = [] := List.length_eq_zero_iff.1 (by simp at h; simpa using h)
    rw [this, List.append_nil]
  · rfl

set_option maxRecDepth 10000 in
set_option maxHeartbeats 4000000 in
theorem l_DelA {G : List Ob} {v : V} {l : List PAttr} {F : List Nat} (h : AtF G (.slice shAttr) [v] (.lst (l.map PAttr.u)) F) (hn : F.Nodup) {i : Nat} (hi : i < l.length) (hl : l.length ≤ 1000000) :
    ∃ w G' F', callW C 334 [v, .int .i64 i, .int .i64 ((i : Int) + 1)] G = some (w, G') ∧ AtF G' (.slice shAttr) [w] (.lst ((l.take i ++ l.drop (i + 1)).map PAttr.u)) F' ∧ F'.Nodup ∧ (∀ q ∈ F', q ∈ F) ∧ (∀ q, q ∉ F → G'[q]? = G[q]?) ∧ G'.length = G.length ∧ isOne w = true ∧ cellsOf w = some [w] := by
  obtain ⟨id, off, cells, xs, F', rfl, h2, h3, hxs, hxl, hxo, hidF, hF', hn', hsub⟩ := deleteF h hn hi [.str [], .slc none 0] rfl
  have hsz : shAttr.size = 2 := rfl
  rw [hsz] at h2 h3 hxs hxl hF'
  have hid : id < G.length := (List.getElem?_eq_some_iff.1 h2).1
  obtain ⟨N1, hN1⟩ : ∃ N1, N1 = setRange cells (off + i * 2) xs := ⟨_, rfl⟩
  have hN1l : N1.length = cells.length := by rw [hN1, setRange_len (by omega)]
  obtain ⟨N2, hN2⟩ : ∃ N2, N2 = setRange N1 (off + (l.length - 1) * 2) [.str [], .slc none 0] := ⟨_, rfl⟩
  rw [← hN1, ← hN2] at hF'
  suffices hs : Ret C 334 [.slc (some (id, off)) l.length, .int .i64 i, .int .i64 ((i : Int) + 1)] G fun q H' => q = .slc (some (id, off)) (l.length - 1) ∧ H' = G.set id (.mk true 2 N2) by
    obtain ⟨q, H', hc, rfl, rfl⟩ := hs
    exact ⟨_, _, F', hc, hF', hn', hsub, fun q hq => List.getElem?_set_ne fun e => hq (by rw [← e]; exact hidF), by simp, rfl, rfl⟩
  rw [op334]
  have hst : strideIs G id 2 = true := by unfold strideIs; rw [h2]; rfl
  have hi1 : ¬ ((i : Int) = (i : Int) + 1) := by omega
  have hil : (i : Int) ≤ l.length := by omega
  have hil1 : (i : Int) + 1 ≤ l.length := by omega
  have hG1 : (G.set id (.mk true 2 N1))[id]? = some (.mk true 2 N1) := List.getElem?_set_self hid
  have hst1 : strideIs (G.set id (.mk true 2 N1)) id 2 = true := by unfold strideIs; rw [hG1]; rfl
  have hre1 : reaches (G.set id (.mk true 2 N1)) id off 2 l.length = true := by unfold reaches; rw [hG1]; simp; omega
  have hap : appendV ⟨.struct [(0, 9), (1, 26)], 2, 40, [.str [], .slc none 0]⟩ G (.slc (some (id, off)) i) (.slc (some (id, off + (i + 1) * 2)) (l.length - (i + 1))) = some (.slc (some (id, off)) (l.length - 1), G.set id (.mk true 2 N1)) := by
    have hnew : newCells ⟨.struct [(0, 9), (1, 26)], 2, 40, [.str [], .slc none 0]⟩ G (.slc (some (id, off + (i + 1) * 2)) (l.length - (i + 1))) = some (xs, l.length - (i + 1)) := by
      simp only [newCells, slcCells, h2]
      by_cases h0 : (l.length - (i + 1)) * 2 = 0
      · rw [if_pos h0]
        have : xs = [] := List.length_eq_zero_iff.1 (by omega)
        rw [this]
      · rw [if_neg h0]
        unfold rdCells
        rw [if_pos (by omega), ← hxs]
    unfold appendV
    rw [if_pos (by simp [growOk]), hnew]
    by_cases h0 : l.length - (i + 1) = 0
    · have hx0 : xs = [] := List.length_eq_zero_iff.1 (by omega)
      have hn1 : N1 = cells := by rw [hN1, hx0, setRange_nil]
      have e1 : l.length - 1 = i := by omega
      simp only [h0, if_true]
      rw [e1, hn1]
      congr 2
      obtain ⟨_, h2'⟩ := List.getElem?_eq_some_iff.1 h2
      rw [← h2', List.set_getElem_self]
    · simp only [h0, if_false, hxo, if_true, h2]
      rw [if_pos (by omega), ← hN1]
      congr 3
      omega
  have e3 : i + (l.length - (i + 1)) = l.length - 1 := by omega
  have hwr : ∀ r c, writeAt ⟨r, c, G.set id (.mk true 2 N1)⟩ (.hp id (off + (l.length - 1) * 2)) [.str [], .slc none 0] = some ⟨r, c, G.set id (.mk true 2 N2)⟩ := fun r c => by
    simp only [writeAt, hG1, List.length_cons, List.length_nil]
    rw [if_pos (by omega), List.set_set, hN2]
  have e4 : l.length - (l.length - 1) = 1 := by omega
  have e5 : ((l.length - 1 : Nat) : Int) ≤ l.length := by omega
  have h01 : (0 : Int) ≤ (i : Int) + 1 := by omega
  have hiN : i + 1 ≤ l.length := by omega
  have hiN' : i ≤ l.length := by omega
  have hgc : ∀ r, gcH G (G.set id (.mk true 2 N2)) r = G.set id (.mk true 2 N2) := fun r => gcH_lenS (by simp)
  simp [code334, Tryz.f334, regionL_none, hi1, hil, hil1, hst, hap, hst1, hre1, hwr, e4, elemT, zerosL, hgc, h01, hiN, hiN']
end Go.Proofs.Try1
end

section
namespace Go.Proofs.Try1
open Go Go.Lite
set_option linter.unusedSimpArgs false
set_option linter.unusedVariables false

section
variable {l : List PAttr} {n : Str} {vs : List Str} {i : Nat}
theorem put_at_no (h1 : ∀ q a, q < i → l[q]? = some a → LtS a.name n) (h2 : ∀ q a, i ≤ q → l[q]? = some a → ¬ LtS a.name n) (hp : l.Pairwise fun a b => a.name < b.name) (hno : ¬ ∃ a, l[i]? = some a ∧ a.name = n) : putAttr l n vs = l.take i ++ (if vs = [] then [] else [⟨n, vs⟩]) ++ l.drop i := by
  unfold putAttr
  rw [filt_take (i := i) (fun q x hq hx => dec_pos (h1 q x hq hx)) (fun q x hq hx => dec_neg (h2 q x hq hx)), filt_drop (i := i) (fun q x hq hx => dec_neg (LtS_asymm (h1 q x hq hx))) (fun q x hq hx => dec_pos ?_)]
  rcases LtS_tri n x.name with h | h | h
  · exact h
  · rcases Nat.lt_or_ge i q with hlt | hge
    · obtain ⟨hq1, hx'⟩ := List.getElem?_eq_some_iff.1 hx
      have h3 := List.pairwise_iff_getElem.1 hp i q (by omega) hq1 hlt
      rw [hx', ← h] at h3
      exact absurd ((LtS_iff _ _).2 h3) (h2 i _ (Nat.le_refl _) (List.getElem?_eq_getElem (by omega)))
    · have : q = i := by omega
      subst this
      exact absurd ⟨x, hx, h.symm⟩ hno
  · exact absurd h (h2 q x hq hx)
theorem put_at_yes (h1 : ∀ q a, q < i → l[q]? = some a → LtS a.name n) (hp : l.Pairwise fun a b => a.name < b.name) {a : PAttr} (ha : l[i]? = some a) (han : a.name = n) : putAttr l n vs = l.take i ++ (if vs = [] then [] else [⟨n, vs⟩]) ++ l.drop (i + 1) := by
  obtain ⟨hi, ha'⟩ := List.getElem?_eq_some_iff.1 ha
  have hgt : ∀ q x, i < q → l[q]? = some x → LtS n x.name := fun q x hq hx => by
    obtain ⟨hq1, hx'⟩ := List.getElem?_eq_some_iff.1 hx
    have h3 := List.pairwise_iff_getElem.1 hp i q hi hq1 hq
    rw [hx', ha', han] at h3
    exact (LtS_iff _ _).2 h3
  unfold putAttr
  rw [filt_take (i := i) (fun q x hq hx => dec_pos (h1 q x hq hx)) (fun q x hq hx => dec_neg ?_), filt_drop (i := i + 1) (fun q x hq hx => dec_neg ?_) (fun q x hq hx => dec_pos (hgt q x (by omega) hx))]
  · rcases Nat.lt_or_ge q i with hlt | hge
    · exact LtS_asymm (h1 q x hlt hx)
    · have : q = i := by omega
      subst this
      rw [ha] at hx
      cases hx
      rw [han]
      exact LtS_irrefl n
  · rcases Nat.lt_or_ge i q with hlt | hge
    · exact LtS_asymm (hgt q x hlt hx)
    · have : q = i := by omega
      subst this
      rw [ha] at hx
      cases hx
      rw [han]
      exact LtS_irrefl n
end

theorem lowV_tup {H : List Ob} : lowV H (.tup []) := trivial
theorem gcH_diff {G G' : List Ob} {r : V} {q : Nat} (hq : q < G.length) (h : G'[q]? ≠ G[q]?) : gcH G G' r = G' := by
  unfold gcH
  rw [if_neg]
  rintro ⟨⟨T, rfl⟩, _⟩
  exact h (List.getElem?_append_left hq)

set_option maxRecDepth 10000 in
set_option maxHeartbeats 8000000 in
theorem i_set {G : List Ob} {ide : Nat} {vd va vv : V} {l : List PAttr} {n : Str} {vs : List Str} {F Fv : List Nat} (he : G[ide]? = some (.mk true 2 [vd, va])) (hA : AtF G (.slice shAttr) [va] (.lst (l.map PAttr.u)) F) (hn : F.Nodup) (hide : ide ∉ F) (hl : l.length ≤ 1000) (hp : l.Pairwise fun a b => a.name < b.name) (hnm : n.length ≤ maxLen)
    (hV : AtF G (.slice .str) [vv] (.lst (vs.map strU)) Fv) (hVn : Fv.Nodup) (hVF : ∀ q ∈ Fv, q ∉ F ∧ q ≠ ide) :
    ∃ G' va' F', callW C 227 [.ptr (some (ide, 0)), .str n, vv] G = some (.tup [], G') ∧ G'[ide]? = some (.mk true 2 [vd, va']) ∧ AtF G' (.slice shAttr) [va'] (.lst ((putAttr l n vs).map PAttr.u)) F' ∧ F'.Nodup ∧ ide ∉ F' ∧
      (∀ q ∈ F', q ∈ F ∨ q ∈ Fv ∨ G.length ≤ q) ∧ (∀ q, q < G.length → q ∉ F → q ≠ ide → G'[q]? = G[q]?) ∧ G.length ≤ G'.length ∧ ∀ r, gcH G G' r = G' := by
  have ha : AAttrs G va l := AtF.at _ hA
  have hvS : AStrs G vv vs := AtF.at _ hV
  have hoa := ha.one
  have hov := hvS.one
  have hidel : ide < G.length := (List.getElem?_eq_some_iff.1 he).1
  obtain ⟨i, ok, c1, hil, h1, h2, hok⟩ := i_findS (t := n) he ha hl hp
  have ld := load1 (o := 1) (v := va) he rfl
  suffices hs : Ret C 227 [.ptr (some (ide, 0)), .str n, vv] G fun q G' => q = .tup [] ∧ ∃ va' F', G'[ide]? = some (.mk true 2 [vd, va']) ∧ AtF G' (.slice shAttr) [va'] (.lst ((putAttr l n vs).map PAttr.u)) F' ∧ F'.Nodup ∧ ide ∉ F' ∧
      (∀ q ∈ F', q ∈ F ∨ q ∈ Fv ∨ G.length ≤ q) ∧ (∀ q, q < G.length → q ∉ F → q ≠ ide → G'[q]? = G[q]?) ∧ G.length ≤ G'.length ∧ ∀ r, gcH G G' r = G' by
    obtain ⟨q, G', hc, rfl, va', F', hr⟩ := hs
    exact ⟨G', va', F', hc, hr⟩
  rw [op227]
  have hz : vs ≠ [] → 0 < vs.length := fun h => List.length_pos_iff.2 h
  cases ok with
  | false =>
    have hno : ¬ ∃ a, l[i]? = some a ∧ a.name = n := fun h => by have := hok.2 h; cases this
    have hput := put_at_no (vs := vs) h1 h2 hp hno
    by_cases g : vs = []
    · subst g
      rw [if_pos rfl, List.append_nil, List.take_append_drop] at hput
      simp [code227, Tryz.f227, c1, hvS.len]
      exact ⟨va, he, F, by rw [hput]; exact hA, hn, hide, fun q hq => .inl hq⟩
    · rw [if_neg g] at hput
      have hx : AtF G shAttr [.str n, vv] (⟨n, vs⟩ : PAttr).u Fv := by
        have := AtsF_cons.2 ⟨[.str n], [vv], .str n, [.lst (vs.map strU)], [], Fv, rfl, rfl, rfl, AtF_str.2 ⟨⟨n, rfl, rfl, hnm⟩, rfl⟩, AtsF_cons.2 ⟨[vv], [], _, [], Fv, [], rfl, rfl, by simp, hV, AtsF_nil.2 ⟨rfl, rfl, rfl⟩⟩⟩
        exact AtF_st.2 ⟨_, rfl, this⟩
      obtain ⟨v', G1, F1, p1, a1, n1, s1, fr1, len1, hv'⟩ := insertF hA hn hx hVn (fun q hq => (hVF q hq).1) hil (by omega) (by decide)
      have p2 : callW C 333 [va, .int .i64 i, .slc (some (G.length, 0)) 1] (G ++ [.mk true 2 [.str n, vv]]) = some (v', G1) := by
        rw [callW_prim (show C.prim 333 = some (insertPrim 2) from rfl)]
        exact p1
      have he1 : G1[ide]? = some (.mk true 2 [vd, va]) := by rw [fr1 ide hide hidel]; exact he
      have hov' : isOne v' = true ∧ cellsOf v' = some [v'] := by rw [hv']; exact ⟨rfl, rfl⟩
      have st := store1 (o := 1) (v := v') he1 (by simp) hov'.2 hov'.1
      have hide1 : ide ∉ F1 := fun hm => by
        rcases s1 ide hm with h | h | h
        · exact hide h
        · exact (hVF ide h).2 rfl
        · omega
      have hG1l : ide < G1.length := by omega
      have hne : va ≠ v' := fun e => by
        rw [hv'] at e
        rcases ha.sub with ⟨h, _⟩ | ⟨id, off, own, cells, h, h3, _⟩
        · rw [h] at e; cases e
        · rw [h] at e
          have := (List.getElem?_eq_some_iff.1 h3).1
          simp at e
      have hgc : ∀ r, gcH G (G1.set ide (.mk true 2 [vd, v'])) r = G1.set ide (.mk true 2 [vd, v']) := fun r => gcH_diff hidel (by
        rw [List.getElem?_set_self hG1l, he]
        intro e
        cases e
        exact hne rfl)
      simp at st
      simp [code227, Tryz.f227, c1, hvS.len, hz g, ld, hov, hoa, elemT, fillL, zerosL, St.new, buildV, structPlace, p2, st, hov', hgc]
      refine ⟨v', List.getElem?_set_self hG1l, F1, ?_, n1, hide1, fun q hq => ?_, fun q hq hqF hqe => ?_, by omega⟩
      · rw [hput, List.append_assoc]
        exact AtF.kill a1 hide1
      · rcases s1 q hq with h | h | h
        · exact .inl h
        · exact .inr (.inl h)
        · exact .inr (.inr (by omega))
      · rw [List.getElem?_set_ne (fun e => hqe e.symm)]
        exact fr1 q hqF hq
  | true =>
    obtain ⟨a, hai, han⟩ := hok.1 rfl
    have hput := put_at_yes (vs := vs) h1 hp hai han
    have hi : i < l.length := (List.getElem?_eq_some_iff.1 hai).1
    by_cases g : vs = []
    · subst g
      rw [if_pos rfl, List.append_nil] at hput
      have hw : IntKind.i64.wrap ((i : Int) + 1) = (i : Int) + 1 := wrap_i64 (by omega) (by omega)
      obtain ⟨v', G1, F1, p1, a1, n1, s1, fr1, len1, hov'⟩ := l_DelA hA hn hi (by omega)
      have he1 : G1[ide]? = some (.mk true 2 [vd, va]) := by rw [fr1 ide hide]; exact he
      have st := store1 (o := 1) (v := v') he1 (by simp) hov'.2 hov'.1
      have hide1 : ide ∉ F1 := fun hm => hide (s1 ide hm)
      have hG1l : ide < G1.length := by omega
      have hgc : ∀ r, gcH G (G1.set ide (.mk true 2 [vd, v'])) r = G1.set ide (.mk true 2 [vd, v']) := fun r => gcH_lenS (by simp; exact len1)
      simp at st
      simp [code227, Tryz.f227, c1, hvS.len, ld, hov, hoa, p1, st, hov', hgc, hw]
      refine ⟨v', List.getElem?_set_self hG1l, F1, ?_, n1, hide1, fun q hq => .inl (s1 q hq), fun q hq hqF hqe => ?_, by omega⟩
      · rw [hput]
        exact AtF.kill a1 hide1
      · rw [List.getElem?_set_ne (fun e => hqe e.symm)]
        exact fr1 q hqF
    · rw [if_neg g] at hput
      have hx : AtF G shAttr [.str n, vv] (⟨n, vs⟩ : PAttr).u Fv := by
        have := AtsF_cons.2 ⟨[.str n], [vv], .str n, [.lst (vs.map strU)], [], Fv, rfl, rfl, rfl, AtF_str.2 ⟨⟨n, rfl, rfl, hnm⟩, rfl⟩, AtsF_cons.2 ⟨[vv], [], _, [], Fv, [], rfl, rfl, by simp, hV, AtsF_nil.2 ⟨rfl, rfl, rfl⟩⟩⟩
        exact AtF_st.2 ⟨_, rfl, this⟩
      obtain ⟨id, off, cells, F1, hva, g2, g3, g4, a1, n1, s1⟩ := replaceF hA hn hi hx hVn (fun q hq => (hVF q hq).1)
      have hsz : shAttr.size = 2 := rfl
      rw [hsz] at g2 g3 a1
      have hch : ∃ w0, (cells.drop (off + i * 2)).take 2 = [.str n, w0] := by
        rcases ha.sl with ⟨h, _⟩ | ⟨id', off', own', cells', h3, h4, h5, h6⟩
        · rw [h] at hva; cases hva
        · rw [hva, List.length_map] at h3
          cases h3
          rw [g2] at h4
          cases h4
          have := h6 i a.u (by rw [List.getElem?_map, hai]; rfl)
          obtain ⟨w0, hw0, _⟩ := attr_at.1 this
          rw [hsz, han] at hw0
          exact ⟨w0, hw0⟩
      obtain ⟨w0, hch⟩ := hch
      have hsc := set_cells (c1 := [.str n]) (c2 := []) (v := w0) (w := vv) (o := off + i * 2) (n := 2) hch (by omega)
      simp only [List.length_cons, List.length_nil, List.append_nil, List.cons_append, List.nil_append] at hsc
      have hne : ide ≠ id := fun e => hide (by rw [e]; exact g4)
      have st := store1 (o := off + i * 2 + 1) (v := vv) g2 (by omega) hov.2 hov.1
      rw [show off + i * 2 + 1 = off + i * 2 + (0 + 1) by omega, hsc] at st
      simp only [Nat.zero_add] at st
      have hide1 : ide ∉ F1 := fun hm => (s1 ide hm).elim hide fun h => (hVF ide h).2 rfl
      have hgc : ∀ r, gcH G (G.set id (.mk true 2 (setRange cells (off + i * 2) [.str n, vv]))) r = G.set id (.mk true 2 (setRange cells (off + i * 2) [.str n, vv])) := fun r => gcH_lenS (by simp)
      have hiI : (i : Int) < l.length := by omega
      have hz' := hz g
      have hvs0 : ¬ ((vs.length : Int) = 0) := by omega
      subst hva
      simp [-setRange, code227, Tryz.f227, c1, hvS.len, ld, hov, hoa, st, hgc, hz', hi, hvs0, g]
      refine ⟨_, by rw [List.getElem?_set_ne (fun e => hne e.symm)]; exact he, F1, ?_, n1, hide1, fun q hq => (s1 q hq).imp (fun h => h) .inl, fun q hq hqF hqe => ?_⟩
      · rw [hput, List.append_assoc]
        have hset : l.set i ⟨n, vs⟩ = l.take i ++ ([⟨n, vs⟩] ++ l.drop (i + 1)) := by rw [List.set_eq_take_append_cons_drop, if_pos hi]; rfl
        rw [← hset]
        exact a1
      · exact List.getElem?_set_ne fun e => hqF (by rw [← e]; exact g4)
end Go.Proofs.Try1
end

section
namespace Go.Lite
open Go
set_option linter.unusedSimpArgs false
set_option linter.unusedVariables false

theorem cmpB_lt : ∀ (a b : Str), (Lib.compareBytes a b < 0 ↔ LtS a b) ∧ (Lib.compareBytes a b = 0 ↔ a = b)
  | [], [] => by simp [Lib.compareBytes, LtS, Op.bytesLess]
  | [], _ :: _ => by simp [Lib.compareBytes, LtS, Op.bytesLess]
  | _ :: _, [] => by simp [Lib.compareBytes, LtS, Op.bytesLess]
  | a :: az, b :: bs => by
    have ih := cmpB_lt az bs
    unfold LtS at ih ⊢
    simp only [Lib.compareBytes, Op.bytesLess]
    by_cases h1 : a < b
    · have hne : a ≠ b := fun e => by subst e; exact absurd h1 (by simp)
      simp [h1, hne]
    · by_cases h2 : b < a
      · have hne : a ≠ b := fun e => by subst e; exact h1 h2
        simp [h1, h2, hne]
      · have he : a = b := by
          have h3 : ¬ a.toNat < b.toNat := h1
          have h4 : ¬ b.toNat < a.toNat := h2
          exact UInt8.toNat_inj.1 (by omega)
        subst he
        simp [h1, ih.1, ih.2]
theorem LtS_cons {a b : UInt8} {az bs : Str} : LtS (a :: az) (b :: bs) ↔ a < b ∨ (a = b ∧ LtS az bs) := by
  unfold LtS
  simp only [Op.bytesLess]
  by_cases h1 : a < b
  · simp [h1]
  · by_cases h2 : b < a
    · have hne : a ≠ b := fun e => by subst e; exact h1 h2
      simp [h1, h2, hne]
    · have he : a = b := by
        have h3 : ¬ a.toNat < b.toNat := h1
        have h4 : ¬ b.toNat < a.toNat := h2
        exact UInt8.toNat_inj.1 (by omega)
      subst he
      simp [h1]
theorem LtS_lt : ∀ (a b : Str), LtS a b ↔ a < b
  | a, [] => by cases a <;> simp [LtS, Op.bytesLess]
  | [], b :: bs => by simp [LtS, Op.bytesLess]
  | a :: az, b :: bs => by rw [LtS_cons, List.cons_lt_cons_iff, LtS_lt az bs]
theorem LtS_tr {a b c : Str} (h1 : LtS a b) (h2 : LtS b c) : LtS a c := (LtS_lt _ _).2 (List.lt_trans ((LtS_lt _ _).1 h1) ((LtS_lt _ _).1 h2))
theorem LtS_as {a b : Str} (h1 : LtS a b) : ¬ LtS b a := fun h => LtS_irrefl _ (LtS_tr h1 h)
theorem LtS_eq {a b : Str} (h1 : ¬ LtS a b) (h2 : ¬ LtS b a) : a = b := List.le_antisymm (fun hh => h2 ((LtS_lt _ _).2 hh)) (fun hh => h1 ((LtS_lt _ _).2 hh))
theorem LtS_nt {a b c : Str} (h1 : ¬ LtS a b) (h2 : ¬ LtS b c) : ¬ LtS a c := fun h => by
  by_cases h3 : LtS b a
  · exact h2 (LtS_tr h3 h)
  · have := LtS_eq h1 h3
    subst this
    exact h2 h

theorem normLt_iff {a b : Str} : normLt a b = true ↔ LtS (norm a) (norm b) := by
  unfold normLt normCmp
  rw [decide_eq_true_eq]
  exact (cmpB_lt _ _).1
theorem normLt_no {a b : Str} : normLt a b = false ↔ ¬ LtS (norm a) (norm b) := by
  rw [← normLt_iff]; simp
theorem swoN : Sort.SWO normLt where
  irrefl x := normLt_no.2 (LtS_irrefl _)
  trans x y z h1 h2 := normLt_iff.2 (LtS_tr (normLt_iff.1 h1) (normLt_iff.1 h2))
  ntrans x y z h1 h2 := normLt_no.2 (LtS_nt (normLt_no.1 h1) (normLt_no.1 h2))

def Rises (l : List Str) : Prop := l.Pairwise fun a b => ¬ LtS (norm b) (norm a)
theorem nsort_all (l : List Str) : (nsort l).Perm l ∧ Rises (nsort l) := by
  obtain ⟨⟨h1, _, h3⟩, h4⟩ := Sort.pdq_sorts normLt swoN l.toArray 0 l.length (Lib.bitLen l.length) true true (Nat.zero_le _) (by simp) (Or.inl rfl)
  have hz : (Sort.pdq normLt l.toArray 0 l.length (Lib.bitLen l.length) true true).size = l.length := by rw [h1]; simp
  refine ⟨?_, ?_⟩
  · rw [Array.extract_eq_self_of_le (by omega), Array.extract_eq_self_of_le (by simp)] at h3
    exact h3
  · unfold Rises
    rw [List.pairwise_iff_getElem]
    intro i j hi hj hij
    unfold nsort at hi hj ⊢
    simp only [Array.length_toList] at hi hj
    have := h4 i j (Nat.zero_le _) hij (by omega)
    rw [getElem!_pos _ i (by omega), getElem!_pos _ j (by omega)] at this
    rw [normLt_no] at this
    simpa using this
theorem nsort_length (l : List Str) : (nsort l).length = l.length := (nsort_all l).1.length_eq

theorem insN_rises {l : List Str} (h : Rises l) (x : Str) : Rises (insN l x) := by
  unfold Rises insN at *
  have hd : ∀ y ∈ l.dropWhile (fun y => dec (LtS (norm y) (norm x))), ¬ LtS (norm y) (norm x) := by
    intro y hy
    induction l with
    | nil => simp at hy
    | cons a l ih =>
      rw [List.dropWhile_cons] at hy
      split at hy
      · exact ih (List.pairwise_cons.1 h).2 hy
      · rename_i hn
        have hn' : ¬ LtS (norm a) (norm x) := fun h2 => hn (dec_pos h2)
        rcases List.mem_cons.1 hy with rfl | hy
        · exact hn'
        · exact LtS_nt ((List.pairwise_cons.1 h).1 y hy) hn'
  have ht : ∀ y ∈ l.takeWhile (fun y => dec (LtS (norm y) (norm x))), LtS (norm y) (norm x) := fun y hy => dec_true.1 (List.all_eq_true.1 (List.all_takeWhile (l := l) (p := fun y => dec (LtS (norm y) (norm x)))) y hy)
  have hl : l = l.takeWhile (fun y => dec (LtS (norm y) (norm x))) ++ l.dropWhile (fun y => dec (LtS (norm y) (norm x))) := List.takeWhile_append_dropWhile.symm
  rw [hl] at h
  obtain ⟨h1, h2, h3⟩ := List.pairwise_append.1 h
  refine List.pairwise_append.2 ⟨h1, List.pairwise_cons.2 ⟨hd, h2⟩, fun a ha b hb => ?_⟩
  rcases List.mem_cons.1 hb with rfl | hb
  · exact LtS_as (ht a ha)
  · exact h3 a ha b hb
theorem sortV_rises (l : List Str) : Rises (sortV l) := by
  have : ∀ (l a : List Str), Rises a → Rises (l.foldl insN a) := by
    intro l
    induction l with
    | nil => exact fun a h => h
    | cons x l ih => exact fun a h => ih _ (insN_rises h x)
  exact this l [] List.Pairwise.nil

/-- Values whose norms are apart. -/
def Apart (l : List Str) : Prop := (l.map norm).Nodup
theorem Apart.inj {l : List Str} (h : Apart l) {a b : Str} (ha : a ∈ l) (hb : b ∈ l) (e : norm a = norm b) : a = b := by
  unfold Apart at h
  induction l with
  | nil => cases ha
  | cons x l ih =>
    rw [List.map_cons, List.nodup_cons] at h
    rcases List.mem_cons.1 ha with rfl | ha'
    · rcases List.mem_cons.1 hb with rfl | hb'
      · rfl
      · exact absurd (List.mem_map.2 ⟨b, hb', e.symm⟩) h.1
    · rcases List.mem_cons.1 hb with rfl | hb'
      · exact absurd (List.mem_map.2 ⟨a, ha', e⟩) h.1
      · exact ih h.2 ha' hb'
theorem sorts_eq {l a b : List Str} (h : Apart l) (ha : a.Perm l) (hb : b.Perm l) (ra : Rises a) (rb : Rises b) : a = b :=
  List.Perm.eq_of_pairwise (le := fun a b => ¬ LtS (norm b) (norm a)) (fun x y hx hy h1 h2 => h.inj (ha.subset hx) (hb.subset hy) (LtS_eq h2 h1)) ra rb (ha.trans hb.symm)
theorem nsort_eq {l : List Str} (h : Apart l) : nsort l = sortV l := sorts_eq h (nsort_all l).1 (sortV_perm l) (nsort_all l).2 (sortV_rises l)

theorem new_apart {l : List Str} : NewOk l ↔ (∀ x ∈ l, ValueOk x) ∧ Apart l ∧ l.length ≤ 4 := by
  unfold NewOk Apart
  rw [List.Nodup, List.pairwise_iff_getElem]
  constructor
  · rintro ⟨h1, h2⟩
    refine ⟨fun x hx => ?_, fun i j hi hj hij => ?_, h2⟩
    · obtain ⟨j, hj, rfl⟩ := List.getElem_of_mem hx
      exact (h1 j _ (List.getElem?_eq_getElem hj)).1
    · simp only [List.length_map] at hi hj
      simp only [List.getElem_map]
      exact (h1 j _ (List.getElem?_eq_getElem hj)).2 i _ hij (List.getElem?_eq_getElem hi)
  · rintro ⟨h1, h2, h3⟩
    refine ⟨fun i x hx => ⟨h1 x (List.mem_of_getElem? hx), fun j y hji hy => ?_⟩, h3⟩
    obtain ⟨hi, rfl⟩ := List.getElem?_eq_some_iff.1 hx
    obtain ⟨hj, rfl⟩ := List.getElem?_eq_some_iff.1 hy
    have := h2 j i (by simpa using hj) (by simpa using hi) hji
    simpa using this
theorem new_iff {l : List Str} : (l = [] ∨ ValuesOk (nsort l)) ↔ NewOk l := by
  rw [new_apart]
  obtain ⟨hp, hr⟩ := nsort_all l
  constructor
  · rintro (rfl | h)
    · exact ⟨by simp, by simp [Apart], by simp⟩
    · obtain ⟨h1, h2, h3⟩ := h
      refine ⟨fun x hx => ?_, ?_, by rw [← hp.length_eq]; exact h3⟩
      · obtain ⟨j, hj, rfl⟩ := List.getElem_of_mem (hp.symm.subset hx)
        exact (h1 j _ (List.getElem?_eq_getElem hj)).1
      · unfold Apart
        refine (hp.map norm).nodup_iff.1 ?_
        have hstep : ∀ i j (hi : i < (nsort l).length) (hj : j < (nsort l).length), i < j → LtS (norm (nsort l)[i]) (norm (nsort l)[j]) := by
          intro i j hi hj hij
          obtain ⟨d, hd⟩ : ∃ d, j = i + 1 + d := ⟨j - i - 1, by omega⟩
          subst hd
          induction d with
          | zero => exact (h1 (i + 1) _ (List.getElem?_eq_getElem hj)).2 _ (by omega) (by rw [show i + 1 - 1 = i by omega]; exact List.getElem?_eq_getElem hi)
          | succ d ih => exact LtS_tr (ih (by omega) (by omega)) ((h1 (i + 1 + (d + 1)) _ (List.getElem?_eq_getElem hj)).2 _ (by omega) (by rw [show i + 1 + (d + 1) - 1 = i + 1 + d by omega]; exact List.getElem?_eq_getElem (by omega)))
        rw [List.Nodup, List.pairwise_iff_getElem]
        intro i j hi hj hij e
        simp only [List.length_map] at hi hj
        simp only [List.getElem_map] at e
        have := hstep i j hi hj hij
        rw [e] at this
        exact LtS_irrefl _ this
  · rintro ⟨h1, h2, h3⟩
    by_cases hl : l = []
    · exact .inl hl
    · refine .inr ⟨fun j x hx => ⟨h1 x (hp.subset (List.mem_of_getElem? hx)), fun y hj hy => ?_⟩, ?_, by rw [hp.length_eq]; exact h3⟩
      · obtain ⟨hj1, hx'⟩ := List.getElem?_eq_some_iff.1 hx
        obtain ⟨hj2, hy'⟩ := List.getElem?_eq_some_iff.1 hy
        have h4 := List.pairwise_iff_getElem.1 hr (j - 1) j hj2 hj1 (by omega)
        rw [hx', hy'] at h4
        refine Classical.byContradiction fun h5 => ?_
        have h6 := LtS_eq h5 h4
        have hnd : ((nsort l).map norm).Nodup := (hp.map norm).nodup_iff.2 h2
        rw [List.Nodup, List.pairwise_iff_getElem] at hnd
        have := hnd (j - 1) j (by simpa using hj2) (by simpa using hj1) (by omega)
        simp only [List.getElem_map, hx', hy'] at this
        exact this h6
      · rw [hp.length_eq]
        exact List.length_pos_iff.2 hl
end Go.Lite
end

section
namespace Go.Proofs.Try1
open Go Go.Lite
set_option linter.unusedSimpArgs false
set_option linter.unusedVariables false

theorem aName : NameOk [97] := ⟨by decide, by decide, fun i c h => by
  cases i with
  | zero => cases h; exact .inl ⟨by decide, by decide⟩
  | succ i => simp at h⟩

set_option maxRecDepth 10000 in
set_option maxHeartbeats 4000000 in
theorem i_sorted {H : List Ob} {v : V} {l : List Str} (h : AStrs H v l) (hl : l.length ≤ 1000000) :
    ∃ T w, callW C 103 [v] H = some (.tup [w, .bool (dec (NewOk l))], H ++ T) ∧ New H.length (H ++ T).length (H ++ T) (.slice .str) [w] (.lst ((nsort l).map strU)) := by
  suffices hs : Ret C 103 [v] H fun q H' => ∃ T w, q = .tup [w, .bool (dec (NewOk l))] ∧ H' = H ++ T ∧ New H.length (H ++ T).length (H ++ T) (.slice .str) [w] (.lst ((nsort l).map strU)) by
    obtain ⟨q, H', hc, T, w, rfl, rfl, hr⟩ := hs
    exact ⟨T, w, hc, hr⟩
  rw [op103]
  obtain ⟨T, w, c1, hw⟩ := l_Clone h hl
  have hmax := h.max
  have hP : ∀ args H, callW C 221 args H = sortFnPrim 222 args H := fun args H => by rw [callW_prim (show C.prim 221 = some (sortFnPrim 222) from rfl)]
  rcases hw with ⟨rfl, rfl⟩ | hG
  · have c2 : callW C 221 [.slc none 0, .fn 222 [] []] (H ++ T) = some (.tup [], H ++ T) := by rw [hP]; rfl
    have hd : dec (NewOk []) = true := dec_pos (new_iff.1 (.inl rfl))
    have hn0 : nsort [] = [] := List.length_eq_zero_iff.1 (by rw [nsort_length]; rfl)
    have hgc : gcH H (H ++ T) (.tup [.slc none 0, .bool true]) = H := gcH_low (by simp [lowV])
    simp [code103, Tryz.f103, c1, c2, hgc, hd]
    rw [hn0]
    exact New.nil
  · obtain ⟨T', id, hT, g1, g2, rfl⟩ := hG
    have hT' := List.append_cancel_left hT
    subst hT'
    rw [List.length_map] at c1
    have hid : id < (H ++ T).length := (List.getElem?_eq_some_iff.1 g2).1
    obtain ⟨K, hK⟩ : ∃ K, K = (H ++ T).set id (.mk true 1 ((nsort l).map V.str)) := ⟨_, rfl⟩
    obtain ⟨S, hS⟩ : ∃ S, K = H ++ S := ⟨_, by rw [hK, List.set_append_right _ _ g1]⟩
    have hKg : K[id]? = some (.mk true 1 ((nsort l).map V.str)) := by rw [hK]; exact List.getElem?_set_self hid
    have hlen := nsort_length l
    have c2 : callW C 221 [.slc (some (id, 0)) l.length, .fn 222 [] []] (H ++ T) = some (.tup [], if l.length = 0 then H ++ T else K) := by
      rw [hP]
      by_cases h0 : l.length = 0
      · simp [sortFnPrim, h0]
      · have hst : strsOf (((l.map V.str).drop 0).take l.length) = some l := by rw [List.drop_zero, List.take_of_length_le (by simp)]; exact strsOf_map l
        have hsr : setRange (l.map V.str) 0 ((nsort l).map V.str) = (nsort l).map V.str := by
          simp [setRange, hlen]
        simp only [sortFnPrim, if_true, if_neg h0, g2]
        rw [if_pos ⟨trivial, by simp, hl⟩, hst]
        simp only [hsr, hK]
    have hnK : l ≠ [] → New H.length K.length K (.slice .str) [.slc (some (id, 0)) l.length] (.lst ((nsort l).map strU)) := fun _ => by
      have hgs : Gs H K (.slc (some (id, 0)) l.length) ((nsort l).map V.str) := ⟨S, id, hS, g1, hKg, by simp [hlen]⟩
      exact hgs.new (by rw [hlen]; unfold maxLen; omega) fun s hs => hmax s ((nsort_all l).1.subset hs)
    by_cases g : l = []
    · subst g
      have hn0 : nsort [] = [] := List.length_eq_zero_iff.1 (by rw [nsort_length]; rfl)
      have hd : dec (NewOk []) = true := dec_pos (new_iff.1 (.inl rfl))
      have hgc : gcH H (H ++ T) (.tup [.slc (some (id, 0)) 0, .bool true]) = H ++ T := gcH_not fun h => by
        obtain ⟨⟨own, es, cells, h⟩, _⟩ := h
        have := (List.getElem?_eq_some_iff.1 h).1
        omega
      simp at c1 c2
      simp [code103, Tryz.f103, c1, c2, hd, hgc]
      rw [hn0]
      have hgs : Gs H (H ++ T) (.slc (some (id, 0)) 0) ([].map V.str) := ⟨T, id, rfl, g1, g2, rfl⟩
      simpa using hgs.new (l := []) (by simp) (by simp)
    · have h0 : ¬ l.length = 0 := fun h => g (List.length_eq_zero_iff.1 h)
      rw [if_neg h0] at c2
      have hn := hnK g
      have hws : AStrs K (.slc (some (id, 0)) l.length) (nsort l) := hn.at
      have c3 := i_Attr (n := [97]) hws
      have hd : dec (NewOk l) = dec (NameOk [97] ∧ ValuesOk (nsort l)) := dec_iff ⟨fun h => ⟨aName, (new_iff.2 h).resolve_left g⟩, fun h => new_iff.1 (.inr h.2)⟩
      rw [← hd] at c3
      have hgc : ∀ b, gcH H K (.tup [.slc (some (id, 0)) l.length, .bool b]) = K := fun b => gcH_not fun h => by
        obtain ⟨⟨own, es, cells, h⟩, _⟩ := h
        have := (List.getElem?_eq_some_iff.1 h).1
        omega
      have h0' : ¬ (l.length : Int) = 0 := by omega
      simp [code103, Tryz.f103, c1, c2, c3, h0', g, buildV, structPlace, fillL, hgc]
      exact ⟨S, hS, by rw [← List.length_append, ← hS]; exact hn⟩
end Go.Proofs.Try1
end

section
namespace Go.Proofs.Try1
open Go Go.Lite
set_option linter.unusedSimpArgs false
set_option linter.unusedVariables false

theorem first_uniq {α : Type} {key : α → Str} {l : List α} {t : Str} {i : Nat} {a : α} (hp : l.Pairwise fun a b => key a < key b) (h : l[i]? = some a) (hk : key a = t) : firstOf key l t = some a := by
  unfold firstOf
  rw [List.find?_eq_some_iff_getElem]
  obtain ⟨hi, h⟩ := List.getElem?_eq_some_iff.1 h
  refine ⟨by simp [hk], i, hi, h, fun j hj => ?_⟩
  have := List.pairwise_iff_getElem.1 hp j i (by omega) hi hj
  rw [h, hk] at this
  have hne : key l[j] ≠ t := fun e => by rw [e] at this; exact List.lt_irrefl _ this
  simp [hne]
theorem first_none {α : Type} {key : α → Str} {l : List α} {t : Str} (h : ∀ a ∈ l, key a ≠ t) : firstOf key l t = none := by
  unfold firstOf
  rw [List.find?_eq_none]
  intro x hx
  simpa using h x hx

set_option maxRecDepth 10000 in
theorem i_find {H : List Ob} {ide : Nat} {own : Bool} {es : Nat} {vd va : V} {l : List PAttr} {t : Str} (he : H[ide]? = some (.mk own es [vd, va])) (h : AAttrs H va l) (hl : l.length ≤ 1000) (hp : l.Pairwise fun a b => a.name < b.name) :
    ∃ (i : Nat) (ok : Bool), callW C 226 [.ptr (some (ide, 0)), .str t] H = some (.tup [.int .i64 i, .bool ok], H) ∧
      (ok = true → ∃ a, l[i]? = some a ∧ a.name = t) ∧ (ok = false → ∀ a ∈ l, a.name ≠ t) := by
  obtain ⟨i, ok, c1, h1, h2⟩ := l_search (t := t) h hl hp
  refine ⟨i, ok, ?_, h1, h2⟩
  apply Ret.eq
  rw [op226]
  have ld := load1 (o := 1) (v := va) he rfl
  simp [code226, Tryz.f226, ld, c1]

set_option maxRecDepth 10000 in
theorem i_values {H : List Ob} {ide : Nat} {own : Bool} {es : Nat} {vd va : V} {l : List PAttr} {t : Str} (he : H[ide]? = some (.mk own es [vd, va])) (h : AAttrs H va l) (hl : l.length ≤ 1000) (hp : l.Pairwise fun a b => a.name < b.name) :
    ∃ w, callW C 154 [.ptr (some (ide, 0)), .str t] H = some (w, H) ∧ AStrs H w (valsOf l t) := by
  obtain ⟨i, ok, c1, h1, h2⟩ := i_find (t := t) he h hl hp
  suffices hs : Ret C 154 [.ptr (some (ide, 0)), .str t] H fun q H' => AStrs H q (valsOf l t) ∧ H' = H by
    obtain ⟨q, H', hc, hr, rfl⟩ := hs
    exact ⟨q, hc, hr⟩
  rw [op154]
  have ld := load1 (o := 1) (v := va) he rfl
  cases ok with
  | false =>
    have hv : valsOf l t = [] := by unfold valsOf; rw [first_none (h2 rfl)]
    simp [code154, Tryz.f154, c1, hv]
    exact At_slice.2 ⟨_, _, rfl, rfl, by simp, .inl ⟨rfl, rfl⟩⟩
  | true =>
    obtain ⟨a, ha, hat⟩ := h1 rfl
    obtain ⟨id, o, w, e1, l0, l1, _, hw, _⟩ := attrs_idx h ha
    have hv : valsOf l t = a.vals := by unfold valsOf; rw [first_uniq hp ha hat]
    simp [code154, Tryz.f154, c1, ld, e1, l1, hv]
    exact hw

theorem i_hasIt {H : List Ob} {ide idp : Nat} {own own' : Bool} {es es' : Nat} {vd va : V} {l : List PAttr} {t : Str} (he : H[ide]? = some (.mk own es [vd, va])) (hq : H[idp]? = some (.mk own' es' [.ptr (some (ide, 0))])) (h : AAttrs H va l) (hl : l.length ≤ 1000) (hp : l.Pairwise fun a b => a.name < b.name) :
    callW C 249 [.str t, .ptr (some (idp, 0))] H = some (.bool (decide (0 < (valsOf l t).length)), H) := by
  obtain ⟨w, c1, hw⟩ := i_values (t := t) he h hl hp
  apply Ret.eq
  rw [op249]
  have ld := load1 (o := 0) (v := .ptr (some (ide, 0))) hq rfl
  simp [code249, Tryz.f249, ld, c1, hw.len]

theorem i_named {H : List Ob} {idn : Nat} {own : Bool} {es : Nat} {n t : Str} {w1 w2 w3 : V} (hq : H[idn]? = some (.mk own es [.str t])) (h1 : cellsOf w1 = some [w1]) :
    callW C 251 [.agg [.str n, w1, w2, w3], .ptr (some (idn, 0))] H = some (.bool (decide (n = t)), H) := by
  apply Ret.eq
  rw [op251]
  have ld := load1 (o := 0) (v := .str t) hq rfl
  simp [code251, Tryz.f251, ld]

set_option maxRecDepth 10000 in
theorem l_idxClass {H : List Ob} {idn : Nat} {own : Bool} {es : Nat} {v : V} {l : List PClass} {t : Str} (hq : H[idn]? = some (.mk own es [.str t])) (h : AClasses H v l) :
    ∃ r : Int, callW C 250 [v, .fn 251 [] [.ptr (some (idn, 0))]] H = some (.int .i64 r, H) ∧ FirstAt PClass.name l t r := by
  suffices hs : Ret C 250 [v, .fn 251 [] [.ptr (some (idn, 0))]] H fun q H' => (∃ r : Int, q = .int .i64 r ∧ FirstAt PClass.name l t r) ∧ H' = H by
    obtain ⟨q, H', hc, ⟨r, rfl, hr⟩, rfl⟩ := hs
    exact ⟨r, hc, hr⟩
  rw [op250]
  have hb : l.length ≤ 9223372036854775807 := h.bound
  simp [code250, Tryz.f250, h.len]
  refine WP_loop (fun k σ => ∃ (i : Nat) (r : Nat → R), i + k = l.length ∧ σ = ⟨r, 0, H⟩ ∧ r 0 = .val v ∧ r 1 = .val (.fn 251 [] [.ptr (some (idn, 0))]) ∧ r 7 = .val (.int .i64 l.length) ∧ r 8 = .val (.int .i64 i) ∧ ∀ j x, j < i → l[j]? = some x → x.name ≠ t) ?_ l.length _ ⟨0, _, by simp, rfl, by simp, by simp, by simp, by simp, by simp⟩
  rintro k σ ⟨i, r, hik, rfl, r0, r1, r7, r8, hall⟩
  cases k with
  | zero =>
    have hi : i = l.length := by omega
    subst hi
    have hx := at_all (P := fun j (x : PClass) => x.name ≠ t) hall
    simp [r0, r1, r7, r8]
    exact .inr ⟨hx, rfl⟩
  | succ k =>
    have hi : i < l.length := by omega
    obtain ⟨x, hx⟩ : ∃ c, l[i]? = some c := ⟨l[i], by simp [hi]⟩
    have hw : IntKind.i64.wrap ((i : Int) + 1) = ((i : Int) + 1) := wrap_i64 (by omega) (by omega)
    obtain ⟨id, o, w1, w2, w3, e1, l0, l4, q1, q2, q3, _⟩ := classes_idx h hx
    have c1 := i_named (n := x.name) (w1 := w1) (w2 := w2) (w3 := w3) hq q1.one.2
    by_cases g1 : x.name = t
    · rw [decide_eq_true g1] at c1
      simp [r0, r1, r7, r8, hi, e1, l4, c1]
      exact .inl ⟨i, x, hx, g1, hall, rfl⟩
    · rw [decide_eq_false g1] at c1
      simp [r0, r1, r7, r8, hi, e1, l4, c1, hw]
      exact ⟨k, by omega, i + 1, by omega, by omega, at_step (P := fun j (x : PClass) => x.name ≠ t) hall hx g1⟩

theorem strs_low {H T : List Ob} {w : V} {l : List Str} (h : AStrs (H ++ T) w l) (hl : lowV H w) : AStrs H w l := by
  obtain ⟨w', us, hw, hu, hb, hs⟩ := At_slice.1 h.at
  cases hw
  cases hu
  refine At_slice.2 ⟨_, _, rfl, rfl, hb, ?_⟩
  rcases hs with h | ⟨id, off, own, cells, rfl, h2, h3, h4⟩
  · exact .inl h
  · obtain ⟨_, _, _, h5⟩ := hl
    have hid := (List.getElem?_eq_some_iff.1 h5).1
    rw [List.getElem?_append_left hid] at h2
    refine .inr ⟨id, off, own, cells, rfl, h2, h3, fun i x hx => ?_⟩
    have := h4 i x hx
    rw [At_str] at this ⊢
    exact this

/-- What is cut off does not matter to a class that is handed back. -/
theorem class_gc {H T : List Ob} {m : Option PClass} {cs : List V} {ok : Bool} (h : ClassRes (H ++ T) m cs ok) : ∃ T', gcH H (H ++ T) (.tup [.agg cs, .bool ok]) = H ++ T' ∧ ClassRes (H ++ T') m cs ok := by
  by_cases hl : lowV H (.tup [.agg cs, .bool ok])
  · refine ⟨[], by rw [gcH_low hl, List.append_nil], ?_⟩
    rw [List.append_nil]
    rcases h with ⟨rfl, c, w1, w2, w3, h1, rfl, h2, h3, h4⟩ | h
    · simp only [lowV, lowVs, and_true, true_and] at hl
      exact .inl ⟨rfl, c, w1, w2, w3, h1, rfl, strs_low h2 hl.1, strs_low h3 hl.2.1, strs_low h4 hl.2.2⟩
    · exact .inr h
  · refine ⟨T, ?_, h⟩
    unfold gcH
    rw [if_neg fun h => hl h.2]
end Go.Proofs.Try1
end

section
namespace Go.Proofs.Try1
open Go Go.Lite
set_option linter.unusedSimpArgs false
set_option linter.unusedVariables false

/-- An answer of a call's own. -/
def NOut (H : List Ob) (o : PEntryOut) (q : V) (H' : List Ob) : Prop := ∃ T w1 w2, q = .agg [w1, w2, .int .i64 o.code] ∧ H' = H ++ T ∧ New H.length (H ++ T).length (H ++ T) shEntryOut [w1, w2, .int .i64 o.code] o.u
theorem NOut.ill {H : List Ob} {c : Int} (h : (Lit.int .i64 c).wf = true) : NOut H (illE c) (.agg [.slc none 0, .slc none 0, .int .i64 c]) H :=
  ⟨[], .slc none 0, .slc none 0, rfl, by simp, New.st (News.cons (c1 := [.slc none 0, .slc none 0]) (m := H.length) (New.st (News.nilS (News.nilS News.nil))) (News.int h News.nil) (Nat.le_refl _) (by simp))⟩
theorem NOut.of {H G : List Ob} {e : PEntry} {w1 w2 : V} (hT : ∃ T, G = H ++ T) (hn : New H.length G.length G shEntry [w1, w2] e.u) : NOut H ⟨e, 0⟩ (.agg [w1, w2, .int .i64 0]) (gcH H G (.agg [w1, w2, .int .i64 0])) := by
  obtain ⟨T, rfl⟩ := hT
  have h2 : New H.length (H ++ T).length (H ++ T) shEntryOut [w1, w2, .int .i64 0] (PEntryOut.u ⟨e, 0⟩) := New.st (News.cons (c1 := [w1, w2]) (m := (H ++ T).length) hn (News.int (by decide) News.nil) (by simp) (Nat.le_refl _))
  obtain ⟨T', h3, h4⟩ := h2.gcA
  exact ⟨T', w1, w2, rfl, h3, h4⟩
/-- The same, of objects from a number on. -/
def NOutB (b : Nat) (H : List Ob) (o : PEntryOut) (q : V) (H' : List Ob) : Prop := ∃ T w1 w2, q = .agg [w1, w2, .int .i64 o.code] ∧ H' = H ++ T ∧ New b (H ++ T).length (H ++ T) shEntryOut [w1, w2, .int .i64 o.code] o.u
theorem NOutB.base {H : List Ob} {X : List Ob} {o : PEntryOut} {q : V} {H' : List Ob} (h : NOutB H.length (H ++ X) o q H') : NOut H o q (gcH H H' q) := by
  obtain ⟨T, w1, w2, rfl, rfl, h3⟩ := h
  rw [List.append_assoc] at h3 ⊢
  obtain ⟨T', h4, h5⟩ := h3.gcA
  exact ⟨T', w1, w2, rfl, h4, h5⟩
theorem NOutB.one {b : Nat} {H : List Ob} {o : PEntryOut} {q : V} {H' : List Ob} (h : NOutB b H o q H') : ∃ w1 w2, q = .agg [w1, w2, .int .i64 o.code] ∧ (isOne w1 = true ∧ cellsOf w1 = some [w1]) ∧ (isOne w2 = true ∧ cellsOf w2 = some [w2]) := by
  obtain ⟨T, w1, w2, rfl, rfl, h3⟩ := h
  obtain ⟨_, _, hcs, a1, a2, _⟩ := entryOut_at.1 h3.at
  cases hcs
  exact ⟨w1, w2, rfl, a1.one, a2.one⟩

end Go.Proofs.Try1
end

section
namespace Go.Proofs.Try1
open Go Go.Lite
set_option linter.unusedSimpArgs false
set_option linter.unusedVariables false

/-- What a change leaves: a code, or the entry changed in its place. -/
def Chg (b : Nat) (H : List Ob) (ide : Nat) (G : List Ob) (o : PEntryOut) (code : Int) (G' : List Ob) : Prop :=
  code = o.code ∧ (∀ q, q < H.length → G'[q]? = G[q]?) ∧ G.length ≤ G'.length ∧ (code = 0 → ∃ d a F, G'[ide]? = some (.mk true 2 [d, a]) ∧ AtF G' shEntry [d, a] o.entry.u F ∧ F.Nodup ∧ (∀ q ∈ F, b ≤ q) ∧ ¬ lowV H d)

theorem keep_pre {H G : List Ob} (h : ∀ q, q < H.length → G[q]? = H[q]?) (hl : H.length ≤ G.length) : ∃ T, G = H ++ T := by
  refine ⟨G.drop H.length, List.ext_getElem? fun i => ?_⟩
  by_cases hi : i < H.length
  · rw [List.getElem?_append_left hi, h i hi]
  · rw [List.getElem?_append_right (by omega), List.getElem?_drop]
    congr 1
    omega

set_option maxRecDepth 10000 in
set_option maxHeartbeats 4000000 in
theorem i_changed {bd : Nat} {H : List Ob} {vd va : V} {e : PEntry} {g : Nat} {b : List V} {o : PEntryOut} (hd : ARdns H vd e.dn) (ha : AAttrs H va e.attrs) (hb : SmallE e) (hill : o.code ≠ 0 → o = illE o.code) (hwf : (Lit.int .i64 o.code).wf = true) (hbd0 : bd ≤ H.length)
    (hcall : ∀ K d a, (∃ T, K = H ++ T) → New H.length K.length K shEntry [d, a] e.u → ∃ code G', callW C g ([.ptr (some (K.length, 0))] ++ b) (K ++ [.mk true 2 [d, a]]) = some (.int .i64 code, G') ∧ Chg bd H K.length (K ++ [.mk true 2 [d, a]]) o code G') :
    ∃ q H', callW C 106 [.agg [vd, va], .fn g [] b] H = some (q, H') ∧ NOutB bd H o q H' := by
  suffices hs : Ret C 106 [.agg [vd, va], .fn g [] b] H fun q H' => NOutB bd H o q H' by
    obtain ⟨q, H', hc, hr⟩ := hs
    exact ⟨q, H', hc, hr⟩
  rw [op106]
  have hod := hd.one
  have hoa := ha.one
  obtain ⟨T1, d, a, c1, n1⟩ := i_copied hd ha hb
  obtain ⟨K, hK⟩ : ∃ K, K = H ++ T1 := ⟨_, rfl⟩
  rw [← hK] at c1 n1
  obtain ⟨_, _, hcs, hd1, ha1⟩ := entry_at.1 n1.at
  cases hcs
  have hoD := hd1.one
  have hoA := ha1.one
  obtain ⟨code, G', c2, rfl, hfr, hlen, hok⟩ := hcall K d a ⟨T1, hK⟩ n1
  have hpre : ∃ T, G' = H ++ T := keep_pre (fun q hq => by rw [hfr q hq, hK, List.append_assoc, List.getElem?_append_left hq]) (by rw [hK] at hlen; simp at hlen; omega)
  have st := storeN (H := K ++ [.mk true 2 [.slc none 0, .slc none 0]]) (o := 0) (l := [d, a]) get_last (by simp) (by simp) (by simp [hoD, hoA])
  simp at st
  by_cases g0 : o.code = 0
  · obtain ⟨d', a', F, k1, k2, k3, k4, k5⟩ := hok g0
    have hn : New bd G'.length G' shEntry [d', a'] o.entry.u := ⟨F, k2, k3, fun q hq => ⟨k4 q hq, AtF.mem _ k2 q hq⟩⟩
    obtain ⟨_, _, hcs, hd2, ha2⟩ := entry_at.1 hn.at
    cases hcs
    have hoD' := hd2.one
    have hoA' := ha2.one
    have ld := loadN (o := 0) (n := 2) k1 (by simp) (by decide) rfl
    simp at ld
    have hgc : gcH H G' (.agg [d', a', .int .i64 0]) = G' := gcH_not fun h => k5 h.1
    have hfin : NOutB bd H ⟨o.entry, 0⟩ (.agg [d', a', .int .i64 0]) G' := by
      obtain ⟨T, hT⟩ := hpre
      have hle : bd ≤ G'.length := by rw [hT]; simp; omega
      have h2 : New bd G'.length G' shEntryOut [d', a', .int .i64 0] (PEntryOut.u ⟨o.entry, 0⟩) := New.st (News.cons (c1 := [d', a']) (m := G'.length) hn (News.int (by decide) News.nil) hle (Nat.le_refl _))
      exact ⟨T, d', a', rfl, hT, by rw [← hT]; exact h2⟩
    obtain ⟨oe, oc⟩ := o
    simp only at g0 c2 hfin
    subst g0
    simp at c2
    simp [code106, Tryz.f106, c1, c2, hod, hoa, hoD, hoA, hoD', hoA', strideOf, st, ld, buildV, structPlace, fillL, hgc]
    exact hfin
  · have hgc : gcH H G' (.agg [.slc none 0, .slc none 0, .int .i64 o.code]) = H := by
      obtain ⟨T, rfl⟩ := hpre
      exact gcH_low (by simp [lowV, lowVs])
    have hfin : NOutB bd H o (.agg [.slc none 0, .slc none 0, .int .i64 o.code]) H := by
      refine ⟨[], .slc none 0, .slc none 0, rfl, by simp, ?_⟩
      have hn : New bd (H ++ []).length (H ++ []) shEntryOut [.slc none 0, .slc none 0, .int .i64 o.code] (illE o.code).u := New.st (News.cons (c1 := [.slc none 0, .slc none 0]) (m := bd) (New.st (News.nilS (News.nilS News.nil))) (News.int hwf News.nil) (Nat.le_refl _) (by simpa using hbd0))
      rw [← hill g0] at hn
      exact hn
    simp at c2
    simp [code106, Tryz.f106, c1, c2, hod, hoa, hoD, hoA, strideOf, st, g0, buildV, structPlace, fillL, hgc]
    exact hfin

set_option maxRecDepth 10000 in
set_option maxHeartbeats 4000000 in
theorem i_replace {G : List Ob} {ide : Nat} {vd va vv : V} {l : List PAttr} {n : Str} {vs : List Str} {F Fv : List Nat} (he : G[ide]? = some (.mk true 2 [vd, va])) (hA : AtF G (.slice shAttr) [va] (.lst (l.map PAttr.u)) F) (hn : F.Nodup) (hide : ide ∉ F) (hl : l.length ≤ 1000) (hp : l.Pairwise fun a b => a.name < b.name) (hnm : n.length ≤ maxLen)
    (hV : AtF G (.slice .str) [vv] (.lst (vs.map strU)) Fv) (hVn : Fv.Nodup) (hVF : ∀ q ∈ Fv, q ∉ F ∧ q ≠ ide) :
    ∃ code G', callW C 108 [.ptr (some (ide, 0)), .str n, vv] G = some (.int .i64 code, G') ∧ code = (if vs ≠ [] ∧ l.length = 8 ∧ firstOf PAttr.name l n = none then 9 else 0) ∧ (code ≠ 0 → G' = G) ∧ (code = 0 → ∃ va' F', G'[ide]? = some (.mk true 2 [vd, va']) ∧ AtF G' (.slice shAttr) [va'] (.lst ((putAttr l n vs).map PAttr.u)) F' ∧ F'.Nodup ∧ ide ∉ F' ∧
      (∀ q ∈ F', q ∈ F ∨ q ∈ Fv ∨ G.length ≤ q) ∧ (∀ q, q < G.length → q ∉ F → q ≠ ide → G'[q]? = G[q]?) ∧ G.length ≤ G'.length ∧ ∀ r, gcH G G' r = G') := by
  suffices hs : Ret C 108 [.ptr (some (ide, 0)), .str n, vv] G fun q G' => ∃ code, q = .int .i64 code ∧ code = (if vs ≠ [] ∧ l.length = 8 ∧ firstOf PAttr.name l n = none then 9 else 0) ∧ (code ≠ 0 → G' = G) ∧ (code = 0 → ∃ va' F', G'[ide]? = some (.mk true 2 [vd, va']) ∧ AtF G' (.slice shAttr) [va'] (.lst ((putAttr l n vs).map PAttr.u)) F' ∧ F'.Nodup ∧ ide ∉ F' ∧
      (∀ q ∈ F', q ∈ F ∨ q ∈ Fv ∨ G.length ≤ q) ∧ (∀ q, q < G.length → q ∉ F → q ≠ ide → G'[q]? = G[q]?) ∧ G.length ≤ G'.length ∧ ∀ r, gcH G G' r = G') by
    obtain ⟨q, G', hc, code, rfl, hr⟩ := hs
    exact ⟨code, G', hc, hr⟩
  rw [op108]
  have ha : AAttrs G va l := AtF.at _ hA
  have hvS : AStrs G vv vs := AtF.at _ hV
  obtain ⟨i, ok, c1, hil, h1, h2, hok⟩ := i_findS (t := n) he ha hl hp
  have ld := load1 (o := 1) (v := va) he rfl
  have hfo : ok = false ↔ firstOf PAttr.name l n = none := by
    cases ok with
    | true =>
      obtain ⟨a, ha1, ha2⟩ := hok.1 rfl
      rw [first_uniq hp ha1 ha2]
      simp
    | false =>
      refine ⟨fun _ => first_none fun a ha1 ha2 => ?_, fun _ => rfl⟩
      obtain ⟨q, hq, rfl⟩ := List.getElem_of_mem ha1
      have hqe := List.getElem?_eq_getElem hq
      rcases Nat.lt_trichotomy q i with hh | hh | hh
      · exact LtS_irrefl n (by have := h1 q _ hh hqe; rwa [ha2] at this)
      · subst hh
        have := hok.2 ⟨_, hqe, ha2⟩
        cases this
      · have h3 := List.pairwise_iff_getElem.1 hp i q (by omega) hq hh
        rw [ha2] at h3
        exact h2 i _ (Nat.le_refl _) (List.getElem?_eq_getElem (by omega)) ((LtS_iff _ _).2 h3)
  obtain ⟨G', va', F', c2, hrest⟩ := i_set he hA hn hide hl hp hnm hV hVn hVF
  have hgc := hrest.2.2.2.2.2.2.2
  by_cases g : vs ≠ [] ∧ l.length = 8 ∧ firstOf PAttr.name l n = none
  · have hz : 0 < vs.length := List.length_pos_iff.2 g.1
    have hok0 := hfo.2 g.2.2
    subst hok0
    have h8 : (l.length : Int) = 8 := by omega
    rw [if_pos g]
    simp [code108, Tryz.f108, c1, hvS.len, ha.len, hz, ld, h8, gcH_same]
  · rw [if_neg g]
    have fin : ∃ va' F', G'[ide]? = some (.mk true 2 [vd, va']) ∧ AtF G' (.slice shAttr) [va'] (.lst ((putAttr l n vs).map PAttr.u)) F' ∧ F'.Nodup ∧ ide ∉ F' ∧ (∀ q ∈ F', q ∈ F ∨ q ∈ Fv ∨ G.length ≤ q) ∧ (∀ q, q < G.length → q ∉ F → q ≠ ide → G'[q]? = G[q]?) ∧ G.length ≤ G'.length ∧ ∀ r, gcH G G' r = G' := ⟨va', F', hrest⟩
    by_cases gv : vs = []
    · subst gv
      cases ok <;>
      · simp [code108, Tryz.f108, c1, c2, hvS.len, ha.len, ld, hgc]
        simpa [hgc] using fin
    · have hz : 0 < vs.length := List.length_pos_iff.2 gv
      cases ok with
      | true =>
        simp [code108, Tryz.f108, c1, c2, hvS.len, ha.len, hz, ld, hgc]
        simpa [hgc] using fin
      | false =>
        have h8 : ¬ (l.length : Int) = 8 := fun h => g ⟨gv, by omega, hfo.1 rfl⟩
        simp [code108, Tryz.f108, c1, c2, hvS.len, ha.len, hz, ld, h8, hgc]
        simpa [hgc] using fin
end Go.Proofs.Try1
end

section
namespace Go.Proofs.Try1
open Go Go.Lite
set_option linter.unusedSimpArgs false
set_option linter.unusedVariables false

theorem putOf_ill {e : PEntry} {n : Str} {vs : List Str} (h : (putOf e n vs).code ≠ 0) : putOf e n vs = illE (putOf e n vs).code := by
  unfold putOf at h ⊢
  split
  · rfl
  · rename_i g
    rw [if_neg g] at h
    exact absurd rfl h
theorem putOf_wf {e : PEntry} {n : Str} {vs : List Str} : (Lit.int .i64 (putOf e n vs).code).wf = true := by
  unfold putOf
  split
  · exact wf_code (n := 9) (by decide) (by decide)
  · exact wf_code (n := 0) (by decide) (by decide)

set_option maxRecDepth 10000 in
theorem i_setFn {G : List Ob} {ide idn ido : Nat} {vv : V} {n : Str} {own own' : Bool} {es es' : Nat} (hn : G[idn]? = some (.mk own es [.str n])) (ho : G[ido]? = some (.mk own' es' [vv])) {code : Int} {G' : List Ob}
    (hc : callW C 108 [.ptr (some (ide, 0)), .str n, vv] G = some (.int .i64 code, G')) (hgc : gcH G G' (.int .i64 code) = G') :
    callW C 107 [.ptr (some (ide, 0)), .ptr (some (idn, 0)), .ptr (some (ido, 0))] G = some (.int .i64 code, G') := by
  suffices hs : Ret C 107 [.ptr (some (ide, 0)), .ptr (some (idn, 0)), .ptr (some (ido, 0))] G fun r H' => r = .int .i64 code ∧ H' = G' by
    obtain ⟨r, H', h, rfl, rfl⟩ := hs
    exact h
  rw [op107]
  have l1 := load1 (o := 0) (v := .str n) hn rfl
  have l2 := load1 (o := 0) (v := vv) ho rfl
  simp [-gcH_int, code107, Tryz.f107, l1, l2, hc, hgc]

set_option maxRecDepth 10000 in
set_option maxHeartbeats 4000000 in
theorem i_AttrSet {H : List Ob} {vd va vv : V} {e : PEntry} {n : Str} {vs : List Str} (hd : ARdns H vd e.dn) (ha : AAttrs H va e.attrs) (hn : n.length ≤ maxLen) (hv : AStrs H vv vs) :
    ∃ q H', callW C 20 [.agg [vd, va], .str n, vv] H = some (q, H') ∧ NOut H (attrSetOf e n vs) q H' := by
  suffices hs : Ret C 20 [.agg [vd, va], .str n, vv] H fun q H' => NOut H (attrSetOf e n vs) q H' by
    obtain ⟨q, H', hc, hr⟩ := hs
    exact ⟨q, H', hc, hr⟩
  rw [op20]
  have hod := hd.one
  have hoa := ha.one
  have hil : ∀ (X : List Ob) c, gcH H (H ++ X) (.agg [.slc none 0, .slc none 0, .int .i64 c]) = H := fun X c => gcH_low (by simp [lowV, lowVs])
  -- the name in memory, and in the list for isLong
  obtain ⟨X, hX⟩ : ∃ X, X = H ++ [.mk true 1 [.str n]] := ⟨_, rfl⟩
  have hXn : X[H.length]? = some (.mk true 1 [.str n]) := by rw [hX]; exact get_last
  have ln := load1 (o := 0) (v := .str n) hXn rfl
  have hone : AStrs (X ++ [.mk true 1 [.str n]]) (.slc (some (X.length, 0)) 1) [n] := At_slice.2 ⟨_, _, rfl, rfl, by simp [maxLen], .inr ⟨X.length, 0, true, [.str n], rfl, get_last, by simp, fun i x hx => by
    have hi : i = 0 := by have := (List.getElem?_eq_some_iff.1 hx).1; simpa using this
    subst hi
    cases hx
    exact At_str.2 ⟨n, rfl, rfl, hn⟩⟩⟩
  obtain ⟨Y, hY⟩ : ∃ Y, Y = X ++ [.mk true 1 [.str n]] := ⟨_, rfl⟩
  rw [← hY] at hone
  have hYH : Y = H ++ [.mk true 1 [.str n], .mk true 1 [.str n]] := by rw [hY, hX]; simp
  have c1 := i_Long hone
  have c2 : callW C 102 [vv] Y = some (.bool (decide (400 < vs.length)), Y) := i_ManyS (by rw [hYH]; exact hv.ext)
  by_cases g1 : 8000 < n.length ∨ 400 < vs.length
  · have ho : attrSetOf e n vs = illE 2 := if_pos g1
    rw [ho]
    have fin := NOut.ill (H := H) (c := 2) (by decide)
    by_cases g2 : 8000 < n.length
    · rw [dec_pos ⟨n, by simp, g2⟩] at c1
      subst hY hX
      simp at c1 ln
      simp [code20, Tryz.f20, strideOf, hod, hoa, ln, c1, elemT, fillL, zerosL, St.new, buildV, structPlace, hil]
      exact fin
    · rw [dec_neg (by simpa using g2)] at c1
      have g3 : 400 < vs.length := by omega
      subst hY hX
      simp [g3] at c1 c2 ln
      simp [code20, Tryz.f20, strideOf, hod, hoa, ln, c1, c2, elemT, fillL, zerosL, St.new, buildV, structPlace, hil]
      exact fin
  · have g2 : ¬ 8000 < n.length := by omega
    have g3 : ¬ 400 < vs.length := by omega
    rw [dec_neg (by simpa using g2)] at c1
    have ho0 : attrSetOf e n vs = if dec (EntryOk e ∧ NameOk n ∧ NewOk vs) = true then putOf e n vs else illE 1 := if_neg g1
    obtain ⟨T1, w, c3, n3⟩ := i_sorted (H := Y) (v := vv) (l := vs) (by rw [hYH]; exact hv.ext) (by omega)
    obtain ⟨Z, hZ⟩ : ∃ Z, Z = Y ++ T1 := ⟨_, rfl⟩
    rw [← hZ] at c3 n3
    have how := New.one1 n3
    obtain ⟨K, hK⟩ : ∃ K, K = Z ++ [.mk true 1 [w]] := ⟨_, rfl⟩
    have hKH : ∃ S, K = H ++ S := ⟨_, by rw [hK, hZ, hYH, List.append_assoc, List.append_assoc]⟩
    obtain ⟨S, hS⟩ := hKH
    have hdK : ARdns K vd e.dn := by rw [hS]; exact hd.ext
    have haK : AAttrs K va e.attrs := by rw [hS]; exact ha.ext
    have c4 := i_Entry hdK haK
    have c5 := i_Name (t := n) (H := K)
    have hKn : K[H.length]? = some (.mk true 1 [.str n]) := by
      rw [hK, hZ, hY, List.append_assoc, List.append_assoc]
      exact up_append _ _ hXn
    have lnK := load1 (o := 0) (v := .str n) hKn rfl
    have hZl : Z.length < K.length := by rw [hK]; simp
    have hKo : K[Z.length]? = some (.mk true 1 [w]) := by rw [hK]; exact get_last
    have hsY : ∀ A B : List Ob, (H ++ A) ++ B = H ++ (A ++ B) := fun A B => List.append_assoc _ _ _
    have stw : ∀ r c, storeAt ⟨.slice 9, 1, 24, [.slc none 0]⟩ ⟨r, c, Z ++ [.mk true 1 [.slc none 0]]⟩ (.hp Z.length 0) w = some ⟨r, c, K⟩ := fun r c => by
      have := store1 (H := Z ++ [.mk true 1 [.slc none 0]]) (o := 0) (v := w) get_last (by simp) how.2 how.1 ⟨.slice 9, 1, 24, [.slc none 0]⟩ one_slice r c
      rw [this, set_last, hK]
      rfl
    have hilK : ∀ c, gcH H K (.agg [.slc none 0, .slc none 0, .int .i64 c]) = H := fun c => by rw [hS]; exact hil _ _
    have hill : ¬ (EntryOk e ∧ NameOk n ∧ NewOk vs) → attrSetOf e n vs = illE 1 := fun h => by rw [ho0, dec_neg h]; rfl
    have fin1 := NOut.ill (H := H) (c := 1) (by decide)
    simp [g3] at c2
    by_cases h3 : NewOk vs
    rotate_left
    · rw [dec_neg h3] at c3
      rw [hill fun h => h3 h.2.2]
      subst hY hX
      simp at c1 c2 c3 ln
      simp [code20, Tryz.f20, strideOf, hod, hoa, how, ln, c1, c2, c3, elemT, fillL, zerosL, St.new, buildV, structPlace, stw, hilK]
      exact fin1
    rw [dec_pos h3] at c3
    by_cases h1 : EntryOk e
    rotate_left
    · rw [dec_neg h1] at c4
      rw [hill fun h => h1 h.1]
      subst hY hX
      simp at c1 c2 c3 ln
      simp [code20, Tryz.f20, strideOf, hod, hoa, how, ln, c1, c2, c3, c4, elemT, fillL, zerosL, St.new, buildV, structPlace, stw, hilK]
      exact fin1
    rw [dec_pos h1] at c4
    by_cases h2 : NameOk n
    rotate_left
    · rw [dec_neg h2] at c5
      rw [hill fun h => h2 h.2.1]
      subst hY hX
      simp at c1 c2 c3 ln
      simp [code20, Tryz.f20, strideOf, hod, hoa, how, ln, lnK, c1, c2, c3, c4, c5, elemT, fillL, zerosL, St.new, buildV, structPlace, stw, hilK]
      exact fin1
    rw [dec_pos h2] at c5
    have ho : attrSetOf e n vs = putOf e n vs := by rw [ho0, dec_pos ⟨h1, h2, h3⟩]; rfl
    rw [ho]
    have hsv : nsort vs = sortV vs := nsort_eq (new_apart.1 h3).2.1
    rw [hsv] at n3
    have hal : e.attrs.length ≤ 8 := h1.2.2.2
    have hHK : H.length ≤ K.length := by rw [hS]; simp
    obtain ⟨q, H', c6, hq⟩ := i_changed (bd := H.length) (H := K) (g := 107) (b := [.ptr (some (H.length, 0)), .ptr (some (Z.length, 0))]) (o := putOf e n vs) hdK haK (EntryOk.small h1) putOf_ill putOf_wf (by rw [hS]; simp) (fun M d a ⟨R, hR⟩ hnew => by
      obtain ⟨F, f1, f2, f3⟩ := hnew
      have f1' : AtF (M ++ [.mk true 2 [d, a]]) shEntry [d, a] e.u F := f1.ext
      obtain ⟨us, hus, f4⟩ := AtF_st.1 f1'
      cases hus
      obtain ⟨c1', c2', u1, us1, F1, F2, hcs, hu, rfl, f5, f6⟩ := AtsF_cons.1 f4
      cases hu
      obtain ⟨c3', c4', u2, us2, F3, F4, rfl, hu, rfl, f7, f8⟩ := AtsF_cons.1 f6
      cases hu
      obtain ⟨rfl, _, rfl⟩ := AtsF_nil.1 f8
      obtain ⟨x1, _, rfl, _⟩ := AtF_slice.1 f5
      obtain ⟨x2, _, rfl, _⟩ := AtF_slice.1 f7
      simp only [List.append_nil, List.cons_append, List.nil_append, List.cons.injEq, and_true] at hcs
      obtain ⟨rfl, rfl⟩ := hcs
      rw [List.append_nil] at f2 f3
      obtain ⟨fa, fb, fc⟩ := List.nodup_append.1 f2
      obtain ⟨Fv, v1, v2, v3⟩ := n3
      have hFv : ∀ q ∈ Fv, q < Z.length := fun q hq => (v3 q hq).2
      have hMZ : Z.length ≤ M.length := by rw [hR, hK]; simp
      have hvM : AtF (M ++ [.mk true 2 [d, a]]) (.slice .str) [w] (.lst ((sortV vs).map strU)) Fv := by
        have : M ++ [.mk true 2 [d, a]] = Z ++ ([.mk true 1 [w]] ++ R ++ [.mk true 2 [d, a]]) := by rw [hR, hK]; simp
        rw [this]
        exact v1.ext
      have hKM : K.length ≤ M.length := by rw [hR]; simp
      obtain ⟨code, G', k1, k2, k3, k4⟩ := i_replace (ide := M.length) (vd := d) (va := a) (vv := w) (l := e.attrs) (n := n) (vs := sortV vs) get_last f7 (by simpa using fb) (fun hm => by have := AtF.mem _ f1 M.length (List.mem_append_right _ (by simpa using hm)); omega) (by omega) (EntryOk.rise h1) hn hvM v2 (fun q hq => ⟨fun hm => by
        have e1 := hFv q hq
        have e2 := (f3 q (List.mem_append_right _ hm)).1
        omega, by have := hFv q hq; omega⟩)
      have hsn : ∀ (i : Nat) o, K[i]? = some o → (M ++ [.mk true 2 [d, a]])[i]? = some o := fun i o h => by rw [hR, List.append_assoc]; exact up_append _ _ h
      have hcode : code = (putOf e n vs).code := by
        rw [k2]
        unfold putOf
        have hz : sortV vs = [] ↔ vs = [] := by rw [← List.length_eq_zero_iff, sortV_len, List.length_eq_zero_iff]
        have hzz : (sortV vs ≠ [] ∧ e.attrs.length = 8 ∧ firstOf PAttr.name e.attrs n = none) ↔ (vs ≠ [] ∧ 8 ≤ e.attrs.length ∧ firstOf PAttr.name e.attrs n = none) := by
          rw [Ne, hz]
          exact ⟨fun h => ⟨h.1, by omega, h.2.2⟩, fun h => ⟨h.1, by omega, h.2.2⟩⟩
        by_cases gg : vs ≠ [] ∧ 8 ≤ e.attrs.length ∧ firstOf PAttr.name e.attrs n = none
        · rw [if_pos gg, if_pos (hzz.2 gg)]; rfl
        · rw [if_neg gg, if_neg fun h => gg (hzz.1 h)]
      by_cases g0 : code = 0
      · obtain ⟨va', F', m1, m2, m3, m4, m5, m6, m7, m8⟩ := k4 g0
        refine ⟨code, G', i_setFn (hsn _ _ hKn) (hsn _ _ hKo) k1 (m8 _), hcode, fun q hq => ?_, m7, fun _ => ?_⟩
        · refine m6 q (by simp; omega) (fun hm => ?_) (by omega)
          have := (f3 q (List.mem_append_right _ hm)).1
          omega
        · have hpe : (putOf e n vs).entry = setE e n (sortV vs) := by
            rw [hcode] at g0
            unfold putOf at g0 ⊢
            split
            · rename_i gg; rw [if_pos gg] at g0; cases g0
            · rfl
          have hx1 : AtF G' (.slice shRdn) [d] (.lst (e.dn.map PRdn.u)) F1 := AtF.frame _ (fun q hq => m6 q (AtF.mem _ f5 q hq) (fun hm => fc q hq q (by simpa using hm) rfl) (fun e' => by
            have := AtF.mem _ f1 q (List.mem_append_left _ hq)
            omega)) f5
          have hnl : ¬ lowV K d := fun hlow => by
            rcases AtF_slice.1 f5 with ⟨_, us, hd1, hu1, _, ⟨_, hnil, _⟩ | ⟨id, off, cells, Fs, hv1, _, _, _, hF1, _⟩⟩
            · cases hu1
              have := h1.1
              have h0 : e.dn = [] := by simpa using hnil
              rw [h0] at this
              simp at this
            · cases hd1
              subst hv1 hF1
              obtain ⟨own, es, cells, hlow⟩ := hlow
              have e1 := (List.getElem?_eq_some_iff.1 hlow).1
              have e2 := (f3 id (by simp)).1
              omega
          refine ⟨d, va', F1 ++ F', m1, ?_, List.nodup_append.2 ⟨fa, m3, fun x hx y hy e' => ?_⟩, fun q hq => ?_, hnl⟩
          · rw [hpe]
            exact AtF_st.2 ⟨_, rfl, AtsF_cons.2 ⟨[d], [va'], _, _, F1, F', rfl, rfl, rfl, hx1, AtsF_cons.2 ⟨[va'], [], _, _, F', [], rfl, rfl, by simp, m2, AtsF_nil.2 ⟨rfl, rfl, rfl⟩⟩⟩⟩
          · subst e'
            rcases m5 x hy with h | h | h
            · exact fc x hx x (by simpa using h) rfl
            · have e1 := hFv x h
              have e2 := (f3 x (List.mem_append_left _ hx)).1
              omega
            · have := AtF.mem _ f1 x (List.mem_append_left _ hx)
              simp at h
              omega
          · rcases List.mem_append.1 hq with hq | hq
            · have := (f3 q (List.mem_append_left _ hq)).1; omega
            · rcases m5 q hq with h | h | h
              · have := (f3 q (List.mem_append_right _ (by simpa using h))).1; omega
              · have := (v3 q h).1; rw [hYH] at this; simp at this; omega
              · simp at h; omega
      · have hG := k3 g0
        subst hG
        exact ⟨code, _, i_setFn (hsn _ _ hKn) (hsn _ _ hKo) k1 gcH_same, hcode, fun _ _ => rfl, Nat.le_refl _, fun h => absurd h g0⟩)
    subst hY hX
    simp at c1 c2 c3 ln
    obtain ⟨w1, w2, rfl, ho1, ho2⟩ := hq.one
    have hfin := NOutB.base (by rw [← hS]; exact hq : NOutB H.length (H ++ S) _ _ _)
    simp [code20, Tryz.f20, strideOf, hod, hoa, how, ho1, ho2, ln, lnK, c1, c2, c3, c4, c5, c6, elemT, fillL, zerosL, St.new, buildV, structPlace, stw]
    exact hfin
end Go.Proofs.Try1
end

section
namespace Go.Proofs.Try1
open Go Go.Lite
set_option linter.unusedSimpArgs false
set_option linter.unusedVariables false

theorem load_lt {H : List Ob} {id o : Nat} {x : V} (h : ∀ T : LT, T.one → ∀ r c, loadAt T ⟨r, c, H⟩ (.hp id o) = some x) : id < H.length := by
  by_cases hi : id < H.length
  · exact hi
  · have h1 := h ⟨.str, 1, 16, [.str []]⟩ one_str (fun _ => .val .undef) 0
    have h2 : H[id]? = none := List.getElem?_eq_none (by omega)
    simp [loadAt, cellsAt, h2] at h1

set_option maxRecDepth 10000 in
theorem s_Key {H : List Ob} {v : V} {l : List PRdn} (h : ARdns H v l) (hd : DnOk l) : callW C 122 [v] H = some (.str (keyD l), H) := by
  apply Ret.eq
  rw [op122]
  have hb := hd.2
  have hw0 : IntKind.i64.wrap ((l.length : Int) - 1) = (l.length : Int) - 1 := wrap_i64 (by omega) (by omega)
  simp [code122, Tryz.f122, h.len, hw0]
  refine WP_loop (fun m σ => ∃ (r : Nat → R), m ≤ l.length ∧ σ = ⟨r, 0, H⟩ ∧ r 0 = .val v ∧ r 3 = .val (.str (kacc l m)) ∧ r 4 = .val (.int .i64 ((m : Int) - 1))) ?_ l.length _ ⟨_, by omega, rfl, by simp, by simp [kacc_end], by simp⟩
  rintro m σ ⟨r, hm, rfl, r0, r3, r4⟩
  cases m with
  | zero =>
    simp at r4
    simp [r0, r3, r4, kacc_zero]
  | succ m =>
    have hi : m < l.length := by omega
    obtain ⟨x, hx⟩ : ∃ c, l[m]? = some c := ⟨l[m], by simp [hi]⟩
    have r4' : r 4 = .val (.int .i64 m) := by rw [r4]; congr 2; omega
    have hw : IntKind.i64.wrap ((m : Int) - 1) = (m : Int) - 1 := wrap_i64 (by omega) (by omega)
    obtain ⟨id, o, e1, l0, l1, _, _⟩ := rdns_idx h hx
    have c1 := s_Norm (t := x.value) (H := H)
    have k1 := kacc_len hd (m + 1)
    have k2 := (hd.1 m x hx).1.2.1
    have k3 := norm_len (t := x.value)
    have kst := kacc_step hx
    have b1 : (kacc l (m + 1)).length + 1 ≤ maxStr := by unfold maxStr; omega
    have b2 : (kacc l (m + 1)).length + (x.attr.length + 1) ≤ maxStr := by unfold maxStr; omega
    have b3 : (kacc l (m + 1)).length + (x.attr.length + 1 + 1) ≤ maxStr := by unfold maxStr; omega
    have b4 : (kacc l (m + 1)).length + (x.attr.length + ((norm x.value).length + 1) + 1) ≤ maxStr := by unfold maxStr; omega
    have hid := load_lt l0
    have b5 : (kacc l (m + 1)).length + 1 + x.attr.length ≤ maxStr := by unfold maxStr; omega
    have b6 : (kacc l (m + 1)).length + (x.attr.length + 1) + 1 ≤ maxStr := by unfold maxStr; omega
    have b7 : (kacc l (m + 1)).length + (x.attr.length + 1 + 1) + (norm x.value).length ≤ maxStr := by unfold maxStr; omega
    simp [r0, r3, r4', e1, l0, l1, c1, hw, strBin, b1, b2, b3, b4, b5, b6, b7, hid]
    exact ⟨m, by omega, by omega, by rw [kst]; simp [keyStep], rfl⟩
end Go.Proofs.Try1
end

section
namespace Go.Proofs.Try1
open Go Go.Lite
set_option linter.unusedSimpArgs false
set_option linter.unusedVariables false

theorem l_Clone' {H : List Ob} {v : V} {l : List Str} (h : AStrs H v l) (hl : l.length ≤ 1000000) : ∃ T w, callW C 153 [v] H = some (w, H ++ T) ∧ Own H (H ++ T) w l ∧ AStrs (H ++ T) w l ∧ isOne w = true ∧ cellsOf w = some [w] := by
  obtain ⟨T, w, h1, h2⟩ := l_Clone h hl
  exact ⟨T, w, h1, h2, h2.strs (by unfold maxLen; omega) (strs_max h), h2.one⟩

set_option maxRecDepth 10000 in
set_option maxHeartbeats 4000000 in
theorem i_classOf {H : List Ob} {v : V} {l : List PClass} {t : Str} (h : AClasses H v l) (hb : ∀ c ∈ l, c.must.length ≤ 1000 ∧ c.may.length ≤ 1000 ∧ c.single.length ≤ 1000) :
    ∃ T cs ok, callW C 145 [v, .str t] H = some (.tup [.agg cs, .bool ok], H ++ T) ∧ ClassRes (H ++ T) (firstOf PClass.name l t) cs ok := by
  suffices hs : Ret C 145 [v, .str t] H fun q H' => ∃ T cs ok, q = .tup [.agg cs, .bool ok] ∧ H' = H ++ T ∧ ClassRes (H ++ T) (firstOf PClass.name l t) cs ok by
    obtain ⟨q, H', hc, T, cs, ok, rfl, rfl, hr⟩ := hs
    exact ⟨T, cs, ok, hc, hr⟩
  rw [op145]
  obtain ⟨r, c1, hr⟩ := l_idxClass (H := H ++ [.mk true 1 [.str t]]) (idn := H.length) (t := t) get_last h.ext
  rcases hr.pos with ⟨k, a, h1, rfl, h2⟩ | ⟨rfl, h2⟩
  · obtain ⟨id, o, w1, w2, w3, e1, l4, q1, q2, q3⟩ := classes_idxT h h1
    have l4 := l4 [.mk true 1 [.str t]]
    obtain ⟨b1, b2, b3⟩ := hb a (List.mem_of_getElem? h1)
    have hk : ¬ ((k : Int) < 0) := by omega
    obtain ⟨T1, x1, d1, _, s1, o1⟩ := l_Clone' (q1.ext (T := [.mk true 1 [.str t]])) (by omega)
    obtain ⟨T2, x2, d2, _, s2, o2⟩ := l_Clone' (q2.ext.ext (T := T1) (H := H ++ [.mk true 1 [.str t]])) (by omega)
    obtain ⟨T3, x3, d3, _, s3, o3⟩ := l_Clone' (q3.ext.ext.ext (T := T2) (H := H ++ [.mk true 1 [.str t]] ++ T1)) (by omega)
    have hres : ClassRes (H ++ ([.mk true 1 [.str t]] ++ (T1 ++ (T2 ++ T3)))) (firstOf PClass.name l t) [.str a.name, x1, x2, x3] true := by
      refine .inl ⟨rfl, a, x1, x2, x3, h2, rfl, ?_, ?_, ?_⟩
      · have := s1.ext (T := T2 ++ T3); simpa only [List.append_assoc] using this
      · have := s2.ext (T := T3); simpa only [List.append_assoc] using this
      · simpa only [List.append_assoc] using s3
    obtain ⟨T', hg, hres⟩ := class_gc hres
    simp only [List.append_assoc, List.cons_append, List.nil_append] at d1 d2 d3 hg
    simp [code145, Tryz.f145, c1, hk, e1, l4, d1, d2, d3, o1, o2, o3, q1.one, q2.one, q3.one, strideOf, buildV, fillL, structPlace, List.lookup, hg]
    exact hres
  · have hres : ClassRes (H ++ [.mk true 1 [.str t]]) (firstOf PClass.name l t) [.str [], .slc none 0, .slc none 0, .slc none 0] false := .inr ⟨rfl, h2, rfl⟩
    obtain ⟨T', hg, hres⟩ := class_gc hres
    simp [code145, Tryz.f145, c1, strideOf, buildV, fillL, structPlace, hg]
    exact hres

theorem i_valuesC {H : List Ob} {ide : Nat} {own : Bool} {es : Nat} {vd va : V} {l : List PAttr} (he : H[ide]? = some (.mk own es [vd, va])) (h : AAttrs H va l) (hl : l.length ≤ 1000) (hp : l.Pairwise fun a b => a.name < b.name) :
    ∃ w, callW C 154 [.ptr (some (ide, 0)), .str [99, 108, 97, 115, 115]] H = some (w, H) ∧ AStrs H w (valsOf l classT) := i_values he h hl hp

set_option maxRecDepth 10000 in
set_option maxHeartbeats 4000000 in
theorem i_ofEntry {H : List Ob} {ide : Nat} {own : Bool} {es : Nat} {vd va vl : V} {l : List PClass} {as' : List PAttr} (he : H[ide]? = some (.mk own es [vd, va])) (h : AAttrs H va as') (hl : as'.length ≤ 1000) (hp : as'.Pairwise fun a b => a.name < b.name)
    (hc : AClasses H vl l) (hb : ∀ c ∈ l, c.must.length ≤ 1000 ∧ c.may.length ≤ 1000 ∧ c.single.length ≤ 1000) :
    ∃ T cs ok, callW C 141 [vl, .ptr (some (ide, 0))] H = some (.tup [.agg cs, .bool ok], H ++ T) ∧ ClassRes (H ++ T) (mineOf l as') cs ok := by
  suffices hs : Ret C 141 [vl, .ptr (some (ide, 0))] H fun q H' => ∃ T cs ok, q = .tup [.agg cs, .bool ok] ∧ H' = H ++ T ∧ ClassRes (H ++ T) (mineOf l as') cs ok by
    obtain ⟨q, H', hc, T, cs, ok, rfl, rfl, hr⟩ := hs
    exact ⟨T, cs, ok, hc, hr⟩
  rw [op141]
  obtain ⟨w, c1, hw⟩ := i_valuesC he h hl hp
  by_cases g1 : (valsOf as' classT).length = 1
  rotate_left
  · have hm : mineOf l as' = none := by
      unfold mineOf
      split
      · rename_i v hv; rw [hv] at g1; exact absurd rfl g1
      · rfl
    have g1' : ¬ ((valsOf as' classT).length : Int) = 1 := by omega
    simp [code141, Tryz.f141, c1, hw.len, g1', buildV, fillL]
    exact .inr ⟨rfl, hm, rfl⟩
  obtain ⟨s, hs⟩ : ∃ s, valsOf as' classT = [s] := by
    match h : valsOf as' classT, g1 with
    | [s], _ => exact ⟨s, rfl⟩
  rw [hs] at hw
  obtain ⟨id, o, e1, l0, _⟩ := strs_idx hw (i := 0) (s := s) rfl
  simp only [Int.ofNat_eq_natCast, Int.natCast_zero] at e1
  have c2 := i_Norm (t := s) (H := H)
  obtain ⟨T, cs, ok, c3, hres⟩ := i_classOf (t := norm s) hc hb
  have hm : mineOf l as' = firstOf PClass.name l (norm s) := by unfold mineOf; rw [hs]
  rw [← hm] at hres
  have hcs : cs.length = 4 ∧ cs.all isOne = true := by
    rcases hres with ⟨_, c, w1, w2, w3, _, rfl, h1, h2, h3⟩ | ⟨_, _, rfl⟩
    · exact ⟨rfl, by simp [h1.one, h2.one, h3.one]⟩
    · exact ⟨rfl, rfl⟩
  obtain ⟨T', hg, hres⟩ := class_gc hres
  obtain ⟨x1, x2, x3, x4, rfl⟩ : ∃ x1 x2 x3 x4, cs = [x1, x2, x3, x4] := by
    match cs, hcs.1 with
    | [x1, x2, x3, x4], _ => exact ⟨_, _, _, _, rfl⟩
  have hone := hcs.2
  simp at hone
  cases ok <;> simp [code141, Tryz.f141, c1, hw.len, e1, l0, c2, c3, hone, hg] <;> exact hres
end Go.Proofs.Try1
end

section
namespace Go.Proofs.Try1
open Go Go.Lite
set_option linter.unusedSimpArgs false
set_option linter.unusedVariables false

theorem i_isNorm {H : List Ob} {id : Nat} {own : Bool} {es : Nat} {t n : Str} (hq : H[id]? = some (.mk own es [.str n])) : callW C 336 [.str t, .ptr (some (id, 0))] H = some (.bool (dec (norm t = n)), H) := by
  apply Ret.dec
  rw [op336]
  have ld := load1 (o := 0) (v := .str n) hq rfl
  have c1 := i_Norm (t := t) (H := H)
  have hid : id < H.length := (List.getElem?_eq_some_iff.1 hq).1
  simp [code336, Tryz.f336, ld, c1, hid]
  exact (Classical.em _).symm

set_option maxRecDepth 10000 in
theorem i_has {H : List Ob} {ide : Nat} {own : Bool} {es : Nat} {vd va : V} {l : List PAttr} {t n : Str} (he : H[ide]? = some (.mk own es [vd, va])) (h : AAttrs H va l) (hl : l.length ≤ 1000) (hp : l.Pairwise fun a b => a.name < b.name) :
    callW C 233 [.ptr (some (ide, 0)), .str t, .str n] H = some (.bool (dec (HasOk l t n)), H) := by
  apply Ret.dec
  rw [op233]
  have ld := load1 (H := H ++ [.mk true 1 [.str n]]) (o := 0) (v := .str n) get_last rfl
  have hgb : ∀ X b, gcH H (H ++ X) (.bool b) = H := fun X b => gcH_bool
  by_cases hn : n = []
  · subst hn
    simp [code233, Tryz.f233, strideOf, ld, HasOk, hgb]
  · obtain ⟨w, c1, hw⟩ := i_values (H := H ++ [.mk true 1 [.str n]]) (t := t) (up_append _ _ he) h.ext hl hp
    have c2 := l_ContainsFunc hw (fun x => dec (norm x = n)) (g := 336) (a := []) (b := [.ptr (some (H.length, 0))]) (fun x _ => i_isNorm get_last)
    simp [code233, Tryz.f233, strideOf, ld, hn, c1, c2, hgb, HasOk]
    have e : (∃ x, x ∈ valsOf l t ∧ dec (norm x = n) = true) ↔ ∃ v, v ∈ valsOf l t ∧ norm v = n := by simp only [dec_true]
    rw [dec_iff e]
    by_cases hx : ∃ v, v ∈ valsOf l t ∧ norm v = n
    · exact .inr ⟨dec_pos hx, hx⟩
    · exact .inl ⟨dec_neg hx, fun x hx1 hx2 => hx ⟨x, hx1, hx2⟩⟩
end Go.Proofs.Try1
end

section
namespace Go.Proofs.Try1
open Go Go.Lite
set_option linter.unusedSimpArgs false
set_option linter.unusedVariables false

theorem i_valueCode {H : List Ob} {vd va : V} {e : PEntry} {n v : Str} (hd : ARdns H vd e.dn) (ha : AAttrs H va e.attrs) (hn : n.length ≤ maxLen) (hv : v.length ≤ maxLen) :
    callW C 116 [.agg [vd, va], .str n, .str v] H = some (.int .i64 (if 8000 < n.length ∨ 8000 < v.length then 2 else if dec (EntryOk e ∧ NameOk n ∧ ValueOk v) = true then 0 else 1), H) := by
  apply Ret.eq
  rw [op116]
  have hod := hd.one
  have hoa := ha.one
  have hone : AStrs (H ++ [.mk true 1 [.str n, .str v]]) (.slc (some (H.length, 0)) 2) [n, v] := At_slice.2 ⟨_, _, rfl, rfl, by simp [maxLen], .inr ⟨H.length, 0, true, [.str n, .str v], rfl, get_last, by simp, fun i x hx => by
    match i with
    | 0 => cases hx; exact At_str.2 ⟨n, rfl, rfl, hn⟩
    | 1 => cases hx; exact At_str.2 ⟨v, rfl, rfl, hv⟩
    | i + 2 => simp at hx⟩⟩
  have c1 := i_Long hone
  have c2 := i_Entry (hd.ext (T := [.mk true 1 [.str n, .str v]])) ha.ext
  have c3 := i_Name (t := n) (H := H ++ [.mk true 1 [.str n, .str v]])
  have c4 := i_Value (t := v) (H := H ++ [.mk true 1 [.str n, .str v]])
  by_cases g1 : 8000 < n.length ∨ 8000 < v.length
  · have e1 : ∃ t, t ∈ [n, v] ∧ 8000 < List.length t := by
      rcases g1 with g | g
      · exact ⟨n, by simp, g⟩
      · exact ⟨v, by simp, g⟩
    rw [dec_pos e1] at c1
    rw [if_pos g1]
    simp [code116, Tryz.f116, hod, hoa, elemT, fillL, zerosL, St.new, c1]
  have e1 : ¬ ∃ t, t ∈ [n, v] ∧ 8000 < List.length t := by
    rintro ⟨t, ht, h⟩
    simp at ht
    rcases ht with rfl | rfl
    · exact g1 (.inl h)
    · exact g1 (.inr h)
  rw [dec_neg e1] at c1
  rw [if_neg g1]
  by_cases h1 : EntryOk e
  rotate_left
  · rw [dec_neg h1] at c2
    simp [code116, Tryz.f116, hod, hoa, elemT, fillL, zerosL, St.new, c1, c2, dec_neg (P := EntryOk e ∧ NameOk n ∧ ValueOk v) fun h => h1 h.1]
  rw [dec_pos h1] at c2
  by_cases h2 : NameOk n
  rotate_left
  · rw [dec_neg h2] at c3
    simp [code116, Tryz.f116, hod, hoa, elemT, fillL, zerosL, St.new, c1, c2, c3, dec_neg (P := EntryOk e ∧ NameOk n ∧ ValueOk v) fun h => h2 h.2.1]
  rw [dec_pos h2] at c3
  by_cases h3 : ValueOk v
  · rw [dec_pos h3] at c4
    simp [code116, Tryz.f116, hod, hoa, elemT, fillL, zerosL, St.new, c1, c2, c3, c4, dec_pos (P := EntryOk e ∧ NameOk n ∧ ValueOk v) ⟨h1, h2, h3⟩]
  · rw [dec_neg h3] at c4
    simp [code116, Tryz.f116, hod, hoa, elemT, fillL, zerosL, St.new, c1, c2, c3, c4, dec_neg (P := EntryOk e ∧ NameOk n ∧ ValueOk v) fun h => h3 h.2.2]

theorem vals_put {l : List PAttr} {n : Str} {vs : List Str} (hp : l.Pairwise fun a b => a.name < b.name) (hv : vs ≠ []) (h : putAttr l n vs = l) : valsOf l n = vs := by
  have hm : (⟨n, vs⟩ : PAttr) ∈ l := by
    rw [← h]
    unfold putAttr
    simp [hv]
  obtain ⟨i, hi, he⟩ := List.getElem_of_mem hm
  have := first_uniq (key := PAttr.name) (t := n) hp (List.getElem?_eq_getElem hi) (by rw [he])
  unfold valsOf
  rw [this, he]

/-- What stands apart from a sorted list of values makes with it a list apart. -/
theorem apart_add {l : List Str} {v : Str} (h : ValuesOk l ∨ l = []) (hn : ¬ ∃ x ∈ l, norm x = norm v) : Go.Lite.Apart (l ++ [v]) := by
  unfold Go.Lite.Apart
  rw [List.map_append, List.nodup_append]
  refine ⟨?_, by simp, fun a ha b hb e => ?_⟩
  · rcases h with h | rfl
    · have := rise_pair (key := norm) (fun j x hx => (h.1 j x hx).2)
      exact List.pairwise_map.2 (this.imp fun h e => by rw [e] at h; exact List.lt_irrefl _ h)
    · simp
  · obtain ⟨x, hx, rfl⟩ := List.mem_map.1 ha
    have : b = norm v := by simpa using hb
    exact hn ⟨x, hx, by rw [e, this]⟩

set_option maxRecDepth 10000 in
set_option maxHeartbeats 8000000 in
theorem i_addM {G : List Ob} {ide : Nat} {vd va : V} {l : List PAttr} {n v : Str} {F : List Nat} (he : G[ide]? = some (.mk true 2 [vd, va])) (hA : AtF G (.slice shAttr) [va] (.lst (l.map PAttr.u)) F) (hn : F.Nodup) (hide : ide ∉ F) (hl : l.length ≤ 8) (hp : l.Pairwise fun a b => a.name < b.name) (hnm : n.length ≤ maxLen)
    (hvm : v.length ≤ maxLen) (hvk : ValueOk v) (hok : ∀ a ∈ l, ValuesOk a.vals) :
    ∃ code G', callW C 118 [.ptr (some (ide, 0)), .str n, .str v] G = some (.int .i64 code, G') ∧
      code = (if ∃ x ∈ valsOf l n, norm x = norm v then 7 else if 4 ≤ (valsOf l n).length ∨ (valsOf l n = [] ∧ 8 ≤ l.length) then 9 else 0) ∧ (code ≠ 0 → G' = G) ∧
      (code = 0 → ∃ va' F', G'[ide]? = some (.mk true 2 [vd, va']) ∧ AtF G' (.slice shAttr) [va'] (.lst ((putAttr l n (sortV (valsOf l n ++ [v]))).map PAttr.u)) F' ∧ F'.Nodup ∧ ide ∉ F' ∧
      (∀ q ∈ F', q ∈ F ∨ G.length ≤ q) ∧ (∀ q, q < G.length → q ∉ F → q ≠ ide → G'[q]? = G[q]?) ∧ G.length ≤ G'.length ∧ ¬ Ext G G') := by
  suffices hs : Ret C 118 [.ptr (some (ide, 0)), .str n, .str v] G fun q G' => ∃ code, q = .int .i64 code ∧
      code = (if ∃ x ∈ valsOf l n, norm x = norm v then 7 else if 4 ≤ (valsOf l n).length ∨ (valsOf l n = [] ∧ 8 ≤ l.length) then 9 else 0) ∧ (code ≠ 0 → G' = G) ∧
      (code = 0 → ∃ va' F', G'[ide]? = some (.mk true 2 [vd, va']) ∧ AtF G' (.slice shAttr) [va'] (.lst ((putAttr l n (sortV (valsOf l n ++ [v]))).map PAttr.u)) F' ∧ F'.Nodup ∧ ide ∉ F' ∧
      (∀ q ∈ F', q ∈ F ∨ G.length ≤ q) ∧ (∀ q, q < G.length → q ∉ F → q ≠ ide → G'[q]? = G[q]?) ∧ G.length ≤ G'.length ∧ ¬ Ext G G') by
    obtain ⟨q, G', hc, code, rfl, hr⟩ := hs
    exact ⟨code, G', hc, hr⟩
  rw [op118]
  have ha : AAttrs G va l := AtF.at _ hA
  have hidel : ide < G.length := (List.getElem?_eq_some_iff.1 he).1
  have ld := load1 (o := 1) (v := va) he rfl
  obtain ⟨w, c1, hw⟩ := i_values (t := n) he ha (by omega) hp
  have c2 := i_Norm (t := v) (H := G)
  have c3 := i_has (t := n) (n := norm v) he ha (by omega) hp
  have hvok : ValuesOk (valsOf l n) ∨ valsOf l n = [] := by
    unfold valsOf
    split
    · rename_i a h; exact .inl (hok a (List.mem_of_find?_eq_some h))
    · exact .inr rfl
  have hvl : (valsOf l n).length ≤ 4 := by
    rcases hvok with h | h
    · exact h.2.2
    · rw [h]; simp
  by_cases g1 : ∃ x ∈ valsOf l n, norm x = norm v
  · rw [dec_pos (show HasOk l n (norm v) from ⟨hvk.2.2, g1⟩)] at c3
    rw [if_pos g1]
    simp [code118, Tryz.f118, c1, c2, c3, gcH_same]
  rw [dec_neg (show ¬ HasOk l n (norm v) from fun h => g1 h.2)] at c3
  rw [if_neg g1]
  by_cases g2 : 4 ≤ (valsOf l n).length ∨ (valsOf l n = [] ∧ 8 ≤ l.length)
  · rw [if_pos g2]
    by_cases g3 : 4 ≤ (valsOf l n).length
    · have g3' : ((valsOf l n).length : Int) = 4 := by omega
      simp [code118, Tryz.f118, c1, c2, c3, hw.len, g3', gcH_same]
    · have g3' : ¬ ((valsOf l n).length : Int) = 4 := by omega
      obtain ⟨g4, g5⟩ := g2.resolve_left g3
      have g5' : (l.length : Int) = 8 := by omega
      have g4' : (valsOf l n).length = 0 := by rw [g4]; rfl
      simp [code118, Tryz.f118, c1, c2, c3, hw.len, g4, ld, ha.len, g5', gcH_same]
  rw [if_neg g2]
  have g3' : ¬ ((valsOf l n).length : Int) = 4 := by omega
  obtain ⟨T1, y, c4, hy⟩ := l_Clone hw (by omega)
  have hmx := hw.max
  -- the values and one more
  have hgs : ∃ y2 G2, appendV ⟨.str, 1, 16, [.str []]⟩ (G ++ T1 ++ [.mk true 1 [.str v]]) y (.slc (some ((G ++ T1).length, 0)) 1) = some (y2, G2) ∧ Gs G G2 y2 ((valsOf l n ++ [v]).map V.str) := by
    rcases hy with ⟨rfl, h0⟩ | hG
    · rw [h0]
      refine ⟨_, _, appendV_nil (m := 1) (by rfl) (by decide) (by decide) (by decide) (newCells_tmp (c := [.str v]) (by simp)) (by decide) (by rfl) (by simp [maxMade]), ⟨T1 ++ [.mk true 1 [.str v]] ++ [.mk true 1 [.str v]], (G ++ T1 ++ [Ob.mk true 1 [.str v]]).length, by simp, by simp, by rw [get_last]; rfl, by simp⟩⟩
    · obtain ⟨v', G', h1, h2⟩ := hG.push (x := .str v) (z := [.str []]) (d := .str) (b := 16) rfl (by simp [maxMade]; omega) (by decide) (by decide) rfl
      exact ⟨v', G', h1, by simpa using h2⟩
  obtain ⟨y2, G2, a1, hG2⟩ := hgs
  obtain ⟨T2, id, hT2, q1, q2, hy2⟩ := hG2
  have hyo : isOne y = true ∧ cellsOf y = some [y] := by
    rcases hy with ⟨rfl, _⟩ | hG
    · exact ⟨rfl, rfl⟩
    · exact hG.one
  have hP : ∀ args H, callW C 221 args H = sortFnPrim 222 args H := fun args H => by rw [callW_prim (show C.prim 221 = some (sortFnPrim 222) from rfl)]
  obtain ⟨L, hL⟩ : ∃ L, L = valsOf l n ++ [v] := ⟨_, rfl⟩
  rw [← hL] at q2 hy2
  have hLl : L.length = (valsOf l n).length + 1 := by rw [hL]; simp
  have hlen := nsort_length L
  have hid : id < G2.length := (List.getElem?_eq_some_iff.1 q2).1
  obtain ⟨K, hK⟩ : ∃ K, K = G2.set id (.mk true 1 ((nsort L).map V.str)) := ⟨_, rfl⟩
  have hKg : K[id]? = some (.mk true 1 ((nsort L).map V.str)) := by rw [hK]; exact List.getElem?_set_self hid
  have c5 : callW C 221 [y2, .fn 222 [] []] G2 = some (.tup [], K) := by
    rw [hP, hy2]
    have h0 : ¬ (L.map V.str).length = 0 := by simp [hLl]
    have hst : strsOf (((L.map V.str).drop 0).take (L.map V.str).length) = some L := by rw [List.drop_zero, List.take_of_length_le (by simp)]; exact strsOf_map L
    have hsr : setRange (L.map V.str) 0 ((nsort L).map V.str) = (nsort L).map V.str := by
      simp [setRange, hlen]
    simp only [sortFnPrim, if_true, if_neg h0, q2]
    rw [if_pos ⟨trivial, by simp, by simp; omega⟩, hst]
    simp only [hsr, hK]
  have hns : nsort L = sortV L := nsort_eq (by rw [hL]; exact apart_add hvok g1)
  have hKpre : ∃ S, K = G ++ S := ⟨_, by rw [hK, hT2, List.set_append_right _ _ q1]⟩
  obtain ⟨S, hS⟩ := hKpre
  have hKs : Gs G K y2 ((sortV L).map V.str) := ⟨S, id, hS, q1, by rw [← hns]; exact hKg, by rw [hy2, ← hns]; simp [hlen]⟩
  obtain ⟨hKstr, id', hKF, hid'⟩ := hKs.strs (by have := sortV_len L; unfold maxLen; omega) (fun s hs => by
    have := (sortV_perm L).subset hs
    rw [hL] at this
    rcases List.mem_append.1 this with h | h
    · exact hmx s h
    · rw [List.mem_singleton.1 h]; exact hvm)
  have heK : K[ide]? = some (.mk true 2 [vd, va]) := by rw [hS]; exact up_append _ _ he
  have hAK : AtF K (.slice shAttr) [va] (.lst (l.map PAttr.u)) F := by rw [hS]; exact hA.ext
  have hFl : ∀ q ∈ F, q < G.length := AtF.mem _ hA
  have hsv : sortV L ≠ [] := fun h => by have := sortV_len L; rw [h] at this; simp at this; omega
  obtain ⟨G', va', F', c6, r1, r2, r3, r4, r5, r6, r7, r8⟩ := i_set (n := n) heK hAK hn hide (by omega) hp hnm hKF (by simp) (fun q hq => by
    obtain rfl := List.mem_singleton.1 hq
    exact ⟨fun h => by have := hFl q h; omega, fun e => by omega⟩)
  have hKlen : G.length ≤ K.length := by rw [hS]; simp
  have hext : ¬ Ext G G' := by
    rintro ⟨R, rfl⟩
    have e1 := r1
    rw [up_append _ _ he] at e1
    cases e1
    have := At.one_datum _ (AtF.at _ r2) (ha.at.ext (T := R))
    simp only [U.lst.injEq] at this
    have hinj : (putAttr l n (sortV L)) = l := by
      refine (List.map_inj_right (fun a b h => ?_)).1 this
      cases a; cases b
      simp only [PAttr.u, U.st.injEq, List.cons.injEq, U.str.injEq, U.lst.injEq, and_true] at h
      obtain ⟨rfl, h⟩ := h
      congr 1
      exact (List.map_inj_right (fun a b h => by cases h; rfl)).1 h
    have := vals_put hp hsv hinj
    have h2 := congrArg List.length this
    rw [sortV_len] at h2
    omega
  have hgc := gcH_noext (r := .int .i64 0) hext
  have o2 : isOne y2 = true ∧ cellsOf y2 = some [y2] := by rw [hy2]; exact ⟨rfl, rfl⟩
  have fin : ∃ va' F', G'[ide]? = some (.mk true 2 [vd, va']) ∧ AtF G' (.slice shAttr) [va'] (.lst ((putAttr l n (sortV L)).map PAttr.u)) F' ∧ F'.Nodup ∧ ide ∉ F' ∧
      (∀ q ∈ F', q ∈ F ∨ G.length ≤ q) ∧ (∀ q, q < G.length → q ∉ F → q ≠ ide → G'[q]? = G[q]?) ∧ G.length ≤ G'.length ∧ ¬ Ext G G' :=
    ⟨va', F', r1, r2, r3, r4, fun q hq => by
      rcases r5 q hq with h | h | h
      · exact .inl h
      · exact .inr (by have := List.mem_singleton.1 h; omega)
      · exact .inr (by omega), fun q h1 h2 h3 => by rw [r6 q (by omega) h2 h3, hS, List.getElem?_append_left h1], by omega, hext⟩
  rw [hL] at fin
  by_cases g4 : valsOf l n = []
  · have g5 : ¬ (l.length : Int) = 8 := fun h => g2 (.inr ⟨g4, by omega⟩)
    simp only [List.append_assoc, List.length_append] at a1
    simp [-gcH_int, code118, Tryz.f118, c1, c2, c3, hw.len, g4, ld, ha.len, g5, c4, hyo, o2, elemT, fillL, zerosL, St.new, a1, c5, c6, hgc]
    simpa [g4] using fin
  · have g5 : ¬ ((valsOf l n).length : Int) = 0 := fun h => g4 (List.length_eq_zero_iff.1 (by omega))
    simp only [List.append_assoc, List.length_append] at a1
    simp [-gcH_int, code118, Tryz.f118, c1, c2, c3, hw.len, g3', g4, g5, ld, ha.len, c4, hyo, o2, elemT, fillL, zerosL, St.new, a1, c5, c6, hgc]
    simpa using fin
end Go.Proofs.Try1
end

section
namespace Go.Proofs.Try1
open Go Go.Lite
set_option linter.unusedSimpArgs false
set_option linter.unusedVariables false

theorem addOf_ill {e : PEntry} {n v : Str} (h : (addOf e n v).code ≠ 0) : addOf e n v = illE (addOf e n v).code := by
  unfold addOf at h ⊢
  split
  · rfl
  · rename_i g1
    rw [if_neg g1] at h
    split
    · rfl
    · rename_i g
      rw [if_neg g] at h
      exact absurd rfl h
theorem addOf_wf {e : PEntry} {n v : Str} : (Lit.int .i64 (addOf e n v).code).wf = true := by
  unfold addOf
  split
  · exact wf_code (n := 7) (by decide) (by decide)
  · split
    · exact wf_code (n := 9) (by decide) (by decide)
    · exact wf_code (n := 0) (by decide) (by decide)

set_option maxRecDepth 10000 in
theorem i_addFn {G : List Ob} {ide idn idv : Nat} {n v : Str} {own own' : Bool} {es es' : Nat} (hn : G[idn]? = some (.mk own es [.str n])) (hv : G[idv]? = some (.mk own' es' [.str v])) {code : Int} {G' : List Ob}
    (hc : callW C 118 [.ptr (some (ide, 0)), .str n, .str v] G = some (.int .i64 code, G')) (hgc : gcH G G' (.int .i64 code) = G') :
    callW C 117 [.ptr (some (ide, 0)), .ptr (some (idn, 0)), .ptr (some (idv, 0))] G = some (.int .i64 code, G') := by
  suffices hs : Ret C 117 [.ptr (some (ide, 0)), .ptr (some (idn, 0)), .ptr (some (idv, 0))] G fun r H' => r = .int .i64 code ∧ H' = G' by
    obtain ⟨r, H', h, rfl, rfl⟩ := hs
    exact h
  rw [op117]
  have l1 := load1 (o := 0) (v := .str n) hn rfl
  have l2 := load1 (o := 0) (v := .str v) hv rfl
  simp [-gcH_int, code117, Tryz.f117, l1, l2, hc, hgc]

set_option maxRecDepth 10000 in
set_option maxHeartbeats 4000000 in
theorem i_ValueAdd {H : List Ob} {vd va : V} {e : PEntry} {n v : Str} (hd : ARdns H vd e.dn) (ha : AAttrs H va e.attrs) (hn : n.length ≤ maxLen) (hv : v.length ≤ maxLen) :
    ∃ q H', callW C 29 [.agg [vd, va], .str n, .str v] H = some (q, H') ∧ NOut H (valueAddOf e n v) q H' := by
  suffices hs : Ret C 29 [.agg [vd, va], .str n, .str v] H fun q H' => NOut H (valueAddOf e n v) q H' by
    obtain ⟨q, H', hc, hr⟩ := hs
    exact ⟨q, H', hc, hr⟩
  rw [op29]
  have hod := hd.one
  have hoa := ha.one
  have hil : ∀ (X : List Ob) c, gcH H (H ++ X) (.agg [.slc none 0, .slc none 0, .int .i64 c]) = H := fun X c => gcH_low (by simp [lowV, lowVs])
  obtain ⟨X, hX⟩ : ∃ X, X = H ++ [.mk true 1 [.str n]] := ⟨_, rfl⟩
  obtain ⟨K, hK⟩ : ∃ K, K = X ++ [.mk true 1 [.str v]] := ⟨_, rfl⟩
  have hXl : X.length = H.length + 1 := by rw [hX]; simp
  have hXn : X[H.length]? = some (.mk true 1 [.str n]) := by rw [hX]; exact get_last
  have hKn : K[H.length]? = some (.mk true 1 [.str n]) := by rw [hK]; exact up_append _ _ hXn
  have hKv : K[X.length]? = some (.mk true 1 [.str v]) := by rw [hK]; exact get_last
  obtain ⟨S, hS⟩ : ∃ S, K = H ++ S := ⟨_, by rw [hK, hX, List.append_assoc]⟩
  have ln := load1 (o := 0) (v := .str n) hKn rfl
  have lv := load1 (o := 0) (v := .str v) hKv rfl
  have hdK : ARdns K vd e.dn := by rw [hS]; exact hd.ext
  have haK : AAttrs K va e.attrs := by rw [hS]; exact ha.ext
  have c1 := i_valueCode (n := n) (v := v) hdK haK hn hv
  have hilK : ∀ c, gcH H K (.agg [.slc none 0, .slc none 0, .int .i64 c]) = H := fun c => by rw [hS]; exact hil _ _
  by_cases g1 : 8000 < n.length ∨ 8000 < v.length
  · have ho : valueAddOf e n v = illE 2 := if_pos g1
    rw [if_pos g1] at c1
    rw [ho]
    simp [code29, Tryz.f29, strideOf, hod, hoa, ← hX, ← hK, ← hXl, ln, lv, c1, buildV, fillL, structPlace, hilK]
    exact NOut.ill (by decide)
  have ho0 : valueAddOf e n v = if dec (EntryOk e ∧ NameOk n ∧ ValueOk v) = true then addOf e n v else illE 1 := if_neg g1
  rw [if_neg g1] at c1
  by_cases g2 : EntryOk e ∧ NameOk n ∧ ValueOk v
  rotate_left
  · have ho : valueAddOf e n v = illE 1 := by rw [ho0, dec_neg g2]; rfl
    rw [dec_neg g2] at c1
    simp at c1
    rw [ho]
    simp [code29, Tryz.f29, strideOf, hod, hoa, ← hX, ← hK, ← hXl, ln, lv, c1, buildV, fillL, structPlace, hilK]
    exact NOut.ill (by decide)
  have ho : valueAddOf e n v = addOf e n v := by rw [ho0, dec_pos g2]; rfl
  rw [dec_pos g2] at c1
  simp at c1
  rw [ho]
  obtain ⟨h1, h2, h3⟩ := g2
  have hal : e.attrs.length ≤ 8 := h1.2.2.2
  have hvok : ∀ a ∈ e.attrs, ValuesOk a.vals := fun a ha => by
    obtain ⟨j, hj, rfl⟩ := List.getElem_of_mem ha
    exact (h1.2.2.1 j _ (List.getElem?_eq_getElem hj)).2.2
  obtain ⟨q, H', c6, hq⟩ := i_changed (bd := H.length) (H := K) (g := 117) (b := [.ptr (some (H.length, 0)), .ptr (some (X.length, 0))]) (o := addOf e n v) hdK haK (EntryOk.small h1) addOf_ill addOf_wf (by rw [hS]; simp) (fun M d a ⟨R, hR⟩ hnew => by
    obtain ⟨F, f1, f2, f3⟩ := hnew
    have f1' : AtF (M ++ [.mk true 2 [d, a]]) shEntry [d, a] e.u F := f1.ext
    obtain ⟨us, hus, f4⟩ := AtF_st.1 f1'
    cases hus
    obtain ⟨c1', c2', u1, us1, F1, F2, hcs, hu, rfl, f5, f6⟩ := AtsF_cons.1 f4
    cases hu
    obtain ⟨c3', c4', u2, us2, F3, F4, rfl, hu, rfl, f7, f8⟩ := AtsF_cons.1 f6
    cases hu
    obtain ⟨rfl, _, rfl⟩ := AtsF_nil.1 f8
    obtain ⟨x1, _, rfl, _⟩ := AtF_slice.1 f5
    obtain ⟨x2, _, rfl, _⟩ := AtF_slice.1 f7
    simp only [List.append_nil, List.cons_append, List.nil_append, List.cons.injEq, and_true] at hcs
    obtain ⟨rfl, rfl⟩ := hcs
    rw [List.append_nil] at f2 f3
    obtain ⟨fa, fb, fc⟩ := List.nodup_append.1 f2
    obtain ⟨code, G', k1, k2, k3, k4⟩ := i_addM (ide := M.length) (vd := d) (va := a) (l := e.attrs) (n := n) (v := v) get_last f7 (by simpa using fb) (fun hm => by have := AtF.mem _ f1 M.length (List.mem_append_right _ (by simpa using hm)); omega) hal (EntryOk.rise h1) hn hv h3 hvok
    have hsn : ∀ (i : Nat) o, K[i]? = some o → (M ++ [.mk true 2 [d, a]])[i]? = some o := fun i o h => by rw [hR, List.append_assoc]; exact up_append _ _ h
    have hcode : code = (addOf e n v).code := by
      rw [k2]
      unfold addOf
      split
      · rfl
      · split <;> rfl
    by_cases g0 : code = 0
    · obtain ⟨va', F', m1, m2, m3, m4, m5, m6, m7, m8⟩ := k4 g0
      refine ⟨code, G', i_addFn (hsn _ _ hKn) (hsn _ _ hKv) k1 (gcH_noext m8), hcode, fun q hq => ?_, m7, fun _ => ?_⟩
      · refine m6 q (by rw [hR]; simp; omega) (fun hm => ?_) (by rw [hR]; simp; omega)
        have := (f3 q (List.mem_append_right _ hm)).1
        omega
      · have hpe : (addOf e n v).entry = setE e n (sortV (valsOf e.attrs n ++ [v])) := by
          rw [hcode] at g0
          unfold addOf at g0 ⊢
          split
          · rename_i gg; rw [if_pos gg] at g0; cases g0
          · rename_i gg
            rw [if_neg gg] at g0
            split
            · rename_i gh; rw [if_pos gh] at g0; cases g0
            · rfl
        have hx1 : AtF G' (.slice shRdn) [d] (.lst (e.dn.map PRdn.u)) F1 := AtF.frame _ (fun q hq => m6 q (AtF.mem _ f5 q hq) (fun hm => fc q hq q (by simpa using hm) rfl) (fun e' => by
          have := AtF.mem _ f1 q (List.mem_append_left _ hq)
          omega)) f5
        have hnl : ¬ lowV K d := fun hlow => by
          rcases AtF_slice.1 f5 with ⟨_, us, hd1, hu1, _, ⟨_, hnil, _⟩ | ⟨id, off, cells, Fs, hv1, _, _, _, hF1, _⟩⟩
          · cases hu1
            have := h1.1
            have h0 : e.dn = [] := by simpa using hnil
            rw [h0] at this
            simp at this
          · cases hd1
            subst hv1 hF1
            obtain ⟨own, es, cells, hlow⟩ := hlow
            have e1 := (List.getElem?_eq_some_iff.1 hlow).1
            have e2 := (f3 id (by simp)).1
            omega
        refine ⟨d, va', F1 ++ F', m1, ?_, List.nodup_append.2 ⟨fa, m3, fun x hx y hy e' => ?_⟩, fun q hq => ?_, hnl⟩
        · rw [hpe]
          exact AtF_st.2 ⟨_, rfl, AtsF_cons.2 ⟨[d], [va'], _, _, F1, F', rfl, rfl, rfl, hx1, AtsF_cons.2 ⟨[va'], [], _, _, F', [], rfl, rfl, by simp, m2, AtsF_nil.2 ⟨rfl, rfl, rfl⟩⟩⟩⟩
        · subst e'
          rcases m5 x hy with h | h
          · exact fc x hx x (by simpa using h) rfl
          · have := AtF.mem _ f1 x (List.mem_append_left _ hx)
            simp at h
            omega
        · have hHK : H.length ≤ K.length := by rw [hS]; simp
          rcases List.mem_append.1 hq with hq | hq
          · have := (f3 q (List.mem_append_left _ hq)).1; omega
          · rcases m5 q hq with h | h
            · have := (f3 q (List.mem_append_right _ (by simpa using h))).1; omega
            · rw [hR] at h; simp at h; omega
    · have hG := k3 g0
      subst hG
      exact ⟨code, _, i_addFn (hsn _ _ hKn) (hsn _ _ hKv) k1 gcH_same, hcode, fun _ _ => rfl, Nat.le_refl _, fun h => absurd h g0⟩)
  obtain ⟨w1, w2, rfl, ho1, ho2⟩ := hq.one
  have hfin := NOutB.base (by rw [← hS]; exact hq : NOutB H.length (H ++ S) _ _ _)
  simp [code29, Tryz.f29, strideOf, hod, hoa, ho1, ho2, ← hX, ← hK, ← hXl, ln, lv, c1, c6]
  exact hfin
end Go.Proofs.Try1
end

section
namespace Go.Proofs.Try1
open Go Go.Lite
set_option linter.unusedSimpArgs false
set_option linter.unusedVariables false

theorem cnt_valueAdd {e : PEntry} {n v : Str} : cntV (valueAddOf e n v).u ≤ 1000000 := by
  have ill : ∀ c, cntV (illE c).u ≤ 1000000 := fun c => by simp [illE, PEntryOut.u, PEntry.u, cntV, cntVs, cntPs]
  unfold valueAddOf
  split
  · exact ill 2
  split
  case isFalse => exact ill 1
  rename_i hok
  obtain ⟨⟨_, hd, ha⟩, _, hv⟩ := dec_true.1 hok
  unfold addOf
  split
  · exact ill 7
  split
  · exact ill 9
  rename_i g
  have hrd : ∀ x : PRdn, cntP x.u ≤ 2 := fun x => by simp [PRdn.u, cntP, cntPs]
  have hat : ∀ a : PAttr, a.vals.length ≤ 4 → cntP a.u ≤ 5 := fun a h => by
    have := cntPs_map (f := strU) (l := a.vals) (k := 1) fun x _ => by simp [strU, cntP]
    simp only [PAttr.u, cntP, cntPs]
    omega
  have h1 := cntPs_map (l := e.dn) fun x _ => hrd x
  have hold : ∀ a ∈ e.attrs, cntP a.u ≤ 5 := fun a h => by
    obtain ⟨j, hj, rfl⟩ := List.getElem_of_mem h
    exact hat _ (ha.1 j _ (List.getElem?_eq_getElem hj)).2.2.2.2
  have hvl : (valsOf e.attrs n).length < 4 := by omega
  have hnew : cntP (⟨n, sortV (valsOf e.attrs n ++ [v])⟩ : PAttr).u ≤ 5 := hat _ (by
    simp only [sortV_len, List.length_append, List.length_cons, List.length_nil]
    omega)
  have h2 : cntPs ((putAttr e.attrs n (sortV (valsOf e.attrs n ++ [v]))).map PAttr.u) ≤ (putAttr e.attrs n (sortV (valsOf e.attrs n ++ [v]))).length * 5 := cntPs_map fun a h => by
    unfold putAttr at h
    simp only [List.mem_append, List.mem_filter] at h
    rcases h with (h | h) | h
    · exact hold a h.1
    · split at h
      · simp at h
      · obtain rfl : a = ⟨n, sortV (valsOf e.attrs n ++ [v])⟩ := by simpa using h
        exact hnew
    · exact hold a h.1
  have h3 : (putAttr e.attrs n (sortV (valsOf e.attrs n ++ [v]))).length ≤ 17 := by
    unfold putAttr
    have g1 := List.length_filter_le (fun a : PAttr => dec (LtS a.name n)) e.attrs
    have g2 := List.length_filter_le (fun a : PAttr => dec (LtS n a.name)) e.attrs
    have := ha.2
    simp only [List.length_append]
    split <;> simp <;> omega
  have := hd.2
  simp only [PEntryOut.u, PEntry.u, setE, cntV, cntVs]
  omega

/-- The law: for all arguments the call says 'true'. -/
theorem lawValueAdd {H : List Ob} {vs : List V} {xs : List D} (h : IsArgs H [shEntry, .str, .str] vs xs) : ∃ H', callW C 4 vs H = some (.bool true, H') := by
  rcases vs with _ | ⟨v1, _ | ⟨v2, _ | ⟨v3, _ | ⟨v4, vs⟩⟩⟩⟩ <;> rcases xs with _ | ⟨d1, _ | ⟨d2, _ | ⟨d3, _ | ⟨d4, xs⟩⟩⟩⟩ <;> first | (exfalso; simp [IsArgs] at h; done) | skip
  obtain ⟨⟨cs1, e1, l1, i1⟩, ⟨cs2, e2, l2, i2⟩, ⟨cs3, e3, l3, i3⟩, _⟩ := h
  subst e1; subst e2; subst e3
  have h1 := Is.at _ i1
  obtain ⟨e, he⟩ := entry_typed h1
  rw [he] at h1
  obtain ⟨s, rfl, _, hs⟩ := At_str.1 (Is.at _ i2)
  obtain ⟨v, rfl, _, hv⟩ := At_str.1 (Is.at _ i3)
  have key := ret_FnExactValueAdd (s1 := s) (s2 := v) (uR := (valueAddOf e s v).u) h1
    (fun G x0 a0 => by
      obtain ⟨w1, w2, rfl, b1, b2⟩ := entry_at.1 a0
      obtain ⟨q, G', hc, T, y1, y2, rfl, rfl, hat, _⟩ := s_ValueAdd b1 b2 (n := s) (v := v) hs hv
      exact ⟨_, [y1, y2, .int .i64 (valueAddOf e s v).code], hc, .app, hat⟩)
    (fun G x0 a0 => by
      obtain ⟨w1, w2, rfl, b1, b2⟩ := entry_at.1 a0
      obtain ⟨q, G', hc, T, y1, y2, rfl, rfl, hat⟩ := i_ValueAdd b1 b2 (n := s) (v := v) hs hv
      exact ⟨_, [y1, y2, .int .i64 (valueAddOf e s v).code], hc, .app, hat⟩)
    (by have := cnt_valueAdd (e := e) (n := s) (v := v); omega)
  obtain ⟨r, H', hc, rfl⟩ := key
  exact ⟨H', hc⟩
end Go.Proofs.Try1
end
