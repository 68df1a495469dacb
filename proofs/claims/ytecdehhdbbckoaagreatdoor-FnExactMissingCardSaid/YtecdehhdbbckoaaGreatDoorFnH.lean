/- What functions of the program compute, over the interpreter. Conditions: none but those that each theorem names. -/
import Derived.Test.YtecdehhdbbckoaaGreatDoorFnG

namespace Go.Proofs.Try1
open Go Go.Lite
set_option linter.unusedSimpArgs false
set_option linter.unusedVariables false

set_option maxRecDepth 10000 in
set_option maxHeartbeats 4000000 in
theorem i_Schema {H : List Ob} {v : V} {l : List PClass} (h : AClasses H v l) : callW C 49 [v] H = some (.bool (dec (SchemaOk l)), H) := by
  apply Ret.dec
  rw [op49]
  have hb : l.length ≤ 9223372036854775807 := h.bound
  by_cases g0 : (l.length : Int) > 6
  · have hn : ¬ SchemaOk l := fun h => by have := h.2; omega
    simp [code49, Tryz.f49, h.len, g0, hn]
  simp [code49, Tryz.f49, h.len, g0]
  refine WP_loop (fun k σ => ∃ (i n : Nat) (r : Nat → R), i + k = l.length ∧ σ = ⟨r, n, H⟩ ∧ r 0 = .val v ∧ r 8 = .val v ∧ r 9 = .val (.int .i64 l.length) ∧ r 10 = .val (.int .i64 i) ∧ ∀ j x, j < i → l[j]? = some x → ClassOk x ∧ PrevLt PClass.name l j x) ?_ l.length _ ⟨0, 0, _, by simp, rfl, by simp, by simp, by simp, by simp, by simp⟩
  rintro k σ ⟨i, n, r, hik, rfl, r0, r8, r9, r10, hall⟩
  cases k with
  | zero =>
    have hi : i = l.length := by omega
    subst hi
    have hx := at_all (P := fun j (x : PClass) => ClassOk x ∧ PrevLt PClass.name l j x) hall
    have hv : SchemaOk l := ⟨hx, by omega⟩
    simp [r0, r8, r9, r10, hv]
  | succ k =>
    have hi : i < l.length := by omega
    obtain ⟨x, hx⟩ : ∃ c, l[i]? = some c := ⟨l[i], by simp [hi]⟩
    have hw : IntKind.i64.wrap ((i : Int) + 1) = ((i : Int) + 1) := wrap_i64 (by omega) (by omega)
    obtain ⟨id, o, w1, w2, w3, e1, l0, l4, q1, q2, q3, _⟩ := classes_idx h hx
    have c1 := i_Class q1 q2 q3
    have hstep := fun h => at_step (P := fun j (x : PClass) => ClassOk x ∧ PrevLt PClass.name l j x) hall hx h
    by_cases g1 : ClassOk x
    rotate_left
    · rw [dec_neg g1] at c1
      have hn : ¬ SchemaOk l := fun hd => g1 (hd.1 i x hx).1
      simp [r0, r8, r9, r10, hi, e1, l4, c1, hn, regionL_none, q1.one, q2.one, q3.one]
    rw [dec_pos g1] at c1
    by_cases hi0 : i = 0
    · have := hstep ⟨g1, fun y hy => by omega⟩
      subst hi0
      simp at e1
      simp [r0, r8, r9, r10, hi, e1, l4, c1, regionL_none, q1.one, q2.one, q3.one]
      exact ⟨k, by omega, 1, by omega, n + 1, _, ⟨rfl, rfl⟩, by simp [r0], by simp [r8], by simp [r9], by simp, this⟩
    have hip : 0 < i := by omega
    obtain ⟨y, hy⟩ : ∃ c, l[i - 1]? = some c := ⟨l[i - 1]'(by omega), by simp⟩
    obtain ⟨id', o', _, _, _, e1', l0', _⟩ := classes_idx h hy
    have hw1 : IntKind.i64.wrap ((i : Int) - 1) = ((i - 1 : Nat) : Int) := by rw [wrap_i64 (by omega) (by omega)]; omega
    by_cases g2 : LtS y.name x.name
    · have := hstep ⟨g1, fun z _ hz => by rw [hy] at hz; cases hz; exact g2⟩
      simp [r0, r8, r9, r10, hi, e1, l0, l4, c1, e1', l0', hw, hw1, hip, LtS_dec g2, regionL_none, q1.one, q2.one, q3.one]
      exact ⟨k, by omega, i + 1, by omega, n + 1, _, ⟨rfl, rfl⟩, by simp [r0], by simp [r8], by simp [r9], by simp, this⟩
    · have hn : ¬ SchemaOk l := fun hd => g2 ((hd.1 i x hx).2 y hip hy)
      simp [r0, r8, r9, r10, hi, e1, l0, l4, c1, e1', l0', hw, hw1, hip, LtS_no g2, regionL_none, q1.one, q2.one, q3.one, hn]

noncomputable def cmpS (a b : Str) : Int := if dec (LtS a b) = true then -1 else if dec (LtS b a) = true then 1 else 0
theorem cmpS_lt {a b : Str} : cmpS a b < 0 ↔ LtS a b := by
  unfold cmpS
  by_cases h : LtS a b
  · rw [dec_pos h]; simp [h]
  · rw [dec_neg h]
    by_cases h' : LtS b a
    · rw [dec_pos h']; simp [h]
    · rw [dec_neg h']; simp [h]
theorem cmpS_eq {a b : Str} : cmpS a b = 0 ↔ a = b := by
  unfold cmpS
  by_cases h : LtS a b
  · rw [dec_pos h]
    have : a ≠ b := fun e => by subst e; exact List.lt_irrefl _ ((LtS_iff a a).1 h)
    simp [this]
  · rw [dec_neg h]
    by_cases h' : LtS b a
    · rw [dec_pos h']
      have : a ≠ b := fun e => by subst e; exact List.lt_irrefl _ ((LtS_iff a a).1 h')
      simp [this]
    · rw [dec_neg h']
      have h1 : b ≤ a := fun hh => h ((LtS_iff a b).2 hh)
      have h2 : a ≤ b := fun hh => h' ((LtS_iff b a).2 hh)
      simp [List.le_antisymm h2 h1]

set_option maxRecDepth 10000 in
theorem l_cmp {a b : Str} {H : List Ob} : callW C 166 [.str a, .str b] H = some (.int .i64 (cmpS a b), H) := by
  have c0 : ∀ x : Str, callW C 192 [.str x] H = some (.bool false, H) := fun x => by
    apply Ret.eq
    rw [op192]
    simp [code192, Tryz.f192]
  apply Ret.eq
  rw [op166]
  by_cases g1 : LtS a b
  · have : cmpS a b = -1 := by unfold cmpS; rw [dec_pos g1]; rfl
    simp [code166, Tryz.f166, c0, LtS_dec g1, this]
  · by_cases g2 : LtS b a
    · have hne : a ≠ b := fun e => by subst e; exact g1 g2
      have : cmpS a b = 1 := by unfold cmpS; rw [dec_neg g1, dec_pos g2]; rfl
      simp [code166, Tryz.f166, c0, LtS_no g1, hne, this]
    · have : cmpS a b = 0 := by unfold cmpS; rw [dec_neg g1, dec_neg g2]; rfl
      have he := cmpS_eq.1 this
      simp [code166, Tryz.f166, c0, LtS_no g1, he, this]
      subst he
      simp [LtS_no g1, this]

theorem i_byName {n t : Str} {w : V} {H : List Ob} (ho : cellsOf w = some [w]) : callW C 165 [.agg [.str n, w], .str t] H = some (.int .i64 (cmpS n t), H) := by
  apply Ret.eq
  rw [op165]
  simp [code165, Tryz.f165, l_cmp]

theorem rise_pair {α : Type} {key : α → Str} : ∀ {l : List α}, (∀ (j : Nat) x, l[j]? = some x → PrevLt key l j x) → l.Pairwise fun a b => key a < key b
  | [], _ => .nil
  | [x], _ => by simp
  | x :: y :: l, h => by
    have h' : ∀ (j : Nat) z, (y :: l)[j]? = some z → PrevLt key (y :: l) j z := fun j z hz v hj hv => by
      refine h (j + 1) z (by simpa using hz) v (by omega) ?_
      rw [show j + 1 - 1 = (j - 1) + 1 by omega]
      simpa using hv
    have ih := rise_pair h'
    have hxy : key x < key y := (LtS_iff _ _).1 (h 1 y rfl x (by omega) rfl)
    rw [List.pairwise_cons]
    refine ⟨fun z hz => ?_, ih⟩
    rcases List.mem_cons.1 hz with rfl | hz
    · exact hxy
    · exact List.lt_trans hxy ((List.pairwise_cons.1 ih).1 z hz)

set_option maxRecDepth 10000 in
set_option maxHeartbeats 4000000 in
theorem l_search {H : List Ob} {v : V} {l : List PAttr} {t : Str} (h : AAttrs H v l) (hl : l.length ≤ 1000) (hp : l.Pairwise fun a b => a.name < b.name) :
    ∃ (i : Nat) (ok : Bool), callW C 164 [v, .str t, .fn 165 [] []] H = some (.tup [.int .i64 i, .bool ok], H) ∧
      (ok = true → ∃ a, l[i]? = some a ∧ a.name = t) ∧ (ok = false → ∀ a ∈ l, a.name ≠ t) := by
  suffices hs : Ret C 164 [v, .str t, .fn 165 [] []] H fun q H' =>
      (∃ (i : Nat) (ok : Bool), q = .tup [.int .i64 i, .bool ok] ∧ (ok = true → ∃ a, l[i]? = some a ∧ a.name = t) ∧ (ok = false → ∀ a ∈ l, a.name ≠ t)) ∧ H' = H by
    obtain ⟨q, H', hc, ⟨i, ok, rfl, h1, h2⟩, rfl⟩ := hs
    exact ⟨i, ok, hc, h1, h2⟩
  rw [op164]
  simp [code164, Tryz.f164, h.len]
  refine WP_loop (fun k σ => ∃ (i j : Nat) (r : Nat → R), j - i = k ∧ i ≤ j ∧ j ≤ l.length ∧ σ = ⟨r, 0, H⟩ ∧ r 0 = .val v ∧ r 1 = .val (.str t) ∧ r 2 = .val (.fn 165 [] []) ∧ r 8 = .val (.int .i64 l.length) ∧ r 9 = .val (.int .i64 i) ∧ r 10 = .val (.int .i64 j) ∧
    (∀ q a, q < i → l[q]? = some a → LtS a.name t) ∧ (∀ q a, j ≤ q → l[q]? = some a → ¬ LtS a.name t)) ?_ l.length _ ⟨0, l.length, _, by omega, by omega, by omega, rfl, by simp, by simp, by simp, by simp, by simp, by simp, fun q a h => by omega, fun q a h1 h2 => by have := (List.getElem?_eq_some_iff.1 h2).1; omega⟩
  rintro k σ ⟨i, j, r, hk, hij, hjl, rfl, r0, r1, r2, r8, r9, r10, hlo, hhi⟩
  cases k with
  | succ k =>
    have hlt : (i : Int) < j := by omega
    have hlt' : i < j := by omega
    have hw1 : IntKind.i64.wrap ((i : Int) + j) = (i : Int) + j := wrap_i64 (by omega) (by omega)
    have hw2 : IntKind.u64.wrap ((i : Int) + j) = (i : Int) + j := by unfold IntKind.wrap; simp [IntKind.bits, IntKind.signed]; omega
    have hq : ((i : Int) + j).fdiv 2 = (((i + j) / 2 : Nat) : Int) := by rw [Int.fdiv_eq_ediv_of_nonneg _ (by omega)]; omega
    obtain ⟨m, hm⟩ : ∃ m, m = (i + j) / 2 := ⟨_, rfl⟩
    rw [← hm] at hq
    have hw3 : IntKind.i64.wrap (m : Int) = m := wrap_i64 (by omega) (by omega)
    have hw4 : IntKind.i64.wrap ((m : Int) + 1) = (m : Int) + 1 := wrap_i64 (by omega) (by omega)
    have hml : m < l.length := by omega
    obtain ⟨a, ha⟩ : ∃ a, l[m]? = some a := ⟨l[m], List.getElem?_eq_getElem hml⟩
    obtain ⟨id, o, w, e1, l0, l1, l2, hvs, _⟩ := attrs_idx h ha
    have c1 := i_byName (n := a.name) (t := t) (w := w) (H := H) hvs.one.2
    have hord : ∀ q b, l[q]? = some b → (q < m → b.name < a.name) ∧ (m < q → a.name < b.name) := fun q b hb => by
      obtain ⟨hq1, hb⟩ := List.getElem?_eq_some_iff.1 hb
      obtain ⟨_, ha⟩ := List.getElem?_eq_some_iff.1 ha
      have := List.pairwise_iff_getElem.1 hp
      exact ⟨fun hh => by have := this q m hq1 hml hh; rwa [hb, ha] at this, fun hh => by have := this m q hml hq1 hh; rwa [hb, ha] at this⟩
    by_cases g1 : LtS a.name t
    · have g1' := cmpS_lt.2 g1
      simp [r0, r1, r2, r8, r9, r10, hlt, hlt', hw1, hw2, hq, hw3, hw4, e1, l2, c1, g1', intShift, IntKind.bits]
      refine ⟨j - (m + 1), by omega, m + 1, j, by omega, by omega, by omega, by omega, rfl, fun q b hq1 hb => ?_, hhi⟩
      by_cases hqm : q = m
      · subst hqm; rw [ha] at hb; cases hb; exact g1
      · exact (LtS_iff _ _).2 (List.lt_trans ((hord q b hb).1 (by omega)) ((LtS_iff _ _).1 g1))
    · have g1' : ¬ cmpS a.name t < 0 := mt cmpS_lt.1 g1
      simp [r0, r1, r2, r8, r9, r10, hlt, hlt', hw1, hw2, hq, hw3, hw4, e1, l2, c1, g1', intShift, IntKind.bits]
      refine ⟨m - i, by omega, i, m, by omega, by omega, by omega, rfl, rfl, hlo, fun q b hq1 hb hlt2 => ?_⟩
      by_cases hqm : q = m
      · subst hqm; rw [ha] at hb; cases hb; exact g1 hlt2
      · exact g1 ((LtS_iff _ _).2 (List.lt_trans ((hord q b hb).2 (by omega)) ((LtS_iff _ _).1 hlt2)))
  | zero =>
    have hij' : i = j := by omega
    subst hij'
    by_cases hil : i < l.length
    · have hilI : (i : Int) < l.length := by omega
      obtain ⟨a, ha⟩ : ∃ a, l[i]? = some a := ⟨l[i], List.getElem?_eq_getElem hil⟩
      obtain ⟨id, o, w, e1, l0, l1, l2, hvs, _⟩ := attrs_idx h ha
      have c1 := i_byName (n := a.name) (t := t) (w := w) (H := H) hvs.one.2
      by_cases g1 : a.name = t
      · have g1' := cmpS_eq.2 g1
        simp [r0, r1, r2, r8, r9, r10, hil, e1, l2, c1, g1']
        exact ⟨i, rfl, a, ha, g1⟩
      · have g1' : ¬ cmpS a.name t = 0 := mt cmpS_eq.1 g1
        simp [r0, r1, r2, r8, r9, r10, hil, e1, l2, c1, g1']
        refine ⟨⟨i, rfl⟩, fun b hb hbt => ?_⟩
        obtain ⟨q, hq1, rfl⟩ := List.getElem_of_mem hb
        have hqe := List.getElem?_eq_getElem hq1
        rcases Nat.lt_trichotomy q i with hh | hh | hh
        · have := hlo q _ hh hqe
          rw [hbt] at this
          exact List.lt_irrefl _ ((LtS_iff _ _).1 this)
        · subst hh; rw [ha] at hqe; cases hqe; exact g1 hbt
        · have h1 := hhi i a (by omega) ha
          obtain ⟨_, ha'⟩ := List.getElem?_eq_some_iff.1 ha
          have h2 := List.pairwise_iff_getElem.1 hp i q hil hq1 hh
          rw [ha', hbt] at h2
          exact h1 ((LtS_iff _ _).2 h2)
    · simp [r0, r1, r2, r8, r9, r10, hil]
      refine ⟨⟨i, rfl⟩, fun b hb hbt => ?_⟩
      obtain ⟨q, hq1, rfl⟩ := List.getElem_of_mem hb
      have := hlo q _ (by omega) (List.getElem?_eq_getElem hq1)
      rw [hbt] at this
      exact List.lt_irrefl _ ((LtS_iff _ _).1 this)
end Go.Proofs.Try1

namespace Go.Proofs.Try1
open Go Go.Lite
set_option linter.unusedSimpArgs false
set_option linter.unusedVariables false

theorem first_uniq {α : Type} {key : α → Str} {l : List α} {t : Str} {i : Nat} {a : α} (hp : l.Pairwise fun a b => key a < key b) (h : l[i]? = some a) (hk : key a = t) : firstOf key l t = some a := by
  unfold firstOf
  rw [List.find?_eq_some_iff_getElem]
  obtain ⟨hi, h⟩ := List.getElem?_eq_some_iff.1 h
  refine ⟨by simp [hk], i, hi, h, fun j hj => ?_⟩
  have := List.pairwise_iff_getElem.1 hp j i (by omega) hi hj
  rw [h, hk] at this
  have hne : key l[j] ≠ t := fun e => by rw [e] at this; exact List.lt_irrefl _ this
  simp [hne]
theorem first_none {α : Type} {key : α → Str} {l : List α} {t : Str} (h : ∀ a ∈ l, key a ≠ t) : firstOf key l t = none := by
  unfold firstOf
  rw [List.find?_eq_none]
  intro x hx
  simpa using h x hx

set_option maxRecDepth 10000 in
theorem i_find {H : List Ob} {ide : Nat} {own : Bool} {es : Nat} {vd va : V} {l : List PAttr} {t : Str} (he : H[ide]? = some (.mk own es [vd, va])) (h : AAttrs H va l) (hl : l.length ≤ 1000) (hp : l.Pairwise fun a b => a.name < b.name) :
    ∃ (i : Nat) (ok : Bool), callW C 116 [.ptr (some (ide, 0)), .str t] H = some (.tup [.int .i64 i, .bool ok], H) ∧
      (ok = true → ∃ a, l[i]? = some a ∧ a.name = t) ∧ (ok = false → ∀ a ∈ l, a.name ≠ t) := by
  obtain ⟨i, ok, c1, h1, h2⟩ := l_search (t := t) h hl hp
  refine ⟨i, ok, ?_, h1, h2⟩
  apply Ret.eq
  rw [op116]
  have ld := load1 (o := 1) (v := va) he rfl
  simp [code116, Tryz.f116, ld, c1]

set_option maxRecDepth 10000 in
theorem i_values {H : List Ob} {ide : Nat} {own : Bool} {es : Nat} {vd va : V} {l : List PAttr} {t : Str} (he : H[ide]? = some (.mk own es [vd, va])) (h : AAttrs H va l) (hl : l.length ≤ 1000) (hp : l.Pairwise fun a b => a.name < b.name) :
    ∃ w, callW C 83 [.ptr (some (ide, 0)), .str t] H = some (w, H) ∧ AStrs H w (valsOf l t) := by
  obtain ⟨i, ok, c1, h1, h2⟩ := i_find (t := t) he h hl hp
  suffices hs : Ret C 83 [.ptr (some (ide, 0)), .str t] H fun q H' => AStrs H q (valsOf l t) ∧ H' = H by
    obtain ⟨q, H', hc, hr, rfl⟩ := hs
    exact ⟨q, hc, hr⟩
  rw [op83]
  have ld := load1 (o := 1) (v := va) he rfl
  cases ok with
  | false =>
    have hv : valsOf l t = [] := by unfold valsOf; rw [first_none (h2 rfl)]
    simp [code83, Tryz.f83, c1, hv]
    exact At_slice.2 ⟨_, _, rfl, rfl, by simp, .inl ⟨rfl, rfl⟩⟩
  | true =>
    obtain ⟨a, ha, hat⟩ := h1 rfl
    obtain ⟨id, o, w, e1, l0, l1, _, hw, _⟩ := attrs_idx h ha
    have hv : valsOf l t = a.vals := by unfold valsOf; rw [first_uniq hp ha hat]
    simp [code83, Tryz.f83, c1, ld, e1, l1, hv]
    exact hw

theorem i_hasIt {H : List Ob} {ide idp : Nat} {own own' : Bool} {es es' : Nat} {vd va : V} {l : List PAttr} {t : Str} (he : H[ide]? = some (.mk own es [vd, va])) (hq : H[idp]? = some (.mk own' es' [.ptr (some (ide, 0))])) (h : AAttrs H va l) (hl : l.length ≤ 1000) (hp : l.Pairwise fun a b => a.name < b.name) :
    callW C 107 [.str t, .ptr (some (idp, 0))] H = some (.bool (decide (0 < (valsOf l t).length)), H) := by
  obtain ⟨w, c1, hw⟩ := i_values (t := t) he h hl hp
  apply Ret.eq
  rw [op107]
  have ld := load1 (o := 0) (v := .ptr (some (ide, 0))) hq rfl
  simp [code107, Tryz.f107, ld, c1, hw.len]

theorem i_named {H : List Ob} {idn : Nat} {own : Bool} {es : Nat} {n t : Str} {w1 w2 w3 : V} (hq : H[idn]? = some (.mk own es [.str t])) (h1 : cellsOf w1 = some [w1]) :
    callW C 150 [.agg [.str n, w1, w2, w3], .ptr (some (idn, 0))] H = some (.bool (decide (n = t)), H) := by
  apply Ret.eq
  rw [op150]
  have ld := load1 (o := 0) (v := .str t) hq rfl
  simp [code150, Tryz.f150, ld]

set_option maxRecDepth 10000 in
theorem l_idxClass {H : List Ob} {idn : Nat} {own : Bool} {es : Nat} {v : V} {l : List PClass} {t : Str} (hq : H[idn]? = some (.mk own es [.str t])) (h : AClasses H v l) :
    ∃ r : Int, callW C 149 [v, .fn 150 [] [.ptr (some (idn, 0))]] H = some (.int .i64 r, H) ∧ FirstAt PClass.name l t r := by
  suffices hs : Ret C 149 [v, .fn 150 [] [.ptr (some (idn, 0))]] H fun q H' => (∃ r : Int, q = .int .i64 r ∧ FirstAt PClass.name l t r) ∧ H' = H by
    obtain ⟨q, H', hc, ⟨r, rfl, hr⟩, rfl⟩ := hs
    exact ⟨r, hc, hr⟩
  rw [op149]
  have hb : l.length ≤ 9223372036854775807 := h.bound
  simp [code149, Tryz.f149, h.len]
  refine WP_loop (fun k σ => ∃ (i : Nat) (r : Nat → R), i + k = l.length ∧ σ = ⟨r, 0, H⟩ ∧ r 0 = .val v ∧ r 1 = .val (.fn 150 [] [.ptr (some (idn, 0))]) ∧ r 7 = .val (.int .i64 l.length) ∧ r 8 = .val (.int .i64 i) ∧ ∀ j x, j < i → l[j]? = some x → x.name ≠ t) ?_ l.length _ ⟨0, _, by simp, rfl, by simp, by simp, by simp, by simp, by simp⟩
  rintro k σ ⟨i, r, hik, rfl, r0, r1, r7, r8, hall⟩
  cases k with
  | zero =>
    have hi : i = l.length := by omega
    subst hi
    have hx := at_all (P := fun j (x : PClass) => x.name ≠ t) hall
    simp [r0, r1, r7, r8]
    exact .inr ⟨hx, rfl⟩
  | succ k =>
    have hi : i < l.length := by omega
    obtain ⟨x, hx⟩ : ∃ c, l[i]? = some c := ⟨l[i], by simp [hi]⟩
    have hw : IntKind.i64.wrap ((i : Int) + 1) = ((i : Int) + 1) := wrap_i64 (by omega) (by omega)
    obtain ⟨id, o, w1, w2, w3, e1, l0, l4, q1, q2, q3, _⟩ := classes_idx h hx
    have c1 := i_named (n := x.name) (w1 := w1) (w2 := w2) (w3 := w3) hq q1.one.2
    by_cases g1 : x.name = t
    · rw [decide_eq_true g1] at c1
      simp [r0, r1, r7, r8, hi, e1, l4, c1]
      exact .inl ⟨i, x, hx, g1, hall, rfl⟩
    · rw [decide_eq_false g1] at c1
      simp [r0, r1, r7, r8, hi, e1, l4, c1, hw]
      exact ⟨k, by omega, i + 1, by omega, by omega, at_step (P := fun j (x : PClass) => x.name ≠ t) hall hx g1⟩

theorem strs_low {H T : List Ob} {w : V} {l : List Str} (h : AStrs (H ++ T) w l) (hl : lowV H w) : AStrs H w l := by
  obtain ⟨w', us, hw, hu, hb, hs⟩ := At_slice.1 h.at
  cases hw
  cases hu
  refine At_slice.2 ⟨_, _, rfl, rfl, hb, ?_⟩
  rcases hs with h | ⟨id, off, own, cells, rfl, h2, h3, h4⟩
  · exact .inl h
  · obtain ⟨_, _, _, h5⟩ := hl
    have hid := (List.getElem?_eq_some_iff.1 h5).1
    rw [List.getElem?_append_left hid] at h2
    refine .inr ⟨id, off, own, cells, rfl, h2, h3, fun i x hx => ?_⟩
    have := h4 i x hx
    rw [At_str] at this ⊢
    exact this

/-- What is cut off does not matter to a class that is handed back. -/
theorem class_gc {H T : List Ob} {m : Option PClass} {cs : List V} {ok : Bool} (h : ClassRes (H ++ T) m cs ok) : ∃ T', gcH H (H ++ T) (.tup [.agg cs, .bool ok]) = H ++ T' ∧ ClassRes (H ++ T') m cs ok := by
  by_cases hl : lowV H (.tup [.agg cs, .bool ok])
  · refine ⟨[], by rw [gcH_low hl, List.append_nil], ?_⟩
    rw [List.append_nil]
    rcases h with ⟨rfl, c, w1, w2, w3, h1, rfl, h2, h3, h4⟩ | h
    · simp only [lowV, lowVs, and_true, true_and] at hl
      exact .inl ⟨rfl, c, w1, w2, w3, h1, rfl, strs_low h2 hl.1, strs_low h3 hl.2.1, strs_low h4 hl.2.2⟩
    · exact .inr h
  · refine ⟨T, ?_, h⟩
    unfold gcH
    rw [if_neg fun h => hl h.2]
end Go.Proofs.Try1

namespace Go.Proofs.Try1
open Go Go.Lite
set_option linter.unusedSimpArgs false
set_option linter.unusedVariables false

theorem l_Clone' {H : List Ob} {v : V} {l : List Str} (h : AStrs H v l) (hl : l.length ≤ 1000000) : ∃ T w, callW C 82 [v] H = some (w, H ++ T) ∧ Own H (H ++ T) w l ∧ AStrs (H ++ T) w l ∧ isOne w = true ∧ cellsOf w = some [w] := by
  obtain ⟨T, w, h1, h2⟩ := l_Clone h hl
  exact ⟨T, w, h1, h2, h2.strs (by unfold maxLen; omega) (strs_max h), h2.one⟩

set_option maxRecDepth 10000 in
set_option maxHeartbeats 4000000 in
theorem i_classOf {H : List Ob} {v : V} {l : List PClass} {t : Str} (h : AClasses H v l) (hb : ∀ c ∈ l, c.must.length ≤ 1000 ∧ c.may.length ≤ 1000 ∧ c.single.length ≤ 1000) :
    ∃ T cs ok, callW C 105 [v, .str t] H = some (.tup [.agg cs, .bool ok], H ++ T) ∧ ClassRes (H ++ T) (firstOf PClass.name l t) cs ok := by
  suffices hs : Ret C 105 [v, .str t] H fun q H' => ∃ T cs ok, q = .tup [.agg cs, .bool ok] ∧ H' = H ++ T ∧ ClassRes (H ++ T) (firstOf PClass.name l t) cs ok by
    obtain ⟨q, H', hc, T, cs, ok, rfl, rfl, hr⟩ := hs
    exact ⟨T, cs, ok, hc, hr⟩
  rw [op105]
  obtain ⟨r, c1, hr⟩ := l_idxClass (H := H ++ [.mk true 1 [.str t]]) (idn := H.length) (t := t) get_last h.ext
  rcases hr.pos with ⟨k, a, h1, rfl, h2⟩ | ⟨rfl, h2⟩
  · obtain ⟨id, o, w1, w2, w3, e1, l4, q1, q2, q3⟩ := classes_idxT h h1
    have l4 := l4 [.mk true 1 [.str t]]
    obtain ⟨b1, b2, b3⟩ := hb a (List.mem_of_getElem? h1)
    have hk : ¬ ((k : Int) < 0) := by omega
    obtain ⟨T1, x1, d1, _, s1, o1⟩ := l_Clone' (q1.ext (T := [.mk true 1 [.str t]])) (by omega)
    obtain ⟨T2, x2, d2, _, s2, o2⟩ := l_Clone' (q2.ext.ext (T := T1) (H := H ++ [.mk true 1 [.str t]])) (by omega)
    obtain ⟨T3, x3, d3, _, s3, o3⟩ := l_Clone' (q3.ext.ext.ext (T := T2) (H := H ++ [.mk true 1 [.str t]] ++ T1)) (by omega)
    have hres : ClassRes (H ++ ([.mk true 1 [.str t]] ++ (T1 ++ (T2 ++ T3)))) (firstOf PClass.name l t) [.str a.name, x1, x2, x3] true := by
      refine .inl ⟨rfl, a, x1, x2, x3, h2, rfl, ?_, ?_, ?_⟩
      · have := s1.ext (T := T2 ++ T3); simpa only [List.append_assoc] using this
      · have := s2.ext (T := T3); simpa only [List.append_assoc] using this
      · simpa only [List.append_assoc] using s3
    obtain ⟨T', hg, hres⟩ := class_gc hres
    simp only [List.append_assoc, List.cons_append, List.nil_append] at d1 d2 d3 hg
    simp [code105, Tryz.f105, c1, hk, e1, l4, d1, d2, d3, o1, o2, o3, q1.one, q2.one, q3.one, strideOf, buildV, fillL, structPlace, List.lookup, hg]
    exact hres
  · have hres : ClassRes (H ++ [.mk true 1 [.str t]]) (firstOf PClass.name l t) [.str [], .slc none 0, .slc none 0, .slc none 0] false := .inr ⟨rfl, h2, rfl⟩
    obtain ⟨T', hg, hres⟩ := class_gc hres
    simp [code105, Tryz.f105, c1, strideOf, buildV, fillL, structPlace, hg]
    exact hres

theorem i_valuesC {H : List Ob} {ide : Nat} {own : Bool} {es : Nat} {vd va : V} {l : List PAttr} (he : H[ide]? = some (.mk own es [vd, va])) (h : AAttrs H va l) (hl : l.length ≤ 1000) (hp : l.Pairwise fun a b => a.name < b.name) :
    ∃ w, callW C 83 [.ptr (some (ide, 0)), .str [99, 108, 97, 115, 115]] H = some (w, H) ∧ AStrs H w (valsOf l classT) := i_values he h hl hp

set_option maxRecDepth 10000 in
set_option maxHeartbeats 4000000 in
theorem i_ofEntry {H : List Ob} {ide : Nat} {own : Bool} {es : Nat} {vd va vl : V} {l : List PClass} {as' : List PAttr} (he : H[ide]? = some (.mk own es [vd, va])) (h : AAttrs H va as') (hl : as'.length ≤ 1000) (hp : as'.Pairwise fun a b => a.name < b.name)
    (hc : AClasses H vl l) (hb : ∀ c ∈ l, c.must.length ≤ 1000 ∧ c.may.length ≤ 1000 ∧ c.single.length ≤ 1000) :
    ∃ T cs ok, callW C 51 [vl, .ptr (some (ide, 0))] H = some (.tup [.agg cs, .bool ok], H ++ T) ∧ ClassRes (H ++ T) (mineOf l as') cs ok := by
  suffices hs : Ret C 51 [vl, .ptr (some (ide, 0))] H fun q H' => ∃ T cs ok, q = .tup [.agg cs, .bool ok] ∧ H' = H ++ T ∧ ClassRes (H ++ T) (mineOf l as') cs ok by
    obtain ⟨q, H', hc, T, cs, ok, rfl, rfl, hr⟩ := hs
    exact ⟨T, cs, ok, hc, hr⟩
  rw [op51]
  obtain ⟨w, c1, hw⟩ := i_valuesC he h hl hp
  by_cases g1 : (valsOf as' classT).length = 1
  rotate_left
  · have hm : mineOf l as' = none := by
      unfold mineOf
      split
      · rename_i v hv; rw [hv] at g1; exact absurd rfl g1
      · rfl
    have g1' : ¬ ((valsOf as' classT).length : Int) = 1 := by omega
    simp [code51, Tryz.f51, c1, hw.len, g1', buildV, fillL]
    exact .inr ⟨rfl, hm, rfl⟩
  obtain ⟨s, hs⟩ : ∃ s, valsOf as' classT = [s] := by
    match h : valsOf as' classT, g1 with
    | [s], _ => exact ⟨s, rfl⟩
  rw [hs] at hw
  obtain ⟨id, o, e1, l0, _⟩ := strs_idx hw (i := 0) (s := s) rfl
  simp only [Int.ofNat_eq_natCast, Int.natCast_zero] at e1
  have c2 := i_Norm (t := s) (H := H)
  obtain ⟨T, cs, ok, c3, hres⟩ := i_classOf (t := norm s) hc hb
  have hm : mineOf l as' = firstOf PClass.name l (norm s) := by unfold mineOf; rw [hs]
  rw [← hm] at hres
  have hcs : cs.length = 4 ∧ cs.all isOne = true := by
    rcases hres with ⟨_, c, w1, w2, w3, _, rfl, h1, h2, h3⟩ | ⟨_, _, rfl⟩
    · exact ⟨rfl, by simp [h1.one, h2.one, h3.one]⟩
    · exact ⟨rfl, rfl⟩
  obtain ⟨T', hg, hres⟩ := class_gc hres
  obtain ⟨x1, x2, x3, x4, rfl⟩ : ∃ x1 x2 x3 x4, cs = [x1, x2, x3, x4] := by
    match cs, hcs.1 with
    | [x1, x2, x3, x4], _ => exact ⟨_, _, _, _, rfl⟩
  have hone := hcs.2
  simp at hone
  cases ok <;> simp [code51, Tryz.f51, c1, hw.len, e1, l0, c2, c3, hone, hg] <;> exact hres
end Go.Proofs.Try1
