/- What functions of the program compute, over the interpreter. Conditions: none but those that each theorem names. -/
import Derived.Test.YtecdehhdbbckoaaGreatDoorFnC

namespace Go.Proofs.Try1
open Go Go.Lite
set_option linter.unusedSimpArgs false
set_option linter.unusedVariables false

theorem has_class {H : List Ob} {v : V} {l : List Str} (h : AStrs H v l) : callW C 137 [v, .str [99, 108, 97, 115, 115]] H = some (.bool (dec (classT ∈ l)), H) := s_Has h

set_option maxRecDepth 10000 in
set_option maxHeartbeats 8000000 in
theorem s_Class {H : List Ob} {w1 w2 w3 : V} {c : PClass} (h1 : AStrs H w1 c.must) (h2 : AStrs H w2 c.may) (h3 : AStrs H w3 c.single) : callW C 97 [.agg [.str c.name, w1, w2, w3]] H = some (.bool (dec (ClassOk c)), H) := by
  apply Ret.dec
  rw [op97]
  have c0 := s_Name (t := c.name) (H := H)
  have c1 := s_Names h1
  have c2 := s_Names h2
  have c3 := s_Names h3
  by_cases g0 : NameOk c.name
  rotate_left
  · rw [dec_neg g0] at c0
    have hn : ¬ ClassOk c := fun h => g0 h.name
    simp [code97, Tryz.f97, c0, hn, h1.one, h2.one, h3.one]
  rw [dec_pos g0] at c0
  by_cases g1 : (c.must.length : Int) > 10
  · have hn : ¬ ClassOk c := fun h => by have := h.l1; omega
    simp [code97, Tryz.f97, c0, h1.len, g1, hn, h1.one, h2.one, h3.one]
  by_cases g2 : (c.may.length : Int) > 10
  · have hn : ¬ ClassOk c := fun h => by have := h.l2; omega
    simp [code97, Tryz.f97, c0, h1.len, h2.len, g1, g2, hn, h1.one, h2.one, h3.one]
  by_cases g3 : (c.single.length : Int) > 10
  · have hn : ¬ ClassOk c := fun h => by have := h.l3; omega
    simp [code97, Tryz.f97, c0, h1.len, h2.len, h3.len, g1, g2, g3, hn, h1.one, h2.one, h3.one]
  by_cases g4 : NamesOk c.must
  rotate_left
  · rw [dec_neg g4] at c1
    have hn : ¬ ClassOk c := fun h => g4 h.n1
    simp [code97, Tryz.f97, c0, c1, h1.len, h2.len, h3.len, g1, g2, g3, hn, h1.one, h2.one, h3.one]
  rw [dec_pos g4] at c1
  by_cases g5 : NamesOk c.may
  rotate_left
  · rw [dec_neg g5] at c2
    have hn : ¬ ClassOk c := fun h => g5 h.n2
    simp [code97, Tryz.f97, c0, c1, c2, h1.len, h2.len, h3.len, g1, g2, g3, hn, h1.one, h2.one, h3.one]
  rw [dec_pos g5] at c2
  by_cases g6 : NamesOk c.single
  rotate_left
  · rw [dec_neg g6] at c3
    have hn : ¬ ClassOk c := fun h => g6 h.n3
    simp [code97, Tryz.f97, c0, c1, c2, c3, h1.len, h2.len, h3.len, g1, g2, g3, hn, h1.one, h2.one, h3.one]
  rw [dec_pos g6] at c3
  simp [code97, Tryz.f97, c0, c1, c2, c3, h1.len, h2.len, h3.len, g1, g2, g3, h1.one, h2.one, h3.one]
  refine WP_loop (fun k σ => ∃ (i : Nat) (r : Nat → R), i + k = c.must.length ∧ σ = ⟨r, 1, H⟩ ∧ r 1 = .box 0 [.str c.name, w1, w2, w3] ∧ r 3 = .val (.int .i64 i) ∧ ∀ j x, j < i → c.must[j]? = some x → x ∉ c.may) ?_ c.must.length _ ⟨0, _, by simp, rfl, by simp, by simp, by simp⟩
  rintro k σ ⟨i, r, hik, rfl, r1, r3, hall⟩
  cases k with
  | succ k =>
    have hi : i < c.must.length := by omega
    obtain ⟨x, hx⟩ : ∃ y, c.must[i]? = some y := ⟨c.must[i], by simp [hi]⟩
    have hw : IntKind.i64.wrap ((i : Int) + 1) = ((i : Int) + 1) := wrap_i64 (by omega) (by omega)
    obtain ⟨id, o, e1, l0, _⟩ := strs_idx h1 hx
    have c4 := s_Has (t := x) h2
    by_cases g7 : x ∈ c.may
    · rw [dec_pos g7] at c4
      have hn : ¬ ClassOk c := fun h => h.apart x (List.mem_of_getElem? hx) g7
      simp [r1, r3, hi, h1.len, e1, l0, c4, regionL_none, hn]
    · rw [dec_neg g7] at c4
      simp [r1, r3, hi, h1.len, e1, l0, c4, regionL_none, hw]
      exact ⟨k, by omega, i + 1, by omega, by omega, at_step (P := fun j (x : Str) => x ∉ c.may) hall hx g7⟩
  | zero =>
  have hi : i = c.must.length := by omega
  subst hi
  have hap : ∀ t ∈ c.must, t ∉ c.may := fun t ht => by
    obtain ⟨j, hj, rfl⟩ := List.getElem_of_mem ht
    exact hall j _ hj (List.getElem?_eq_getElem hj)
  simp [r1, r3, h1.len]
  refine WP_loop (fun k σ => ∃ (i : Nat) (r : Nat → R), i + k = c.single.length ∧ σ = ⟨r, 1, H⟩ ∧ r 1 = .box 0 [.str c.name, w1, w2, w3] ∧ r 4 = .val (.int .i64 i) ∧ ∀ j x, j < i → c.single[j]? = some x → x ∈ c.may ∨ x ∈ c.must) ?_ c.single.length _ ⟨0, _, by simp, rfl, by simp [r1], by simp, by simp⟩
  clear hik r1 r3 hall r
  rintro k σ ⟨i, r, hik, rfl, r1, r4, hall⟩
  cases k with
  | succ k =>
    have hi : i < c.single.length := by omega
    obtain ⟨x, hx⟩ : ∃ y, c.single[i]? = some y := ⟨c.single[i], by simp [hi]⟩
    have hw : IntKind.i64.wrap ((i : Int) + 1) = ((i : Int) + 1) := wrap_i64 (by omega) (by omega)
    obtain ⟨id, o, e1, l0, _⟩ := strs_idx h3 hx
    have c4 := s_Has (t := x) h2
    have c5 := s_Has (t := x) h1
    have hstep := fun h => at_step (P := fun j (x : Str) => x ∈ c.may ∨ x ∈ c.must) hall hx h
    by_cases g7 : x ∈ c.may
    · rw [dec_pos g7] at c4
      have := hstep (.inl g7)
      simp [r1, r4, hi, h3.len, e1, l0, c4, regionL_none, hw]
      exact ⟨k, by omega, i + 1, by omega, by omega, this⟩
    · rw [dec_neg g7] at c4
      by_cases g8 : x ∈ c.must
      · rw [dec_pos g8] at c5
        have := hstep (.inr g8)
        simp [r1, r4, hi, h3.len, e1, l0, c4, c5, regionL_none, hw]
        exact ⟨k, by omega, i + 1, by omega, by omega, this⟩
      · rw [dec_neg g8] at c5
        have hn : ¬ ClassOk c := fun h => (h.known x (List.mem_of_getElem? hx)).elim g7 g8
        simp [r1, r4, hi, h3.len, e1, l0, c4, c5, regionL_none, hn]
  | zero =>
  have hi : i = c.single.length := by omega
  subst hi
  have hkn : ∀ t ∈ c.single, t ∈ c.may ∨ t ∈ c.must := fun t ht => by
    obtain ⟨j, hj, rfl⟩ := List.getElem_of_mem ht
    exact hall j _ hj (List.getElem?_eq_getElem hj)
  have c6 := has_class h1
  have c7 := has_class h2
  by_cases g7 : classT ∈ c.must
  · rw [dec_pos g7] at c6
    have hn : ¬ ClassOk c := fun h => h.noMust g7
    simp [r1, r4, h3.len, c6, hn]
  · rw [dec_neg g7] at c6
    by_cases g8 : classT ∈ c.may
    · rw [dec_pos g8] at c7
      have hn : ¬ ClassOk c := fun h => h.noMay g8
      simp [r1, r4, h3.len, c6, c7, hn]
    · rw [dec_neg g8] at c7
      have hn : ClassOk c := ⟨g0, by omega, by omega, by omega, g4, g5, g6, hap, hkn, g7, g8⟩
      simp [r1, r4, h3.len, c6, c7, hn]

set_option maxRecDepth 10000 in
set_option maxHeartbeats 4000000 in
theorem s_Schema {H : List Ob} {v : V} {l : List PClass} (h : AClasses H v l) : callW C 43 [v] H = some (.bool (dec (SchemaOk l)), H) := by
  apply Ret.dec
  rw [op43]
  have hb : l.length ≤ 9223372036854775807 := h.bound
  simp [code43, Tryz.f43]
  refine WP_loop (fun k σ => ∃ (i : Nat) (r : Nat → R), i + k = l.length ∧ σ = ⟨r, 0, H⟩ ∧ r 0 = .val v ∧ r 3 = .val (.int .i64 i) ∧ ∀ j x, j < i → l[j]? = some x → ClassOk x ∧ PrevLt PClass.name l j x) ?_ l.length _ ⟨0, _, by simp, rfl, by simp, by simp, by simp⟩
  rintro k σ ⟨i, r, hik, rfl, r0, r3, hall⟩
  cases k with
  | zero =>
    have hi : i = l.length := by omega
    subst hi
    have hx := at_all (P := fun j (x : PClass) => ClassOk x ∧ PrevLt PClass.name l j x) hall
    by_cases g : l.length ≤ 6
    · have g' : (l.length : Int) ≤ 6 := by omega
      have hv : SchemaOk l := ⟨hx, g⟩
      simp [r0, r3, h.len, g', hv]
    · have g' : ¬ (l.length : Int) ≤ 6 := by omega
      have hv : ¬ SchemaOk l := fun h => g h.2
      simp [r0, r3, h.len, g', hv]
  | succ k =>
    have hi : i < l.length := by omega
    obtain ⟨x, hx⟩ : ∃ c, l[i]? = some c := ⟨l[i], by simp [hi]⟩
    have hw : IntKind.i64.wrap ((i : Int) + 1) = ((i : Int) + 1) := wrap_i64 (by omega) (by omega)
    obtain ⟨id, o, w1, w2, w3, e1, l0, l4, q1, q2, q3, _⟩ := classes_idx h hx
    have c1 := s_Class q1 q2 q3
    have hstep := fun h => at_step (P := fun j (x : PClass) => ClassOk x ∧ PrevLt PClass.name l j x) hall hx h
    by_cases g1 : ClassOk x
    · rw [dec_pos g1] at c1
      by_cases hi0 : i = 0
      · have := hstep ⟨g1, fun y hy => by omega⟩
        subst hi0
        simp at e1
        simp [r0, r3, hi, h.len, e1, l4, c1, regionL_none]
        exact ⟨k, by omega, 1, by omega, by omega, this⟩
      · have hip : 0 < i := by omega
        obtain ⟨y, hy⟩ : ∃ c, l[i - 1]? = some c := ⟨l[i - 1]'(by omega), by simp⟩
        obtain ⟨id', o', _, _, _, e1', l0', _⟩ := classes_idx h hy
        have hw1 : IntKind.i64.wrap ((i : Int) - 1) = ((i - 1 : Nat) : Int) := by rw [wrap_i64 (by omega) (by omega)]; omega
        by_cases g2 : LtS y.name x.name
        · have := hstep ⟨g1, fun z _ hz => by rw [hy] at hz; cases hz; exact g2⟩
          simp [r0, r3, hi, h.len, e1, l0, l4, c1, e1', l0', hw, hw1, hip, LtS_dec g2, regionL_none]
          exact ⟨k, by omega, i + 1, by omega, by omega, this⟩
        · have hn : ¬ SchemaOk l := fun hd => g2 ((hd.1 i x hx).2 y hip hy)
          simp [r0, r3, hi, h.len, e1, l0, l4, c1, e1', l0', hw, hw1, hip, LtS_no g2, regionL_none, hn]
    · rw [dec_neg g1] at c1
      have hn : ¬ SchemaOk l := fun hd => g1 (hd.1 i x hx).1
      simp [r0, r3, hi, h.len, e1, l4, c1, hn, regionL_none]
end Go.Proofs.Try1

namespace Go.Proofs.Try1
open Go Go.Lite
set_option linter.unusedSimpArgs false
set_option linter.unusedVariables false

/-- A class as a call hands it back, or none. -/
def ClassRes (H : List Ob) (m : Option PClass) (cs : List V) (ok : Bool) : Prop :=
  (ok = true ∧ ∃ c w1 w2 w3, m = some c ∧ cs = [.str c.name, w1, w2, w3] ∧ AStrs H w1 c.must ∧ AStrs H w2 c.may ∧ AStrs H w3 c.single) ∨ (ok = false ∧ m = none ∧ cs = [.str [], .slc none 0, .slc none 0, .slc none 0])

theorem of_class {H : List Ob} {v v' : V} {l : List PAttr} (h : AAttrs H v l) (ho : cellsOf v' = some [v']) (ho' : isOne v' = true) : ∃ w, callW C 84 [.agg [v', v], .str [99, 108, 97, 115, 115]] H = some (w, H) ∧ AStrs H w (valsOf l classT) := s_Of h ho ho'

set_option maxRecDepth 10000 in
set_option maxHeartbeats 4000000 in
theorem s_Mine {H T : List Ob} {vl vd va : V} {l : List PClass} {as' : List PAttr} (hl : AClasses H vl l) (ha : AAttrs H va as') (ho : cellsOf vd = some [vd]) (ho' : isOne vd = true) :
    ∃ cs ok, callW C 44 [vl, .agg [vd, va]] (H ++ T) = some (.tup [.agg cs, .bool ok], H ++ T) ∧ ClassRes H (mineOf l as') cs ok := by
  suffices hs : Ret C 44 [vl, .agg [vd, va]] (H ++ T) fun q H' => (∃ cs ok, q = .tup [.agg cs, .bool ok] ∧ ClassRes H (mineOf l as') cs ok) ∧ H' = H ++ T by
    obtain ⟨q, H', hc, ⟨cs, ok, rfl, hr⟩, rfl⟩ := hs
    exact ⟨cs, ok, hc, hr⟩
  rw [op44]
  obtain ⟨w, c1, hw⟩ := of_class (ha.ext (T := T)) ho ho'
  have hone := ha.one
  by_cases g1 : (valsOf as' classT).length = 1
  rotate_left
  · have hm : mineOf l as' = none := by
      unfold mineOf
      split
      · rename_i v hv; rw [hv] at g1; exact absurd rfl g1
      · rfl
    have g1' : ¬ ((valsOf as' classT).length : Int) = 1 := by omega
    simp [code44, Tryz.f44, c1, hw.len, g1', ho, ho', hone, buildV, fillL]
    exact .inr ⟨rfl, hm, rfl⟩
  obtain ⟨s, hs⟩ : ∃ s, valsOf as' classT = [s] := by
    match h : valsOf as' classT, g1 with
    | [s], _ => exact ⟨s, rfl⟩
  rw [hs] at hw
  obtain ⟨id, o, e1, l0, _⟩ := strs_idx hw (i := 0) (s := s) rfl
  simp only [Int.ofNat_eq_natCast, Int.natCast_zero] at e1
  have c2 := s_Norm (t := s) (H := H ++ T)
  obtain ⟨r, c3, hr⟩ := s_ClassAt (t := norm s) (hl.ext (T := T))
  have hm : mineOf l as' = firstOf PClass.name l (norm s) := by unfold mineOf; rw [hs]
  rcases hr.pos with ⟨k, a, h1, rfl, h2⟩ | ⟨rfl, h2⟩
  · obtain ⟨id2, o2, w1, w2, w3, f1, l4, q1, q2, q3⟩ := classes_idxT hl h1
    have l4 := l4 T
    have hk : ¬ ((k : Int) < 0) := by omega
    simp [code44, Tryz.f44, c1, hw.len, e1, l0, c2, c3, hk, f1, l4, ho, ho', hone, q1.one, q2.one, q3.one]
    exact .inl ⟨rfl, a, w1, w2, w3, by rw [hm, h2], rfl, q1, q2, q3⟩
  · simp [code44, Tryz.f44, c1, hw.len, e1, l0, c2, c3, ho, ho', hone, buildV, fillL]
    exact .inr ⟨rfl, by rw [hm, h2], rfl⟩

theorem astr_nil {H : List Ob} {id : Nat} (h : H[id]? = some (.mk true 1 [])) : AStrs H (.slc (some (id, 0)) 0) [] :=
  At_slice.2 ⟨_, _, rfl, rfl, by simp, .inr ⟨id, 0, true, [], rfl, h, by simp, fun i x hx => by simp at hx⟩⟩

theorem filter_take {l : List Str} {i : Nat} {x : Str} (h : l[i]? = some x) (p : Str → Bool) : (l.take (i + 1)).filter p = (l.take i).filter p ++ if p x then [x] else [] := by
  rw [take_get h, List.filter_append]
  cases hp : p x <;> simp [hp]

set_option maxRecDepth 10000 in
set_option maxHeartbeats 8000000 in
theorem s_Missing {H : List Ob} {vl vd va : V} {l : List PClass} {e : PEntry} (hl : AClasses H vl l) (hd : ARdns H vd e.dn) (ha : AAttrs H va e.attrs) :
    ∃ T w, callW C 9 [vl, .agg [vd, va]] H = some (w, H ++ T) ∧ AStrs (H ++ T) w (missingOf l e) := by
  suffices hs : Ret C 9 [vl, .agg [vd, va]] H fun q H' => ∃ T, H' = H ++ T ∧ AStrs (H ++ T) q (missingOf l e) by
    obtain ⟨q, H', hc, T, rfl, hr⟩ := hs
    exact ⟨T, q, hc, hr⟩
  rw [op9]
  have c1 := s_Schema (hl.ext (T := [.mk true 1 []]))
  have c2 := s_Entry (hd.ext (T := [.mk true 1 []])) (ha.ext (T := [.mk true 1 []]))
  have hod := hd.one
  have hoa := ha.one
  have hnil : AStrs (H ++ [.mk true 1 []]) (.slc (some (H.length, 0)) 0) [] := astr_nil (by simp)
  by_cases g1 : SchemaOk l
  rotate_left
  · rw [dec_neg g1] at c1
    have hm : missingOf l e = [] := by unfold missingOf; rw [dec_neg (fun h => g1 h.1)]; rfl
    by_cases g0 : (l.length : Int) > 400
    · simp [code9, Tryz.f9, hl.len, g0, hod, hoa, elemT, fillL, zerosL, St.new, hm]
      exact hnil
    · simp [code9, Tryz.f9, hl.len, g0, c1, hod, hoa, elemT, fillL, zerosL, St.new, hm]
      exact hnil
  have g0 : ¬ (l.length : Int) > 400 := by have := g1.2; omega
  rw [dec_pos g1] at c1
  by_cases g2 : EntryOk e
  rotate_left
  · rw [dec_neg g2] at c2
    have hm : missingOf l e = [] := by unfold missingOf; rw [dec_neg (fun h => g2 h.2)]; rfl
    simp [code9, Tryz.f9, hl.len, g0, c1, c2, hod, hoa, elemT, fillL, zerosL, St.new, hm]
    exact hnil
  rw [dec_pos g2] at c2
  have hm : missingOf l e = match mineOf l e.attrs with
    | some c => lacks c e.attrs
    | none => [] := by unfold missingOf; rw [dec_pos ⟨g1, g2⟩]; rfl
  obtain ⟨cs, ok, c3, hr⟩ := s_Mine (T := [.mk true 1 []]) hl ha hod.2 hod.1
  rcases hr with ⟨rfl, c, w1, w2, w3, h1, rfl, q1, q2, q3⟩ | ⟨rfl, h1, rfl⟩
  rotate_left
  · rw [h1] at hm
    simp only at hm
    simp [code9, Tryz.f9, hl.len, g0, c1, c2, c3, hod, hoa, elemT, fillL, zerosL, St.new]
    refine WP_loop (fun k σ => ∃ (r : Nat → R), σ = ⟨r, 2, H ++ [.mk true 1 []]⟩ ∧ r 5 = .val (.slc (some (H.length, 0)) 0) ∧ r 7 = .val (.bool false)) ?_ 0 _ ⟨_, rfl, by simp, by simp⟩
    rintro k σ ⟨r, rfl, r5, r7⟩
    simp [r5, r7, hm]
    exact hnil
  rw [h1] at hm
  simp only at hm
  have hb : c.must.length ≤ 10 := by
    obtain ⟨i, hi⟩ : ∃ i, l[i]? = some c := by
      unfold mineOf at h1
      split at h1
      · unfold firstOf at h1
        have := List.mem_of_find?_eq_some h1
        obtain ⟨i, hi, rfl⟩ := List.getElem_of_mem this
        exact ⟨i, List.getElem?_eq_getElem hi⟩
      · cases h1
    exact (g1.1 i c hi).1.l1
  have hsl : ∀ s ∈ c.must, s.length ≤ maxLen := fun s hs => by
    obtain ⟨j, hj, rfl⟩ := List.getElem_of_mem hs
    obtain ⟨_, _, _, _, h⟩ := strs_idx q1 (List.getElem?_eq_getElem hj)
    exact h
  simp [code9, Tryz.f9, hl.len, g0, c1, c2, c3, hod, hoa, elemT, fillL, zerosL, St.new, q1.one, q2.one, q3.one]
  refine WP_loop (fun k σ => ∃ (i : Nat) (r : Nat → R) (G : List Ob) (v : V), i + k = c.must.length ∧ σ = ⟨r, 2, G⟩ ∧ r 3 = .box 0 [vd, va] ∧ r 5 = .val v ∧ r 6 = .box 1 [.str c.name, w1, w2, w3] ∧ r 7 = .val (.bool true) ∧ r 8 = .val (.int .i64 i) ∧ Gs H G v (((c.must.take i).filter fun t => (firstOf PAttr.name e.attrs t).isNone).map V.str)) ?_ c.must.length _ ⟨0, _, _, _, by simp, rfl, by simp, by simp, by simp, by simp, by simp, Gs.init⟩
  rintro k σ ⟨i, r, G, v, hik, rfl, r3, r5, r6, r7, r8, hG⟩
  obtain ⟨T, rfl⟩ := hG.ext
  cases k with
  | zero =>
    have hi : i = c.must.length := by omega
    subst hi
    rw [List.take_length] at hG
    have hs := (hG.strs (by have := List.length_filter_le (fun t => (firstOf PAttr.name e.attrs t).isNone) c.must; unfold maxLen; omega) (fun s hs => hsl s (List.mem_filter.1 hs).1)).1
    simp [r3, r5, r6, r7, r8, (q1.ext (T := T)).len, hG.gc, hm]
    exact hs
  | succ k =>
    have hi : i < c.must.length := by omega
    obtain ⟨x, hx⟩ : ∃ y, c.must[i]? = some y := ⟨c.must[i], by simp [hi]⟩
    have hw : IntKind.i64.wrap ((i : Int) + 1) = ((i : Int) + 1) := wrap_i64 (by omega) (by omega)
    obtain ⟨id, o, e1, l0, _⟩ := strs_idx (q1.ext (T := T)) hx
    obtain ⟨q, c4, hq⟩ := s_At (t := x) (ha.ext (T := T)) hod.2
    have hft := filter_take hx fun t => (firstOf PAttr.name e.attrs t).isNone
    rcases hq.pos with ⟨j, a, _, rfl, g3⟩ | ⟨rfl, g3⟩
    · have hj : ¬ ((j : Int) < 0) := by omega
      rw [g3] at hft
      simp at hft
      simp [r3, r5, r6, r7, r8, hi, (q1.ext (T := T)).len, e1, l0, c4, hj, hw, regionL_none, hod, hoa]
      exact ⟨k, by omega, i + 1, by omega, _, _, ⟨rfl, rfl⟩, by simp [r3], v, by simp [r5], by simp [r6], by simp [r7], by simp, by rw [hft]; exact hG⟩
    · rw [g3] at hft
      simp at hft
      obtain ⟨v', G', hap, hG'⟩ := hG.push (x := .str x) (z := [.str []]) (d := .str) (b := 16) rfl (by simp; have := List.length_filter_le (fun t => (firstOf PAttr.name e.attrs t).isNone) (c.must.take i); simp at this; unfold maxMade; omega) (by decide) (by decide) rfl
      simp only [List.append_assoc, List.length_append] at hap
      simp [r3, r5, r6, r7, r8, hi, (q1.ext (T := T)).len, e1, l0, c4, hw, regionL_none, hod, hoa, elemT, fillL, zerosL, St.new, badArg, hap]
      exact ⟨k, by omega, i + 1, by omega, _, _, ⟨rfl, rfl⟩, by simp [r3], v', by simp, by simp [r6], by simp [r7], by simp, by rw [hft]; simpa using hG'⟩
end Go.Proofs.Try1
