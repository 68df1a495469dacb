/- Part 10 of the proof of a law: the interpreter, its soundness, and what functions of the program compute over it. Conditions: none but those that each theorem names. -/
import Derived.Test.YtglbhjmpemiijaaGreatDoorA09
import Derived.Test.YtglbhjmpemiijaaGreatDoorA06
import Derived.Test.YtglbhjmpemiijaaGreatDoorA07
import Derived.Test.YtglbhjmpemiijaaGreatDoorA08

section
namespace Go.Proofs.Try1
open Go Go.Lite
set_option linter.unusedSimpArgs false
set_option linter.unusedVariables false

theorem first_uniq {α : Type} {key : α → Str} {l : List α} {t : Str} {i : Nat} {a : α} (hp : l.Pairwise fun a b => key a < key b) (h : l[i]? = some a) (hk : key a = t) : firstOf key l t = some a := by
  unfold firstOf
  rw [List.find?_eq_some_iff_getElem]
  obtain ⟨hi, h⟩ := List.getElem?_eq_some_iff.1 h
  refine ⟨by simp [hk], i, hi, h, fun j hj => ?_⟩
  have := List.pairwise_iff_getElem.1 hp j i (by omega) hi hj
  rw [h, hk] at this
  have hne : key l[j] ≠ t := fun e => by rw [e] at this; exact List.lt_irrefl _ this
  simp [hne]
theorem first_none {α : Type} {key : α → Str} {l : List α} {t : Str} (h : ∀ a ∈ l, key a ≠ t) : firstOf key l t = none := by
  unfold firstOf
  rw [List.find?_eq_none]
  intro x hx
  simpa using h x hx

set_option maxRecDepth 10000 in
theorem i_find {H : List Ob} {ide : Nat} {own : Bool} {es : Nat} {vd va : V} {l : List PAttr} {t : Str} (he : H[ide]? = some (.mk own es [vd, va])) (h : AAttrs H va l) (hl : l.length ≤ 1000) (hp : l.Pairwise fun a b => a.name < b.name) :
    ∃ (i : Nat) (ok : Bool), callW C 226 [.ptr (some (ide, 0)), .str t] H = some (.tup [.int .i64 i, .bool ok], H) ∧
      (ok = true → ∃ a, l[i]? = some a ∧ a.name = t) ∧ (ok = false → ∀ a ∈ l, a.name ≠ t) := by
  obtain ⟨i, ok, c1, h1, h2⟩ := l_search (t := t) h hl hp
  refine ⟨i, ok, ?_, h1, h2⟩
  apply Ret.eq
  rw [op226]
  have ld := load1 (o := 1) (v := va) he rfl
  simp [code226, Tryz.f226, ld, c1]

set_option maxRecDepth 10000 in
theorem i_values {H : List Ob} {ide : Nat} {own : Bool} {es : Nat} {vd va : V} {l : List PAttr} {t : Str} (he : H[ide]? = some (.mk own es [vd, va])) (h : AAttrs H va l) (hl : l.length ≤ 1000) (hp : l.Pairwise fun a b => a.name < b.name) :
    ∃ w, callW C 154 [.ptr (some (ide, 0)), .str t] H = some (w, H) ∧ AStrs H w (valsOf l t) := by
  obtain ⟨i, ok, c1, h1, h2⟩ := i_find (t := t) he h hl hp
  suffices hs : Ret C 154 [.ptr (some (ide, 0)), .str t] H fun q H' => AStrs H q (valsOf l t) ∧ H' = H by
    obtain ⟨q, H', hc, hr, rfl⟩ := hs
    exact ⟨q, hc, hr⟩
  rw [op154]
  have ld := load1 (o := 1) (v := va) he rfl
  cases ok with
  | false =>
    have hv : valsOf l t = [] := by unfold valsOf; rw [first_none (h2 rfl)]
    simp [code154, Tryz.f154, c1, hv]
    exact At_slice.2 ⟨_, _, rfl, rfl, by simp, .inl ⟨rfl, rfl⟩⟩
  | true =>
    obtain ⟨a, ha, hat⟩ := h1 rfl
    obtain ⟨id, o, w, e1, l0, l1, _, hw, _⟩ := attrs_idx h ha
    have hv : valsOf l t = a.vals := by unfold valsOf; rw [first_uniq hp ha hat]
    simp [code154, Tryz.f154, c1, ld, e1, l1, hv]
    exact hw

theorem i_hasIt {H : List Ob} {ide idp : Nat} {own own' : Bool} {es es' : Nat} {vd va : V} {l : List PAttr} {t : Str} (he : H[ide]? = some (.mk own es [vd, va])) (hq : H[idp]? = some (.mk own' es' [.ptr (some (ide, 0))])) (h : AAttrs H va l) (hl : l.length ≤ 1000) (hp : l.Pairwise fun a b => a.name < b.name) :
    callW C 249 [.str t, .ptr (some (idp, 0))] H = some (.bool (decide (0 < (valsOf l t).length)), H) := by
  obtain ⟨w, c1, hw⟩ := i_values (t := t) he h hl hp
  apply Ret.eq
  rw [op249]
  have ld := load1 (o := 0) (v := .ptr (some (ide, 0))) hq rfl
  simp [code249, Tryz.f249, ld, c1, hw.len]

theorem i_named {H : List Ob} {idn : Nat} {own : Bool} {es : Nat} {n t : Str} {w1 w2 w3 : V} (hq : H[idn]? = some (.mk own es [.str t])) (h1 : cellsOf w1 = some [w1]) :
    callW C 251 [.agg [.str n, w1, w2, w3], .ptr (some (idn, 0))] H = some (.bool (decide (n = t)), H) := by
  apply Ret.eq
  rw [op251]
  have ld := load1 (o := 0) (v := .str t) hq rfl
  simp [code251, Tryz.f251, ld]

set_option maxRecDepth 10000 in
theorem l_idxClass {H : List Ob} {idn : Nat} {own : Bool} {es : Nat} {v : V} {l : List PClass} {t : Str} (hq : H[idn]? = some (.mk own es [.str t])) (h : AClasses H v l) :
    ∃ r : Int, callW C 250 [v, .fn 251 [] [.ptr (some (idn, 0))]] H = some (.int .i64 r, H) ∧ FirstAt PClass.name l t r := by
  suffices hs : Ret C 250 [v, .fn 251 [] [.ptr (some (idn, 0))]] H fun q H' => (∃ r : Int, q = .int .i64 r ∧ FirstAt PClass.name l t r) ∧ H' = H by
    obtain ⟨q, H', hc, ⟨r, rfl, hr⟩, rfl⟩ := hs
    exact ⟨r, hc, hr⟩
  rw [op250]
  have hb : l.length ≤ 9223372036854775807 := h.bound
  simp [code250, Tryz.f250, h.len]
  refine WP_loop (fun k σ => ∃ (i : Nat) (r : Nat → R), i + k = l.length ∧ σ = ⟨r, 0, H⟩ ∧ r 0 = .val v ∧ r 1 = .val (.fn 251 [] [.ptr (some (idn, 0))]) ∧ r 7 = .val (.int .i64 l.length) ∧ r 8 = .val (.int .i64 i) ∧ ∀ j x, j < i → l[j]? = some x → x.name ≠ t) ?_ l.length _ ⟨0, _, by simp, rfl, by simp, by simp, by simp, by simp, by simp⟩
  rintro k σ ⟨i, r, hik, rfl, r0, r1, r7, r8, hall⟩
  cases k with
  | zero =>
    have hi : i = l.length := by omega
    subst hi
    have hx := at_all (P := fun j (x : PClass) => x.name ≠ t) hall
    simp [r0, r1, r7, r8]
    exact .inr ⟨hx, rfl⟩
  | succ k =>
    have hi : i < l.length := by omega
    obtain ⟨x, hx⟩ : ∃ c, l[i]? = some c := ⟨l[i], by simp [hi]⟩
    have hw : IntKind.i64.wrap ((i : Int) + 1) = ((i : Int) + 1) := wrap_i64 (by omega) (by omega)
    obtain ⟨id, o, w1, w2, w3, e1, l0, l4, q1, q2, q3, _⟩ := classes_idx h hx
    have c1 := i_named (n := x.name) (w1 := w1) (w2 := w2) (w3 := w3) hq q1.one.2
    by_cases g1 : x.name = t
    · rw [decide_eq_true g1] at c1
      simp [r0, r1, r7, r8, hi, e1, l4, c1]
      exact .inl ⟨i, x, hx, g1, hall, rfl⟩
    · rw [decide_eq_false g1] at c1
      simp [r0, r1, r7, r8, hi, e1, l4, c1, hw]
      exact ⟨k, by omega, i + 1, by omega, by omega, at_step (P := fun j (x : PClass) => x.name ≠ t) hall hx g1⟩

theorem strs_low {H T : List Ob} {w : V} {l : List Str} (h : AStrs (H ++ T) w l) (hl : lowV H w) : AStrs H w l := by
  obtain ⟨w', us, hw, hu, hb, hs⟩ := At_slice.1 h.at
  cases hw
  cases hu
  refine At_slice.2 ⟨_, _, rfl, rfl, hb, ?_⟩
  rcases hs with h | ⟨id, off, own, cells, rfl, h2, h3, h4⟩
  · exact .inl h
  · obtain ⟨_, _, _, h5⟩ := hl
    have hid := (List.getElem?_eq_some_iff.1 h5).1
    rw [List.getElem?_append_left hid] at h2
    refine .inr ⟨id, off, own, cells, rfl, h2, h3, fun i x hx => ?_⟩
    have := h4 i x hx
    rw [At_str] at this ⊢
    exact this

/-- What is cut off does not matter to a class that is handed back. -/
theorem class_gc {H T : List Ob} {m : Option PClass} {cs : List V} {ok : Bool} (h : ClassRes (H ++ T) m cs ok) : ∃ T', gcH H (H ++ T) (.tup [.agg cs, .bool ok]) = H ++ T' ∧ ClassRes (H ++ T') m cs ok := by
  by_cases hl : lowV H (.tup [.agg cs, .bool ok])
  · refine ⟨[], by rw [gcH_low hl, List.append_nil], ?_⟩
    rw [List.append_nil]
    rcases h with ⟨rfl, c, w1, w2, w3, h1, rfl, h2, h3, h4⟩ | h
    · simp only [lowV, lowVs, and_true, true_and] at hl
      exact .inl ⟨rfl, c, w1, w2, w3, h1, rfl, strs_low h2 hl.1, strs_low h3 hl.2.1, strs_low h4 hl.2.2⟩
    · exact .inr h
  · refine ⟨T, ?_, h⟩
    unfold gcH
    rw [if_neg fun h => hl h.2]
end Go.Proofs.Try1
end

section
namespace Go.Proofs.Try1
open Go Go.Lite
set_option linter.unusedSimpArgs false
set_option linter.unusedVariables false

theorem l_Clone' {H : List Ob} {v : V} {l : List Str} (h : AStrs H v l) (hl : l.length ≤ 1000000) : ∃ T w, callW C 153 [v] H = some (w, H ++ T) ∧ Own H (H ++ T) w l ∧ AStrs (H ++ T) w l ∧ isOne w = true ∧ cellsOf w = some [w] := by
  obtain ⟨T, w, h1, h2⟩ := l_Clone h hl
  exact ⟨T, w, h1, h2, h2.strs (by unfold maxLen; omega) (strs_max h), h2.one⟩

set_option maxRecDepth 10000 in
set_option maxHeartbeats 4000000 in
theorem i_classOf {H : List Ob} {v : V} {l : List PClass} {t : Str} (h : AClasses H v l) (hb : ∀ c ∈ l, c.must.length ≤ 1000 ∧ c.may.length ≤ 1000 ∧ c.single.length ≤ 1000) :
    ∃ T cs ok, callW C 145 [v, .str t] H = some (.tup [.agg cs, .bool ok], H ++ T) ∧ ClassRes (H ++ T) (firstOf PClass.name l t) cs ok := by
  suffices hs : Ret C 145 [v, .str t] H fun q H' => ∃ T cs ok, q = .tup [.agg cs, .bool ok] ∧ H' = H ++ T ∧ ClassRes (H ++ T) (firstOf PClass.name l t) cs ok by
    obtain ⟨q, H', hc, T, cs, ok, rfl, rfl, hr⟩ := hs
    exact ⟨T, cs, ok, hc, hr⟩
  rw [op145]
  obtain ⟨r, c1, hr⟩ := l_idxClass (H := H ++ [.mk true 1 [.str t]]) (idn := H.length) (t := t) get_last h.ext
  rcases hr.pos with ⟨k, a, h1, rfl, h2⟩ | ⟨rfl, h2⟩
  · obtain ⟨id, o, w1, w2, w3, e1, l4, q1, q2, q3⟩ := classes_idxT h h1
    have l4 := l4 [.mk true 1 [.str t]]
    obtain ⟨b1, b2, b3⟩ := hb a (List.mem_of_getElem? h1)
    have hk : ¬ ((k : Int) < 0) := by omega
    obtain ⟨T1, x1, d1, _, s1, o1⟩ := l_Clone' (q1.ext (T := [.mk true 1 [.str t]])) (by omega)
    obtain ⟨T2, x2, d2, _, s2, o2⟩ := l_Clone' (q2.ext.ext (T := T1) (H := H ++ [.mk true 1 [.str t]])) (by omega)
    obtain ⟨T3, x3, d3, _, s3, o3⟩ := l_Clone' (q3.ext.ext.ext (T := T2) (H := H ++ [.mk true 1 [.str t]] ++ T1)) (by omega)
    have hres : ClassRes (H ++ ([.mk true 1 [.str t]] ++ (T1 ++ (T2 ++ T3)))) (firstOf PClass.name l t) [.str a.name, x1, x2, x3] true := by
      refine .inl ⟨rfl, a, x1, x2, x3, h2, rfl, ?_, ?_, ?_⟩
      · have := s1.ext (T := T2 ++ T3); simpa only [List.append_assoc] using this
      · have := s2.ext (T := T3); simpa only [List.append_assoc] using this
      · simpa only [List.append_assoc] using s3
    obtain ⟨T', hg, hres⟩ := class_gc hres
    simp only [List.append_assoc, List.cons_append, List.nil_append] at d1 d2 d3 hg
    simp [code145, Tryz.f145, c1, hk, e1, l4, d1, d2, d3, o1, o2, o3, q1.one, q2.one, q3.one, strideOf, buildV, fillL, structPlace, List.lookup, hg]
    exact hres
  · have hres : ClassRes (H ++ [.mk true 1 [.str t]]) (firstOf PClass.name l t) [.str [], .slc none 0, .slc none 0, .slc none 0] false := .inr ⟨rfl, h2, rfl⟩
    obtain ⟨T', hg, hres⟩ := class_gc hres
    simp [code145, Tryz.f145, c1, strideOf, buildV, fillL, structPlace, hg]
    exact hres

theorem i_valuesC {H : List Ob} {ide : Nat} {own : Bool} {es : Nat} {vd va : V} {l : List PAttr} (he : H[ide]? = some (.mk own es [vd, va])) (h : AAttrs H va l) (hl : l.length ≤ 1000) (hp : l.Pairwise fun a b => a.name < b.name) :
    ∃ w, callW C 154 [.ptr (some (ide, 0)), .str [99, 108, 97, 115, 115]] H = some (w, H) ∧ AStrs H w (valsOf l classT) := i_values he h hl hp

set_option maxRecDepth 10000 in
set_option maxHeartbeats 4000000 in
theorem i_ofEntry {H : List Ob} {ide : Nat} {own : Bool} {es : Nat} {vd va vl : V} {l : List PClass} {as' : List PAttr} (he : H[ide]? = some (.mk own es [vd, va])) (h : AAttrs H va as') (hl : as'.length ≤ 1000) (hp : as'.Pairwise fun a b => a.name < b.name)
    (hc : AClasses H vl l) (hb : ∀ c ∈ l, c.must.length ≤ 1000 ∧ c.may.length ≤ 1000 ∧ c.single.length ≤ 1000) :
    ∃ T cs ok, callW C 141 [vl, .ptr (some (ide, 0))] H = some (.tup [.agg cs, .bool ok], H ++ T) ∧ ClassRes (H ++ T) (mineOf l as') cs ok := by
  suffices hs : Ret C 141 [vl, .ptr (some (ide, 0))] H fun q H' => ∃ T cs ok, q = .tup [.agg cs, .bool ok] ∧ H' = H ++ T ∧ ClassRes (H ++ T) (mineOf l as') cs ok by
    obtain ⟨q, H', hc, T, cs, ok, rfl, rfl, hr⟩ := hs
    exact ⟨T, cs, ok, hc, hr⟩
  rw [op141]
  obtain ⟨w, c1, hw⟩ := i_valuesC he h hl hp
  by_cases g1 : (valsOf as' classT).length = 1
  rotate_left
  · have hm : mineOf l as' = none := by
      unfold mineOf
      split
      · rename_i v hv; rw [hv] at g1; exact absurd rfl g1
      · rfl
    have g1' : ¬ ((valsOf as' classT).length : Int) = 1 := by omega
    simp [code141, Tryz.f141, c1, hw.len, g1', buildV, fillL]
    exact .inr ⟨rfl, hm, rfl⟩
  obtain ⟨s, hs⟩ : ∃ s, valsOf as' classT = [s] := by
    match h : valsOf as' classT, g1 with
    | [s], _ => exact ⟨s, rfl⟩
  rw [hs] at hw
  obtain ⟨id, o, e1, l0, _⟩ := strs_idx hw (i := 0) (s := s) rfl
  simp only [Int.ofNat_eq_natCast, Int.natCast_zero] at e1
  have c2 := i_Norm (t := s) (H := H)
  obtain ⟨T, cs, ok, c3, hres⟩ := i_classOf (t := norm s) hc hb
  have hm : mineOf l as' = firstOf PClass.name l (norm s) := by unfold mineOf; rw [hs]
  rw [← hm] at hres
  have hcs : cs.length = 4 ∧ cs.all isOne = true := by
    rcases hres with ⟨_, c, w1, w2, w3, _, rfl, h1, h2, h3⟩ | ⟨_, _, rfl⟩
    · exact ⟨rfl, by simp [h1.one, h2.one, h3.one]⟩
    · exact ⟨rfl, rfl⟩
  obtain ⟨T', hg, hres⟩ := class_gc hres
  obtain ⟨x1, x2, x3, x4, rfl⟩ : ∃ x1 x2 x3 x4, cs = [x1, x2, x3, x4] := by
    match cs, hcs.1 with
    | [x1, x2, x3, x4], _ => exact ⟨_, _, _, _, rfl⟩
  have hone := hcs.2
  simp at hone
  cases ok <;> simp [code141, Tryz.f141, c1, hw.len, e1, l0, c2, c3, hone, hg] <;> exact hres
end Go.Proofs.Try1
end

section
namespace Go.Proofs.Try1
open Go Go.Lite
set_option linter.unusedSimpArgs false
set_option linter.unusedVariables false

theorem i_Key {H : List Ob} {v : V} {l : List PRdn} (h : ARdns H v l) (hd : DnOk l) : callW C 126 [v] H = some (.str (keyD l), H) := by
  rw [callW_prim (show C.prim 126 = some dkPrim from rfl)]
  exact dkPrim_eq h hd.small.1 hd.small.2

theorem i_isNorm {H : List Ob} {id : Nat} {own : Bool} {es : Nat} {t n : Str} (hq : H[id]? = some (.mk own es [.str n])) : callW C 336 [.str t, .ptr (some (id, 0))] H = some (.bool (dec (norm t = n)), H) := by
  apply Ret.dec
  rw [op336]
  have ld := load1 (o := 0) (v := .str n) hq rfl
  have c1 := i_Norm (t := t) (H := H)
  have hid : id < H.length := (List.getElem?_eq_some_iff.1 hq).1
  simp [code336, Tryz.f336, ld, c1, hid]
  exact (Classical.em _).symm

set_option maxRecDepth 10000 in
theorem i_has {H : List Ob} {ide : Nat} {own : Bool} {es : Nat} {vd va : V} {l : List PAttr} {t n : Str} (he : H[ide]? = some (.mk own es [vd, va])) (h : AAttrs H va l) (hl : l.length ≤ 1000) (hp : l.Pairwise fun a b => a.name < b.name) :
    callW C 233 [.ptr (some (ide, 0)), .str t, .str n] H = some (.bool (dec (HasOk l t n)), H) := by
  apply Ret.dec
  rw [op233]
  have ld := load1 (H := H ++ [.mk true 1 [.str n]]) (o := 0) (v := .str n) get_last rfl
  have hgb : ∀ X b, gcH H (H ++ X) (.bool b) = H := fun X b => gcH_bool
  by_cases hn : n = []
  · subst hn
    simp [code233, Tryz.f233, strideOf, ld, HasOk, hgb]
  · obtain ⟨w, c1, hw⟩ := i_values (H := H ++ [.mk true 1 [.str n]]) (t := t) (up_append _ _ he) h.ext hl hp
    have c2 := l_ContainsFunc hw (fun x => dec (norm x = n)) (g := 336) (a := []) (b := [.ptr (some (H.length, 0))]) (fun x _ => i_isNorm get_last)
    simp [code233, Tryz.f233, strideOf, ld, hn, c1, c2, hgb, HasOk]
    have e : (∃ x, x ∈ valsOf l t ∧ dec (norm x = n) = true) ↔ ∃ v, v ∈ valsOf l t ∧ norm v = n := by simp only [dec_true]
    rw [dec_iff e]
    by_cases hx : ∃ v, v ∈ valsOf l t ∧ norm v = n
    · exact .inr ⟨dec_pos hx, hx⟩
    · exact .inl ⟨dec_neg hx, fun x hx1 hx2 => hx ⟨x, hx1, hx2⟩⟩
end Go.Proofs.Try1
end

section
namespace Go.Proofs.Try1
open Go Go.Lite
set_option linter.unusedSimpArgs false
set_option linter.unusedVariables false

theorem s_HasV {H : List Ob} {v v' : V} {l : List PAttr} {t s : Str} (h : AAttrs H v l) (ho : cellsOf v' = some [v']) (ho' : isOne v' = true) : callW C 235 [.agg [v', v], .str t, .str s] H = some (.bool (dec (HasOk l t (norm s))), H) := by
  apply Ret.dec
  rw [op235]
  have c1 := s_Norm (t := s) (H := H)
  obtain ⟨w, c2, hw⟩ := s_Of (t := t) h ho ho'
  obtain ⟨r, c3, hr⟩ := s_In (n := norm s) hw
  have hone := h.one
  by_cases hn : norm s = []
  · simp [code235, Tryz.f235, c1, hn, ho, ho', hone, HasOk]
  · rcases hr with ⟨k, a, h1, h2, h3, rfl⟩ | ⟨h1, rfl⟩
    · have hk : (0 : Int) ≤ (k : Int) := by omega
      have hm : a ∈ valsOf l t := List.mem_of_getElem? h1
      have h2' : norm a = norm s := by simpa using h2
      simp [code235, Tryz.f235, c1, c2, c3, hn, ho, ho', hone, HasOk, hk]
      exact ⟨a, hm, h2'⟩
    · simp [code235, Tryz.f235, c1, c2, c3, hn, ho, ho', hone, HasOk]
      intro x hx
      obtain ⟨j, hj, rfl⟩ := List.getElem_of_mem hx
      have := h1 j _ (List.getElem?_eq_getElem hj)
      simpa using this

set_option maxRecDepth 10000 in
set_option maxHeartbeats 4000000 in
theorem s_CheckC {H : List Ob} {vl vd va : V} {l : List PClass} {e : PEntry} (hl : AClasses H vl l) (hd : ARdns H vd e.dn) (ha : AAttrs H va e.attrs) (hdn : 0 < e.dn.length) :
    ∃ r : Int, callW C 121 [vl, .agg [vd, va]] H = some (.int .i64 r, H) ∧ (r = 0 ↔ FitsOk l e) ∧ (r = 0 ∨ r = 12) := by
  suffices hs : Ret C 121 [vl, .agg [vd, va]] H fun q H' => (∃ r : Int, q = .int .i64 r ∧ (r = 0 ↔ FitsOk l e) ∧ (r = 0 ∨ r = 12)) ∧ H' = H by
    obtain ⟨q, H', hc, ⟨r, rfl, hr⟩, rfl⟩ := hs
    exact ⟨r, hc, hr⟩
  rw [op121]
  have hod := hd.one
  have hoa := ha.one
  obtain ⟨cs, ok, c1, hm⟩ := s_Mine (T := []) hl ha hod.2 hod.1
  rw [List.append_nil] at c1
  obtain ⟨x, hx⟩ : ∃ c, e.dn[0]? = some c := ⟨e.dn[0], by simp [hdn]⟩
  obtain ⟨id, o, e1, l0, l1, _, _⟩ := rdns_idx hd hx
  simp only [Int.ofNat_eq_natCast, Int.natCast_zero] at e1
  have hid := load_lt l0
  have c2 := s_HasV (t := x.attr) (s := x.value) ha hod.2 hod.1
  rcases hm with ⟨rfl, c, w1, w2, w3, hc, rfl, a1, a2, a3⟩ | ⟨rfl, hc, rfl⟩
  rotate_left
  · simp [code121, Tryz.f121, regionL_some, regionL_none, List.lookup, c1, hod, hoa, hid]
    rintro ⟨c, h1, _⟩
    rw [hc] at h1
    cases h1
  by_cases hH : HasOk e.attrs x.attr (norm x.value)
  rotate_left
  · rw [dec_neg hH] at c2
    simp [code121, Tryz.f121, regionL_some, regionL_none, List.lookup, c1, hod, hoa, a1.one, a2.one, a3.one, e1, l0, l1, hid, c2]
    rintro ⟨c, _, _, _, y, h1, h2⟩
    rw [hx] at h1
    cases h1
    exact hH h2
  rw [dec_pos hH] at c2
  simp [code121, Tryz.f121, regionL_some, regionL_none, List.lookup, c1, hod, hoa, a1.one, a2.one, a3.one, e1, l0, l1, hid, c2]
  have hb1 : c.must.length ≤ 9223372036854775807 := a1.bound
  have hb2 : e.attrs.length ≤ 9223372036854775807 := ha.bound
  have hfit : ∀ c', mineOf l e.attrs = some c' → c' = c := fun c' h => by rw [hc] at h; cases h; rfl
  refine WP_loop (fun k σ => ∃ (i : Nat) (r : Nat → R), i + k = c.must.length ∧ (∀ t ∈ c.must.take i, firstOf PAttr.name e.attrs t ≠ none) ∧ σ = ⟨r, 2, H⟩ ∧ r 3 = .box 0 [vd, va] ∧ r 5 = .box 1 [.str c.name, w1, w2, w3] ∧ r 7 = .val (.int .i64 i)) ?_ c.must.length _ ⟨0, _, by omega, by simp, rfl, by simp, by simp, by simp⟩
  rintro k σ ⟨i, r, hik, hpre, rfl, r3, r5, r7⟩
  cases k with
  | succ k =>
    have hi : i < c.must.length := by omega
    obtain ⟨s, hs⟩ : ∃ s, c.must[i]? = some s := ⟨c.must[i], by simp [hi]⟩
    obtain ⟨id2, o2, f1, l5, _⟩ := strs_idx a1 hs
    have hid2 := load_lt l5
    obtain ⟨q, c3, hq⟩ := s_At (t := s) ha hod.2
    have hw : IntKind.i64.wrap ((i : Int) + 1) = ((i : Int) + 1) := wrap_i64 (by omega) (by omega)
    rcases hq.pos with ⟨k', a, h1, rfl, h2⟩ | ⟨rfl, h2⟩
    · have hk : ¬ ((k' : Int) < 0) := by omega
      simp [r3, r5, r7, regionL_some, regionL_none, List.lookup, a1.len, hi, f1, l5, hid2, c3, hk, hod, hoa, hw, a1.one]
      exact ⟨k, by omega, i + 1, by omega, fun t ht => by
        rw [take_get hs] at ht
        rcases List.mem_append.1 ht with h | h
        · exact hpre t h
        · obtain rfl := List.mem_singleton.1 h
          rw [h2]; simp, by simp⟩
    · simp [r3, r5, r7, regionL_some, regionL_none, List.lookup, a1.len, hi, f1, l5, hid2, c3, hod, hoa, a1.one]
      rintro ⟨c', hc', hl', _⟩
      obtain rfl := hfit c' hc'
      have := List.filter_eq_nil_iff.1 hl' s (List.mem_of_getElem? hs)
      simp [h2] at this
  | zero =>
    have hi : i = c.must.length := by omega
    subst hi
    rw [List.take_length] at hpre
    simp [r3, r5, r7, regionL_some, regionL_none, a1.len, a1.one]
    refine WP_loop (fun k σ => ∃ (i : Nat) (r : Nat → R), i + k = e.attrs.length ∧ (∀ a ∈ e.attrs.take i, AttrFits c a) ∧ σ = ⟨r, 2 + i, H⟩ ∧ r 3 = .box 0 [vd, va] ∧ r 5 = .box 1 [.str c.name, w1, w2, w3] ∧ r 8 = .val (.int .i64 i)) ?_ e.attrs.length _ ⟨0, _, by omega, by simp, rfl, by simp [r3], by simp [r5], by simp⟩
    clear r3 r5 r7 r
    rintro k σ ⟨i, r, hik, hpre2, rfl, r3, r5, r8⟩
    cases k with
    | zero =>
      have hi : i = e.attrs.length := by omega
      subst hi
      rw [List.take_length] at hpre2
      simp [r3, r5, r8, ha.len, regionL_some, regionL_none, hoa]
      exact ⟨c, hc, List.filter_eq_nil_iff.2 fun t ht => by
        have := hpre t ht
        cases h : firstOf PAttr.name e.attrs t with
        | none => exact absurd h this
        | some _ => simp, hpre2, x, hx, hH⟩
    | succ k =>
      have hi : i < e.attrs.length := by omega
      obtain ⟨a, hs⟩ : ∃ a, e.attrs[i]? = some a := ⟨e.attrs[i], by simp [hi]⟩
      obtain ⟨id2, o2, w, f1, m1, m2, m3, aw, _⟩ := attrs_idx ha hs
      have hw : IntKind.i64.wrap ((i : Int) + 1) = ((i : Int) + 1) := wrap_i64 (by omega) (by omega)
      have d1 := s_Has (t := a.name) a1
      have d2 := s_Has (t := a.name) a2
      have d3 := s_Has (t := a.name) a3
      have hstep : AttrFits c a → ∀ t ∈ e.attrs.take (i + 1), AttrFits c t := fun h t ht => by
        rw [take_get hs] at ht
        rcases List.mem_append.1 ht with h' | h'
        · exact hpre2 t h'
        · obtain rfl := List.mem_singleton.1 h'
          exact h
      have hbad : ¬ AttrFits c a → ¬ FitsOk l e := by
        rintro h ⟨c', hc', _, hl', _⟩
        obtain rfl := hfit c' hc'
        exact h (hl' a (List.mem_of_getElem? hs))
      have hvl : (1 : Int) < (a.vals.length : Int) ↔ 1 < a.vals.length := by omega
      by_cases n1 : a.name = [99, 108, 97, 115, 115]
      · by_cases n4 : 1 < a.vals.length
        · by_cases n5 : a.name ∈ c.single
          · rw [dec_pos n5] at d3
            rw [n1] at d1 d2 d3
            simp [r3, r5, r8, ha.len, hi, f1, m1, m2, m3, d1, d2, d3, aw.len, aw.one, hod, hoa, a1.one, a2.one, a3.one, hw, regionL_some, regionL_none, List.lookup, n1, n4, hvl]
            exact hbad fun h => h.2 ⟨n4, n5⟩
          · rw [dec_neg n5] at d3
            rw [n1] at d1 d2 d3
            simp [r3, r5, r8, ha.len, hi, f1, m1, m2, m3, d1, d2, d3, aw.len, aw.one, hod, hoa, a1.one, a2.one, a3.one, hw, regionL_some, regionL_none, List.lookup, n1, n4, hvl]
            exact ⟨k, by omega, i + 1, by omega, hstep ⟨.inl n1, fun h => n5 h.2⟩, _, ⟨rfl, by omega⟩, by simp [r3], by simp [r5], by simp⟩
        · rw [n1] at d1 d2 d3
          simp [r3, r5, r8, ha.len, hi, f1, m1, m2, m3, d1, d2, d3, aw.len, aw.one, hod, hoa, a1.one, a2.one, a3.one, hw, regionL_some, regionL_none, List.lookup, n1, n4, hvl]
          exact ⟨k, by omega, i + 1, by omega, hstep ⟨.inl n1, fun h => n4 h.1⟩, _, ⟨rfl, by omega⟩, by simp [r3], by simp [r5], by simp⟩
      by_cases n2 : a.name ∈ c.must
      · rw [dec_pos n2] at d1
        by_cases n4 : 1 < a.vals.length
        · by_cases n5 : a.name ∈ c.single
          · rw [dec_pos n5] at d3
            simp [r3, r5, r8, ha.len, hi, f1, m1, m2, m3, d1, d2, d3, aw.len, aw.one, hod, hoa, a1.one, a2.one, a3.one, hw, regionL_some, regionL_none, List.lookup, n1, n4, hvl]
            exact hbad fun h => h.2 ⟨n4, n5⟩
          · rw [dec_neg n5] at d3
            simp [r3, r5, r8, ha.len, hi, f1, m1, m2, m3, d1, d2, d3, aw.len, aw.one, hod, hoa, a1.one, a2.one, a3.one, hw, regionL_some, regionL_none, List.lookup, n1, n4, hvl]
            exact ⟨k, by omega, i + 1, by omega, hstep ⟨.inr (.inl n2), fun h => n5 h.2⟩, _, ⟨rfl, by omega⟩, by simp [r3], by simp [r5], by simp⟩
        · simp [r3, r5, r8, ha.len, hi, f1, m1, m2, m3, d1, d2, d3, aw.len, aw.one, hod, hoa, a1.one, a2.one, a3.one, hw, regionL_some, regionL_none, List.lookup, n1, n4, hvl]
          exact ⟨k, by omega, i + 1, by omega, hstep ⟨.inr (.inl n2), fun h => n4 h.1⟩, _, ⟨rfl, by omega⟩, by simp [r3], by simp [r5], by simp⟩
      rw [dec_neg n2] at d1
      by_cases n3 : a.name ∈ c.may
      · rw [dec_pos n3] at d2
        by_cases n4 : 1 < a.vals.length
        · by_cases n5 : a.name ∈ c.single
          · rw [dec_pos n5] at d3
            simp [r3, r5, r8, ha.len, hi, f1, m1, m2, m3, d1, d2, d3, aw.len, aw.one, hod, hoa, a1.one, a2.one, a3.one, hw, regionL_some, regionL_none, List.lookup, n1, n4, hvl]
            exact hbad fun h => h.2 ⟨n4, n5⟩
          · rw [dec_neg n5] at d3
            simp [r3, r5, r8, ha.len, hi, f1, m1, m2, m3, d1, d2, d3, aw.len, aw.one, hod, hoa, a1.one, a2.one, a3.one, hw, regionL_some, regionL_none, List.lookup, n1, n4, hvl]
            exact ⟨k, by omega, i + 1, by omega, hstep ⟨.inr (.inr n3), fun h => n5 h.2⟩, _, ⟨rfl, by omega⟩, by simp [r3], by simp [r5], by simp⟩
        · simp [r3, r5, r8, ha.len, hi, f1, m1, m2, m3, d1, d2, d3, aw.len, aw.one, hod, hoa, a1.one, a2.one, a3.one, hw, regionL_some, regionL_none, List.lookup, n1, n4, hvl]
          exact ⟨k, by omega, i + 1, by omega, hstep ⟨.inr (.inr n3), fun h => n4 h.1⟩, _, ⟨rfl, by omega⟩, by simp [r3], by simp [r5], by simp⟩
      · rw [dec_neg n3] at d2
        simp [r3, r5, r8, ha.len, hi, f1, m1, m2, m3, d1, d2, d3, aw.len, aw.one, hod, hoa, a1.one, a2.one, a3.one, hw, regionL_some, regionL_none, List.lookup, n1, hvl]
        exact hbad fun h => by
          rcases h.1 with h | h | h
          · exact n1 h
          · exact n2 h
          · exact n3 h
theorem s_Check {H : List Ob} {vl vd va : V} {l : List PClass} {e : PEntry} (hl : AClasses H vl l) (hd : ARdns H vd e.dn) (ha : AAttrs H va e.attrs) (hdn : 0 < e.dn.length) :
    ∃ r : Int, callW C 121 [vl, .agg [vd, va]] H = some (.int .i64 r, H) ∧ (r = 0 ↔ FitsOk l e) := by
  obtain ⟨r, h1, h2, _⟩ := s_CheckC hl hd ha hdn
  exact ⟨r, h1, h2⟩
end Go.Proofs.Try1
end

section
namespace Go.Proofs.Try1
open Go Go.Lite
set_option linter.unusedSimpArgs false
set_option linter.unusedVariables false

noncomputable abbrev keyE (e : PEntry) : Str := keyD e.dn

theorem s_TAt {H : List Ob} {vs ve : V} {es : List PEntry} {t : Str} (h : AEntries H ve es) (hok : ∀ x ∈ es, DnOk x.dn) (ho : isOne vs = true ∧ cellsOf vs = some [vs]) :
    ∃ r : Int, callW C 123 [.agg [vs, ve], .str t] H = some (.int .i64 r, H) ∧ FirstAt keyE es t r := by
  suffices hs : Ret C 123 [.agg [vs, ve], .str t] H fun q H' => (∃ r : Int, q = .int .i64 r ∧ FirstAt keyE es t r) ∧ H' = H by
    obtain ⟨q, H', hc, ⟨r, rfl, hr⟩, rfl⟩ := hs
    exact ⟨r, hc, hr⟩
  rw [op123]
  have hb : es.length ≤ 9223372036854775807 := h.bound
  have hone := h.one
  simp [code123, Tryz.f123, ho, hone]
  refine WP_loop (fun k σ => ∃ (i : Nat) (r : Nat → R), i + k = es.length ∧ σ = ⟨r, 1, H⟩ ∧ r 1 = .val (.str t) ∧ r 2 = .box 0 [vs, ve] ∧ r 5 = .val (.int .i64 i) ∧ ∀ j x, j < i → es[j]? = some x → keyE x ≠ t) ?_ es.length _ ⟨0, _, by simp, rfl, by simp, by simp, by simp, by simp⟩
  rintro k σ ⟨i, r, hik, rfl, r1, r2, r5, hall⟩
  cases k with
  | zero =>
    have hi : i = es.length := by omega
    subst hi
    have hx := at_all (P := fun j (x : PEntry) => keyE x ≠ t) hall
    simp [r1, r2, r5, h.len, hone]
    exact .inr ⟨hx, rfl⟩
  | succ k =>
    have hi : i < es.length := by omega
    obtain ⟨x, hx⟩ : ∃ c, es[i]? = some c := ⟨es[i], by simp [hi]⟩
    have hw : IntKind.i64.wrap ((i : Int) + 1) = ((i : Int) + 1) := wrap_i64 (by omega) (by omega)
    obtain ⟨id, o, w1, w2, e1, l0, _, _, a1, _⟩ := entries_idx h hx
    have c1 := s_Key a1 (hok x (List.mem_of_getElem? hx))
    by_cases g1 : keyD x.dn = t
    · simp [r1, r2, r5, hi, h.len, e1, l0, c1, g1, hone]
      exact .inl ⟨i, x, hx, g1, hall, rfl⟩
    · simp [r1, r2, r5, hi, h.len, e1, l0, c1, g1, hone, hw]
      exact ⟨k, by omega, i + 1, by omega, by omega, at_step (P := fun j (x : PEntry) => keyE x ≠ t) hall hx g1⟩

set_option maxRecDepth 10000 in
set_option maxHeartbeats 8000000 in
theorem s_TreeRight {H : List Ob} {vs ve : V} {t : PTree} (hs : AClasses H vs t.schema) (h : AEntries H ve t.entries) : callW C 31 [.agg [vs, ve]] H = some (.bool (dec (TreeOk t)), H) := by
  apply Ret.dec
  rw [op31]
  have hos := hs.one
  have hoe := h.one
  have c1 := s_Schema hs
  by_cases g1 : SchemaOk t.schema
  rotate_left
  · rw [dec_neg g1] at c1
    simp [code31, Tryz.f31, hos, hoe, c1]
    exact fun h => g1 h.1
  rw [dec_pos g1] at c1
  by_cases g2 : 20 < t.entries.length
  · have g2' : (20 : Int) < t.entries.length := by omega
    simp [code31, Tryz.f31, hos, hoe, c1, h.len, g2']
    exact fun h => by have := h.2.1.1; omega
  have g2' : ¬ (20 : Int) < t.entries.length := by omega
  simp [code31, Tryz.f31, hos, hoe, c1, h.len, g2']
  have hb : t.entries.length ≤ 20 := by omega
  refine WP_loop (fun k σ => ∃ (i : Nat) (r : Nat → R), i + k = t.entries.length ∧ σ = ⟨r, 1 + i, H⟩ ∧ r 1 = .box 0 [vs, ve] ∧ r 3 = .val (.int .i64 i) ∧ ∀ j x, j < i → t.entries[j]? = some x → EntryOk x ∧ FitsOk t.schema x ∧ PrevLt (fun e => keyD e.dn) t.entries j x) ?_ t.entries.length _ ⟨0, _, by omega, rfl, by simp, by simp, by simp⟩
  rintro k σ ⟨i, r, hik, rfl, r1, r3, hall⟩
  cases k with
  | zero =>
    have hi : i = t.entries.length := by omega
    subst hi
    have hE := at_all (P := fun j (x : PEntry) => EntryOk x ∧ FitsOk t.schema x ∧ PrevLt (fun e => keyD e.dn) t.entries j x) hall
    simp [r1, r3, h.len, hos, hoe]
    have hdn : ∀ x ∈ t.entries, DnOk x.dn := fun x hx => by
      obtain ⟨j, hj, rfl⟩ := List.getElem_of_mem hx
      exact (hE j _ (List.getElem?_eq_getElem hj)).1.2.1
    refine WP_loop (fun k σ => ∃ (i : Nat) (r : Nat → R), i + k = t.entries.length ∧ σ = ⟨r, 1 + t.entries.length, H⟩ ∧ r 1 = .box 0 [vs, ve] ∧ r 5 = .val (.int .i64 i) ∧ ∀ j x, j < i → t.entries[j]? = some x → ParentOk t.entries x.dn) ?_ t.entries.length _ ⟨0, _, by omega, rfl, by simp [r1], by simp, by simp⟩
    clear r1 r3 r
    rintro k σ ⟨i, r, hik, rfl, r1, r5, hall2⟩
    cases k with
    | zero =>
      have hi : i = t.entries.length := by omega
      subst hi
      have hP := at_all (P := fun j (x : PEntry) => ParentOk t.entries x.dn) hall2
      have hT : TreeOk t := ⟨g1, ⟨hb, hE⟩, fun x hx => by
        obtain ⟨j, hj, rfl⟩ := List.getElem_of_mem hx
        exact hP j _ (List.getElem?_eq_getElem hj)⟩
      simp [r1, r5, h.len, hos, hoe, hT]
    | succ k =>
      have hi : i < t.entries.length := by omega
      obtain ⟨x, hx⟩ : ∃ c, t.entries[i]? = some c := ⟨t.entries[i], by simp [hi]⟩
      have hw : IntKind.i64.wrap ((i : Int) + 1) = ((i : Int) + 1) := wrap_i64 (by omega) (by omega)
      obtain ⟨id, o, w1, w2, e1, l0, l1, lm, a1, a2, _⟩ := entries_idx h hx
      have ho1 := a1.one
      have hstep := fun h => at_step (P := fun j (x : PEntry) => ParentOk t.entries x.dn) hall2 hx h
      have hxd := hdn x (List.mem_of_getElem? hx)
      by_cases q1 : 1 < x.dn.length
      rotate_left
      · have q1' : ¬ (1 : Int) < x.dn.length := by omega
        have := hstep (.inl (by omega))
        simp [r1, r5, hi, h.len, e1, l0, a1.len, q1', hos, hoe, ho1, hw, regionL_none, regionL_some, List.lookup]
        exact ⟨k, by omega, i + 1, by omega, by omega, this⟩
      have q1' : (1 : Int) < x.dn.length := by omega
      obtain ⟨idt, off, own, cells, hv, hcell, at_⟩ := rdns_tail a1 (by omega)
      have hst : strideIs H idt 2 = true := by simp [strideIs, hcell]
      have q1'' : 1 ≤ x.dn.length := by omega
      have c2 := s_Key at_ hxd.tail
      obtain ⟨q, c3, hq⟩ := s_TAt (vs := vs) (t := keyD x.dn.tail) h hdn hos
      rcases hq.pos with ⟨k', y, h1, rfl, h2⟩ | ⟨rfl, h2⟩
      · have hk : ¬ ((k' : Int) < 0) := by omega
        have hy : keyD y.dn = keyD x.dn.tail := by
          have := List.find?_some h2
          simpa using this
        have := hstep (.inr ⟨y, List.mem_of_getElem? h1, hy⟩)
        rw [hv] at l0 a1 ho1
        simp [r1, r5, hi, h.len, e1, l0, a1.len, q1', hos, hoe, hw, hst, q1'', c2, c3, hk, regionL_none, regionL_some, List.lookup]
        exact ⟨k, by omega, i + 1, by omega, by omega, this⟩
      · have hn : ¬ TreeOk t := fun hd => by
          rcases hd.2.2 x (List.mem_of_getElem? hx) with h | ⟨y, hy, he⟩
          · omega
          · have := List.find?_eq_none.1 h2 y hy
            exact this (by simpa using he)
        rw [hv] at l0 a1 ho1
        simp [r1, r5, hi, h.len, e1, l0, a1.len, q1', hos, hoe, hw, hst, q1'', c2, c3, hn, regionL_none, regionL_some, List.lookup]
  | succ k =>
    have hi : i < t.entries.length := by omega
    obtain ⟨x, hx⟩ : ∃ c, t.entries[i]? = some c := ⟨t.entries[i], by simp [hi]⟩
    have hw : IntKind.i64.wrap ((i : Int) + 1) = ((i : Int) + 1) := wrap_i64 (by omega) (by omega)
    obtain ⟨id, o, w1, w2, e1, l0, l1, lm, a1, a2, _⟩ := entries_idx h hx
    have hid := lo_of l0
    have c2 := s_Entry a1 a2
    have hstep := fun h => at_step (P := fun j (x : PEntry) => EntryOk x ∧ FitsOk t.schema x ∧ PrevLt (fun e => keyD e.dn) t.entries j x) hall hx h
    have ho1 := a1.one
    have ho2 := a2.one
    by_cases q1 : EntryOk x
    rotate_left
    · rw [dec_neg q1] at c2
      have hn : ¬ TreeOk t := fun hd => q1 (hd.2.1.2 i x hx).1
      simp [r1, r3, hi, h.len, e1, l0, l1, lm, hid, c2, hn, hos, hoe, ho1, ho2, regionL_none, regionL_some, List.lookup]
    rw [dec_pos q1] at c2
    obtain ⟨f, c3, hf⟩ := s_Check hs a1 a2 q1.1
    by_cases q2 : FitsOk t.schema x
    rotate_left
    · have hf0 : ¬ f = 0 := fun e => q2 (hf.1 e)
      have hn : ¬ TreeOk t := fun hd => q2 (hd.2.1.2 i x hx).2.1
      simp [r1, r3, hi, h.len, e1, l0, l1, lm, hid, c2, c3, hf0, hn, hos, hoe, ho1, ho2, regionL_none, regionL_some, List.lookup]
    have hf0 : f = 0 := hf.2 q2
    subst hf0
    by_cases hi0 : i = 0
    · have := hstep ⟨q1, q2, fun y hy => by omega⟩
      subst hi0
      simp at e1
      simp [r1, r3, hi, h.len, e1, l0, l1, lm, hid, c2, c3, hos, hoe, ho1, ho2, regionL_none, regionL_some, List.lookup]
      exact ⟨k, by omega, 1, by omega, _, ⟨rfl, by omega⟩, by simp [r1], by simp, this⟩
    · have hip : 0 < i := by omega
      obtain ⟨y, hy⟩ : ∃ c, t.entries[i - 1]? = some c := ⟨t.entries[i - 1]'(by omega), by simp⟩
      obtain ⟨id', o', w1', w2', e1', l0', _, _, a1', _⟩ := entries_idx h hy
      have hid' := lo_of l0'
      have hyok := (hall (i - 1) y (by omega) hy).1
      have c4 := s_Key a1 q1.2.1
      have c5 := s_Key a1' hyok.2.1
      have hw1 : IntKind.i64.wrap ((i : Int) - 1) = ((i - 1 : Nat) : Int) := by rw [wrap_i64 (by omega) (by omega)]; omega
      by_cases q3 : LtS (keyD y.dn) (keyD x.dn)
      · have := hstep ⟨q1, q2, fun z _ hz => by rw [hy] at hz; cases hz; exact q3⟩
        simp [r1, r3, hi, h.len, e1, l0, l1, lm, hid, hid', c2, c3, c4, c5, e1', l0', hw, hw1, hip, LtS_dec q3, hos, hoe, ho1, ho2, regionL_none, regionL_some, List.lookup]
        exact ⟨k, by omega, i + 1, by omega, _, ⟨rfl, by omega⟩, by simp [r1], by simp, this⟩
      · have hn : ¬ TreeOk t := fun hd => q3 ((hd.2.1.2 i x hx).2.2 y hip hy)
        simp [r1, r3, hi, h.len, e1, l0, l1, lm, hid, hid', c2, c3, c4, c5, e1', l0', hw, hw1, hip, LtS_no q3, hos, hoe, ho1, ho2, regionL_none, regionL_some, List.lookup, hn]
end Go.Proofs.Try1
end

section
namespace Go.Proofs.Try1
open Go Go.Lite
set_option linter.unusedSimpArgs false
set_option linter.unusedVariables false

theorem setRange_take {cells xs : List V} {i : Nat} (h : i ≤ cells.length) : (setRange cells i xs).take i = cells.take i := by
  unfold setRange
  rw [List.append_assoc, List.take_append_of_le_length (by simp; omega), List.take_take, Nat.min_self]
theorem obj_strs {G : List Ob} {id : Nat} {l : List Str} (h : G[id]? = some (.mk true 1 (l.map V.str))) (hl : l.length ≤ 1000000) (hs : ∀ s ∈ l, s.length ≤ maxLen) : AStrs G (.slc (some (id, 0)) l.length) l := by
  have := (Gs.strs (H := []) (G := G) (v := .slc (some (id, 0)) (l.map V.str).length) (l := l) ⟨G, id, rfl, by simp, h, rfl⟩ (by unfold maxLen; omega) hs).1
  simpa using this

set_option maxRecDepth 10000 in
set_option maxHeartbeats 8000000 in
theorem l_Delete {G0 : List Ob} {id : Nat} {l : List Str} {g : Nat} {a b : List V} (p : Str → Bool) (h : G0[id]? = some (.mk true 1 (l.map V.str))) (hl : l.length ≤ 1000) (hs : ∀ s ∈ l, s.length ≤ maxLen)
    (hg : ∀ G' : List Ob, G'.length = G0.length → (∀ q, q ≠ id → G'[q]? = G0[q]?) → ∀ x, callW C g (a ++ ([.str x] ++ b)) G' = some (.bool (p x), G')) :
    ∃ G' k cs, callW C 248 [.slc (some (id, 0)) l.length, .fn g a b] G0 = some (.slc (some (id, 0)) k, G') ∧ G'.length = G0.length ∧ (∀ q, q ≠ id → G'[q]? = G0[q]?) ∧
      G'[id]? = some (.mk true 1 cs) ∧ cs.length = l.length ∧ k = (l.filter fun x => !p x).length ∧ cs.take k = (l.filter fun x => !p x).map V.str := by
  suffices hs : Ret C 248 [.slc (some (id, 0)) l.length, .fn g a b] G0 fun w G' => ∃ k cs, w = .slc (some (id, 0)) k ∧ G'.length = G0.length ∧ (∀ q, q ≠ id → G'[q]? = G0[q]?) ∧
      G'[id]? = some (.mk true 1 cs) ∧ cs.length = l.length ∧ k = (l.filter fun x => !p x).length ∧ cs.take k = (l.filter fun x => !p x).map V.str by
    obtain ⟨w, G', hc, k, cs, rfl, h1⟩ := hs
    exact ⟨G', k, cs, hc, h1⟩
  rw [op248]
  obtain ⟨r, c1, hr⟩ := l_IndexFunc (obj_strs h (by omega) hs) p (fun x _ => hg G0 rfl (fun _ _ => rfl) x)
  rcases hr with ⟨k0, x0, hx0, hp0, hlt0, rfl⟩ | ⟨hn, rfl⟩
  rotate_left
  · have hf : (l.filter fun x => !p x) = l := by
      rw [List.filter_eq_self]
      intro x hx
      obtain ⟨j, hj, rfl⟩ := List.getElem_of_mem hx
      rw [hn j _ (List.getElem?_eq_getElem hj)]
      rfl
    rw [hf]
    simp [code248, Tryz.f248, c1]
    exact ⟨l.map V.str, h, by simp, by rw [List.take_of_length_le (by simp)]⟩
  have hk0 : k0 < l.length := (List.getElem?_eq_some_iff.1 hx0).1
  have hm1 : ¬ ((k0 : Int) = -1) := by omega
  have hw0 : IntKind.i64.wrap ((k0 : Int) + 1) = (k0 : Int) + 1 := wrap_i64 (by omega) (by omega)
  have hpre : (l.take (k0 + 1)).filter (fun x => !p x) = l.take k0 := by
    rw [take_get hx0, List.filter_append]
    have : (l.take k0).filter (fun x => !p x) = l.take k0 := by
      rw [List.filter_eq_self]
      intro x hx
      obtain ⟨j, hj, rfl⟩ := List.getElem_of_mem hx
      simp at hj
      rw [List.getElem_take, hlt0 j _ (by omega) (List.getElem?_eq_getElem (by omega))]
      rfl
    rw [this]
    simp [hp0]
  simp [code248, Tryz.f248, c1, hm1, hw0]
  refine WP_loop (fun m σ => ∃ (i j : Nat) (r : Nat → R) (G : List Ob) (cs : List Str), j + m = l.length ∧ σ = ⟨r, 0, G⟩ ∧ r 0 = .val (.slc (some (id, 0)) l.length) ∧ r 1 = .val (.fn g a b) ∧ r 5 = .val (.int .i64 i) ∧ r 6 = .val (.int .i64 j) ∧ i < j ∧ G.length = G0.length ∧ (∀ q, q ≠ id → G[q]? = G0[q]?) ∧
    G[id]? = some (.mk true 1 (cs.map V.str)) ∧ cs.length = l.length ∧ i = ((l.take j).filter fun x => !p x).length ∧ cs.take i = (l.take j).filter (fun x => !p x) ∧ cs.drop j = l.drop j) ?_ (l.length - (k0 + 1)) _
    ⟨k0, k0 + 1, _, G0, l, by omega, rfl, by simp, by simp, by simp, by simp, by omega, rfl, fun _ _ => rfl, h, rfl, by rw [hpre]; simp; omega, by rw [hpre], rfl⟩
  clear hm1 hw0
  rintro m σ ⟨i, j, r, G, cs, hjm, rfl, r0, r1, r5, r6, hij, hG1, hG2, hG3, hcs, hi, htk, hdr⟩
  have hid : id < G.length := (List.getElem?_eq_some_iff.1 hG3).1
  have hst : strideIs G id 1 = true := by simp [strideIs, hG3]
  cases m with
  | zero =>
    have hj : j = l.length := by omega
    subst hj
    rw [List.take_length] at hi htk
    have hil : i ≤ l.length := by omega
    have hnz : ¬ (l.length - i = 0) := by omega
    have hwa : ∀ r c, writeAt ⟨r, c, G⟩ (.hp id i) (zerosL LTstr (l.length - i)) = some ⟨r, c, G.set id (.mk true 1 (setRange (cs.map V.str) i (zerosL LTstr (l.length - i))))⟩ := by
      intro r c
      simp only [writeAt, hG3]
      rw [if_pos (by rw [zerosL_str, List.length_map]; omega)]
    have hst2 : ∀ o, strideIs (G.set id (.mk true 1 o)) id 1 = true := fun o => by simp [strideIs, hid]
    have hgl : ∀ o w, gcH G0 (G.set id o) w = G.set id o := fun o w => gcH_leq (by rw [List.length_set]; exact hG1)
    simp [r0, r1, r5, r6, hil, hst, elemT, hnz, hwa, hst2, hgl, -setRange]
    refine ⟨hG1, fun q hq => by rw [List.getElem?_set_ne (Ne.symm hq)]; exact hG2 q hq, setRange (cs.map V.str) i (zerosL LTstr (l.length - i)), by simp [hid, -setRange], by rw [setRange_len (by rw [zerosL_str, List.length_map]; omega), List.length_map, hcs], hi, ?_⟩
    rw [setRange_take (by rw [List.length_map]; omega), ← List.map_take, htk]
  | succ m =>
    have hj : j < l.length := by omega
    obtain ⟨x, hx⟩ : ∃ x, l[j]? = some x := ⟨l[j], List.getElem?_eq_getElem hj⟩
    have hxc : cs[j]? = some x := by
      have := congrArg (fun l => l[0]?) hdr
      simpa [hx] using this
    have ld := load1 (o := j) (v := .str x) hG3 (by simp [hxc])
    have c2 := hg G hG1 hG2 x
    simp only [List.singleton_append] at c2
    have hw : IntKind.i64.wrap ((j : Int) + 1) = (j : Int) + 1 := wrap_i64 (by omega) (by omega)
    have hw2 : IntKind.i64.wrap ((i : Int) + 1) = (i : Int) + 1 := wrap_i64 (by omega) (by omega)
    have hil : i < l.length := by omega
    have hdr' : cs.drop (j + 1) = l.drop (j + 1) := by
      have := congrArg (List.drop 1) hdr
      simpa [List.drop_drop, Nat.add_comm] using this
    have hft := filter_take hx fun x => !p x
    cases hp : p x with
    | true =>
      rw [hp] at c2 hft
      simp at hft
      simp [r0, r1, r5, r6, hj, ld, c2, hw]
      exact ⟨m, by omega, i, j + 1, by omega, _, G, ⟨rfl, rfl⟩, by simp [r0], by simp [r1], by simp [r5], by simp, by omega, hG1, hG2, cs, hG3, hcs, by rw [hft]; exact hi, by rw [hft]; exact htk, hdr'⟩
    | false =>
      rw [hp] at c2 hft
      simp at hft
      have st := store1 (v := .str x) (o := i) hG3 (by simp; omega) rfl rfl
      simp [r0, r1, r5, r6, hj, hil, ld, c2, hw, hw2, st]
      refine ⟨m, by omega, i + 1, j + 1, by omega, _, _, ⟨rfl, rfl⟩, by simp [r0], by simp [r1], by simp, by simp, by omega, by simpa using hG1, fun q hq => by rw [List.getElem?_set_ne (Ne.symm hq)]; exact hG2 q hq, cs.set i x, by rw [List.getElem?_set_self hid, List.map_set], by simpa using hcs, ?_, ?_, ?_⟩
      · rw [hft, List.length_append, ← hi]; rfl
      · rw [hft, ← htk, List.take_add_one, List.getElem?_set_self (by omega), List.take_set, List.set_eq_of_length_le (by simp; omega)]
        rfl
      · rw [List.drop_set_of_lt (by omega)]; exact hdr'
end Go.Proofs.Try1
end

section
namespace Go.Proofs.Try1
open Go Go.Lite
set_option linter.unusedSimpArgs false
set_option linter.unusedVariables false

theorem prefix_F {G : List Ob} {id k : Nat} {cs : List V} {l : List Str} (h : G[id]? = some (.mk true 1 cs)) (hk : k = l.length) (hc : cs.take k = l.map V.str) (hl : l.length ≤ maxLen) (hs : ∀ s ∈ l, s.length ≤ maxLen) : AtF G (.slice .str) [.slc (some (id, 0)) k] (.lst (l.map strU)) [id] := by
  have hlen : k ≤ cs.length := by
    have := congrArg List.length hc
    simp at this
    omega
  refine AtF_slice.2 ⟨_, _, rfl, rfl, by simpa using hl, .inr ⟨id, 0, cs, List.replicate l.length [], by simp [hk], h, by simp; omega, by simp, by simp, fun i x F hx hF => ?_⟩⟩
  rw [List.getElem?_map] at hx
  obtain ⟨s, hs', rfl⟩ := Option.map_eq_some_iff.1 hx
  have hi : i < l.length := (List.getElem?_eq_some_iff.1 hs').1
  rw [List.getElem?_replicate, if_pos hi] at hF
  cases hF
  refine AtF_str.2 ⟨⟨s, ?_, rfl, hs s (List.mem_of_getElem? hs')⟩, rfl⟩
  have h1 : cs[i]? = some (.str s) := by
    have := congrArg (fun l => l[i]?) hc
    simp only [List.getElem?_take_of_lt (show i < k by omega), List.getElem?_map, hs'] at this
    exact this
  obtain ⟨hi2, h1⟩ := List.getElem?_eq_some_iff.1 h1
  rw [Sh.size_str, Nat.zero_add, Nat.mul_one, List.drop_eq_getElem_cons hi2, h1]
  rfl

/-- A list of texts that a call hands back, in memory of its own. -/
def Back (H G : List Ob) (w : V) (l : List Str) : Prop := ∃ F, AtF G (.slice .str) [w] (.lst (l.map strU)) F ∧ F.Nodup ∧ ∀ q ∈ F, H.length ≤ q
theorem Back.nil {H G : List Ob} : Back H G (.slc none 0) [] := ⟨[], AtF_slice.2 ⟨_, _, rfl, rfl, by simp, .inl ⟨rfl, rfl, rfl⟩⟩, by simp, by simp⟩

set_option maxRecDepth 10000 in
set_option maxHeartbeats 4000000 in
theorem i_missing {H : List Ob} {ide : Nat} {own : Bool} {es : Nat} {vd va w1 w2 w3 : V} {c : PClass} {as' : List PAttr} (he : H[ide]? = some (.mk own es [vd, va])) (h : AAttrs H va as') (hl : as'.length ≤ 1000) (hp : as'.Pairwise fun a b => a.name < b.name)
    (h1 : AStrs H w1 c.must) (o2 : isOne w2 = true ∧ cellsOf w2 = some [w2]) (o3 : isOne w3 = true ∧ cellsOf w3 = some [w3]) (hm : c.must.length ≤ 1000) :
    ∃ T w, callW C 142 [.agg [.str c.name, w1, w2, w3], .ptr (some (ide, 0))] H = some (w, H ++ T) ∧ Back H (H ++ T) w (c.must.filter fun t => !decide (0 < (valsOf as' t).length)) := by
  suffices hs : Ret C 142 [.agg [.str c.name, w1, w2, w3], .ptr (some (ide, 0))] H fun q H' => ∃ T, H' = H ++ T ∧ Back H (H ++ T) q (c.must.filter fun t => !decide (0 < (valsOf as' t).length)) by
    obtain ⟨q, H', hc, T, rfl, hr⟩ := hs
    exact ⟨T, q, hc, hr⟩
  rw [op142]
  have hide : ide < H.length := (List.getElem?_eq_some_iff.1 he).1
  obtain ⟨T, w, c1, hown⟩ := l_Clone (h1.ext (T := [.mk true 1 [.ptr (some (ide, 0))]])) (by omega)
  rcases hown with ⟨rfl, hm0⟩ | ⟨T', id', hT, g1, g2, rfl⟩
  · have c2 : callW C 248 [.slc none 0, .fn 249 [] [.ptr (some (H.length, 0))]] (H ++ [.mk true 1 [.ptr (some (ide, 0))]] ++ T) = some (.slc none 0, H ++ [.mk true 1 [.ptr (some (ide, 0))]] ++ T) := by
      obtain ⟨r, c3, hr⟩ := l_IndexFunc (H := H ++ [.mk true 1 [.ptr (some (ide, 0))]] ++ T) (v := .slc none 0) (l := []) (g := 249) (a := []) (b := [.ptr (some (H.length, 0))]) (At_slice.2 ⟨_, _, rfl, rfl, by simp, .inl ⟨rfl, rfl⟩⟩) (fun _ => false) (fun x hx => by cases hx)
      have hr1 : r = -1 := by
        rcases hr with ⟨k, x, hx, _⟩ | ⟨_, rfl⟩
        · simp at hx
        · rfl
      subst hr1
      simp only [List.append_assoc, List.cons_append, List.nil_append] at c3 ⊢
      apply Ret.eq
      rw [op248]
      simp [code248, Tryz.f248, c3]
    simp only [List.append_assoc, List.cons_append, List.nil_append] at c1 c2
    have hgn : gcH H (H ++ .mk true 1 [.ptr (some (ide, 0))] :: T) (.slc none 0) = H := gcH_low trivial
    simp [code142, Tryz.f142, strideOf, c1, c2, h1.one, o2, o3, hm0, hgn]
    exact Back.nil
  · have hT' := List.append_cancel_left hT
    subst hT'
    rw [List.length_map] at c1
    have hob : (H ++ [.mk true 1 [.ptr (some (ide, 0))]] ++ T)[H.length]? = some (.mk true 1 [.ptr (some (ide, 0))]) := by rw [List.append_assoc]; simp
    have hg1 : H.length + 1 ≤ id' := by simpa using g1
    obtain ⟨G', k, cs, c2, k1, k2, k3, k4, k5, k6⟩ := l_Delete (g := 249) (a := []) (b := [.ptr (some (H.length, 0))]) (fun t => decide (0 < (valsOf as' t).length)) g2 hm (strs_max h1) (fun G' e1 e2 x => by
      have hup : ∀ (q : Nat) o, H[q]? = some o → G'[q]? = some o := fun q o hq => by
        have := (List.getElem?_eq_some_iff.1 hq).1
        rw [e2 q (by omega), List.append_assoc]
        exact up_append _ _ hq
      exact i_hasIt (hup _ _ he) (by rw [e2 _ (by omega)]; exact hob) (h.up hup) hl hp)
    obtain ⟨T2, rfl⟩ : ∃ T2, G' = H ++ T2 := keep_append (fun q hq => by
      rw [k2 q (by omega), List.append_assoc, List.getElem?_append_left hq]) (by rw [k1, List.append_assoc]; simp)
    have hgc : ∀ n, gcH H (H ++ T2) (.slc (some (id', 0)) n) = H ++ T2 := fun n => by
      unfold gcH
      rw [if_neg]
      rintro ⟨_, own, es, cells, h⟩
      have := (List.getElem?_eq_some_iff.1 h).1
      omega
    have hF := prefix_F k3 k5 k6 (by have := List.length_filter_le (fun t => !decide (0 < (valsOf as' t).length)) c.must; unfold maxLen; omega) (fun s hs => strs_max h1 s (List.mem_filter.1 hs).1)
    simp only [List.append_assoc, List.cons_append, List.nil_append] at c1 c2
    simp [code142, Tryz.f142, strideOf, c1, c2, h1.one, o2, o3, hgc]
    exact ⟨_, by simpa using hF, by simp, by simp; omega⟩
end Go.Proofs.Try1
end

section
namespace Go.Proofs.Try1
open Go Go.Lite
set_option linter.unusedSimpArgs false
set_option linter.unusedVariables false

theorem lacks_eq {l : List PAttr} (h : AttrsOk l) (must : List Str) : (must.filter fun t => !decide (0 < (valsOf l t).length)) = must.filter fun t => (firstOf PAttr.name l t).isNone := by
  congr 1
  funext t
  unfold valsOf
  cases hf : firstOf PAttr.name l t with
  | none => rfl
  | some a =>
    have hm := List.mem_of_find?_eq_some hf
    obtain ⟨j, hj, rfl⟩ := List.getElem_of_mem hm
    have := (h.1 j _ (List.getElem?_eq_getElem hj)).2.2.2.1
    simp
    omega

set_option maxRecDepth 10000 in
set_option maxHeartbeats 8000000 in
theorem i_fits {H : List Ob} {ide : Nat} {own : Bool} {vl vd va : V} {l : List PClass} {e : PEntry} (he : H[ide]? = some (.mk own 2 [vd, va])) (hl : AClasses H vl l) (hd : ARdns H vd e.dn) (ha : AAttrs H va e.attrs) (g1 : SchemaOk l) (g2 : EntryOk e) :
    callW C 138 [vl, .ptr (some (ide, 0))] H = some (.bool (dec (FitsOk l e)), H) := by
  apply Ret.dec
  rw [op138]
  have hgb : ∀ X b, gcH H (H ++ X) (.bool b) = H := fun X b => gcH_bool
  have hod := hd.one
  have hoa := ha.one
  have hpw : e.attrs.Pairwise fun a b => a.name < b.name := rise_pair (fun j x hx => (g2.2.2.1 j x hx).2.1)
  have hal : e.attrs.length ≤ 1000 := by have := g2.2.2.2; omega
  have hcl : ∀ c ∈ l, c.must.length ≤ 1000 ∧ c.may.length ≤ 1000 ∧ c.single.length ≤ 1000 := fun c hc => by
    obtain ⟨j, hj, rfl⟩ := List.getElem_of_mem hc
    have := (g1.1 j _ (List.getElem?_eq_getElem hj)).1
    have h1 := this.l1; have h2 := this.l2; have h3 := this.l3
    omega
  obtain ⟨T1, cs, ok, c3, hres⟩ := i_ofEntry he ha hal hpw hl hcl
  rcases hres with ⟨rfl, c, w1, w2, w3, hc1, rfl, q1, q2, q3⟩ | ⟨rfl, hc1, rfl⟩
  rotate_left
  · simp [code138, Tryz.f138, c3, hgb]
    rintro ⟨c, h1, _⟩
    rw [hc1] at h1
    cases h1
  have hc : c ∈ l := by
    unfold mineOf at hc1
    split at hc1
    · exact List.mem_of_find?_eq_some hc1
    · cases hc1
  have hfit : ∀ c', mineOf l e.attrs = some c' → c' = c := fun c' h => by rw [hc1] at h; cases h; rfl
  obtain ⟨T2, w, c4, hb⟩ := i_missing (H := H ++ T1) (ide := ide) (own := own) (es := 2) (vd := vd) (va := va) (up_append _ _ he) (ha.ext (T := T1)) hal hpw q1 q2.one q3.one (hcl c hc).1
  rw [lacks_eq g2.2.2] at hb
  obtain ⟨F, hbF, _, _⟩ := hb
  have hw : AStrs (H ++ T1 ++ T2) w (lacks c e.attrs) := AtF.at _ hbF
  obtain ⟨K, hK⟩ : ∃ K, K = T1 ++ T2 := ⟨_, rfl⟩
  rw [List.append_assoc, ← hK] at c4 hw
  by_cases m1 : lacks c e.attrs = []
  rotate_left
  · have hl0 : (0 : Int) < (lacks c e.attrs).length := by
      have : (lacks c e.attrs).length ≠ 0 := fun h => m1 (List.length_eq_zero_iff.1 h)
      omega
    simp [code138, Tryz.f138, c3, c4, hgb, q1.one, q2.one, q3.one, hw.len, hl0, m1]
    refine ⟨by omega, ?_⟩
    rintro ⟨c', h1, h2, _⟩
    obtain rfl := hfit c' h1
    exact m1 h2
  have he' : (H ++ K)[ide]? = some (.mk own 2 [vd, va]) := up_append _ _ he
  have ld0 := load1 (o := 0) (v := vd) he' rfl
  have ld1 := load1 (o := 1) (v := va) he' rfl
  have haK := ha.ext (T := K)
  have hdK := hd.ext (T := K)
  have q1K : AStrs (H ++ K) w1 c.must := by have := q1.ext (T := T2); rwa [List.append_assoc, ← hK] at this
  have q2K : AStrs (H ++ K) w2 c.may := by have := q2.ext (T := T2); rwa [List.append_assoc, ← hK] at this
  have q3K : AStrs (H ++ K) w3 c.single := by have := q3.ext (T := T2); rwa [List.append_assoc, ← hK] at this
  simp [code138, Tryz.f138, c3, c4, hgb, q1.one, q2.one, q3.one, hw.len, m1, ld0, ld1, haK.len]
  have hb2 : e.attrs.length ≤ 9223372036854775807 := ha.bound
  refine WP_loop (fun k σ => ∃ (i : Nat) (r : Nat → R), i + k = e.attrs.length ∧ (∀ a ∈ e.attrs.take i, AttrFits c a) ∧ σ = ⟨r, 1 + i, H ++ K⟩ ∧ r 1 = .val (.ptr (some (ide, 0))) ∧ r 5 = .box 0 [.str c.name, w1, w2, w3] ∧ r 27 = .val va ∧ r 28 = .val (.int .i64 e.attrs.length) ∧ r 29 = .val (.int .i64 i)) ?_ e.attrs.length _ ⟨0, _, by omega, by simp, rfl, by simp, by simp, by simp, by simp, by simp⟩
  rintro k σ ⟨i, r, hik, hpre2, rfl, r1, r5, r27, r28, r29⟩
  cases k with
  | zero =>
    have hi : i = e.attrs.length := by omega
    subst hi
    rw [List.take_length] at hpre2
    obtain ⟨x, hx⟩ : ∃ c, e.dn[0]? = some c := ⟨e.dn[0]'g2.1, by simp⟩
    obtain ⟨id, o, e1, l0, l1, _, _⟩ := rdns_idx hdK hx
    simp only [Int.ofNat_eq_natCast, Int.natCast_zero] at e1
    have hid := lo_of l0
    rw [List.length_append] at hid
    have hide : ide < H.length + K.length := by have := (List.getElem?_eq_some_iff.1 he).1; omega
    have c5 := i_Norm (t := x.value) (H := H ++ K)
    have c6 := i_has (t := x.attr) (n := norm x.value) he' haK hal hpw
    simp [r1, r5, r27, r28, r29, ld0, ld1, e1, l0, l1, hid, hide, c5, c6, hgb, regionL_none, regionL_some, List.lookup]
    by_cases hH : HasOk e.attrs x.attr (norm x.value)
    · exact .inr ⟨dec_pos hH, c, hc1, m1, hpre2, x, hx, hH⟩
    · exact .inl ⟨dec_neg hH, fun ⟨_, _, _, _, y, h1, h2⟩ => by rw [hx] at h1; cases h1; exact hH h2⟩
  | succ k =>
    have hi : i < e.attrs.length := by omega
    obtain ⟨a, hs⟩ : ∃ a, e.attrs[i]? = some a := ⟨e.attrs[i], by simp [hi]⟩
    obtain ⟨id2, o2, w, f1, m1, m2, m3, aw, _⟩ := attrs_idx haK hs
    have hw : IntKind.i64.wrap ((i : Int) + 1) = ((i : Int) + 1) := wrap_i64 (by omega) (by omega)
    have d1 := l_Contains (t := a.name) q1K
    have d2 := l_Contains (t := a.name) q2K
    have d3 := l_Contains (t := a.name) q3K
    have hstep : AttrFits c a → ∀ t ∈ e.attrs.take (i + 1), AttrFits c t := fun h t ht => by
      rw [take_get hs] at ht
      rcases List.mem_append.1 ht with h' | h'
      · exact hpre2 t h'
      · obtain rfl := List.mem_singleton.1 h'
        exact h
    have hbad : ¬ AttrFits c a → ¬ FitsOk l e := by
      rintro h ⟨c', hc', _, hl', _⟩
      obtain rfl := hfit c' hc'
      exact h (hl' a (List.mem_of_getElem? hs))
    have hvl : (1 : Int) < (a.vals.length : Int) ↔ 1 < a.vals.length := by omega
    by_cases n1 : a.name = [99, 108, 97, 115, 115]
    · by_cases n4 : 1 < a.vals.length
      · by_cases n5 : a.name ∈ c.single
        · rw [dec_pos n5] at d3
          rw [n1] at d1 d2 d3
          simp [r1, r5, r27, r28, r29, hi, f1, m1, m2, m3, d1, d2, d3, aw.len, aw.one, q1.one, q2.one, q3.one, hw, hgb, regionL_none, regionL_some, List.lookup, n1, n4, hvl]
          exact hbad fun h => h.2 ⟨n4, n5⟩
        · rw [dec_neg n5] at d3
          rw [n1] at d1 d2 d3
          simp [r1, r5, r27, r28, r29, hi, f1, m1, m2, m3, d1, d2, d3, aw.len, aw.one, q1.one, q2.one, q3.one, hw, hgb, regionL_none, regionL_some, List.lookup, n1, n4, hvl]
          exact ⟨k, by omega, i + 1, by omega, hstep ⟨.inl n1, fun h => n5 h.2⟩, _, ⟨rfl, by omega⟩, by simp [r1], by simp [r5], by simp [r27], by simp [r28], by simp⟩
      · rw [n1] at d1 d2 d3
        simp [r1, r5, r27, r28, r29, hi, f1, m1, m2, m3, d1, d2, d3, aw.len, aw.one, q1.one, q2.one, q3.one, hw, hgb, regionL_none, regionL_some, List.lookup, n1, n4, hvl]
        exact ⟨k, by omega, i + 1, by omega, hstep ⟨.inl n1, fun h => n4 h.1⟩, _, ⟨rfl, by omega⟩, by simp [r1], by simp [r5], by simp [r27], by simp [r28], by simp⟩
    by_cases n2 : a.name ∈ c.must
    · rw [dec_pos n2] at d1
      by_cases n4 : 1 < a.vals.length
      · by_cases n5 : a.name ∈ c.single
        · rw [dec_pos n5] at d3
          simp [r1, r5, r27, r28, r29, hi, f1, m1, m2, m3, d1, d2, d3, aw.len, aw.one, q1.one, q2.one, q3.one, hw, hgb, regionL_none, regionL_some, List.lookup, n1, n4, hvl]
          exact hbad fun h => h.2 ⟨n4, n5⟩
        · rw [dec_neg n5] at d3
          simp [r1, r5, r27, r28, r29, hi, f1, m1, m2, m3, d1, d2, d3, aw.len, aw.one, q1.one, q2.one, q3.one, hw, hgb, regionL_none, regionL_some, List.lookup, n1, n4, hvl]
          exact ⟨k, by omega, i + 1, by omega, hstep ⟨.inr (.inl n2), fun h => n5 h.2⟩, _, ⟨rfl, by omega⟩, by simp [r1], by simp [r5], by simp [r27], by simp [r28], by simp⟩
      · simp [r1, r5, r27, r28, r29, hi, f1, m1, m2, m3, d1, d2, d3, aw.len, aw.one, q1.one, q2.one, q3.one, hw, hgb, regionL_none, regionL_some, List.lookup, n1, n4, hvl]
        exact ⟨k, by omega, i + 1, by omega, hstep ⟨.inr (.inl n2), fun h => n4 h.1⟩, _, ⟨rfl, by omega⟩, by simp [r1], by simp [r5], by simp [r27], by simp [r28], by simp⟩
    rw [dec_neg n2] at d1
    by_cases n3 : a.name ∈ c.may
    · rw [dec_pos n3] at d2
      by_cases n4 : 1 < a.vals.length
      · by_cases n5 : a.name ∈ c.single
        · rw [dec_pos n5] at d3
          simp [r1, r5, r27, r28, r29, hi, f1, m1, m2, m3, d1, d2, d3, aw.len, aw.one, q1.one, q2.one, q3.one, hw, hgb, regionL_none, regionL_some, List.lookup, n1, n4, hvl]
          exact hbad fun h => h.2 ⟨n4, n5⟩
        · rw [dec_neg n5] at d3
          simp [r1, r5, r27, r28, r29, hi, f1, m1, m2, m3, d1, d2, d3, aw.len, aw.one, q1.one, q2.one, q3.one, hw, hgb, regionL_none, regionL_some, List.lookup, n1, n4, hvl]
          exact ⟨k, by omega, i + 1, by omega, hstep ⟨.inr (.inr n3), fun h => n5 h.2⟩, _, ⟨rfl, by omega⟩, by simp [r1], by simp [r5], by simp [r27], by simp [r28], by simp⟩
      · simp [r1, r5, r27, r28, r29, hi, f1, m1, m2, m3, d1, d2, d3, aw.len, aw.one, q1.one, q2.one, q3.one, hw, hgb, regionL_none, regionL_some, List.lookup, n1, n4, hvl]
        exact ⟨k, by omega, i + 1, by omega, hstep ⟨.inr (.inr n3), fun h => n4 h.1⟩, _, ⟨rfl, by omega⟩, by simp [r1], by simp [r5], by simp [r27], by simp [r28], by simp⟩
    · rw [dec_neg n3] at d2
      simp [r1, r5, r27, r28, r29, hi, f1, m1, m2, m3, d1, d2, d3, aw.len, aw.one, q1.one, q2.one, q3.one, hw, hgb, regionL_none, regionL_some, List.lookup, n1, hvl]
      exact hbad fun h => by
        rcases h.1 with h | h | h
        · exact n1 h
        · exact n2 h
        · exact n3 h
end Go.Proofs.Try1
end

section
namespace Go.Proofs.Try1
open Go Go.Lite
set_option linter.unusedSimpArgs false
set_option linter.unusedVariables false

theorem i_ManyC {H : List Ob} {v : V} {l : List PClass} (h : AClasses H v l) : callW C 137 [v] H = some (.bool (decide (400 < l.length)), H) := by
  apply Ret.eq
  rw [op137]
  have hi : (400 : Int) < (l.length : Int) ↔ 400 < l.length := by omega
  simp [code137, Tryz.f137, h.len, hi]

set_option maxRecDepth 10000 in
theorem i_Check {H : List Ob} {vl vd va : V} {l : List PClass} {e : PEntry} (hl : AClasses H vl l) (hd : ARdns H vd e.dn) (ha : AAttrs H va e.attrs) (g1 : SchemaOk l) :
    ∃ r : Int, callW C 36 [vl, .agg [vd, va]] H = some (.int .i64 r, H) ∧ (r = 0 ↔ EntryOk e ∧ FitsOk l e) := by
  suffices hs : Ret C 36 [vl, .agg [vd, va]] H fun q H' => (∃ r : Int, q = .int .i64 r ∧ (r = 0 ↔ EntryOk e ∧ FitsOk l e)) ∧ H' = H by
    obtain ⟨q, H', hc, ⟨r, rfl, hr⟩, rfl⟩ := hs
    exact ⟨r, hc, hr⟩
  rw [op36]
  have hod := hd.one
  have hoa := ha.one
  have hgi : ∀ X n, gcH H (H ++ X) (.int .i64 n) = H := fun X n => gcH_int
  have c0 := i_ManyC (hl.ext (T := [.mk true 2 [vd, va]]))
  have c1 := i_Schema (hl.ext (T := [.mk true 2 [vd, va]]))
  have c2 := i_Entry (hd.ext (T := [.mk true 2 [vd, va]])) (ha.ext (T := [.mk true 2 [vd, va]]))
  have g0 : ¬ 400 < l.length := by have := g1.2; omega
  rw [dec_pos g1] at c1
  have ld := loadN (H := H ++ [.mk true 2 [vd, va]]) (o := 0) (n := 2) get_last (by simp) (by decide) rfl
  simp at ld
  by_cases g2 : EntryOk e
  rotate_left
  · rw [dec_neg g2] at c2
    simp [code36, Tryz.f36, c0, c1, c2, g0, ld, hod, hoa, strideOf, hgi, g2]
  rw [dec_pos g2] at c2
  have c3 := i_fits (H := H ++ [.mk true 2 [vd, va]]) (ide := H.length) (own := true) get_last hl.ext hd.ext ha.ext g1 g2
  by_cases g3 : FitsOk l e
  · rw [dec_pos g3] at c3
    simp [code36, Tryz.f36, c0, c1, c2, c3, g0, ld, hod, hoa, strideOf, hgi, g2, g3]
  · rw [dec_neg g3] at c3
    simp [code36, Tryz.f36, c0, c1, c2, c3, g0, ld, hod, hoa, strideOf, hgi, g2, g3]

theorem i_byKey {H : List Ob} {w1 w2 : V} {x : PEntry} {t : Str} (h : ARdns H w1 x.dn) (hd : DnOk x.dn) (ho : isOne w2 = true ∧ cellsOf w2 = some [w2]) : callW C 259 [.agg [w1, w2], .str t] H = some (.int .i64 (cmpS (keyD x.dn) t), H) := by
  apply Ret.eq
  rw [op259]
  have c1 := i_Key h hd
  simp [code259, Tryz.f259, l_cmp, c1, h.one, ho]

set_option maxRecDepth 10000 in
set_option maxHeartbeats 4000000 in
theorem l_searchE {H : List Ob} {v : V} {l : List PEntry} {t : Str} (h : AEntries H v l) (hl : l.length ≤ 1000) (hok : ∀ x ∈ l, DnOk x.dn) (hp : l.Pairwise fun a b => (keyD a.dn) < (keyD b.dn)) :
    ∃ (i : Nat) (ok : Bool), callW C 258 [v, .str t, .fn 259 [] []] H = some (.tup [.int .i64 i, .bool ok], H) ∧
      i ≤ l.length ∧ (∀ q a, q < i → l[q]? = some a → LtS (keyD a.dn) t) ∧ (∀ q a, i ≤ q → l[q]? = some a → ¬ LtS (keyD a.dn) t) ∧ (ok = true ↔ ∃ a, l[i]? = some a ∧ (keyD a.dn) = t) := by
  suffices hs : Ret C 258 [v, .str t, .fn 259 [] []] H fun q H' =>
      (∃ (i : Nat) (ok : Bool), q = .tup [.int .i64 i, .bool ok] ∧ i ≤ l.length ∧ (∀ q a, q < i → l[q]? = some a → LtS (keyD a.dn) t) ∧ (∀ q a, i ≤ q → l[q]? = some a → ¬ LtS (keyD a.dn) t) ∧ (ok = true ↔ ∃ a, l[i]? = some a ∧ (keyD a.dn) = t)) ∧ H' = H by
    obtain ⟨q, H', hc, ⟨i, ok, rfl, h1⟩, rfl⟩ := hs
    exact ⟨i, ok, hc, h1⟩
  rw [op258]
  simp [code258, Tryz.f258, h.len]
  refine WP_loop (fun k σ => ∃ (i j : Nat) (r : Nat → R), j - i = k ∧ i ≤ j ∧ j ≤ l.length ∧ σ = ⟨r, 0, H⟩ ∧ r 0 = .val v ∧ r 1 = .val (.str t) ∧ r 2 = .val (.fn 259 [] []) ∧ r 8 = .val (.int .i64 l.length) ∧ r 9 = .val (.int .i64 i) ∧ r 10 = .val (.int .i64 j) ∧
    (∀ q a, q < i → l[q]? = some a → LtS (keyD a.dn) t) ∧ (∀ q a, j ≤ q → l[q]? = some a → ¬ LtS (keyD a.dn) t)) ?_ l.length _ ⟨0, l.length, _, by omega, by omega, by omega, rfl, by simp, by simp, by simp, by simp, by simp, by simp, fun q a h => by omega, fun q a h1 h2 => by have := (List.getElem?_eq_some_iff.1 h2).1; omega⟩
  rintro k σ ⟨i, j, r, hk, hij, hjl, rfl, r0, r1, r2, r8, r9, r10, hlo, hhi⟩
  cases k with
  | succ k =>
    have hlt : (i : Int) < j := by omega
    have hlt' : i < j := by omega
    have hw1 : IntKind.i64.wrap ((i : Int) + j) = (i : Int) + j := wrap_i64 (by omega) (by omega)
    have hw2 : IntKind.u64.wrap ((i : Int) + j) = (i : Int) + j := by unfold IntKind.wrap; simp [IntKind.bits, IntKind.signed]; omega
    have hq : ((i : Int) + j).fdiv 2 = (((i + j) / 2 : Nat) : Int) := by rw [Int.fdiv_eq_ediv_of_nonneg _ (by omega)]; omega
    obtain ⟨m, hm⟩ : ∃ m, m = (i + j) / 2 := ⟨_, rfl⟩
    rw [← hm] at hq
    have hw3 : IntKind.i64.wrap (m : Int) = m := wrap_i64 (by omega) (by omega)
    have hw4 : IntKind.i64.wrap ((m : Int) + 1) = (m : Int) + 1 := wrap_i64 (by omega) (by omega)
    have hml : m < l.length := by omega
    obtain ⟨a, ha⟩ : ∃ a, l[m]? = some a := ⟨l[m], List.getElem?_eq_getElem hml⟩
    obtain ⟨id, o, w1, w2, e1, l0, l1, l2, hvs, hva, _⟩ := entries_idx h ha
    have c1 := i_byKey (t := t) hvs (hok a (List.mem_of_getElem? ha)) hva.one
    have hord : ∀ q b, l[q]? = some b → (q < m → (keyD b.dn) < (keyD a.dn)) ∧ (m < q → (keyD a.dn) < (keyD b.dn)) := fun q b hb => by
      obtain ⟨hq1, hb⟩ := List.getElem?_eq_some_iff.1 hb
      obtain ⟨_, ha⟩ := List.getElem?_eq_some_iff.1 ha
      have := List.pairwise_iff_getElem.1 hp
      exact ⟨fun hh => by have := this q m hq1 hml hh; rwa [hb, ha] at this, fun hh => by have := this m q hml hq1 hh; rwa [hb, ha] at this⟩
    by_cases g1 : LtS (keyD a.dn) t
    · have g1' := cmpS_lt.2 g1
      simp [r0, r1, r2, r8, r9, r10, hlt, hlt', hw1, hw2, hq, hw3, hw4, e1, l2, c1, g1', intShift, IntKind.bits]
      refine ⟨j - (m + 1), by omega, m + 1, j, by omega, by omega, by omega, by omega, rfl, fun q b hq1 hb => ?_, hhi⟩
      by_cases hqm : q = m
      · subst hqm; rw [ha] at hb; cases hb; exact g1
      · exact (LtS_iff _ _).2 (List.lt_trans ((hord q b hb).1 (by omega)) ((LtS_iff _ _).1 g1))
    · have g1' : ¬ cmpS (keyD a.dn) t < 0 := mt cmpS_lt.1 g1
      simp [r0, r1, r2, r8, r9, r10, hlt, hlt', hw1, hw2, hq, hw3, hw4, e1, l2, c1, g1', intShift, IntKind.bits]
      refine ⟨m - i, by omega, i, m, by omega, by omega, by omega, rfl, rfl, hlo, fun q b hq1 hb hlt2 => ?_⟩
      by_cases hqm : q = m
      · subst hqm; rw [ha] at hb; cases hb; exact g1 hlt2
      · exact g1 ((LtS_iff _ _).2 (List.lt_trans ((hord q b hb).2 (by omega)) ((LtS_iff _ _).1 hlt2)))
  | zero =>
    have hij' : i = j := by omega
    subst hij'
    by_cases hil : i < l.length
    · have hilI : (i : Int) < l.length := by omega
      obtain ⟨a, ha⟩ : ∃ a, l[i]? = some a := ⟨l[i], List.getElem?_eq_getElem hil⟩
      obtain ⟨id, o, w1, w2, e1, l0, l1, l2, hvs, hva, _⟩ := entries_idx h ha
      have c1 := i_byKey (t := t) hvs (hok a (List.mem_of_getElem? ha)) hva.one
      by_cases g1 : (keyD a.dn) = t
      · have g1' := cmpS_eq.2 g1
        simp [r0, r1, r2, r8, r9, r10, hil, e1, l2, c1, g1']
        exact ⟨i, rfl, by omega, hlo, hhi, a, ha, g1⟩
      · have g1' : ¬ cmpS (keyD a.dn) t = 0 := mt cmpS_eq.1 g1
        simp [r0, r1, r2, r8, r9, r10, hil, e1, l2, c1, g1']
        exact ⟨i, rfl, by omega, hlo, hhi, fun b hb => by rw [ha] at hb; cases hb; exact g1⟩
    · simp [r0, r1, r2, r8, r9, r10, hil]
      exact ⟨i, rfl, by omega, hlo, hhi, fun b hb => by have := (List.getElem?_eq_some_iff.1 hb).1; omega⟩


set_option maxRecDepth 10000 in
theorem i_searchT {H : List Ob} {idt : Nat} {own : Bool} {es : Nat} {vs ve vd : V} {l : List PEntry} {dn : List PRdn} (ht : H[idt]? = some (.mk own es [vs, ve])) (h : AEntries H ve l) (hl : l.length ≤ 1000) (hok : ∀ x ∈ l, DnOk x.dn) (hp : l.Pairwise fun a b => keyD a.dn < keyD b.dn) (hd : ARdns H vd dn) (hdn : DnOk dn) :
    ∃ (i : Nat) (ok : Bool), callW C 161 [.ptr (some (idt, 0)), vd] H = some (.tup [.int .i64 i, .bool ok], H) ∧
      i ≤ l.length ∧ (∀ q a, q < i → l[q]? = some a → LtS (keyD a.dn) (keyD dn)) ∧ (∀ q a, i ≤ q → l[q]? = some a → ¬ LtS (keyD a.dn) (keyD dn)) ∧ (ok = true ↔ ∃ a, l[i]? = some a ∧ keyD a.dn = keyD dn) := by
  obtain ⟨i, ok, c1, h1⟩ := l_searchE (t := keyD dn) h hl hok hp
  refine ⟨i, ok, ?_, h1⟩
  apply Ret.eq
  rw [op161]
  have c2 := i_Key hd hdn
  have ld := load1 (o := 1) (v := ve) ht rfl
  have hid : idt < H.length := (List.getElem?_eq_some_iff.1 ht).1
  simp [code161, Tryz.f161, c1, c2, ld, hid, regionL_none, regionL_some, List.lookup]
end Go.Proofs.Try1
end

section
namespace Go.Proofs.Try1
open Go Go.Lite
set_option linter.unusedSimpArgs false
set_option linter.unusedVariables false

set_option maxRecDepth 10000 in
theorem i_hasParent {H : List Ob} {idt : Nat} {own : Bool} {es : Nat} {vs ve vd : V} {l : List PEntry} {dn : List PRdn} (ht : H[idt]? = some (.mk own es [vs, ve])) (h : AEntries H ve l) (hl : l.length ≤ 1000) (hok : ∀ x ∈ l, DnOk x.dn) (hp : l.Pairwise fun a b => keyD a.dn < keyD b.dn) (hd : ARdns H vd dn) (hdn : DnOk dn) :
    callW C 129 [.ptr (some (idt, 0)), vd] H = some (.bool (dec (ParentOk l dn)), H) := by
  apply Ret.dec
  rw [op129]
  by_cases g1 : dn.length ≤ 1
  · have g1' : (dn.length : Int) ≤ 1 := by omega
    simp [code129, Tryz.f129, hd.len, g1']
    exact .inl g1
  have g1' : ¬ (dn.length : Int) ≤ 1 := by omega
  obtain ⟨id, off, own', cells, hv, hcell, at_⟩ := rdns_tail hd (by omega)
  have hst : strideIs H id 2 = true := by simp [strideIs, hcell]
  have q1 : 1 ≤ dn.length := by omega
  obtain ⟨i, ok, c1, hil, hlo, hhi, hok'⟩ := i_searchT ht h hl hok hp at_ hdn.tail
  have hpar : ok = true ↔ ParentOk l dn := by
    rw [hok']
    constructor
    · rintro ⟨a, ha, he⟩
      exact .inr ⟨a, List.mem_of_getElem? ha, he⟩
    · rintro (hh | ⟨y, hy, he⟩)
      · omega
      · obtain ⟨j, hj, rfl⟩ := List.getElem_of_mem hy
        have hji : ¬ j < i := fun hh => by
          have := hlo j _ hh (List.getElem?_eq_getElem hj)
          rw [he] at this
          exact List.lt_irrefl _ ((LtS_iff _ _).1 this)
        have hnl := hhi i
        by_cases hij : i = j
        · subst hij
          exact ⟨_, List.getElem?_eq_getElem hj, he⟩
        · have hi2 : i < l.length := by omega
          have h1 := hhi i _ (Nat.le_refl _) (List.getElem?_eq_getElem hi2)
          have h2 := List.pairwise_iff_getElem.1 hp i j hi2 hj (by omega)
          rw [he] at h2
          exact absurd ((LtS_iff _ _).2 h2) h1
  rw [hv] at hd ⊢
  cases ok with
  | true =>
    have := hpar.1 rfl
    simp [code129, Tryz.f129, hd.len, g1', hst, q1, c1, this]
  | false =>
    have : ¬ ParentOk l dn := fun hh => by have := hpar.2 hh; cases this
    simp [code129, Tryz.f129, hd.len, g1', hst, q1, c1, this]

set_option maxRecDepth 10000 in
theorem l_IndexFuncE {H : List Ob} {v : V} {l : List PEntry} {g : Nat} {a b : List V} (h : AEntries H v l) (p : PEntry → Bool) (hg : ∀ x ∈ l, ∀ w1 w2, ARdns H w1 x.dn → AAttrs H w2 x.attrs → callW C g (a ++ ([.agg [w1, w2]] ++ b)) H = some (.bool (p x), H)) :
    ∃ r : Int, callW C 239 [v, .fn g a b] H = some (.int .i64 r, H) ∧ (0 ≤ r ↔ ∃ x ∈ l, p x = true) := by
  suffices hs : Ret C 239 [v, .fn g a b] H fun q H' => (∃ r : Int, q = .int .i64 r ∧ (0 ≤ r ↔ ∃ x ∈ l, p x = true)) ∧ H' = H by
    obtain ⟨q, H', hc, ⟨r, rfl, hr⟩, rfl⟩ := hs
    exact ⟨r, hc, hr⟩
  rw [op239]
  have hb : l.length ≤ 9223372036854775807 := h.bound
  simp [code239, Tryz.f239, h.len]
  refine WP_loop (fun k σ => ∃ (i : Nat) (r : Nat → R), i + k = l.length ∧ σ = ⟨r, 0, H⟩ ∧ r 0 = .val v ∧ r 1 = .val (.fn g a b) ∧ r 7 = .val (.int .i64 l.length) ∧ r 8 = .val (.int .i64 i) ∧ ∀ j x, j < i → l[j]? = some x → p x = false) ?_ l.length _ ⟨0, _, by simp, rfl, by simp, by simp, by simp, by simp, by simp⟩
  rintro k σ ⟨i, r, hik, rfl, r0, r1, r7, r8, hall⟩
  cases k with
  | zero =>
    have hi : i = l.length := by omega
    subst hi
    have hx := at_all (P := fun j (x : PEntry) => p x = false) hall
    simp [r0, r1, r7, r8]
    intro x hm
    obtain ⟨j, hj, rfl⟩ := List.getElem_of_mem hm
    exact hx j _ (List.getElem?_eq_getElem hj)
  | succ k =>
    have hi : i < l.length := by omega
    obtain ⟨x, hx⟩ : ∃ c, l[i]? = some c := ⟨l[i], by simp [hi]⟩
    have hw : IntKind.i64.wrap ((i : Int) + 1) = ((i : Int) + 1) := wrap_i64 (by omega) (by omega)
    obtain ⟨id, o, w1, w2, e1, l0, l1, lm, a1, a2, _⟩ := entries_idx h hx
    have c1 := hg x (List.mem_of_getElem? hx) w1 w2 a1 a2
    simp only [List.singleton_append] at c1
    have ho1 := a1.one
    have ho2 := a2.one
    cases hp : p x with
    | false =>
      rw [hp] at c1
      simp [r0, r1, r7, r8, hi, e1, lm, c1, hw, ho1, ho2]
      exact ⟨k, by omega, i + 1, by omega, by omega, at_step (P := fun j (x : PEntry) => p x = false) hall hx hp⟩
    | true =>
      rw [hp] at c1
      simp [r0, r1, r7, r8, hi, e1, lm, c1, hw, ho1, ho2]
      exact ⟨x, List.mem_of_getElem? hx, hp⟩

theorem l_ContainsFuncE {H : List Ob} {v : V} {l : List PEntry} {g : Nat} {a b : List V} (h : AEntries H v l) (p : PEntry → Bool) (hg : ∀ x ∈ l, ∀ w1 w2, ARdns H w1 x.dn → AAttrs H w2 x.attrs → callW C g (a ++ ([.agg [w1, w2]] ++ b)) H = some (.bool (p x), H)) :
    callW C 127 [v, .fn g a b] H = some (.bool (dec (∃ x ∈ l, p x = true)), H) := by
  obtain ⟨r, c1, hr⟩ := l_IndexFuncE h p hg
  apply Ret.dec
  rw [op127]
  by_cases g1 : 0 ≤ r
  · have := hr.1 g1
    simp [code127, Tryz.f127, c1, g1]
    exact this
  · have : ¬ ∃ x ∈ l, p x = true := fun h => g1 (hr.2 h)
    simp [code127, Tryz.f127, c1, g1]
    intro x hx
    cases hp : p x with
    | false => rfl
    | true => exact absurd ⟨x, hx, hp⟩ this
end Go.Proofs.Try1
end

section
namespace Go.Proofs.Try1
open Go Go.Lite
set_option linter.unusedSimpArgs false
set_option linter.unusedVariables false

theorem i_orphan {H : List Ob} {idt : Nat} {own : Bool} {es : Nat} {vs ve w1 w2 : V} {l : List PEntry} {x : PEntry} (ht : H[idt]? = some (.mk own es [vs, ve])) (h : AEntries H ve l) (hl : l.length ≤ 1000) (hok : ∀ x ∈ l, DnOk x.dn) (hp : l.Pairwise fun a b => keyD a.dn < keyD b.dn) (hd : ARdns H w1 x.dn) (ho : isOne w2 = true ∧ cellsOf w2 = some [w2]) (hx : DnOk x.dn) :
    callW C 128 [.agg [w1, w2], .ptr (some (idt, 0))] H = some (.bool (!dec (ParentOk l x.dn)), H) := by
  apply Ret.eq
  rw [op128]
  have c1 := i_hasParent ht h hl hok hp hd hx
  simp [code128, Tryz.f128, c1, hd.one, ho]

set_option maxRecDepth 10000 in
set_option maxHeartbeats 8000000 in
theorem i_TreeRight {H : List Ob} {vs ve : V} {t : PTree} (hs : AClasses H vs t.schema) (h : AEntries H ve t.entries) : callW C 33 [.agg [vs, ve]] H = some (.bool (dec (TreeOk t)), H) := by
  apply Ret.dec
  rw [op33]
  have hos := hs.one
  have hoe := h.one
  have hgb : ∀ X b, gcH H (H ++ X) (.bool b) = H := fun X b => gcH_bool
  obtain ⟨K, hK⟩ : ∃ K, K = H ++ [.mk true 2 [vs, ve]] := ⟨_, rfl⟩
  have hKt : K[H.length]? = some (.mk true 2 [vs, ve]) := by rw [hK]; exact get_last
  have hsK : AClasses K vs t.schema := by rw [hK]; exact hs.ext
  have hK2 : AEntries K ve t.entries := by rw [hK]; exact h.ext
  have ld0 := load1 (o := 0) (v := vs) hKt rfl
  have ld1 := load1 (o := 1) (v := ve) hKt rfl
  have hgK : ∀ b, gcH H K (.bool b) = H := fun b => by rw [hK]; exact gcH_bool
  have hKl : H.length < K.length := by rw [hK]; simp
  have c1 := i_Schema hsK
  by_cases g1 : SchemaOk t.schema
  rotate_left
  · rw [dec_neg g1] at c1
    simp [code33, Tryz.f33, hos, hoe, strideOf, ← hK, ld0, c1, hgK]
    exact fun h => g1 h.1
  rw [dec_pos g1] at c1
  by_cases g2 : 20 < t.entries.length
  · have g2' : (20 : Int) < t.entries.length := by omega
    simp [code33, Tryz.f33, hos, hoe, strideOf, ← hK, ld0, ld1, c1, hK2.len, g2', hgK]
    exact fun h => by have := h.2.1.1; omega
  have g2' : ¬ (20 : Int) < t.entries.length := by omega
  simp [code33, Tryz.f33, hos, hoe, strideOf, ← hK, ld0, ld1, c1, hK2.len, g2']
  have hb : t.entries.length ≤ 20 := by omega
  refine WP_loop (fun k σ => ∃ (i n : Nat) (r : Nat → R), i + k = t.entries.length ∧ σ = ⟨r, n, K⟩ ∧ r 1 = .val (.ptr (some (H.length, 0))) ∧ r 16 = .val ve ∧ r 17 = .val (.int .i64 t.entries.length) ∧ r 18 = .val (.int .i64 i) ∧ ∀ j x, j < i → t.entries[j]? = some x → EntryOk x ∧ FitsOk t.schema x ∧ PrevLt (fun e => keyD e.dn) t.entries j x) ?_ t.entries.length _ ⟨0, _, _, by omega, rfl, by simp, by simp, by simp, by simp, by simp⟩
  rintro k σ ⟨i, n, r, hik, rfl, r1, r16, r17, r18, hall⟩
  cases k with
  | zero =>
    have hi : i = t.entries.length := by omega
    subst hi
    have hE := at_all (P := fun j (x : PEntry) => EntryOk x ∧ FitsOk t.schema x ∧ PrevLt (fun e => keyD e.dn) t.entries j x) hall
    have hdn : ∀ x ∈ t.entries, DnOk x.dn := fun x hx => by
      obtain ⟨j, hj, rfl⟩ := List.getElem_of_mem hx
      exact (hE j _ (List.getElem?_eq_getElem hj)).1.2.1
    have hpw : t.entries.Pairwise fun a b => keyD a.dn < keyD b.dn := rise_pair (key := fun e => keyD e.dn) (fun j x hx => (hE j x hx).2.2)
    have c2 := l_ContainsFuncE (g := 128) (a := []) (b := [.ptr (some (H.length, 0))]) hK2 (fun x => !dec (ParentOk t.entries x.dn)) (fun x hx w1 w2 a1 a2 => i_orphan hKt hK2 (by omega) hdn hpw a1 a2.one (hdn x hx))
    by_cases g3 : ∀ x ∈ t.entries, ParentOk t.entries x.dn
    · have hn : ¬ ∃ x ∈ t.entries, (!dec (ParentOk t.entries x.dn)) = true := by
        rintro ⟨x, hx, he⟩
        rw [dec_pos (g3 x hx)] at he
        cases he
      rw [dec_neg hn] at c2
      have hT : TreeOk t := ⟨g1, ⟨hb, hE⟩, g3⟩
      simp [r1, r16, r17, r18, ld0, ld1, c2, hgK, hT]
    · have hn : ∃ x ∈ t.entries, (!dec (ParentOk t.entries x.dn)) = true := by
        refine Classical.byContradiction fun hh => g3 fun x hx => Classical.byContradiction fun hp => hh ⟨x, hx, by rw [dec_neg hp]; rfl⟩
      rw [dec_pos hn] at c2
      have hT : ¬ TreeOk t := fun h => g3 h.2.2
      simp [r1, r16, r17, r18, ld0, ld1, c2, hgK, hT]
  | succ k =>
    have hi : i < t.entries.length := by omega
    obtain ⟨x, hx⟩ : ∃ c, t.entries[i]? = some c := ⟨t.entries[i], by simp [hi]⟩
    have hw : IntKind.i64.wrap ((i : Int) + 1) = ((i : Int) + 1) := wrap_i64 (by omega) (by omega)
    obtain ⟨id, o, w1, w2, e1, l0, l1, lm, a1, a2, _⟩ := entries_idx hK2 hx
    have hid := lo_of l0
    obtain ⟨f, c3, hf⟩ := i_Check hsK a1 a2 g1
    have hstep := fun h => at_step (P := fun j (x : PEntry) => EntryOk x ∧ FitsOk t.schema x ∧ PrevLt (fun e => keyD e.dn) t.entries j x) hall hx h
    have ho1 := a1.one
    have ho2 := a2.one
    by_cases q1 : EntryOk x ∧ FitsOk t.schema x
    rotate_left
    · have hf0 : ¬ f = 0 := fun e => q1 (hf.1 e)
      have hn : ¬ TreeOk t := fun hd => q1 ⟨(hd.2.1.2 i x hx).1, (hd.2.1.2 i x hx).2.1⟩
      simp [r1, r16, r17, r18, hi, e1, l0, l1, lm, ld0, ld1, hid, hKl, c3, hf0, hn, ho1, ho2, hgK, regionL_none, regionL_some, List.lookup]
    have hf0 : f = 0 := hf.2 q1
    subst hf0
    by_cases hi0 : i = 0
    · have := hstep ⟨q1.1, q1.2, fun y hy => by omega⟩
      subst hi0
      simp at e1
      simp [r1, r16, r17, r18, hi, e1, l0, l1, lm, ld0, ld1, hid, hKl, c3, ho1, ho2, hgK, regionL_none, regionL_some, List.lookup]
      exact ⟨k, by omega, 1, by omega, _, _, ⟨rfl, rfl⟩, by simp [r1], by simp [r16], by simp [r17], by simp, this⟩
    · have hip : 0 < i := by omega
      obtain ⟨y, hy⟩ : ∃ c, t.entries[i - 1]? = some c := ⟨t.entries[i - 1]'(by omega), by simp⟩
      obtain ⟨id', o', w1', w2', e1', l0', _, _, a1', _⟩ := entries_idx hK2 hy
      have hid' := lo_of l0'
      have hyok := (hall (i - 1) y (by omega) hy).1
      have c4 := i_Key a1 q1.1.2.1
      have c5 := i_Key a1' hyok.2.1
      have hw1 : IntKind.i64.wrap ((i : Int) - 1) = ((i - 1 : Nat) : Int) := by rw [wrap_i64 (by omega) (by omega)]; omega
      by_cases q3 : LtS (keyD y.dn) (keyD x.dn)
      · have := hstep ⟨q1.1, q1.2, fun z _ hz => by rw [hy] at hz; cases hz; exact q3⟩
        simp [r1, r16, r17, r18, hi, e1, l0, l1, lm, ld0, ld1, hid, hid', hKl, c3, c4, c5, e1', l0', hw, hw1, hip, LtS_dec q3, ho1, ho2, hgK, regionL_none, regionL_some, List.lookup]
        exact ⟨k, by omega, i + 1, by omega, _, _, ⟨rfl, rfl⟩, by simp [r1], by simp [r16], by simp [r17], by simp, this⟩
      · have hn : ¬ TreeOk t := fun hd => q3 ((hd.2.1.2 i x hx).2.2 y hip hy)
        simp [r1, r16, r17, r18, hi, e1, l0, l1, lm, ld0, ld1, hid, hid', hKl, c3, c4, c5, e1', l0', hw, hw1, hip, LtS_no q3, ho1, ho2, hgK, regionL_none, regionL_some, List.lookup, hn]
end Go.Proofs.Try1
end

section
namespace Go.Proofs.Try1
open Go Go.Lite
set_option linter.unusedSimpArgs false
set_option linter.unusedVariables false

/-- An answer of a call's own. -/
def NOut (H : List Ob) (o : PEntryOut) (q : V) (H' : List Ob) : Prop := ∃ T w1 w2, q = .agg [w1, w2, .int .i64 o.code] ∧ H' = H ++ T ∧ New H.length (H ++ T).length (H ++ T) shEntryOut [w1, w2, .int .i64 o.code] o.u
theorem NOut.ill {H : List Ob} {c : Int} (h : (Lit.int .i64 c).wf = true) : NOut H (illE c) (.agg [.slc none 0, .slc none 0, .int .i64 c]) H :=
  ⟨[], .slc none 0, .slc none 0, rfl, by simp, New.st (News.cons (c1 := [.slc none 0, .slc none 0]) (m := H.length) (New.st (News.nilS (News.nilS News.nil))) (News.int h News.nil) (Nat.le_refl _) (by simp))⟩
theorem NOut.of {H G : List Ob} {e : PEntry} {w1 w2 : V} (hT : ∃ T, G = H ++ T) (hn : New H.length G.length G shEntry [w1, w2] e.u) : NOut H ⟨e, 0⟩ (.agg [w1, w2, .int .i64 0]) (gcH H G (.agg [w1, w2, .int .i64 0])) := by
  obtain ⟨T, rfl⟩ := hT
  have h2 : New H.length (H ++ T).length (H ++ T) shEntryOut [w1, w2, .int .i64 0] (PEntryOut.u ⟨e, 0⟩) := New.st (News.cons (c1 := [w1, w2]) (m := (H ++ T).length) hn (News.int (by decide) News.nil) (by simp) (Nat.le_refl _))
  obtain ⟨T', h3, h4⟩ := h2.gcA
  exact ⟨T', w1, w2, rfl, h3, h4⟩
/-- The same, of objects from a number on. -/
def NOutB (b : Nat) (H : List Ob) (o : PEntryOut) (q : V) (H' : List Ob) : Prop := ∃ T w1 w2, q = .agg [w1, w2, .int .i64 o.code] ∧ H' = H ++ T ∧ New b (H ++ T).length (H ++ T) shEntryOut [w1, w2, .int .i64 o.code] o.u
theorem NOutB.base {H : List Ob} {X : List Ob} {o : PEntryOut} {q : V} {H' : List Ob} (h : NOutB H.length (H ++ X) o q H') : NOut H o q (gcH H H' q) := by
  obtain ⟨T, w1, w2, rfl, rfl, h3⟩ := h
  rw [List.append_assoc] at h3 ⊢
  obtain ⟨T', h4, h5⟩ := h3.gcA
  exact ⟨T', w1, w2, rfl, h4, h5⟩
theorem NOutB.one {b : Nat} {H : List Ob} {o : PEntryOut} {q : V} {H' : List Ob} (h : NOutB b H o q H') : ∃ w1 w2, q = .agg [w1, w2, .int .i64 o.code] ∧ (isOne w1 = true ∧ cellsOf w1 = some [w1]) ∧ (isOne w2 = true ∧ cellsOf w2 = some [w2]) := by
  obtain ⟨T, w1, w2, rfl, rfl, h3⟩ := h
  obtain ⟨_, _, hcs, a1, a2, _⟩ := entryOut_at.1 h3.at
  cases hcs
  exact ⟨w1, w2, rfl, a1.one, a2.one⟩

end Go.Proofs.Try1
end

section
namespace Go.Proofs.Try1
open Go Go.Lite
set_option linter.unusedSimpArgs false
set_option linter.unusedVariables false

end Go.Proofs.Try1
end

section
namespace Go.Proofs.Try1
open Go Go.Lite
set_option linter.unusedSimpArgs false
set_option linter.unusedVariables false

/-- An entry of no more than what a law takes. -/
def SmallE (e : PEntry) : Prop := e.dn.length ≤ 1048576 ∧ e.attrs.length ≤ 1048576 ∧ ∀ a ∈ e.attrs, a.vals.length ≤ 1048576

set_option maxRecDepth 10000 in
set_option maxHeartbeats 8000000 in
theorem s_Copy {H : List Ob} {vd va : V} {e : PEntry} (hd : ARdns H vd e.dn) (ha : AAttrs H va e.attrs) (hb : SmallE e) :
    ∃ T w1 w2, callW C 157 [.agg [vd, va]] H = some (.agg [w1, w2], H ++ T) ∧ New H.length (H ++ T).length (H ++ T) shEntry [w1, w2] e.u := by
  suffices hs : Ret C 157 [.agg [vd, va]] H fun q H' => ∃ T w1 w2, q = .agg [w1, w2] ∧ H' = H ++ T ∧ New H.length (H ++ T).length (H ++ T) shEntry [w1, w2] e.u by
    obtain ⟨q, H', hc, T, w1, w2, rfl, rfl, hr⟩ := hs
    exact ⟨T, w1, w2, hc, hr⟩
  rw [op157]
  have hod := hd.one
  have hoa := ha.one
  obtain ⟨w1, T1, a1, n1⟩ := append_clone (d := .struct [(0, 9), (1, 9)]) (by_ := 32) (z := [.str [], .str []]) (sz := 2) hd rfl rfl rfl (by decide) (by decide) (by decide) (by have := hb.1; unfold maxMade; omega)
  have hb2 := hb.2.1
  have how := New.one1 n1
  simp [code157, Tryz.f157, hod, hoa, elemT, fillL, zerosL, St.new, strideOf, a1, buildV, structPlace, how]
  obtain ⟨K, hK⟩ : ∃ K, K = H ++ T1 := ⟨_, rfl⟩
  rw [← hK] at n1 ⊢
  have haK : AAttrs K va e.attrs := by rw [hK]; exact ha.ext
  refine WP_loop (fun k σ => ∃ (i : Nat) (r : Nat → R) (G : List Ob) (w : V), i + k = e.attrs.length ∧ σ = ⟨r, 3, G⟩ ∧ r 1 = .box 0 [vd, va] ∧ r 2 = .box 1 [.slc none 0, .slc none 0] ∧ r 3 = .box 2 [w1, w] ∧ r 4 = .val (.int .i64 i) ∧ LstF K G shAttr PAttr.u w (e.attrs.take i)) ?_ e.attrs.length _ ⟨0, _, K, .slc none 0, by simp, rfl, by simp, by simp, by simp, by simp, by simpa using LstF.nil⟩
  rintro k σ ⟨i, r, G, w, hik, rfl, r1, r2, r3, r4, hG⟩
  obtain ⟨S, hS⟩ := hG.pre
  have haG : AAttrs G va e.attrs := by rw [hS]; exact haK.ext
  have hwo := hG.one
  cases k with
  | zero =>
    have hi : i = e.attrs.length := by omega
    subst hi
    rw [List.take_length] at hG
    have n2 := hG.new ha.bound
    have hne : New H.length G.length G shEntry [w1, w] e.u := by
      refine New.st (News.cons (m := K.length) (c1 := [w1]) ?_ (News.one n2 (by rw [hS]; simp)) (by rw [hK]; simp) (by rw [hS]; simp))
      rw [hS]; exact n1.ext
    obtain ⟨T', hg, hn⟩ := (show New H.length G.length (H ++ (T1 ++ S)) shEntry [w1, w] e.u by rw [← List.append_assoc, ← hK, ← hS]; exact hne).gcA
    rw [← List.append_assoc, ← hK, ← hS] at hg
    simp [r1, r2, r3, r4, haG.len, hg, how, hwo]
    exact ⟨T', w1, w, ⟨rfl, rfl⟩, rfl, by simpa using hn⟩
  | succ k =>
    have hi : i < e.attrs.length := by omega
    obtain ⟨x, hx⟩ : ∃ c, e.attrs[i]? = some c := ⟨e.attrs[i], by simp [hi]⟩
    have hw : IntKind.i64.wrap ((i : Int) + 1) = ((i : Int) + 1) := wrap_i64 (by omega) (by omega)
    obtain ⟨id, o, wx, ex, lx, hvx, hnx, hidx, _⟩ := attrs_idxT ha hx
    have hGH : G = H ++ (T1 ++ S) := by rw [hS, hK, List.append_assoc]
    obtain ⟨l0, l1, l2⟩ := lx G ⟨_, hGH⟩
    obtain ⟨l0', l1', l2'⟩ := lx (G ++ [.mk true 1 []]) ⟨_, by rw [hGH, List.append_assoc]⟩
    have hidG : id < G.length := by rw [hGH]; simp; omega
    have hvG : AStrs G wx x.vals := by rw [hGH]; exact hvx.ext
    have hbx := hb.2.2 x (List.mem_of_getElem? hx)
    obtain ⟨wv, T2, a2, n2⟩ := append_clone (d := .str) (by_ := 16) (z := [.str []]) (sz := 1) hvG rfl rfl rfl (by decide) (by decide) (by decide) (by unfold maxMade; omega)
    have hel : New G.length (G ++ T2).length (G ++ T2) shAttr [.str x.name, wv] x.u := New.st (News.str hnx (News.one n2 (by simp)))
    obtain ⟨w', G', a3, hG', _, _⟩ := hG.push (T := T2) (d := .struct [(0, 9), (1, 26)]) (by_ := 40) (z := [.str [], .slc none 0]) (sz := 2) hel rfl rfl (by decide) (by decide) (by decide) (by simp; unfold maxMade; omega)
    rw [← take_get hx] at hG'
    have hwv := New.one1 n2
    have hk : Keep G.length (G ++ [.mk true 1 []]) (G ++ T2) := Keep_ext (Nat.le_refl _)
    have hw' := hG'.one
    simp only [List.append_assoc, List.length_append] at a3
    simp [r1, r2, r3, r4, hi, haG.len, ex, l0, l1, hidG, a2, a3, hk, Keep_append, elemT, fillL, zerosL, St.new, buildV, structPlace, hod, hoa, hwv, hwo, hw', hw, List.lookup]
    exact ⟨k, by omega, i + 1, by omega, _, _, ⟨rfl, rfl⟩, by simp [r1], by simp [r2], w', by simp, by simp, hG'⟩

theorem LtS_trans {a b c : Str} (h1 : LtS a b) (h2 : LtS b c) : LtS a c := (LtS_iff _ _).2 (List.lt_trans ((LtS_iff _ _).1 h1) ((LtS_iff _ _).1 h2))
section
variable {pre : List PAttr} {a : PAttr} {n : Str} {vs : List Str} {done : Bool}
end

end Go.Proofs.Try1
end

section
namespace Go.Proofs.Try1
open Go Go.Lite
set_option linter.unusedSimpArgs false
set_option linter.unusedVariables false

theorem EntryOk.small {e : PEntry} (h : EntryOk e) : SmallE e := by
  obtain ⟨_, h1, h2⟩ := h
  refine ⟨by have := h1.2; omega, by have := h2.2; omega, fun a ha => ?_⟩
  obtain ⟨j, hj, rfl⟩ := List.getElem_of_mem ha
  have := (h2.1 j _ (List.getElem?_eq_getElem hj)).2.2.2.2
  omega
theorem EntryOk.rise {e : PEntry} (h : EntryOk e) : e.attrs.Pairwise fun a b => a.name < b.name := rise_pair (fun j x hx => (h.2.2.1 j x hx).2.1)
theorem At_illE {H : List Ob} {c : Int} (h : (Lit.int .i64 c).wf = true) : At H shEntryOut [.slc none 0, .slc none 0, .int .i64 c] (illE c).u :=
  entryOut_at.2 ⟨_, _, rfl, At_slice.2 ⟨_, _, rfl, rfl, by simp [illE], .inl ⟨rfl, rfl⟩⟩, At_slice.2 ⟨_, _, rfl, rfl, by simp [illE], .inl ⟨rfl, rfl⟩⟩, h⟩

/-- A call hands back such an answer. -/
def EOut (H : List Ob) (o : PEntryOut) (q : V) (H' : List Ob) : Prop := ∃ T w1 w2, q = .agg [w1, w2, .int .i64 o.code] ∧ H' = H ++ T ∧ At (H ++ T) shEntryOut [w1, w2, .int .i64 o.code] o.u ∧ gcH H (H ++ T) (.agg [w1, w2, .int .i64 o.code]) = H ++ T
theorem EOut.ill {H : List Ob} {c : Int} (h : (Lit.int .i64 c).wf = true) : EOut H (illE c) (.agg [.slc none 0, .slc none 0, .int .i64 c]) H :=
  ⟨[], .slc none 0, .slc none 0, rfl, by simp, by rw [List.append_nil]; exact At_illE h, by rw [List.append_nil]; exact gcH_same⟩

end Go.Proofs.Try1
end

section
namespace Go.Proofs.Try1
open Go Go.Lite
set_option linter.unusedSimpArgs false
set_option linter.unusedVariables false

set_option maxRecDepth 10000 in
theorem l_CloneR {H : List Ob} {v : V} {l : List PRdn} (h : ARdns H v l) (hl : l.length ≤ 1048576) :
    ∃ T w, callW C 261 [v] H = some (w, H ++ T) ∧ New H.length (H ++ T).length (H ++ T) (.slice shRdn) [w] (.lst (l.map PRdn.u)) := by
  suffices hs : Ret C 261 [v] H fun q H' => ∃ T, H' = H ++ T ∧ New H.length (H ++ T).length (H ++ T) (.slice shRdn) [q] (.lst (l.map PRdn.u)) by
    obtain ⟨q, H', hc, T, rfl, hr⟩ := hs
    exact ⟨T, q, hc, hr⟩
  rw [op261]
  obtain ⟨w, T1, a1, n1⟩ := append_clone (d := .struct [(0, 9), (1, 9)]) (by_ := 32) (z := [.str [], .str []]) (sz := 2) h rfl rfl rfl (by decide) (by decide) (by decide) (by unfold maxMade; omega)
  obtain ⟨T', hg, hn⟩ := n1.gc1
  rcases h.sub with ⟨rfl, rfl⟩ | ⟨id, off, own, cells, rfl, _⟩
  · simp [code261, Tryz.f261]
    exact New.nil
  · simp [code261, Tryz.f261, elemT, fillL, zerosL, St.new, a1, hg]
    simpa using hn

set_option maxRecDepth 10000 in
set_option maxHeartbeats 4000000 in
theorem l_CloneS {H : List Ob} {v : V} {l : List Str} (h : AStrs H v l) (hl : l.length ≤ 1048576) :
    ∃ T w, callW C 153 [v] H = some (w, H ++ T) ∧ New H.length (H ++ T).length (H ++ T) (.slice .str) [w] (.lst (l.map strU)) := by
  suffices hs : Ret C 153 [v] H fun q H' => ∃ T, H' = H ++ T ∧ New H.length (H ++ T).length (H ++ T) (.slice .str) [q] (.lst (l.map strU)) by
    obtain ⟨q, H', hc, T, rfl, hr⟩ := hs
    exact ⟨T, q, hc, hr⟩
  rw [op153]
  obtain ⟨w, T1, a1, n1⟩ := append_clone (d := .str) (by_ := 16) (z := [.str []]) (sz := 1) h rfl rfl rfl (by decide) (by decide) (by decide) (by unfold maxMade; omega)
  obtain ⟨T', hg, hn⟩ := n1.gc1
  rcases h.sub with ⟨rfl, rfl⟩ | ⟨id, off, own, cells, rfl, _⟩
  · simp [code153, Tryz.f153]
    exact New.nil
  · simp [code153, Tryz.f153, elemT, fillL, zerosL, St.new, a1, hg]
    simpa using hn

set_option maxRecDepth 10000 in
set_option maxHeartbeats 8000000 in
theorem i_copied {H : List Ob} {vd va : V} {e : PEntry} (hd : ARdns H vd e.dn) (ha : AAttrs H va e.attrs) (hb : SmallE e) :
    ∃ T w1 w2, callW C 162 [.agg [vd, va]] H = some (.agg [w1, w2], H ++ T) ∧ New H.length (H ++ T).length (H ++ T) shEntry [w1, w2] e.u := by
  suffices hs : Ret C 162 [.agg [vd, va]] H fun q H' => ∃ T w1 w2, q = .agg [w1, w2] ∧ H' = H ++ T ∧ New H.length (H ++ T).length (H ++ T) shEntry [w1, w2] e.u by
    obtain ⟨q, H', hc, T, w1, w2, rfl, rfl, hr⟩ := hs
    exact ⟨T, w1, w2, hc, hr⟩
  rw [op162]
  have hod := hd.one
  have hoa := ha.one
  obtain ⟨T1, w1, a1, n1⟩ := l_CloneR hd hb.1
  have hb2 := hb.2.1
  have how := New.one1 n1
  obtain ⟨K, hK⟩ : ∃ K, K = H ++ T1 := ⟨_, rfl⟩
  rw [← hK] at n1 a1
  have haK : AAttrs K va e.attrs := by rw [hK]; exact ha.ext
  simp [code162, Tryz.f162, hod, hoa, a1, buildV, structPlace, fillL, how, haK.len]
  refine WP_loop (fun k σ => ∃ (i n : Nat) (r : Nat → R) (G : List Ob) (w : V), i + k = e.attrs.length ∧ σ = ⟨r, n, G⟩ ∧ r 2 = .box 1 [.slc none 0, .slc none 0] ∧ r 3 = .box 2 [w1, w] ∧ r 11 = .val va ∧ r 12 = .val (.int .i64 e.attrs.length) ∧ r 13 = .val (.int .i64 i) ∧ LstF K G shAttr PAttr.u w (e.attrs.take i)) ?_ e.attrs.length _ ⟨0, 3, _, K, .slc none 0, by simp, rfl, by simp, by simp, by simp, by simp, by simp, by simpa using LstF.nil⟩
  rintro k σ ⟨i, cn, r, G, w, hik, rfl, r2, r3, r11, r12, r13, hG⟩
  obtain ⟨S, hS⟩ := hG.pre
  have haG : AAttrs G va e.attrs := by rw [hS]; exact haK.ext
  have hwo := hG.one
  cases k with
  | zero =>
    have hi : i = e.attrs.length := by omega
    subst hi
    rw [List.take_length] at hG
    have n2 := hG.new ha.bound
    have hne : New H.length G.length G shEntry [w1, w] e.u := by
      refine New.st (News.cons (m := K.length) (c1 := [w1]) ?_ (News.one n2 (by rw [hS]; simp)) (by rw [hK]; simp) (by rw [hS]; simp))
      rw [hS]; exact n1.ext
    obtain ⟨T', hg, hn⟩ := (show New H.length G.length (H ++ (T1 ++ S)) shEntry [w1, w] e.u by rw [← List.append_assoc, ← hK, ← hS]; exact hne).gcA
    rw [← List.append_assoc, ← hK, ← hS] at hg
    simp [r2, r3, r11, r12, r13, hg, how, hwo]
    exact ⟨T', w1, w, ⟨rfl, rfl⟩, rfl, by simpa using hn⟩
  | succ k =>
    have hi : i < e.attrs.length := by omega
    obtain ⟨x, hx⟩ : ∃ c, e.attrs[i]? = some c := ⟨e.attrs[i], by simp [hi]⟩
    have hw : IntKind.i64.wrap ((i : Int) + 1) = ((i : Int) + 1) := wrap_i64 (by omega) (by omega)
    obtain ⟨id, o, wx, ex, lx, hvx, hnx, hidx, _⟩ := attrs_idxT ha hx
    have hGH : G = H ++ (T1 ++ S) := by rw [hS, hK, List.append_assoc]
    obtain ⟨l0, l1, l2⟩ := lx G ⟨_, hGH⟩
    have hvG : AStrs G wx x.vals := by rw [hGH]; exact hvx.ext
    have hox := hvG.one
    have hbx := hb.2.2 x (List.mem_of_getElem? hx)
    obtain ⟨T2, wv, a2, n2⟩ := l_CloneS hvG hbx
    have hel : New G.length (G ++ T2).length (G ++ T2) shAttr [.str x.name, wv] x.u := New.st (News.str hnx (News.one n2 (by simp)))
    obtain ⟨w', G', a3, hG', _, _⟩ := hG.push (T := T2) (d := .struct [(0, 9), (1, 26)]) (by_ := 40) (z := [.str [], .slc none 0]) (sz := 2) hel rfl rfl (by decide) (by decide) (by decide) (by simp; unfold maxMade; omega)
    rw [← take_get hx] at hG'
    have hwv := New.one1 n2
    have hw' := hG'.one
    simp only [List.append_assoc, List.length_append] at a3
    simp [r2, r3, r11, r12, r13, hi, ex, l0, l1, l2, a2, a3, Keep_append, elemT, fillL, zerosL, St.new, buildV, structPlace, hod, hoa, hox, hwv, hwo, hw', hw, List.lookup]
    exact ⟨k, by omega, i + 1, by omega, _, _, _, ⟨rfl, rfl, rfl⟩, by simp [r2], w', by simp, by simp [r11], by simp [r12], by simp, hG'⟩

end Go.Proofs.Try1
end

section
namespace Go.Proofs.Try1
open Go Go.Lite
set_option linter.unusedSimpArgs false
set_option linter.unusedVariables false

theorem TreeOk.dns {t : PTree} (h : TreeOk t) : ∀ x ∈ t.entries, EntryOk x := fun x hx => by
  obtain ⟨j, hj, rfl⟩ := List.getElem_of_mem hx
  exact (h.2.1.2 j _ (List.getElem?_eq_getElem hj)).1

end Go.Proofs.Try1
end

section
namespace Go.Proofs.Try1
open Go Go.Lite
set_option linter.unusedSimpArgs false
set_option linter.unusedVariables false

/-- A class of no more than what a law takes. -/
def SmallC (c : PClass) : Prop := c.must.length ≤ 1048576 ∧ c.may.length ≤ 1048576 ∧ c.single.length ≤ 1048576

set_option maxRecDepth 10000 in
set_option maxHeartbeats 8000000 in
theorem s_CopyC {H : List Ob} {v1 v2 v3 : V} {c : PClass} (h1 : AStrs H v1 c.must) (h2 : AStrs H v2 c.may) (h3 : AStrs H v3 c.single) (hn : c.name.length ≤ maxLen) (hb : SmallC c) :
    ∃ T w1 w2 w3, callW C 147 [.agg [.str c.name, v1, v2, v3]] H = some (.agg [.str c.name, w1, w2, w3], H ++ T) ∧ New H.length (H ++ T).length (H ++ T) shClass [.str c.name, w1, w2, w3] c.u := by
  suffices hs : Ret C 147 [.agg [.str c.name, v1, v2, v3]] H fun q H' => ∃ T w1 w2 w3, q = .agg [.str c.name, w1, w2, w3] ∧ H' = H ++ T ∧ New H.length (H ++ T).length (H ++ T) shClass [.str c.name, w1, w2, w3] c.u by
    obtain ⟨q, H', hc, T, w1, w2, w3, rfl, rfl, hr⟩ := hs
    exact ⟨T, w1, w2, w3, hc, hr⟩
  rw [op147]
  obtain ⟨w1, T1, a1, n1⟩ := append_clone (d := .str) (by_ := 16) (z := [.str []]) (sz := 1) h1 rfl rfl rfl (by decide) (by decide) (by decide) (by have := hb.1; unfold maxMade; omega)
  obtain ⟨A, hA⟩ : ∃ A, A = H ++ T1 := ⟨_, rfl⟩
  rw [← hA] at a1 n1
  obtain ⟨w2, T2, a2, n2⟩ := append_clone (d := .str) (by_ := 16) (z := [.str []]) (sz := 1) (by rw [hA]; exact h2.ext : AStrs A v2 c.may) rfl rfl rfl (by decide) (by decide) (by decide) (by have := hb.2.1; unfold maxMade; omega)
  obtain ⟨B, hB⟩ : ∃ B, B = A ++ T2 := ⟨_, rfl⟩
  rw [← hB] at a2 n2
  obtain ⟨w3, T3, a3, n3⟩ := append_clone (d := .str) (by_ := 16) (z := [.str []]) (sz := 1) (by rw [hB, hA]; exact h3.ext.ext : AStrs B v3 c.single) rfl rfl rfl (by decide) (by decide) (by decide) (by have := hb.2.2; unfold maxMade; omega)
  have ho1 := New.one1 n1
  have ho2 := New.one1 n2
  have ho3 := New.one1 n3
  have hAl : H.length ≤ A.length := by rw [hA]; simp
  have hBl : A.length ≤ B.length := by rw [hB]; simp
  have hne : New H.length (B ++ T3).length (B ++ T3) shClass [.str c.name, w1, w2, w3] c.u :=
    New.st (News.str hn (News.cons (m := A.length) (c1 := [w1]) (by rw [hB, List.append_assoc]; exact n1.ext) (News.cons (m := B.length) (c1 := [w2]) n2.ext (News.one n3 (by simp)) hBl (by simp)) hAl (by simp; omega)))
  have hGH : B ++ T3 = H ++ (T1 ++ T2 ++ T3) := by rw [hB, hA]; simp
  rw [hGH] at hne
  obtain ⟨T', hg, hn'⟩ := hne.gcA
  rw [← hGH] at hg
  have o1 := h1.one
  have o2 := h2.one
  have o3 := h3.one
  simp [code147, Tryz.f147, o1, o2, o3, elemT, fillL, zerosL, St.new, a1, a2, a3, ← hA, ← hB, ho1, ho2, ho3, hg, List.lookup]
  exact ⟨T', w1, w2, w3, ⟨rfl, rfl, rfl⟩, rfl, by simpa using hn'⟩

set_option maxRecDepth 10000 in
set_option maxHeartbeats 8000000 in
theorem s_CopyCs {H : List Ob} {vl : V} {l : List PClass} (h : AClasses H vl l) (hb : l.length ≤ 1048576 ∧ ∀ c ∈ l, SmallC c) :
    ∃ T w, callW C 204 [vl] H = some (w, H ++ T) ∧ New H.length (H ++ T).length (H ++ T) (.slice shClass) [w] (.lst (l.map PClass.u)) := by
  suffices hs : Ret C 204 [vl] H fun q H' => ∃ T, H' = H ++ T ∧ New H.length (H ++ T).length (H ++ T) (.slice shClass) [q] (.lst (l.map PClass.u)) by
    obtain ⟨q, H', hc, T, rfl, hr⟩ := hs
    exact ⟨T, q, hc, hr⟩
  rw [op204]
  have hbl := hb.1
  simp [code204, Tryz.f204, elemT, fillL, zerosL, St.new]
  refine WP_loop (fun k σ => ∃ (i : Nat) (r : Nat → R) (G : List Ob) (w : V), i + k = l.length ∧ σ = ⟨r, 0, G⟩ ∧ r 0 = .val vl ∧ r 3 = .val w ∧ r 4 = .val (.int .i64 i) ∧ LstF H G shClass PClass.u w (l.take i)) ?_ l.length _ ⟨0, _, H ++ [.mk true 4 []], .slc (some (H.length, 0)) 0, by simp, rfl, by simp, by simp, by simp, by rw [List.take_zero]; exact LstF.init (sh := shClass)⟩
  rintro k σ ⟨i, r, G, w, hik, rfl, r0, r3, r4, hG⟩
  obtain ⟨S, hS⟩ := hG.pre
  have hlG : AClasses G vl l := by rw [hS]; exact h.ext
  have hwo := hG.one
  cases k with
  | zero =>
    have hi : i = l.length := by omega
    subst hi
    rw [List.take_length] at hG
    have n2 := hG.new h.bound
    obtain ⟨T', hg, hn⟩ := (show New H.length G.length (H ++ S) (.slice shClass) [w] (.lst (l.map PClass.u)) by rw [← hS]; exact n2).gc1
    rw [← hS] at hg
    simp [r0, r3, r4, hlG.len, hg, hwo]
    simpa using hn
  | succ k =>
    have hi : i < l.length := by omega
    obtain ⟨x, hx⟩ : ∃ c, l[i]? = some c := ⟨l[i], by simp [hi]⟩
    have hw : IntKind.i64.wrap ((i : Int) + 1) = ((i : Int) + 1) := wrap_i64 (by omega) (by omega)
    obtain ⟨id, o, w1, w2, w3, e1, l0, l4, q1, q2, q3, _, hnm⟩ := classes_idx hlG hx
    obtain ⟨T2, y1, y2, y3, c1, n1⟩ := s_CopyC q1 q2 q3 hnm (hb.2 x (List.mem_of_getElem? hx))
    obtain ⟨w', G', a3, hG', _, _⟩ := hG.push (T := T2) (d := .struct [(0, 9), (1, 26), (2, 26), (3, 26)]) (by_ := 88) (z := [.str [], .slc none 0, .slc none 0, .slc none 0]) (sz := 4) n1 rfl rfl (by decide) (by decide) (by decide) (by simp; unfold maxMade; omega)
    rw [← take_get hx] at hG'
    obtain ⟨_, _, _, hcy, _, b1, b2, b3⟩ := class_at.1 n1.at
    cases hcy
    have hw' := hG'.one
    have o1 := q1.one
    have o2 := q2.one
    have o3 := q3.one
    have p1 := b1.one
    have p2 := b2.one
    have p3 := b3.one
    simp only [List.append_assoc, List.length_append] at a3
    simp [r0, r3, r4, hi, hlG.len, e1, l0, l4, c1, a3, elemT, fillL, zerosL, St.new, buildV, o1, o2, o3, p1, p2, p3, hwo, hw', hw]
    exact ⟨k, by omega, i + 1, by omega, _, _, ⟨rfl, rfl⟩, by simp [r0], w', by simp, by simp, hG'⟩
end Go.Proofs.Try1
end

section
namespace Go.Proofs.Try1
open Go Go.Lite
set_option linter.unusedSimpArgs false
set_option linter.unusedVariables false

/-- A tree of no more than what a law takes. -/
def SmallT (t : PTree) : Prop := (t.schema.length ≤ 1048576 ∧ ∀ c ∈ t.schema, SmallC c) ∧ t.entries.length ≤ 1048576 ∧ ∀ e ∈ t.entries, SmallE e

set_option maxRecDepth 10000 in
set_option maxHeartbeats 8000000 in
theorem s_CopyT {H : List Ob} {vs ve : V} {t : PTree} (hs : AClasses H vs t.schema) (h : AEntries H ve t.entries) (hb : SmallT t) :
    ∃ T w1 w2, callW C 360 [.agg [vs, ve]] H = some (.agg [w1, w2], H ++ T) ∧ New H.length (H ++ T).length (H ++ T) shTree [w1, w2] t.u := by
  suffices hs : Ret C 360 [.agg [vs, ve]] H fun q H' => ∃ T w1 w2, q = .agg [w1, w2] ∧ H' = H ++ T ∧ New H.length (H ++ T).length (H ++ T) shTree [w1, w2] t.u by
    obtain ⟨q, H', hc, T, w1, w2, rfl, rfl, hr⟩ := hs
    exact ⟨T, w1, w2, hc, hr⟩
  rw [op360]
  have hos := hs.one
  have hoe := h.one
  have hbe := hb.2.1
  obtain ⟨T1, w1, c1, n1⟩ := s_CopyCs hs hb.1
  have how := New.one1 n1
  obtain ⟨K, hK⟩ : ∃ K, K = H ++ T1 := ⟨_, rfl⟩
  rw [← hK] at n1 c1
  have hKl : H.length ≤ K.length := by rw [hK]; simp
  have haK : AEntries K ve t.entries := by rw [hK]; exact h.ext
  simp [code360, Tryz.f360, hos, hoe, c1, fillL, zerosL, buildV, structPlace, how]
  refine WP_loop (fun k σ => ∃ (i : Nat) (r : Nat → R) (G : List Ob) (w : V), i + k = t.entries.length ∧ σ = ⟨r, 3, G⟩ ∧ r 1 = .box 0 [vs, ve] ∧ r 2 = .box 1 [.slc none 0, .slc none 0] ∧ r 3 = .box 2 [w1, w] ∧ r 4 = .val (.int .i64 i) ∧ LstF K G shEntry PEntry.u w (t.entries.take i)) ?_ t.entries.length _ ⟨0, _, K, .slc none 0, by simp, rfl, by simp, by simp, by simp, by simp, by simpa using LstF.nil⟩
  rintro k σ ⟨i, r, G, w, hik, rfl, r1, r2, r3, r4, hG⟩
  obtain ⟨S, hS⟩ := hG.pre
  have haG : AEntries G ve t.entries := by rw [hS]; exact haK.ext
  have hwo := hG.one
  cases k with
  | zero =>
    have hi : i = t.entries.length := by omega
    subst hi
    rw [List.take_length] at hG
    have n2 := hG.new h.bound
    have hne : New H.length G.length G shTree [w1, w] t.u := by
      refine New.st (News.cons (m := K.length) (c1 := [w1]) ?_ (News.one n2 (by rw [hS]; simp)) hKl (by rw [hS]; simp))
      rw [hS]; exact n1.ext
    obtain ⟨T', hg, hn⟩ := (show New H.length G.length (H ++ (T1 ++ S)) shTree [w1, w] t.u by rw [← List.append_assoc, ← hK, ← hS]; exact hne).gcA
    rw [← List.append_assoc, ← hK, ← hS] at hg
    simp [r1, r2, r3, r4, haG.len, hg, how, hwo]
    exact ⟨T', w1, w, ⟨rfl, rfl⟩, rfl, by simpa using hn⟩
  | succ k =>
    have hi : i < t.entries.length := by omega
    obtain ⟨x, hx⟩ : ∃ c, t.entries[i]? = some c := ⟨t.entries[i], by simp [hi]⟩
    have hw : IntKind.i64.wrap ((i : Int) + 1) = ((i : Int) + 1) := wrap_i64 (by omega) (by omega)
    obtain ⟨id, o, v1, v2, e1, l0, l1, lm, a1, a2, _⟩ := entries_idx haG hx
    have hid := lo_of l0
    obtain ⟨T2, y1, y2, c2, n2⟩ := s_Copy a1 a2 (hb.2.2 x (List.mem_of_getElem? hx))
    obtain ⟨_, _, hcy, b1, b2⟩ := entry_at.1 n2.at
    cases hcy
    obtain ⟨w', G', a3, hG', _, _⟩ := hG.push (T := T2) (d := .struct [(0, 29), (1, 30)]) (by_ := 48) (z := [.slc none 0, .slc none 0]) (sz := 2) n2 rfl rfl (by decide) (by decide) (by decide) (by simp; unfold maxMade; omega)
    rw [← take_get hx] at hG'
    have hw' := hG'.one
    have o1 := a1.one
    have o2 := a2.one
    have p1 := b1.one
    have p2 := b2.one
    simp only [List.append_assoc, List.length_append] at a3
    simp [r1, r2, r3, r4, hi, haG.len, e1, l0, l1, lm, hid, c2, a3, Keep_append, elemT, fillL, zerosL, St.new, buildV, structPlace, hos, hoe, o1, o2, p1, p2, hwo, hw', hw, how, regionL_none, regionL_some, List.lookup]
    exact ⟨k, by omega, i + 1, by omega, _, _, ⟨rfl, rfl⟩, by simp [r1], by simp [r2], w', by simp, by simp, hG'⟩
end Go.Proofs.Try1
end

section
namespace Go.Proofs.Try1
open Go Go.Lite
set_option linter.unusedSimpArgs false
set_option linter.unusedVariables false

structure PTreeOut where
  tree : PTree
  entries : List PEntry
  code : Int
def PTreeOut.u (o : PTreeOut) : U := .st [o.tree.u, .lst (o.entries.map PEntry.u), .int o.code]
abbrev shTreeOut : Sh := .st [shTree, .slice shEntry, .int .i64]
def illT (c : Int) : PTreeOut := ⟨⟨[], []⟩, [], c⟩

theorem s_IllT {H : List Ob} {c : Int} : callW C 177 [.int .i64 c] H = some (.agg [.slc none 0, .slc none 0, .slc none 0, .int .i64 c], H) := by
  apply Ret.eq
  rw [op177]
  simp [code177, Tryz.f177, buildV, structPlace, fillL, zerosL]

/-- An answer of a call's own. -/
def TOut (H : List Ob) (o : PTreeOut) (q : V) (H' : List Ob) : Prop := ∃ T w1 w2 w3, q = .agg [w1, w2, w3, .int .i64 o.code] ∧ H' = H ++ T ∧ New H.length (H ++ T).length (H ++ T) shTreeOut [w1, w2, w3, .int .i64 o.code] o.u
theorem TOut.ill {H : List Ob} {c : Int} (h : (Lit.int .i64 c).wf = true) : TOut H (illT c) (.agg [.slc none 0, .slc none 0, .slc none 0, .int .i64 c]) H :=
  ⟨[], .slc none 0, .slc none 0, .slc none 0, rfl, by simp, New.st (News.cons (c1 := [.slc none 0, .slc none 0]) (m := H.length) (New.st (News.nilS (News.nilS News.nil))) (News.nilS (News.int h News.nil)) (Nat.le_refl _) (by simp))⟩
theorem TOut.of {H G : List Ob} {t : PTree} {w1 w2 : V} (hT : ∃ T, G = H ++ T) (hn : New H.length G.length G shTree [w1, w2] t.u) : TOut H ⟨t, [], 0⟩ (.agg [w1, w2, .slc none 0, .int .i64 0]) (gcH H G (.agg [w1, w2, .slc none 0, .int .i64 0])) := by
  obtain ⟨T, rfl⟩ := hT
  have h2 : New H.length (H ++ T).length (H ++ T) shTreeOut [w1, w2, .slc none 0, .int .i64 0] (PTreeOut.u ⟨t, [], 0⟩) := New.st (News.cons (c1 := [w1, w2]) (m := (H ++ T).length) hn (News.nilS (News.int (by decide) News.nil)) (by simp) (Nat.le_refl _))
  obtain ⟨T', h3, h4⟩ := h2.gcA
  exact ⟨T', w1, w2, .slc none 0, rfl, h3, h4⟩
end Go.Proofs.Try1
end

section
namespace Go.Proofs.Try1
open Go Go.Lite
set_option linter.unusedSimpArgs false
set_option linter.unusedVariables false
set_option maxRecDepth 10000 in
theorem eq_TreeOut : EqFn 69 shTreeOut := by
  intro H cs ds u w h h'
  replace h := At_st.1 h
  obtain ⟨usa, rfl, h⟩ := h
  replace h := Ats_cons.1 h
  obtain ⟨ca0, da0, ua0, rra0, rfl, rfl, ha0, h⟩ := h
  replace h := Ats_cons.1 h
  obtain ⟨ca1, da1, ua1, rra1, rfl, rfl, ha1, h⟩ := h
  replace h := Ats_cons.1 h
  obtain ⟨ca2, da2, ua2, rra2, rfl, rfl, ha2, h⟩ := h
  replace h := Ats_nil.1 h
  obtain ⟨rfl, rfl⟩ := h
  have ka0 := ha0
  replace ha0 := At_st.1 ha0
  obtain ⟨usa0_, rfl, ha0⟩ := ha0
  replace ha0 := Ats_cons.1 ha0
  obtain ⟨ca0_0, da0_0, ua0_0, rra0_0, rfl, rfl, ha0_0, ha0⟩ := ha0
  replace ha0 := Ats_cons.1 ha0
  obtain ⟨ca0_1, da0_1, ua0_1, rra0_1, rfl, rfl, ha0_1, ha0⟩ := ha0
  replace ha0 := Ats_nil.1 ha0
  obtain ⟨rfl, rfl⟩ := ha0
  have ka0_0 := ha0_0
  replace ha0_0 := At_slice.1 ha0_0
  obtain ⟨va0_0, la0_0, rfl, rfl, wa0_0, hva0_0⟩ := ha0_0
  have oa0_0 := hva0_0.one
  have ka0_1 := ha0_1
  replace ha0_1 := At_slice.1 ha0_1
  obtain ⟨va0_1, la0_1, rfl, rfl, wa0_1, hva0_1⟩ := ha0_1
  have oa0_1 := hva0_1.one
  have ka1 := ha1
  replace ha1 := At_slice.1 ha1
  obtain ⟨va1, la1, rfl, rfl, wa1, hva1⟩ := ha1
  have oa1 := hva1.one
  replace ha2 := At_int.1 ha2
  obtain ⟨na2, rfl, rfl, wa2⟩ := ha2
  replace h' := At_st.1 h'
  obtain ⟨usb, rfl, h'⟩ := h'
  replace h' := Ats_cons.1 h'
  obtain ⟨cb0, db0, ub0, rrb0, rfl, rfl, hb0, h'⟩ := h'
  replace h' := Ats_cons.1 h'
  obtain ⟨cb1, db1, ub1, rrb1, rfl, rfl, hb1, h'⟩ := h'
  replace h' := Ats_cons.1 h'
  obtain ⟨cb2, db2, ub2, rrb2, rfl, rfl, hb2, h'⟩ := h'
  replace h' := Ats_nil.1 h'
  obtain ⟨rfl, rfl⟩ := h'
  have kb0 := hb0
  replace hb0 := At_st.1 hb0
  obtain ⟨usb0_, rfl, hb0⟩ := hb0
  replace hb0 := Ats_cons.1 hb0
  obtain ⟨cb0_0, db0_0, ub0_0, rrb0_0, rfl, rfl, hb0_0, hb0⟩ := hb0
  replace hb0 := Ats_cons.1 hb0
  obtain ⟨cb0_1, db0_1, ub0_1, rrb0_1, rfl, rfl, hb0_1, hb0⟩ := hb0
  replace hb0 := Ats_nil.1 hb0
  obtain ⟨rfl, rfl⟩ := hb0
  have kb0_0 := hb0_0
  replace hb0_0 := At_slice.1 hb0_0
  obtain ⟨vb0_0, lb0_0, rfl, rfl, wb0_0, hvb0_0⟩ := hb0_0
  have ob0_0 := hvb0_0.one
  have kb0_1 := hb0_1
  replace hb0_1 := At_slice.1 hb0_1
  obtain ⟨vb0_1, lb0_1, rfl, rfl, wb0_1, hvb0_1⟩ := hb0_1
  have ob0_1 := hvb0_1.one
  have kb1 := hb1
  replace hb1 := At_slice.1 hb1
  obtain ⟨vb1, lb1, rfl, rfl, wb1, hvb1⟩ := hb1
  have ob1 := hvb1.one
  replace hb2 := At_int.1 hb2
  obtain ⟨nb2, rfl, rfl, wb2⟩ := hb2
  obtain ⟨t0, e0, q0⟩ := eq_Tree H _ _ _ _ ka0 kb0
  simp only [valC, List.headD_cons, List.append_nil, List.cons_append, List.nil_append] at q0
  cases t0 with
  | false =>
    have e0 : ¬ (.st [(.lst la0_0), (.lst la0_1)]) = (U.st [(U.lst lb0_0), (U.lst lb0_1)]) := fun h => by simpa using e0.2 h
    refine ⟨false, by simp only [U.st.injEq, List.cons.injEq, e0, and_false, false_and, Bool.false_eq_true], ?_⟩
    apply Ret.eq
    rw [op69]
    simp [code69, Tryz.f69, valC, q0, oa0_0, oa0_1, oa1, ob0_0, ob0_1, ob1]
  | true =>
  have e0 := e0.1 rfl
  obtain ⟨t1, e1, q1⟩ := eq_EntryS H _ _ _ _ ka1 kb1
  simp only [valC, List.headD_cons, List.append_nil, List.cons_append, List.nil_append] at q1
  cases t1 with
  | false =>
    have e1 : ¬ (.lst la1) = (U.lst lb1) := fun h => by simpa using e1.2 h
    refine ⟨false, by simp only [U.st.injEq, List.cons.injEq, e1, and_false, false_and, Bool.false_eq_true], ?_⟩
    apply Ret.eq
    rw [op69]
    simp [code69, Tryz.f69, valC, q0, q1, oa0_0, oa0_1, oa1, ob0_0, ob0_1, ob1]
  | true =>
  have e1 := e1.1 rfl
  by_cases e2 : na2 = nb2
  rotate_left
  · refine ⟨false, by simp [e2], ?_⟩
    apply Ret.eq
    rw [op69]
    simp [code69, Tryz.f69, valC, q0, q1, e2, oa0_0, oa0_1, oa1, ob0_0, ob0_1, ob1]
  subst e2
  refine ⟨true, by simp only [e0, e1], ?_⟩
  apply Ret.eq
  rw [op69]
  simp [code69, Tryz.f69, valC, q0, q1, oa0_0, oa0_1, oa1, ob0_0, ob0_1, ob1]
end Go.Proofs.Try1
end

section
namespace Go.Proofs.Try1
open Go Go.Lite
set_option linter.unusedSimpArgs false
set_option linter.unusedVariables false

set_option maxRecDepth 10000 in
theorem mk_TreeOut : MkFn 70 shTreeOut := by
  intro H cs u F k h hn hk
  obtain ⟨us, rfl, g0⟩ := AtF_st.1 h
  obtain ⟨c1, c2, u1, us1, F1, F2, rfl, rfl, rfl, h1, g1⟩ := AtsF_cons.1 g0
  obtain ⟨c3, c4, u2, us2, F3, F4, rfl, rfl, rfl, h2, g2⟩ := AtsF_cons.1 g1
  obtain ⟨c5, c6, u3, us3, F5, F6, rfl, rfl, rfl, h3, g3⟩ := AtsF_cons.1 g2
  obtain ⟨rfl, rfl, rfl⟩ := AtsF_nil.1 g3
  obtain ⟨⟨n, rfl, rfl, w⟩, rfl⟩ := AtF_int.1 h3
  obtain ⟨e, rfl⟩ := tree_typed (AtF.at _ h1)
  obtain ⟨v1, v2, rfl, a1, a2⟩ := tree_at.1 (AtF.at _ h1)
  obtain ⟨v3, l3, rfl, rfl, l3b, _⟩ := AtF_slice.1 h2
  have ho1 := a1.one
  have ho2 := a2.one
  have ho3 : isOne v3 = true ∧ cellsOf v3 = some [v3] := by
    have := At.ones _ (AtF.at _ h2)
    simp only [List.all_cons, List.all_nil, Bool.and_true] at this
    exact ⟨this, isOne_cells this⟩
  simp only [List.append_nil] at hn ⊢
  simp only [cntV_st, cntVs_cons, cntVs_nil, cntV_int, Nat.add_zero] at hk ⊢
  obtain ⟨n1, n2, nd⟩ := List.nodup_append.1 hn
  obtain ⟨H1, q1, len1, fr1, m1⟩ := mk_Tree H [v1, v2] _ F1 k h1 n1 (by omega)
  have h2' := AtF.frame (H' := H1) _ (fun q hq => fr1 q fun hm => nd q hm q hq rfl) h2
  obtain ⟨H2, q2, len2, fr2, m2⟩ := mk_EntryS H1 [v3] _ F3 (k + cntV e.u) h2' n2 (by omega)
  have m1' := AtF.frame (H' := H2) _ (fun q hq => fr2 q fun hm => nd q hq q hm rfl) m1
  simp only [valC, List.headD_cons] at q1 q2
  apply Ret.mark
  rw [op70]
  simp only [Int.natCast_add] at q1 q2
  simp [code70, Tryz.f70, valC, q1, q2, ho1, ho2, ho3, gcH_len (len2.trans len1)]
  refine ⟨by omega, len2.trans len1, fun q hq1 hq2 => (fr2 q hq2).trans (fr1 q hq1), ?_⟩
  have hA : AtF H2 shTreeOut [v1, v2, v3, .int .i64 n] (.st [mkV e.u k, mkV (.lst l3) (k + cntV e.u), .int n]) (F1 ++ F3) := AtF_st.2 ⟨_, rfl, AtsF_cons.2 ⟨[v1, v2], [v3, .int .i64 n], _, [_, .int n], F1, F3, rfl, rfl, rfl, m1', AtsF_cons.2 ⟨[v3], [.int .i64 n], _, [.int n], F3, [], rfl, rfl, (List.append_nil _).symm, m2, AtsF_cons.2 ⟨[.int .i64 n], [], _, [], [], [], rfl, rfl, rfl, AtF_int.2 ⟨⟨n, rfl, rfl, w⟩, rfl⟩, AtsF_nil.2 ⟨rfl, rfl, rfl⟩⟩⟩⟩⟩
  have hM : mkV (U.st [e.u, .lst l3, .int n]) k = .st [mkV e.u k, mkV (.lst l3) (k + cntV e.u), .int n] := by simp [mkV, mkVs]
  rw [hM]
  exact hA

set_option maxRecDepth 10000 in
theorem held_TreeOut : HeldFn 71 shTreeOut := by
  intro H cs u k h hk
  obtain ⟨us, hu, g0⟩ := At_st.1 h
  obtain ⟨us, rfl, rfl⟩ := mkV_st hu
  obtain ⟨c1, c2, u1, us1, rfl, hu1, h1, g1⟩ := Ats_cons.1 g0
  obtain ⟨u1, us, rfl, rfl, rfl⟩ := mkVs_cons hu1
  obtain ⟨c3, c4, u2, us2, rfl, hu2, h2, g2⟩ := Ats_cons.1 g1
  obtain ⟨u2, us, rfl, rfl, rfl⟩ := mkVs_cons hu2
  obtain ⟨c5, c6, u3, us3, rfl, hu3, h3, g3⟩ := Ats_cons.1 g2
  obtain ⟨u3, us, rfl, rfl, rfl⟩ := mkVs_cons hu3
  obtain ⟨rfl, hu4⟩ := Ats_nil.1 g3
  obtain rfl := mkVs_nil hu4
  obtain ⟨n, rfl, hn, w⟩ := At_int.1 h3
  obtain rfl := mkV_int hn
  obtain ⟨e, he⟩ := tree_typed h1
  have h1' := h1
  rw [he] at h1'
  obtain ⟨v1, v2, rfl, a1, a2⟩ := tree_at.1 h1'
  obtain ⟨v3, rfl⟩ := list1 (At.len _ h2 : _ = 1)
  have ho1 := a1.one
  have ho2 := a2.one
  have ho3 : isOne v3 = true ∧ cellsOf v3 = some [v3] := by
    have := At.ones _ h2
    simp only [List.all_cons, List.all_nil, Bool.and_true] at this
    exact ⟨this, isOne_cells this⟩
  simp only [cntV_st, cntVs_cons, cntVs_nil, cntV_int, Nat.add_zero] at hk ⊢
  have q1 := held_Tree H [v1, v2] u1 k h1 (by omega)
  have q2 := held_EntryS H [v3] u2 (k + cntV u1) h2 (by omega)
  simp only [valC, List.headD_cons, Int.natCast_add] at q1 q2
  have p1 : ¬ ((k : Int) + (cntV u1 : Nat) < 0) := by omega
  have p2 : ¬ ((k : Int) + (cntV u1 : Nat) + (cntV u2 : Nat) < 0) := by omega
  apply Ret.eq
  rw [op71]
  simp [code71, Tryz.f71, valC, q1, q2, p1, p2, ho1, ho2, ho3, Int.add_assoc]
  omega
end Go.Proofs.Try1
end
