/- Part 10 of the proof of a law: the interpreter, its soundness, and what functions of the program compute over it. Conditions: none but those that each theorem names. -/
import Derived.Test.YtglbhjmpemiijaaGreatDoorP09
import Derived.Test.YtglbhjmpemiijaaGreatDoorP07
import Derived.Test.YtglbhjmpemiijaaGreatDoorP03
import Derived.Laws.Externs
import Derived.CallsIn
import Derived.Sort.EncStr
import Derived.Sort.Grow
import Derived.Test.YtglbhjmpemiijaaGreatDoorP05
import Derived.WalkKit
import Derived.Test.YtglbhjmpemiijaaGreatDoorP04
import Derived.Shelf.SlSortCmp.NoneTotal
import Derived.Test.YtglbhjmpemiijaaGreatDoorProg
import Derived.KernelRfl
import Derived.Test.YtglbhjmpemiijaaGreatDoorP06
import Derived.Shelf.SlGeneric
import Derived.Shelf.SlLaysF
import Derived.Shelf.Slices.In.SortAlone
import Derived.Ground.SlsfProg
import Derived.Ground.NamesProg
import Derived.Shelf.SlSortCmp.Whole1

section
namespace Go.Proofs.Try1
open Go Go.Lite
set_option linter.unusedSimpArgs false
set_option linter.unusedVariables false

theorem aName : NameOk [97] := ⟨by decide, by decide, fun i c h => by
  cases i with
  | zero => cases h; exact .inl ⟨by decide, by decide⟩
  | succ i => simp at h⟩

set_option maxRecDepth 10000 in
set_option maxHeartbeats 4000000 in
theorem i_sorted {H : List Ob} {v : V} {l : List Str} (h : AStrs H v l) (hl : l.length ≤ 1000000) :
    ∃ T w, callW C 103 [v] H = some (.tup [w, .bool (dec (NewOk l))], H ++ T) ∧ New H.length (H ++ T).length (H ++ T) (.slice .str) [w] (.lst ((nsort l).map strU)) := by
  suffices hs : Ret C 103 [v] H fun q H' => ∃ T w, q = .tup [w, .bool (dec (NewOk l))] ∧ H' = H ++ T ∧ New H.length (H ++ T).length (H ++ T) (.slice .str) [w] (.lst ((nsort l).map strU)) by
    obtain ⟨q, H', hc, T, w, rfl, rfl, hr⟩ := hs
    exact ⟨T, w, hc, hr⟩
  rw [op103]
  obtain ⟨T, w, c1, hw⟩ := l_Clone h hl
  have hmax := h.max
  have hP : ∀ args H, callW C 221 args H = sortFnPrim 222 args H := fun args H => by rw [callW_prim (show C.prim 221 = some (sortFnPrim 222) from rfl)]
  rcases hw with ⟨rfl, rfl⟩ | hG
  · have c2 : callW C 221 [.slc none 0, .fn 222 [] []] (H ++ T) = some (.tup [], H ++ T) := by rw [hP]; rfl
    have hd : dec (NewOk []) = true := dec_pos (new_iff.1 (.inl rfl))
    have hn0 : nsort [] = [] := List.length_eq_zero_iff.1 (by rw [nsort_length]; rfl)
    have hgc : gcH H (H ++ T) (.tup [.slc none 0, .bool true]) = H := gcH_low (by simp [lowV])
    simp [code103, Tryz.f103, c1, c2, hgc, hd]
    rw [hn0]
    exact New.nil
  · obtain ⟨T', id, hT, g1, g2, rfl⟩ := hG
    have hT' := List.append_cancel_left hT
    subst hT'
    rw [List.length_map] at c1
    have hid : id < (H ++ T).length := (List.getElem?_eq_some_iff.1 g2).1
    obtain ⟨K, hK⟩ : ∃ K, K = (H ++ T).set id (.mk true 1 ((nsort l).map V.str)) := ⟨_, rfl⟩
    obtain ⟨S, hS⟩ : ∃ S, K = H ++ S := ⟨_, by rw [hK, List.set_append_right _ _ g1]⟩
    have hKg : K[id]? = some (.mk true 1 ((nsort l).map V.str)) := by rw [hK]; exact List.getElem?_set_self hid
    have hlen := nsort_length l
    have c2 : callW C 221 [.slc (some (id, 0)) l.length, .fn 222 [] []] (H ++ T) = some (.tup [], if l.length = 0 then H ++ T else K) := by
      rw [hP]
      by_cases h0 : l.length = 0
      · simp [sortFnPrim, h0]
      · have hst : strsOf (((l.map V.str).drop 0).take l.length) = some l := by rw [List.drop_zero, List.take_of_length_le (by simp)]; exact strsOf_map l
        have hsr : setRange (l.map V.str) 0 ((nsort l).map V.str) = (nsort l).map V.str := by
          simp [setRange, hlen]
        simp only [sortFnPrim, if_true, if_neg h0, g2]
        rw [if_pos ⟨trivial, by simp, hl⟩, hst]
        simp only [hsr, hK]
    have hnK : l ≠ [] → New H.length K.length K (.slice .str) [.slc (some (id, 0)) l.length] (.lst ((nsort l).map strU)) := fun _ => by
      have hgs : Gs H K (.slc (some (id, 0)) l.length) ((nsort l).map V.str) := ⟨S, id, hS, g1, hKg, by simp [hlen]⟩
      exact hgs.new (by rw [hlen]; unfold maxLen; omega) fun s hs => hmax s ((nsort_all l).1.subset hs)
    by_cases g : l = []
    · subst g
      have hn0 : nsort [] = [] := List.length_eq_zero_iff.1 (by rw [nsort_length]; rfl)
      have hd : dec (NewOk []) = true := dec_pos (new_iff.1 (.inl rfl))
      have hgc : gcH H (H ++ T) (.tup [.slc (some (id, 0)) 0, .bool true]) = H ++ T := gcH_not fun h => by
        obtain ⟨⟨own, es, cells, h⟩, _⟩ := h
        have := (List.getElem?_eq_some_iff.1 h).1
        omega
      simp at c1 c2
      simp [code103, Tryz.f103, c1, c2, hd, hgc]
      rw [hn0]
      have hgs : Gs H (H ++ T) (.slc (some (id, 0)) 0) ([].map V.str) := ⟨T, id, rfl, g1, g2, rfl⟩
      simpa using hgs.new (l := []) (by simp) (by simp)
    · have h0 : ¬ l.length = 0 := fun h => g (List.length_eq_zero_iff.1 h)
      rw [if_neg h0] at c2
      have hn := hnK g
      have hws : AStrs K (.slc (some (id, 0)) l.length) (nsort l) := hn.at
      have c3 := i_Attr (n := [97]) hws
      have hd : dec (NewOk l) = dec (NameOk [97] ∧ ValuesOk (nsort l)) := dec_iff ⟨fun h => ⟨aName, (new_iff.2 h).resolve_left g⟩, fun h => new_iff.1 (.inr h.2)⟩
      rw [← hd] at c3
      have hgc : ∀ b, gcH H K (.tup [.slc (some (id, 0)) l.length, .bool b]) = K := fun b => gcH_not fun h => by
        obtain ⟨⟨own, es, cells, h⟩, _⟩ := h
        have := (List.getElem?_eq_some_iff.1 h).1
        omega
      have h0' : ¬ (l.length : Int) = 0 := by omega
      simp [code103, Tryz.f103, c1, c2, c3, h0', g, buildV, structPlace, fillL, hgc]
      exact ⟨S, hS, by rw [← List.length_append, ← hS]; exact hn⟩
end Go.Proofs.Try1
end

section
namespace Go.Proofs.Try1
open Go Go.Lite
set_option linter.unusedSimpArgs false
set_option linter.unusedVariables false

theorem first_uniq {α : Type} {key : α → Str} {l : List α} {t : Str} {i : Nat} {a : α} (hp : l.Pairwise fun a b => key a < key b) (h : l[i]? = some a) (hk : key a = t) : firstOf key l t = some a := by
  unfold firstOf
  rw [List.find?_eq_some_iff_getElem]
  obtain ⟨hi, h⟩ := List.getElem?_eq_some_iff.1 h
  refine ⟨by simp [hk], i, hi, h, fun j hj => ?_⟩
  have := List.pairwise_iff_getElem.1 hp j i (by omega) hi hj
  rw [h, hk] at this
  have hne : key l[j] ≠ t := fun e => by rw [e] at this; exact List.lt_irrefl _ this
  simp [hne]
theorem first_none {α : Type} {key : α → Str} {l : List α} {t : Str} (h : ∀ a ∈ l, key a ≠ t) : firstOf key l t = none := by
  unfold firstOf
  rw [List.find?_eq_none]
  intro x hx
  simpa using h x hx

set_option maxRecDepth 10000 in
theorem i_find {H : List Ob} {ide : Nat} {own : Bool} {es : Nat} {vd va : V} {l : List PAttr} {t : Str} (he : H[ide]? = some (.mk own es [vd, va])) (h : AAttrs H va l) (hl : l.length ≤ 1000) (hp : l.Pairwise fun a b => a.name < b.name) :
    ∃ (i : Nat) (ok : Bool), callW C 226 [.ptr (some (ide, 0)), .str t] H = some (.tup [.int .i64 i, .bool ok], H) ∧
      (ok = true → ∃ a, l[i]? = some a ∧ a.name = t) ∧ (ok = false → ∀ a ∈ l, a.name ≠ t) := by
  obtain ⟨i, ok, c1, h1, h2⟩ := l_search (t := t) h hl hp
  refine ⟨i, ok, ?_, h1, h2⟩
  apply Ret.eq
  rw [op226]
  have ld := load1 (o := 1) (v := va) he rfl
  simp [code226, Tryz.f226, ld, c1]

set_option maxRecDepth 10000 in
theorem i_values {H : List Ob} {ide : Nat} {own : Bool} {es : Nat} {vd va : V} {l : List PAttr} {t : Str} (he : H[ide]? = some (.mk own es [vd, va])) (h : AAttrs H va l) (hl : l.length ≤ 1000) (hp : l.Pairwise fun a b => a.name < b.name) :
    ∃ w, callW C 154 [.ptr (some (ide, 0)), .str t] H = some (w, H) ∧ AStrs H w (valsOf l t) := by
  obtain ⟨i, ok, c1, h1, h2⟩ := i_find (t := t) he h hl hp
  suffices hs : Ret C 154 [.ptr (some (ide, 0)), .str t] H fun q H' => AStrs H q (valsOf l t) ∧ H' = H by
    obtain ⟨q, H', hc, hr, rfl⟩ := hs
    exact ⟨q, hc, hr⟩
  rw [op154]
  have ld := load1 (o := 1) (v := va) he rfl
  cases ok with
  | false =>
    have hv : valsOf l t = [] := by unfold valsOf; rw [first_none (h2 rfl)]
    simp [code154, Tryz.f154, c1, hv]
    exact At_slice.2 ⟨_, _, rfl, rfl, by simp, .inl ⟨rfl, rfl⟩⟩
  | true =>
    obtain ⟨a, ha, hat⟩ := h1 rfl
    obtain ⟨id, o, w, e1, l0, l1, _, hw, _⟩ := attrs_idx h ha
    have hv : valsOf l t = a.vals := by unfold valsOf; rw [first_uniq hp ha hat]
    simp [code154, Tryz.f154, c1, ld, e1, l1, hv]
    exact hw

theorem i_hasIt {H : List Ob} {ide idp : Nat} {own own' : Bool} {es es' : Nat} {vd va : V} {l : List PAttr} {t : Str} (he : H[ide]? = some (.mk own es [vd, va])) (hq : H[idp]? = some (.mk own' es' [.ptr (some (ide, 0))])) (h : AAttrs H va l) (hl : l.length ≤ 1000) (hp : l.Pairwise fun a b => a.name < b.name) :
    callW C 249 [.str t, .ptr (some (idp, 0))] H = some (.bool (decide (0 < (valsOf l t).length)), H) := by
  obtain ⟨w, c1, hw⟩ := i_values (t := t) he h hl hp
  apply Ret.eq
  rw [op249]
  have ld := load1 (o := 0) (v := .ptr (some (ide, 0))) hq rfl
  simp [code249, Tryz.f249, ld, c1, hw.len]

theorem i_named {H : List Ob} {idn : Nat} {own : Bool} {es : Nat} {n t : Str} {w1 w2 w3 : V} (hq : H[idn]? = some (.mk own es [.str t])) (h1 : cellsOf w1 = some [w1]) :
    callW C 251 [.agg [.str n, w1, w2, w3], .ptr (some (idn, 0))] H = some (.bool (decide (n = t)), H) := by
  apply Ret.eq
  rw [op251]
  have ld := load1 (o := 0) (v := .str t) hq rfl
  simp [code251, Tryz.f251, ld]

set_option maxRecDepth 10000 in
theorem l_idxClass {H : List Ob} {idn : Nat} {own : Bool} {es : Nat} {v : V} {l : List PClass} {t : Str} (hq : H[idn]? = some (.mk own es [.str t])) (h : AClasses H v l) :
    ∃ r : Int, callW C 250 [v, .fn 251 [] [.ptr (some (idn, 0))]] H = some (.int .i64 r, H) ∧ FirstAt PClass.name l t r := by
  suffices hs : Ret C 250 [v, .fn 251 [] [.ptr (some (idn, 0))]] H fun q H' => (∃ r : Int, q = .int .i64 r ∧ FirstAt PClass.name l t r) ∧ H' = H by
    obtain ⟨q, H', hc, ⟨r, rfl, hr⟩, rfl⟩ := hs
    exact ⟨r, hc, hr⟩
  rw [op250]
  have hb : l.length ≤ 9223372036854775807 := h.bound
  simp [code250, Tryz.f250, h.len]
  refine WP_loop (fun k σ => ∃ (i : Nat) (r : Nat → R), i + k = l.length ∧ σ = ⟨r, 0, H⟩ ∧ r 0 = .val v ∧ r 1 = .val (.fn 251 [] [.ptr (some (idn, 0))]) ∧ r 7 = .val (.int .i64 l.length) ∧ r 8 = .val (.int .i64 i) ∧ ∀ j x, j < i → l[j]? = some x → x.name ≠ t) ?_ l.length _ ⟨0, _, by simp, rfl, by simp, by simp, by simp, by simp, by simp⟩
  rintro k σ ⟨i, r, hik, rfl, r0, r1, r7, r8, hall⟩
  cases k with
  | zero =>
    have hi : i = l.length := by omega
    subst hi
    have hx := at_all (P := fun j (x : PClass) => x.name ≠ t) hall
    simp [r0, r1, r7, r8]
    exact .inr ⟨hx, rfl⟩
  | succ k =>
    have hi : i < l.length := by omega
    obtain ⟨x, hx⟩ : ∃ c, l[i]? = some c := ⟨l[i], by simp [hi]⟩
    have hw : IntKind.i64.wrap ((i : Int) + 1) = ((i : Int) + 1) := wrap_i64 (by omega) (by omega)
    obtain ⟨id, o, w1, w2, w3, e1, l0, l4, q1, q2, q3, _⟩ := classes_idx h hx
    have c1 := i_named (n := x.name) (w1 := w1) (w2 := w2) (w3 := w3) hq q1.one.2
    by_cases g1 : x.name = t
    · rw [decide_eq_true g1] at c1
      simp [r0, r1, r7, r8, hi, e1, l4, c1]
      exact .inl ⟨i, x, hx, g1, hall, rfl⟩
    · rw [decide_eq_false g1] at c1
      simp [r0, r1, r7, r8, hi, e1, l4, c1, hw]
      exact ⟨k, by omega, i + 1, by omega, by omega, at_step (P := fun j (x : PClass) => x.name ≠ t) hall hx g1⟩

theorem strs_low {H T : List Ob} {w : V} {l : List Str} (h : AStrs (H ++ T) w l) (hl : lowV H w) : AStrs H w l := by
  obtain ⟨w', us, hw, hu, hb, hs⟩ := At_slice.1 h.at
  cases hw
  cases hu
  refine At_slice.2 ⟨_, _, rfl, rfl, hb, ?_⟩
  rcases hs with h | ⟨id, off, own, cells, rfl, h2, h3, h4⟩
  · exact .inl h
  · obtain ⟨_, _, _, h5⟩ := hl
    have hid := (List.getElem?_eq_some_iff.1 h5).1
    rw [List.getElem?_append_left hid] at h2
    refine .inr ⟨id, off, own, cells, rfl, h2, h3, fun i x hx => ?_⟩
    have := h4 i x hx
    rw [At_str] at this ⊢
    exact this

/-- What is cut off does not matter to a class that is handed back. -/
theorem class_gc {H T : List Ob} {m : Option PClass} {cs : List V} {ok : Bool} (h : ClassRes (H ++ T) m cs ok) : ∃ T', gcH H (H ++ T) (.tup [.agg cs, .bool ok]) = H ++ T' ∧ ClassRes (H ++ T') m cs ok := by
  by_cases hl : lowV H (.tup [.agg cs, .bool ok])
  · refine ⟨[], by rw [gcH_low hl, List.append_nil], ?_⟩
    rw [List.append_nil]
    rcases h with ⟨rfl, c, w1, w2, w3, h1, rfl, h2, h3, h4⟩ | h
    · simp only [lowV, lowVs, and_true, true_and] at hl
      exact .inl ⟨rfl, c, w1, w2, w3, h1, rfl, strs_low h2 hl.1, strs_low h3 hl.2.1, strs_low h4 hl.2.2⟩
    · exact .inr h
  · refine ⟨T, ?_, h⟩
    unfold gcH
    rw [if_neg fun h => hl h.2]
end Go.Proofs.Try1
end

section
namespace Go.Proofs.Try1
open Go Go.Lite
set_option linter.unusedSimpArgs false
set_option linter.unusedVariables false

/-- An answer of a call's own. -/
def NOut (H : List Ob) (o : PEntryOut) (q : V) (H' : List Ob) : Prop := ∃ T w1 w2, q = .agg [w1, w2, .int .i64 o.code] ∧ H' = H ++ T ∧ New H.length (H ++ T).length (H ++ T) shEntryOut [w1, w2, .int .i64 o.code] o.u
theorem NOut.ill {H : List Ob} {c : Int} (h : (Lit.int .i64 c).wf = true) : NOut H (illE c) (.agg [.slc none 0, .slc none 0, .int .i64 c]) H :=
  ⟨[], .slc none 0, .slc none 0, rfl, by simp, New.st (News.cons (c1 := [.slc none 0, .slc none 0]) (m := H.length) (New.st (News.nilS (News.nilS News.nil))) (News.int h News.nil) (Nat.le_refl _) (by simp))⟩
theorem NOut.of {H G : List Ob} {e : PEntry} {w1 w2 : V} (hT : ∃ T, G = H ++ T) (hn : New H.length G.length G shEntry [w1, w2] e.u) : NOut H ⟨e, 0⟩ (.agg [w1, w2, .int .i64 0]) (gcH H G (.agg [w1, w2, .int .i64 0])) := by
  obtain ⟨T, rfl⟩ := hT
  have h2 : New H.length (H ++ T).length (H ++ T) shEntryOut [w1, w2, .int .i64 0] (PEntryOut.u ⟨e, 0⟩) := New.st (News.cons (c1 := [w1, w2]) (m := (H ++ T).length) hn (News.int (by decide) News.nil) (by simp) (Nat.le_refl _))
  obtain ⟨T', h3, h4⟩ := h2.gcA
  exact ⟨T', w1, w2, rfl, h3, h4⟩
/-- The same, of objects from a number on. -/
def NOutB (b : Nat) (H : List Ob) (o : PEntryOut) (q : V) (H' : List Ob) : Prop := ∃ T w1 w2, q = .agg [w1, w2, .int .i64 o.code] ∧ H' = H ++ T ∧ New b (H ++ T).length (H ++ T) shEntryOut [w1, w2, .int .i64 o.code] o.u
theorem NOutB.base {H : List Ob} {X : List Ob} {o : PEntryOut} {q : V} {H' : List Ob} (h : NOutB H.length (H ++ X) o q H') : NOut H o q (gcH H H' q) := by
  obtain ⟨T, w1, w2, rfl, rfl, h3⟩ := h
  rw [List.append_assoc] at h3 ⊢
  obtain ⟨T', h4, h5⟩ := h3.gcA
  exact ⟨T', w1, w2, rfl, h4, h5⟩
theorem NOutB.one {b : Nat} {H : List Ob} {o : PEntryOut} {q : V} {H' : List Ob} (h : NOutB b H o q H') : ∃ w1 w2, q = .agg [w1, w2, .int .i64 o.code] ∧ (isOne w1 = true ∧ cellsOf w1 = some [w1]) ∧ (isOne w2 = true ∧ cellsOf w2 = some [w2]) := by
  obtain ⟨T, w1, w2, rfl, rfl, h3⟩ := h
  obtain ⟨_, _, hcs, a1, a2, _⟩ := entryOut_at.1 h3.at
  cases hcs
  exact ⟨w1, w2, rfl, a1.one, a2.one⟩

/-- What a change leaves: a code, or the entry changed in its place. -/
def Chg (b : Nat) (H : List Ob) (ide : Nat) (G : List Ob) (o : PEntryOut) (code : Int) (G' : List Ob) : Prop :=
  code = o.code ∧ (∀ q, q < H.length → G'[q]? = G[q]?) ∧ G.length ≤ G'.length ∧ (code = 0 → ∃ d a F, G'[ide]? = some (.mk true 2 [d, a]) ∧ AtF G' shEntry [d, a] o.entry.u F ∧ F.Nodup ∧ (∀ q ∈ F, b ≤ q) ∧ ¬ lowV H d)

theorem keep_pre {H G : List Ob} (h : ∀ q, q < H.length → G[q]? = H[q]?) (hl : H.length ≤ G.length) : ∃ T, G = H ++ T := by
  refine ⟨G.drop H.length, List.ext_getElem? fun i => ?_⟩
  by_cases hi : i < H.length
  · rw [List.getElem?_append_left hi, h i hi]
  · rw [List.getElem?_append_right (by omega), List.getElem?_drop]
    congr 1
    omega

set_option maxRecDepth 10000 in
set_option maxHeartbeats 4000000 in
theorem i_changed {bd : Nat} {H : List Ob} {vd va : V} {e : PEntry} {g : Nat} {b : List V} {o : PEntryOut} (hd : ARdns H vd e.dn) (ha : AAttrs H va e.attrs) (hb : SmallE e) (hill : o.code ≠ 0 → o = illE o.code) (hwf : (Lit.int .i64 o.code).wf = true) (hbd0 : bd ≤ H.length)
    (hcall : ∀ K d a, (∃ T, K = H ++ T) → New H.length K.length K shEntry [d, a] e.u → ∃ code G', callW C g ([.ptr (some (K.length, 0))] ++ b) (K ++ [.mk true 2 [d, a]]) = some (.int .i64 code, G') ∧ Chg bd H K.length (K ++ [.mk true 2 [d, a]]) o code G') :
    ∃ q H', callW C 106 [.agg [vd, va], .fn g [] b] H = some (q, H') ∧ NOutB bd H o q H' := by
  suffices hs : Ret C 106 [.agg [vd, va], .fn g [] b] H fun q H' => NOutB bd H o q H' by
    obtain ⟨q, H', hc, hr⟩ := hs
    exact ⟨q, H', hc, hr⟩
  rw [op106]
  have hod := hd.one
  have hoa := ha.one
  obtain ⟨T1, d, a, c1, n1⟩ := i_copied hd ha hb
  obtain ⟨K, hK⟩ : ∃ K, K = H ++ T1 := ⟨_, rfl⟩
  rw [← hK] at c1 n1
  obtain ⟨_, _, hcs, hd1, ha1⟩ := entry_at.1 n1.at
  cases hcs
  have hoD := hd1.one
  have hoA := ha1.one
  obtain ⟨code, G', c2, rfl, hfr, hlen, hok⟩ := hcall K d a ⟨T1, hK⟩ n1
  have hpre : ∃ T, G' = H ++ T := keep_pre (fun q hq => by rw [hfr q hq, hK, List.append_assoc, List.getElem?_append_left hq]) (by rw [hK] at hlen; simp at hlen; omega)
  have st := storeN (H := K ++ [.mk true 2 [.slc none 0, .slc none 0]]) (o := 0) (l := [d, a]) get_last (by simp) (by simp) (by simp [hoD, hoA])
  simp at st
  by_cases g0 : o.code = 0
  · obtain ⟨d', a', F, k1, k2, k3, k4, k5⟩ := hok g0
    have hn : New bd G'.length G' shEntry [d', a'] o.entry.u := ⟨F, k2, k3, fun q hq => ⟨k4 q hq, AtF.mem _ k2 q hq⟩⟩
    obtain ⟨_, _, hcs, hd2, ha2⟩ := entry_at.1 hn.at
    cases hcs
    have hoD' := hd2.one
    have hoA' := ha2.one
    have ld := loadN (o := 0) (n := 2) k1 (by simp) (by decide) rfl
    simp at ld
    have hgc : gcH H G' (.agg [d', a', .int .i64 0]) = G' := gcH_not fun h => k5 h.1
    have hfin : NOutB bd H ⟨o.entry, 0⟩ (.agg [d', a', .int .i64 0]) G' := by
      obtain ⟨T, hT⟩ := hpre
      have hle : bd ≤ G'.length := by rw [hT]; simp; omega
      have h2 : New bd G'.length G' shEntryOut [d', a', .int .i64 0] (PEntryOut.u ⟨o.entry, 0⟩) := New.st (News.cons (c1 := [d', a']) (m := G'.length) hn (News.int (by decide) News.nil) hle (Nat.le_refl _))
      exact ⟨T, d', a', rfl, hT, by rw [← hT]; exact h2⟩
    obtain ⟨oe, oc⟩ := o
    simp only at g0 c2 hfin
    subst g0
    simp at c2
    simp [code106, Tryz.f106, c1, c2, hod, hoa, hoD, hoA, hoD', hoA', strideOf, st, ld, buildV, structPlace, fillL, hgc]
    exact hfin
  · have hgc : gcH H G' (.agg [.slc none 0, .slc none 0, .int .i64 o.code]) = H := by
      obtain ⟨T, rfl⟩ := hpre
      exact gcH_low (by simp [lowV, lowVs])
    have hfin : NOutB bd H o (.agg [.slc none 0, .slc none 0, .int .i64 o.code]) H := by
      refine ⟨[], .slc none 0, .slc none 0, rfl, by simp, ?_⟩
      have hn : New bd (H ++ []).length (H ++ []) shEntryOut [.slc none 0, .slc none 0, .int .i64 o.code] (illE o.code).u := New.st (News.cons (c1 := [.slc none 0, .slc none 0]) (m := bd) (New.st (News.nilS (News.nilS News.nil))) (News.int hwf News.nil) (Nat.le_refl _) (by simpa using hbd0))
      rw [← hill g0] at hn
      exact hn
    simp at c2
    simp [code106, Tryz.f106, c1, c2, hod, hoa, hoD, hoA, strideOf, st, g0, buildV, structPlace, fillL, hgc]
    exact hfin

set_option maxRecDepth 10000 in
set_option maxHeartbeats 4000000 in
theorem i_replace {G : List Ob} {ide : Nat} {vd va vv : V} {l : List PAttr} {n : Str} {vs : List Str} {F Fv : List Nat} (he : G[ide]? = some (.mk true 2 [vd, va])) (hA : AtF G (.slice shAttr) [va] (.lst (l.map PAttr.u)) F) (hn : F.Nodup) (hide : ide ∉ F) (hl : l.length ≤ 1000) (hp : l.Pairwise fun a b => a.name < b.name) (hnm : n.length ≤ maxLen)
    (hV : AtF G (.slice .str) [vv] (.lst (vs.map strU)) Fv) (hVn : Fv.Nodup) (hVF : ∀ q ∈ Fv, q ∉ F ∧ q ≠ ide) :
    ∃ code G', callW C 108 [.ptr (some (ide, 0)), .str n, vv] G = some (.int .i64 code, G') ∧ code = (if vs ≠ [] ∧ l.length = 8 ∧ firstOf PAttr.name l n = none then 9 else 0) ∧ (code ≠ 0 → G' = G) ∧ (code = 0 → ∃ va' F', G'[ide]? = some (.mk true 2 [vd, va']) ∧ AtF G' (.slice shAttr) [va'] (.lst ((putAttr l n vs).map PAttr.u)) F' ∧ F'.Nodup ∧ ide ∉ F' ∧
      (∀ q ∈ F', q ∈ F ∨ q ∈ Fv ∨ G.length ≤ q) ∧ (∀ q, q < G.length → q ∉ F → q ≠ ide → G'[q]? = G[q]?) ∧ G.length ≤ G'.length ∧ ∀ r, gcH G G' r = G') := by
  suffices hs : Ret C 108 [.ptr (some (ide, 0)), .str n, vv] G fun q G' => ∃ code, q = .int .i64 code ∧ code = (if vs ≠ [] ∧ l.length = 8 ∧ firstOf PAttr.name l n = none then 9 else 0) ∧ (code ≠ 0 → G' = G) ∧ (code = 0 → ∃ va' F', G'[ide]? = some (.mk true 2 [vd, va']) ∧ AtF G' (.slice shAttr) [va'] (.lst ((putAttr l n vs).map PAttr.u)) F' ∧ F'.Nodup ∧ ide ∉ F' ∧
      (∀ q ∈ F', q ∈ F ∨ q ∈ Fv ∨ G.length ≤ q) ∧ (∀ q, q < G.length → q ∉ F → q ≠ ide → G'[q]? = G[q]?) ∧ G.length ≤ G'.length ∧ ∀ r, gcH G G' r = G') by
    obtain ⟨q, G', hc, code, rfl, hr⟩ := hs
    exact ⟨code, G', hc, hr⟩
  rw [op108]
  have ha : AAttrs G va l := AtF.at _ hA
  have hvS : AStrs G vv vs := AtF.at _ hV
  obtain ⟨i, ok, c1, hil, h1, h2, hok⟩ := i_findS (t := n) he ha hl hp
  have ld := load1 (o := 1) (v := va) he rfl
  have hfo : ok = false ↔ firstOf PAttr.name l n = none := by
    cases ok with
    | true =>
      obtain ⟨a, ha1, ha2⟩ := hok.1 rfl
      rw [first_uniq hp ha1 ha2]
      simp
    | false =>
      refine ⟨fun _ => first_none fun a ha1 ha2 => ?_, fun _ => rfl⟩
      obtain ⟨q, hq, rfl⟩ := List.getElem_of_mem ha1
      have hqe := List.getElem?_eq_getElem hq
      rcases Nat.lt_trichotomy q i with hh | hh | hh
      · exact LtS_irrefl n (by have := h1 q _ hh hqe; rwa [ha2] at this)
      · subst hh
        have := hok.2 ⟨_, hqe, ha2⟩
        cases this
      · have h3 := List.pairwise_iff_getElem.1 hp i q (by omega) hq hh
        rw [ha2] at h3
        exact h2 i _ (Nat.le_refl _) (List.getElem?_eq_getElem (by omega)) ((LtS_iff _ _).2 h3)
  obtain ⟨G', va', F', c2, hrest⟩ := i_set he hA hn hide hl hp hnm hV hVn hVF
  have hgc := hrest.2.2.2.2.2.2.2
  by_cases g : vs ≠ [] ∧ l.length = 8 ∧ firstOf PAttr.name l n = none
  · have hz : 0 < vs.length := List.length_pos_iff.2 g.1
    have hok0 := hfo.2 g.2.2
    subst hok0
    have h8 : (l.length : Int) = 8 := by omega
    rw [if_pos g]
    simp [code108, Tryz.f108, c1, hvS.len, ha.len, hz, ld, h8, gcH_same]
  · rw [if_neg g]
    have fin : ∃ va' F', G'[ide]? = some (.mk true 2 [vd, va']) ∧ AtF G' (.slice shAttr) [va'] (.lst ((putAttr l n vs).map PAttr.u)) F' ∧ F'.Nodup ∧ ide ∉ F' ∧ (∀ q ∈ F', q ∈ F ∨ q ∈ Fv ∨ G.length ≤ q) ∧ (∀ q, q < G.length → q ∉ F → q ≠ ide → G'[q]? = G[q]?) ∧ G.length ≤ G'.length ∧ ∀ r, gcH G G' r = G' := ⟨va', F', hrest⟩
    by_cases gv : vs = []
    · subst gv
      cases ok <;>
      · simp [code108, Tryz.f108, c1, c2, hvS.len, ha.len, ld, hgc]
        simpa [hgc] using fin
    · have hz : 0 < vs.length := List.length_pos_iff.2 gv
      cases ok with
      | true =>
        simp [code108, Tryz.f108, c1, c2, hvS.len, ha.len, hz, ld, hgc]
        simpa [hgc] using fin
      | false =>
        have h8 : ¬ (l.length : Int) = 8 := fun h => g ⟨gv, by omega, hfo.1 rfl⟩
        simp [code108, Tryz.f108, c1, c2, hvS.len, ha.len, hz, ld, h8, hgc]
        simpa [hgc] using fin
end Go.Proofs.Try1
end

section
namespace Go.Proofs.Try1
open Go Go.Lite
set_option linter.unusedSimpArgs false
set_option linter.unusedVariables false

theorem putOf_ill {e : PEntry} {n : Str} {vs : List Str} (h : (putOf e n vs).code ≠ 0) : putOf e n vs = illE (putOf e n vs).code := by
  unfold putOf at h ⊢
  split
  · rfl
  · rename_i g
    rw [if_neg g] at h
    exact absurd rfl h
theorem putOf_wf {e : PEntry} {n : Str} {vs : List Str} : (Lit.int .i64 (putOf e n vs).code).wf = true := by
  unfold putOf
  split
  · exact wf_code (n := 9) (by decide) (by decide)
  · exact wf_code (n := 0) (by decide) (by decide)

set_option maxRecDepth 10000 in
theorem i_setFn {G : List Ob} {ide idn ido : Nat} {vv : V} {n : Str} {own own' : Bool} {es es' : Nat} (hn : G[idn]? = some (.mk own es [.str n])) (ho : G[ido]? = some (.mk own' es' [vv])) {code : Int} {G' : List Ob}
    (hc : callW C 108 [.ptr (some (ide, 0)), .str n, vv] G = some (.int .i64 code, G')) (hgc : gcH G G' (.int .i64 code) = G') :
    callW C 107 [.ptr (some (ide, 0)), .ptr (some (idn, 0)), .ptr (some (ido, 0))] G = some (.int .i64 code, G') := by
  suffices hs : Ret C 107 [.ptr (some (ide, 0)), .ptr (some (idn, 0)), .ptr (some (ido, 0))] G fun r H' => r = .int .i64 code ∧ H' = G' by
    obtain ⟨r, H', h, rfl, rfl⟩ := hs
    exact h
  rw [op107]
  have l1 := load1 (o := 0) (v := .str n) hn rfl
  have l2 := load1 (o := 0) (v := vv) ho rfl
  simp [-gcH_int, code107, Tryz.f107, l1, l2, hc, hgc]

set_option maxRecDepth 10000 in
set_option maxHeartbeats 4000000 in
theorem i_AttrSet {H : List Ob} {vd va vv : V} {e : PEntry} {n : Str} {vs : List Str} (hd : ARdns H vd e.dn) (ha : AAttrs H va e.attrs) (hn : n.length ≤ maxLen) (hv : AStrs H vv vs) :
    ∃ q H', callW C 20 [.agg [vd, va], .str n, vv] H = some (q, H') ∧ NOut H (attrSetOf e n vs) q H' := by
  suffices hs : Ret C 20 [.agg [vd, va], .str n, vv] H fun q H' => NOut H (attrSetOf e n vs) q H' by
    obtain ⟨q, H', hc, hr⟩ := hs
    exact ⟨q, H', hc, hr⟩
  rw [op20]
  have hod := hd.one
  have hoa := ha.one
  have hil : ∀ (X : List Ob) c, gcH H (H ++ X) (.agg [.slc none 0, .slc none 0, .int .i64 c]) = H := fun X c => gcH_low (by simp [lowV, lowVs])
  -- the name in memory, and in the list for isLong
  obtain ⟨X, hX⟩ : ∃ X, X = H ++ [.mk true 1 [.str n]] := ⟨_, rfl⟩
  have hXn : X[H.length]? = some (.mk true 1 [.str n]) := by rw [hX]; exact get_last
  have ln := load1 (o := 0) (v := .str n) hXn rfl
  have hone : AStrs (X ++ [.mk true 1 [.str n]]) (.slc (some (X.length, 0)) 1) [n] := At_slice.2 ⟨_, _, rfl, rfl, by simp [maxLen], .inr ⟨X.length, 0, true, [.str n], rfl, get_last, by simp, fun i x hx => by
    have hi : i = 0 := by have := (List.getElem?_eq_some_iff.1 hx).1; simpa using this
    subst hi
    cases hx
    exact At_str.2 ⟨n, rfl, rfl, hn⟩⟩⟩
  obtain ⟨Y, hY⟩ : ∃ Y, Y = X ++ [.mk true 1 [.str n]] := ⟨_, rfl⟩
  rw [← hY] at hone
  have hYH : Y = H ++ [.mk true 1 [.str n], .mk true 1 [.str n]] := by rw [hY, hX]; simp
  have c1 := i_Long hone
  have c2 : callW C 102 [vv] Y = some (.bool (decide (400 < vs.length)), Y) := i_ManyS (by rw [hYH]; exact hv.ext)
  by_cases g1 : 8000 < n.length ∨ 400 < vs.length
  · have ho : attrSetOf e n vs = illE 2 := if_pos g1
    rw [ho]
    have fin := NOut.ill (H := H) (c := 2) (by decide)
    by_cases g2 : 8000 < n.length
    · rw [dec_pos ⟨n, by simp, g2⟩] at c1
      subst hY hX
      simp at c1 ln
      simp [code20, Tryz.f20, strideOf, hod, hoa, ln, c1, elemT, fillL, zerosL, St.new, buildV, structPlace, hil]
      exact fin
    · rw [dec_neg (by simpa using g2)] at c1
      have g3 : 400 < vs.length := by omega
      subst hY hX
      simp [g3] at c1 c2 ln
      simp [code20, Tryz.f20, strideOf, hod, hoa, ln, c1, c2, elemT, fillL, zerosL, St.new, buildV, structPlace, hil]
      exact fin
  · have g2 : ¬ 8000 < n.length := by omega
    have g3 : ¬ 400 < vs.length := by omega
    rw [dec_neg (by simpa using g2)] at c1
    have ho0 : attrSetOf e n vs = if dec (EntryOk e ∧ NameOk n ∧ NewOk vs) = true then putOf e n vs else illE 1 := if_neg g1
    obtain ⟨T1, w, c3, n3⟩ := i_sorted (H := Y) (v := vv) (l := vs) (by rw [hYH]; exact hv.ext) (by omega)
    obtain ⟨Z, hZ⟩ : ∃ Z, Z = Y ++ T1 := ⟨_, rfl⟩
    rw [← hZ] at c3 n3
    have how := New.one1 n3
    obtain ⟨K, hK⟩ : ∃ K, K = Z ++ [.mk true 1 [w]] := ⟨_, rfl⟩
    have hKH : ∃ S, K = H ++ S := ⟨_, by rw [hK, hZ, hYH, List.append_assoc, List.append_assoc]⟩
    obtain ⟨S, hS⟩ := hKH
    have hdK : ARdns K vd e.dn := by rw [hS]; exact hd.ext
    have haK : AAttrs K va e.attrs := by rw [hS]; exact ha.ext
    have c4 := i_Entry hdK haK
    have c5 := i_Name (t := n) (H := K)
    have hKn : K[H.length]? = some (.mk true 1 [.str n]) := by
      rw [hK, hZ, hY, List.append_assoc, List.append_assoc]
      exact up_append _ _ hXn
    have lnK := load1 (o := 0) (v := .str n) hKn rfl
    have hZl : Z.length < K.length := by rw [hK]; simp
    have hKo : K[Z.length]? = some (.mk true 1 [w]) := by rw [hK]; exact get_last
    have hsY : ∀ A B : List Ob, (H ++ A) ++ B = H ++ (A ++ B) := fun A B => List.append_assoc _ _ _
    have stw : ∀ r c, storeAt ⟨.slice 9, 1, 24, [.slc none 0]⟩ ⟨r, c, Z ++ [.mk true 1 [.slc none 0]]⟩ (.hp Z.length 0) w = some ⟨r, c, K⟩ := fun r c => by
      have := store1 (H := Z ++ [.mk true 1 [.slc none 0]]) (o := 0) (v := w) get_last (by simp) how.2 how.1 ⟨.slice 9, 1, 24, [.slc none 0]⟩ one_slice r c
      rw [this, set_last, hK]
      rfl
    have hilK : ∀ c, gcH H K (.agg [.slc none 0, .slc none 0, .int .i64 c]) = H := fun c => by rw [hS]; exact hil _ _
    have hill : ¬ (EntryOk e ∧ NameOk n ∧ NewOk vs) → attrSetOf e n vs = illE 1 := fun h => by rw [ho0, dec_neg h]; rfl
    have fin1 := NOut.ill (H := H) (c := 1) (by decide)
    simp [g3] at c2
    by_cases h3 : NewOk vs
    rotate_left
    · rw [dec_neg h3] at c3
      rw [hill fun h => h3 h.2.2]
      subst hY hX
      simp at c1 c2 c3 ln
      simp [code20, Tryz.f20, strideOf, hod, hoa, how, ln, c1, c2, c3, elemT, fillL, zerosL, St.new, buildV, structPlace, stw, hilK]
      exact fin1
    rw [dec_pos h3] at c3
    by_cases h1 : EntryOk e
    rotate_left
    · rw [dec_neg h1] at c4
      rw [hill fun h => h1 h.1]
      subst hY hX
      simp at c1 c2 c3 ln
      simp [code20, Tryz.f20, strideOf, hod, hoa, how, ln, c1, c2, c3, c4, elemT, fillL, zerosL, St.new, buildV, structPlace, stw, hilK]
      exact fin1
    rw [dec_pos h1] at c4
    by_cases h2 : NameOk n
    rotate_left
    · rw [dec_neg h2] at c5
      rw [hill fun h => h2 h.2.1]
      subst hY hX
      simp at c1 c2 c3 ln
      simp [code20, Tryz.f20, strideOf, hod, hoa, how, ln, lnK, c1, c2, c3, c4, c5, elemT, fillL, zerosL, St.new, buildV, structPlace, stw, hilK]
      exact fin1
    rw [dec_pos h2] at c5
    have ho : attrSetOf e n vs = putOf e n vs := by rw [ho0, dec_pos ⟨h1, h2, h3⟩]; rfl
    rw [ho]
    have hsv : nsort vs = sortV vs := nsort_eq (new_apart.1 h3).2.1
    rw [hsv] at n3
    have hal : e.attrs.length ≤ 8 := h1.2.2.2
    have hHK : H.length ≤ K.length := by rw [hS]; simp
    obtain ⟨q, H', c6, hq⟩ := i_changed (bd := H.length) (H := K) (g := 107) (b := [.ptr (some (H.length, 0)), .ptr (some (Z.length, 0))]) (o := putOf e n vs) hdK haK (EntryOk.small h1) putOf_ill putOf_wf (by rw [hS]; simp) (fun M d a ⟨R, hR⟩ hnew => by
      obtain ⟨F, f1, f2, f3⟩ := hnew
      have f1' : AtF (M ++ [.mk true 2 [d, a]]) shEntry [d, a] e.u F := f1.ext
      obtain ⟨us, hus, f4⟩ := AtF_st.1 f1'
      cases hus
      obtain ⟨c1', c2', u1, us1, F1, F2, hcs, hu, rfl, f5, f6⟩ := AtsF_cons.1 f4
      cases hu
      obtain ⟨c3', c4', u2, us2, F3, F4, rfl, hu, rfl, f7, f8⟩ := AtsF_cons.1 f6
      cases hu
      obtain ⟨rfl, _, rfl⟩ := AtsF_nil.1 f8
      obtain ⟨x1, _, rfl, _⟩ := AtF_slice.1 f5
      obtain ⟨x2, _, rfl, _⟩ := AtF_slice.1 f7
      simp only [List.append_nil, List.cons_append, List.nil_append, List.cons.injEq, and_true] at hcs
      obtain ⟨rfl, rfl⟩ := hcs
      rw [List.append_nil] at f2 f3
      obtain ⟨fa, fb, fc⟩ := List.nodup_append.1 f2
      obtain ⟨Fv, v1, v2, v3⟩ := n3
      have hFv : ∀ q ∈ Fv, q < Z.length := fun q hq => (v3 q hq).2
      have hMZ : Z.length ≤ M.length := by rw [hR, hK]; simp
      have hvM : AtF (M ++ [.mk true 2 [d, a]]) (.slice .str) [w] (.lst ((sortV vs).map strU)) Fv := by
        have : M ++ [.mk true 2 [d, a]] = Z ++ ([.mk true 1 [w]] ++ R ++ [.mk true 2 [d, a]]) := by rw [hR, hK]; simp
        rw [this]
        exact v1.ext
      have hKM : K.length ≤ M.length := by rw [hR]; simp
      obtain ⟨code, G', k1, k2, k3, k4⟩ := i_replace (ide := M.length) (vd := d) (va := a) (vv := w) (l := e.attrs) (n := n) (vs := sortV vs) get_last f7 (by simpa using fb) (fun hm => by have := AtF.mem _ f1 M.length (List.mem_append_right _ (by simpa using hm)); omega) (by omega) (EntryOk.rise h1) hn hvM v2 (fun q hq => ⟨fun hm => by
        have e1 := hFv q hq
        have e2 := (f3 q (List.mem_append_right _ hm)).1
        omega, by have := hFv q hq; omega⟩)
      have hsn : ∀ (i : Nat) o, K[i]? = some o → (M ++ [.mk true 2 [d, a]])[i]? = some o := fun i o h => by rw [hR, List.append_assoc]; exact up_append _ _ h
      have hcode : code = (putOf e n vs).code := by
        rw [k2]
        unfold putOf
        have hz : sortV vs = [] ↔ vs = [] := by rw [← List.length_eq_zero_iff, sortV_len, List.length_eq_zero_iff]
        have hzz : (sortV vs ≠ [] ∧ e.attrs.length = 8 ∧ firstOf PAttr.name e.attrs n = none) ↔ (vs ≠ [] ∧ 8 ≤ e.attrs.length ∧ firstOf PAttr.name e.attrs n = none) := by
          rw [Ne, hz]
          exact ⟨fun h => ⟨h.1, by omega, h.2.2⟩, fun h => ⟨h.1, by omega, h.2.2⟩⟩
        by_cases gg : vs ≠ [] ∧ 8 ≤ e.attrs.length ∧ firstOf PAttr.name e.attrs n = none
        · rw [if_pos gg, if_pos (hzz.2 gg)]; rfl
        · rw [if_neg gg, if_neg fun h => gg (hzz.1 h)]
      by_cases g0 : code = 0
      · obtain ⟨va', F', m1, m2, m3, m4, m5, m6, m7, m8⟩ := k4 g0
        refine ⟨code, G', i_setFn (hsn _ _ hKn) (hsn _ _ hKo) k1 (m8 _), hcode, fun q hq => ?_, m7, fun _ => ?_⟩
        · refine m6 q (by simp; omega) (fun hm => ?_) (by omega)
          have := (f3 q (List.mem_append_right _ hm)).1
          omega
        · have hpe : (putOf e n vs).entry = setE e n (sortV vs) := by
            rw [hcode] at g0
            unfold putOf at g0 ⊢
            split
            · rename_i gg; rw [if_pos gg] at g0; cases g0
            · rfl
          have hx1 : AtF G' (.slice shRdn) [d] (.lst (e.dn.map PRdn.u)) F1 := AtF.frame _ (fun q hq => m6 q (AtF.mem _ f5 q hq) (fun hm => fc q hq q (by simpa using hm) rfl) (fun e' => by
            have := AtF.mem _ f1 q (List.mem_append_left _ hq)
            omega)) f5
          have hnl : ¬ lowV K d := fun hlow => by
            rcases AtF_slice.1 f5 with ⟨_, us, hd1, hu1, _, ⟨_, hnil, _⟩ | ⟨id, off, cells, Fs, hv1, _, _, _, hF1, _⟩⟩
            · cases hu1
              have := h1.1
              have h0 : e.dn = [] := by simpa using hnil
              rw [h0] at this
              simp at this
            · cases hd1
              subst hv1 hF1
              obtain ⟨own, es, cells, hlow⟩ := hlow
              have e1 := (List.getElem?_eq_some_iff.1 hlow).1
              have e2 := (f3 id (by simp)).1
              omega
          refine ⟨d, va', F1 ++ F', m1, ?_, List.nodup_append.2 ⟨fa, m3, fun x hx y hy e' => ?_⟩, fun q hq => ?_, hnl⟩
          · rw [hpe]
            exact AtF_st.2 ⟨_, rfl, AtsF_cons.2 ⟨[d], [va'], _, _, F1, F', rfl, rfl, rfl, hx1, AtsF_cons.2 ⟨[va'], [], _, _, F', [], rfl, rfl, by simp, m2, AtsF_nil.2 ⟨rfl, rfl, rfl⟩⟩⟩⟩
          · subst e'
            rcases m5 x hy with h | h | h
            · exact fc x hx x (by simpa using h) rfl
            · have e1 := hFv x h
              have e2 := (f3 x (List.mem_append_left _ hx)).1
              omega
            · have := AtF.mem _ f1 x (List.mem_append_left _ hx)
              simp at h
              omega
          · rcases List.mem_append.1 hq with hq | hq
            · have := (f3 q (List.mem_append_left _ hq)).1; omega
            · rcases m5 q hq with h | h | h
              · have := (f3 q (List.mem_append_right _ (by simpa using h))).1; omega
              · have := (v3 q h).1; rw [hYH] at this; simp at this; omega
              · simp at h; omega
      · have hG := k3 g0
        subst hG
        exact ⟨code, _, i_setFn (hsn _ _ hKn) (hsn _ _ hKo) k1 gcH_same, hcode, fun _ _ => rfl, Nat.le_refl _, fun h => absurd h g0⟩)
    subst hY hX
    simp at c1 c2 c3 ln
    obtain ⟨w1, w2, rfl, ho1, ho2⟩ := hq.one
    have hfin := NOutB.base (by rw [← hS]; exact hq : NOutB H.length (H ++ S) _ _ _)
    simp [code20, Tryz.f20, strideOf, hod, hoa, how, ho1, ho2, ln, lnK, c1, c2, c3, c4, c5, c6, elemT, fillL, zerosL, St.new, buildV, structPlace, stw]
    exact hfin
end Go.Proofs.Try1
end

section
namespace Go.Proofs.Try1
open Go Go.Lite
set_option linter.unusedSimpArgs false
set_option linter.unusedVariables false

theorem cntPs_map {α : Type} {f : α → U} {l : List α} {k : Nat} (h : ∀ x ∈ l, cntP (f x) ≤ k) : cntPs (l.map f) ≤ l.length * k := by
  induction l with
  | nil => simp [cntPs]
  | cons x l ih =>
    have h1 := h x List.mem_cons_self
    have h2 := ih fun y hy => h y (List.mem_cons_of_mem _ hy)
    simp only [List.map_cons, cntPs, List.length_cons, Nat.add_mul]
    omega

theorem cnt_attrSet {e : PEntry} {n : Str} {vs : List Str} : cntV (attrSetOf e n vs).u ≤ 1000000 := by
  have ill : ∀ c, cntV (illE c).u ≤ 1000000 := fun c => by simp [illE, PEntryOut.u, PEntry.u, cntV, cntVs, cntPs]
  unfold attrSetOf
  split
  · exact ill 2
  split
  case isFalse => exact ill 1
  rename_i hok
  obtain ⟨⟨_, hd, ha⟩, _, hv⟩ := dec_true.1 hok
  unfold putOf
  split
  · exact ill 9
  have hrd : ∀ x : PRdn, cntP x.u ≤ 2 := fun x => by simp [PRdn.u, cntP, cntPs]
  have hat : ∀ a : PAttr, a.vals.length ≤ 4 → cntP a.u ≤ 5 := fun a h => by
    have := cntPs_map (f := strU) (l := a.vals) (k := 1) fun x _ => by simp [strU, cntP]
    simp only [PAttr.u, cntP, cntPs]
    omega
  have h1 := cntPs_map (l := e.dn) fun x _ => hrd x
  have hold : ∀ a ∈ e.attrs, cntP a.u ≤ 5 := fun a h => by
    obtain ⟨j, hj, rfl⟩ := List.getElem_of_mem h
    exact hat _ (ha.1 j _ (List.getElem?_eq_getElem hj)).2.2.2.2
  have hnew : cntP (⟨n, sortV vs⟩ : PAttr).u ≤ 5 := hat _ (by
    have := (foldl_insN_perm vs []).length_eq
    simp only [sortV]
    simp at this
    have := hv.2
    omega)
  have h2 : cntPs ((putAttr e.attrs n (sortV vs)).map PAttr.u) ≤ (putAttr e.attrs n (sortV vs)).length * 5 := cntPs_map fun a h => by
    unfold putAttr at h
    simp only [List.mem_append, List.mem_filter] at h
    rcases h with (h | h) | h
    · exact hold a h.1
    · split at h
      · simp at h
      · obtain rfl : a = ⟨n, sortV vs⟩ := by simpa using h
        exact hnew
    · exact hold a h.1
  have h3 : (putAttr e.attrs n (sortV vs)).length ≤ 17 := by
    unfold putAttr
    have g1 := List.length_filter_le (fun a : PAttr => dec (LtS a.name n)) e.attrs
    have g2 := List.length_filter_le (fun a : PAttr => dec (LtS n a.name)) e.attrs
    have := ha.2
    simp only [List.length_append]
    split <;> simp <;> omega
  have := hd.2
  simp only [PEntryOut.u, PEntry.u, setE, cntV, cntVs]
  omega

/-- The law: for all arguments the call says 'true'. -/
theorem lawAttrSet {H : List Ob} {vs : List V} {xs : List D} (h : IsArgs H [shEntry, .str, .slice .str] vs xs) : ∃ H', callW C 3 vs H = some (.bool true, H') := by
  rcases vs with _ | ⟨v1, _ | ⟨v2, _ | ⟨v3, _ | ⟨v4, vs⟩⟩⟩⟩ <;> rcases xs with _ | ⟨d1, _ | ⟨d2, _ | ⟨d3, _ | ⟨d4, xs⟩⟩⟩⟩ <;> first | (exfalso; simp [IsArgs] at h; done) | skip
  obtain ⟨⟨cs1, e1, l1, i1⟩, ⟨cs2, e2, l2, i2⟩, ⟨cs3, e3, l3, i3⟩, _⟩ := h
  subst e1; subst e2; subst e3
  have h1 := Is.at _ i1
  obtain ⟨e, he⟩ := entry_typed h1
  rw [he] at h1
  obtain ⟨s, rfl, _, hs⟩ := At_str.1 (Is.at _ i2)
  have h3 := Is.at _ i3
  obtain ⟨v, l, rfl, hl, _⟩ := strs_typed h3
  rw [hl] at h3
  have key := ret_FnExactAttrSet (s1 := s) (uR := (attrSetOf e s l).u) h1 h3
    (fun G x0 x2 a0 a2 => by
      obtain ⟨w1, w2, rfl, b1, b2⟩ := entry_at.1 a0
      obtain ⟨y, rfl⟩ := list1 (At.len _ a2 : _ = 1)
      obtain ⟨q, G', hc, T, y1, y2, rfl, rfl, hat, _⟩ := s_AttrSet b1 b2 (n := s) hs a2
      exact ⟨_, [y1, y2, .int .i64 (attrSetOf e s l).code], hc, .app, hat⟩)
    (fun G x0 x2 a0 a2 => by
      obtain ⟨w1, w2, rfl, b1, b2⟩ := entry_at.1 a0
      obtain ⟨y, rfl⟩ := list1 (At.len _ a2 : _ = 1)
      obtain ⟨q, G', hc, T, y1, y2, rfl, rfl, hat⟩ := i_AttrSet b1 b2 (n := s) hs a2
      exact ⟨_, [y1, y2, .int .i64 (attrSetOf e s l).code], hc, .app, hat⟩)
    (by have := cnt_attrSet (e := e) (n := s) (vs := l); omega)
  obtain ⟨r, H', hc, rfl⟩ := key
  exact ⟨H', hc⟩
end Go.Proofs.Try1
end

section
namespace Go.Lite
open Go
set_option linter.unusedSimpArgs false
set_option linter.unusedVariables false

theorem VL.one {μ : Mu} {v : V} {us : Array Value} (h : VL μ [v] us.toList) : ∃ u, us = #[u] ∧ VR μ v u := by
  have hl := h.length
  match us, hl, h with
  | ⟨[u]⟩, _, h => exact ⟨u, rfl, h.get 0 v u rfl rfl⟩
theorem VL.two {μ : Mu} {v v' : V} {us : Array Value} (h : VL μ [v, v'] us.toList) : ∃ u u', us = #[u, u'] ∧ VR μ v u ∧ VR μ v' u' := by
  have hl := h.length
  match us, hl, h with
  | ⟨[u, u']⟩, _, h => exact ⟨u, u', rfl, h.get 0 v u rfl rfl, h.get 1 v' u' rfl rfl⟩

theorem cmpPrim_ok {P : Program} {g : FuncId} {fn : Func} (hf : P.funcs[g]? = some fn) (hname : (fn.name == "runtime.NumGoroutine") = false) (hb : fn.body.isNone = true) (hn : Extern.findNext fn = none) (he : Extern.find fn = some Extern.BytealgCompare.compare) : PrimOk P g cmpPrim := by
  intro args H r H' h μ w us hs hv
  unfold cmpPrim at h
  split at h
  · rename_i a b
    cases h
    obtain ⟨u, u', rfl, h1, h2⟩ := hv.two
    obtain ⟨x, rfl, rfl⟩ := h1.str_inv
    obtain ⟨y, rfl, rfl⟩ := h2.str_inv
    refine .inl ⟨.int .i64 (Lib.compareBytes x.data.toList y.data.toList), w, ?_, μ, .refl hs, .int _ _⟩
    rw [run_callFunc_extern hf hname hb hn he, Lib.run_compareString]
    rfl
  · cases h

theorem strsOf_get : ∀ {cs : List V} {l : List (List UInt8)}, strsOf cs = some l → cs = l.map V.str
  | [], l, h => by cases h; rfl
  | c :: cs, l, h => by
    unfold strsOf at h
    split at h
    · rename_i he; cases he
    · rename_i s vs he
      cases he
      split at h
      · rename_i l' hl
        cases h
        rw [List.map_cons, ← strsOf_get hl]
      · cases h
    · cases h

theorem cells_get' {cells l : List V} {o n : Nat} (h : (cells.drop o).take n = l) {j : Nat} (hj : j < n) : cells[o + j]? = l[j]? := by
  subst h
  rw [List.getElem?_take_of_lt hj, List.getElem?_drop]

theorem HGoes.garbage {H : List Ob} {μ : Mu} {w : World} (h : HSim H μ w) (n : Nat) (os : Array Obj) : HGoes H μ w H μ (Sort.grow (Sort.ahead w n) os) := by
  have hsame : ∀ b, b < w.heap.size → (Sort.grow (Sort.ahead w n) os).heap[b]? = w.heap[b]? := fun b hb => by
    show (w.heap ++ os)[b]? = _
    rw [Array.getElem?_append_left hb]
  have hsz : w.heap.size ≤ (Sort.grow (Sort.ahead w n) os).heap.size := by
    show _ ≤ (w.heap ++ os).size
    rw [Array.size_append]; omega
  exact ⟨h.world (fun id o m h1 h2 h3 => .of_heap (hsame _ (live_lt h id o m h1 h2 h3))) hsz, μ.le_refl, ⟨hsz, fun b hb _ => hsame b hb, fun b hb => .inl hb, rfl, rfl, rfl, fun _ => Nat.le_add_right _ _⟩, Lives.refl _ _ _⟩

theorem putRow_wrote {w : World} {blk off : Nat} {d d' : Array (List UInt8)} (h0 : Sort.Holds Go.Proofs.encStr w blk off d) (hs : d'.size = d.size) : Wrote w (Sort.putRow Go.Proofs.encStr w blk off d') blk off (d'.toList.map Go.Proofs.encStr) where
  size := by simp
  os := rfl
  tape := rfl
  drawn := rfl
  output := rfl
  other b' hb := by
    show (w.heap.modify blk _)[b']? = _
    rw [Array.getElem?_modify, if_neg (fun e => hb e.symm)]
  cell j := by
    rw [List.length_map, Array.length_toList]
    split
    · rename_i hj
      have := Sort.cell?_putRow Go.Proofs.encStr w blk off d d' h0 hs (j - off) (by omega)
      rw [show off + (j - off) = j by omega] at this
      rw [this, List.getElem?_map, Array.getElem?_toList, Array.getElem?_eq_getElem (by omega), getElem!_pos d' (j - off) (by omega)]
      rfl
    · rename_i hj
      exact Sort.cell?_putRow_other Go.Proofs.encStr w blk off d' ⟨blk, j, none⟩ (by simp only; omega)
  frozen j := by simp

theorem sortPrim_ok {P : Program} {g : FuncId} (hcall : ∀ us w, (callFunc g us).run P w = .ok (.enter g us) w)
    (hsort : ∀ (blk off cap : Nat) (zs : List (List UInt8)) (w : World), Sort.Holds Go.Proofs.encStr w blk off zs.toArray → blk < w.heap.size → zs.length < 4611686018427387904 → Calls P g #[.slice (some ⟨blk, off, none⟩) zs.length cap] w fun e w' =>
      e = .returned (.tuple #[]) ∧ ∃ n os, w' = Sort.grow (Sort.putRow Go.Proofs.encStr (Sort.ahead w n) blk off (zs.mergeSort fun x y => decide (x ≤ y)).toArray) os)
    (hnone : ∀ (p : Option Addr) (cap : Nat) (w : World), Calls P g #[.slice p 0 cap] w fun e w' => e = .returned (.tuple #[]) ∧ w' = w) : PrimOk P g sortPrim := by
  intro args H r H' h μ w us hs hv
  have htup : ∀ μ : Mu, VR μ (.tup []) (.tuple #[]) := fun μ => VR.tup [] #[] rfl (fun i v u h _ => by simp at h)
  unfold sortPrim at h
  split at h
  case h_2 => cases h
  rename_i p n
  obtain ⟨u, rfl, hu⟩ := hv.one
  refine .inr ⟨hcall _ _, ?_⟩
  split at h
  · rename_i hn
    subst hn
    cases h
    have : ∃ q c, u = .slice q 0 c := by
      cases p with
      | none => obtain ⟨rfl, _⟩ := hu.slcN_inv; exact ⟨_, _, rfl⟩
      | some p =>
        obtain ⟨id, off⟩ := p
        obtain ⟨m, _, ⟨c, _, _, _, rfl⟩ | ⟨_, _, a, rfl⟩⟩ := hu.slc_inv <;> exact ⟨_, _, rfl⟩
    obtain ⟨q, c, rfl⟩ := this
    refine (hnone q c w).mono ?_
    rintro e w' ⟨rfl, rfl⟩
    exact ⟨_, rfl, μ, .refl hs, htup μ⟩
  · rename_i hn
    split at h
    case h_2 => cases h
    rename_i id off
    split at h
    case h_2 => cases h
    rename_i es cells ho
    split at h
    case isFalse => cases h
    rename_i hc
    obtain ⟨rfl, hlen, hmax⟩ := hc
    split at h
    case h_2 => cases h
    rename_i ss hss
    cases h
    have hcs := strsOf_get hss
    have hssl : ss.length = n := by
      have := congrArg List.length hcs
      simp at this
      omega
    obtain ⟨m, hm, ⟨c, hc1, hc2, hc3, rfl⟩ | ⟨h0, _⟩⟩ := hu.slc_inv
    rotate_left
    · exact absurd h0 hn
    obtain ⟨g1, g2, g3, g4, g5, g6⟩ := hs.obj id _ m ho hm
    obtain ⟨g6, g7⟩ := g6 rfl
    have hget : ∀ j, j < ss.length → cells[off + j]? = some (.str ss[j]!) := fun j hj => by
      rw [cells_get' hcs (show j < n by omega), List.getElem?_map, List.getElem?_eq_getElem hj]
      simp [hj]
    have hH : Sort.Holds Go.Proofs.encStr w m.blk (m.base + off) ss.toArray := fun j hj => by
      simp only [List.size_toArray] at hj
      obtain ⟨u, hu1, hu2⟩ := g4 (off + j) _ (hget j hj)
      obtain ⟨b, rfl, hb⟩ := hu2.str_inv
      have hbe : Value.string b = Go.Proofs.encStr ss[j]! := by
        show _ = Value.string ⟨ss[j]!.toArray⟩
        rw [hb]
      refine ⟨?_, ?_⟩
      · rw [Nat.add_assoc, hu1, hbe]
        congr 2
        simp [hj]
      · exact (g7 (m.base + off + j) (by omega) (by omega)).2
    have hsort' := hsort m.blk (m.base + off) c ss w hH g5 (by omega)
    rw [hssl] at hsort'
    refine hsort'.mono ?_
    rintro e w' ⟨rfl, k, os, rfl⟩
    refine ⟨_, rfl, μ, ?_, htup μ⟩
    have hlen2 : (ss.mergeSort fun x y => decide (x ≤ y)).length = ss.length := List.length_mergeSort ss
    have hwr := putRow_wrote (d' := (ss.mergeSort fun x y => decide (x ≤ y)).toArray) hH (by simp [hlen2])
    have hvl : VL μ ((ss.mergeSort fun x y => decide (x ≤ y)).map V.str) (((ss.mergeSort fun x y => decide (x ≤ y)).toArray).toList.map Go.Proofs.encStr) := by
      refine VL.of_get (by simp) fun i v u h1 h2 => ?_
      simp only [List.getElem?_map] at h1 h2
      cases hx : (ss.mergeSort fun x y => decide (x ≤ y))[i]? with
      | none => rw [hx] at h1; cases h1
      | some s =>
        rw [hx] at h1 h2
        cases h1
        cases h2
        exact VR.str ⟨s.toArray⟩
    have hgo := HGoes.write hs ho hm hwr hvl (by rw [List.length_map, hlen2]; omega)
    rw [Sort.putRow_ahead]
    exact hgo.trans (HGoes.garbage hgo.sim k os)
end Go.Lite
end

section
namespace Go.Proofs.Try1
open Go Go.Lite

theorem calls_of_in {L : List Nat} {n : Nat} {P : Program} {f : FuncId} {args : Array Value} {w : World} {R : Ending → World → Prop} (h : ∀ D, CallsIn (Fence.list L (some D)) n P f args w R) : Calls P f args w R := fun cs =>
  let ⟨e, w', fr, r, s, x⟩ := (h (cs.length + 1 + n)).2 cs (fun d hd => by cases hd; omega)
  ⟨e, w', fr, r, s.comes, x⟩

theorem cmp_ok : PrimOk Tryz.prog 425 cmpPrim :=
  cmpPrim_ok Tryz.func425 (by kernel_rfl) (by kernel_rfl) rfl rfl

theorem enters {g : Nat} {fn : Func} (h1 : Tryz.prog.funcs[g]? = some fn) (h2 : (fn.name == "runtime.NumGoroutine") = false) (h3 : fn.body.isNone = false) (us : Array Value) (w : World) : (callFunc g us).run Tryz.prog w = .ok (.enter g us) w := by
  simp [callFunc, h1, (by simpa using h2 : ¬ fn.name = "runtime.NumGoroutine")]
  intro hb
  rw [hb] at h3
  cases h3
end Go.Proofs.Try1
end

section
namespace Go.Lite
open Go
set_option linter.unusedSimpArgs false
set_option linter.unusedVariables false

theorem nsort_len (hO : Sort.SWO normLt) (l : List Str) : (nsort l).length = l.length := by
  have h := (Sort.pdq_sorts normLt hO l.toArray 0 l.length (Lib.bitLen l.length) true true (Nat.zero_le _) (by simp) (Or.inl rfl)).1.1
  simpa [nsort] using h

theorem sortFnPrim_ok {P : Program} {g gb : Nat} (hO : Sort.SWO normLt) (hcall : ∀ us w, (callFunc g us).run P w = .ok (.enter g us) w)
    (hsort : ∀ (blk off cap : Nat) (zs : List (List UInt8)) (w : World), Sort.Holds Go.Proofs.encStr w blk off zs.toArray → blk < w.heap.size → zs.length < 4611686018427387904 → Calls P g #[.slice (some ⟨blk, off, none⟩) zs.length cap, .func (.func gb) #[] #[]] w fun e w' =>
      e = .returned (.tuple #[]) ∧ ∃ n os, w' = Sort.grow (Sort.putRow Go.Proofs.encStr (Sort.ahead w n) blk off (nsort zs).toArray) os)
    (hnone : ∀ (p : Option Addr) (cap : Nat) (w : World), Calls P g #[.slice p 0 cap, .func (.func gb) #[] #[]] w fun e w' => e = .returned (.tuple #[]) ∧ w' = w) : PrimOk P g (sortFnPrim gb) := by
  intro args H r H' h μ w us hs hv
  have htup : ∀ μ : Mu, VR μ (.tup []) (.tuple #[]) := fun μ => VR.tup [] #[] rfl (fun i v u h _ => by simp at h)
  unfold sortFnPrim at h
  split at h
  case h_2 => cases h
  rename_i p n g'
  obtain ⟨u, u', rfl, hu, hfn⟩ := hv.two
  split at h
  case isFalse => cases h
  rename_i hg
  subst hg
  obtain ⟨xs, ys, rfl, hx, _, hy, _⟩ := hfn.fn_inv
  obtain rfl : xs = #[] := Array.size_eq_zero_iff.1 (by simpa using hx.symm)
  obtain rfl : ys = #[] := Array.size_eq_zero_iff.1 (by simpa using hy.symm)
  refine .inr ⟨hcall _ _, ?_⟩
  split at h
  · rename_i hn
    subst hn
    cases h
    have : ∃ q c, u = .slice q 0 c := by
      cases p with
      | none => obtain ⟨rfl, _⟩ := hu.slcN_inv; exact ⟨_, _, rfl⟩
      | some p =>
        obtain ⟨id, off⟩ := p
        obtain ⟨m, _, ⟨c, _, _, _, rfl⟩ | ⟨_, _, a, rfl⟩⟩ := hu.slc_inv <;> exact ⟨_, _, rfl⟩
    obtain ⟨q, c, rfl⟩ := this
    refine (hnone q c w).mono ?_
    rintro e w' ⟨rfl, rfl⟩
    exact ⟨_, rfl, μ, .refl hs, htup μ⟩
  · rename_i hn
    split at h
    case h_2 => cases h
    rename_i id off
    split at h
    case h_2 => cases h
    rename_i es cells ho
    split at h
    case isFalse => cases h
    rename_i hc
    obtain ⟨rfl, hlen, hmax⟩ := hc
    split at h
    case h_2 => cases h
    rename_i ss hss
    cases h
    have hcs := strsOf_get hss
    have hssl : ss.length = n := by
      have := congrArg List.length hcs
      simp at this
      omega
    obtain ⟨m, hm, ⟨c, hc1, hc2, hc3, rfl⟩ | ⟨h0, _⟩⟩ := hu.slc_inv
    rotate_left
    · exact absurd h0 hn
    obtain ⟨g1, g2, g3, g4, g5, g6⟩ := hs.obj id _ m ho hm
    obtain ⟨g6, g7⟩ := g6 rfl
    have hget : ∀ j, j < ss.length → cells[off + j]? = some (.str ss[j]!) := fun j hj => by
      rw [cells_get' hcs (show j < n by omega), List.getElem?_map, List.getElem?_eq_getElem hj]
      simp [hj]
    have hH : Sort.Holds Go.Proofs.encStr w m.blk (m.base + off) ss.toArray := fun j hj => by
      simp only [List.size_toArray] at hj
      obtain ⟨u, hu1, hu2⟩ := g4 (off + j) _ (hget j hj)
      obtain ⟨b, rfl, hb⟩ := hu2.str_inv
      have hbe : Value.string b = Go.Proofs.encStr ss[j]! := by
        show _ = Value.string ⟨ss[j]!.toArray⟩
        rw [hb]
      refine ⟨?_, ?_⟩
      · rw [Nat.add_assoc, hu1, hbe]
        congr 2
        simp [hj]
      · exact (g7 (m.base + off + j) (by omega) (by omega)).2
    have hsort' := hsort m.blk (m.base + off) c ss w hH g5 (by omega)
    rw [hssl] at hsort'
    refine hsort'.mono ?_
    rintro e w' ⟨rfl, k, os, rfl⟩
    refine ⟨_, rfl, μ, ?_, htup μ⟩
    have hlen2 : (nsort ss).length = ss.length := nsort_len hO ss
    have hwr := putRow_wrote (d' := (nsort ss).toArray) hH (by simp [hlen2])
    have hvl : VL μ ((nsort ss).map V.str) (((nsort ss).toArray).toList.map Go.Proofs.encStr) := by
      refine VL.of_get (by simp) fun i v u h1 h2 => ?_
      simp only [List.getElem?_map] at h1 h2
      cases hx : (nsort ss)[i]? with
      | none => rw [hx] at h1; cases h1
      | some s =>
        rw [hx] at h1 h2
        cases h1
        cases h2
        exact VR.str ⟨s.toArray⟩
    have hgo := HGoes.write hs ho hm hwr hvl (by rw [List.length_map, hlen2]; omega)
    rw [Sort.putRow_ahead]
    exact hgo.trans (HGoes.garbage hgo.sim k os)

/-- A call over nothing old leaves garbage alone. -/
theorem cmp_lays {P : Program} {gb : Nat} (heb : ∀ us w, (callFunc gb us).run P w = .ok (.enter gb us) w) {callf : CallF} (hC : CallOk P callf) (cf : Str → Str → Int) (hcf : ∀ x y, ∃ H', callf gb [.str x, .str y] [] = some (.int .i64 (cf x y), H'))
    (x y : Str) (w : World) : Calls P gb #[Go.Proofs.encStr x, Go.Proofs.encStr y] w fun e w' => e = .returned (.int .i64 (cf x y)) ∧ ∃ q os', w' = Sort.grow (w.drewN q) os' := by
  have hs : HSim [] (fun _ => none) w := hsim_nil
  have hv : VL (fun _ => none) [.str x, .str y] (#[Go.Proofs.encStr x, Go.Proofs.encStr y] : Array Value).toList :=
    .cons (VR.str ⟨x.toArray⟩) (.cons (VR.str ⟨y.toArray⟩) .nil)
  obtain ⟨H', hcf⟩ := hcf x y
  rcases hC gb _ [] _ _ hcf (fun _ => none) w _ hs hv with ⟨v, w', h1, _⟩ | ⟨_, h⟩
  · rw [heb] at h1; cases h1
  · refine h.mono ?_
    rintro e w' ⟨v, rfl, μ', hg, hr⟩
    obtain ⟨n, rfl⟩ := hr.int_inv
    refine ⟨rfl, w'.drawn - w.drawn, w'.heap.extract w.heap.size w'.heap.size, ?_⟩
    have hd := hg.grow.drawn trivial
    have hh : w'.heap = w.heap ++ w'.heap.extract w.heap.size w'.heap.size := by
      apply Array.ext_getElem?
      intro i
      by_cases hi : i < w.heap.size
      · rw [Array.getElem?_append_left hi]
        exact hg.grow.same i hi (by rintro (⟨id, o, m, h, _⟩ | h) <;> simp at h)
      · rw [Array.getElem?_append_right (by omega), Array.getElem?_extract]
        by_cases hj : i < w'.heap.size
        · rw [if_pos (by omega)]
          congr 1
          omega
        · rw [if_neg (by omega), Array.getElem?_eq_none (by omega)]
    obtain ⟨h', t', d', o', u'⟩ := w'
    obtain ⟨h0, t0, d0, o0, u0⟩ := w
    have e1 := hg.grow.os
    have e2 := hg.grow.tape
    have e3 := hg.grow.output
    simp only at e1 e2 e3 hd hh ⊢
    subst e1 e2 e3
    show _ = World.mk _ _ _ _ _
    congr 1
    show _ = d0 + (d' - d0)
    omega
end Go.Lite
end

section
namespace Go.Proofs.Try0
open Go Go.Lite
def locTab : List (Nat × List Nat) := [(126, [3, 5])]
def ordTab : List (Nat × List (Nat × Hint)) := [(126, [(4, ⟨[0, 1, 2, 3, 4, 5, 6, 7, 8, 9, 10], [], [], [(0, 3), (2, 5), (6, 5), (10, 3)]⟩)])]
def fids : List Nat := [50, 97, 114, 151, 152, 219, 222, 232, 256, 316, 319, 345, 391]
noncomputable def primTab : Nat → Option (List V → List Ob → Option (V × List Ob)) := fun f => if f = 425 then some cmpPrim else none
noncomputable def tabs : Tabs := { locs := fun f => (locTab.lookup f).getD [], ord := fun f id => ((ordTab.lookup f).getD []).lookup id, prim := primTab, fids := fids }
theorem mixed : Tryz.prog.follows .mixedOrders = true := rfl
theorem ok : progB Tryz.prog tabs = true := by decide +kernel
end Go.Proofs.Try0
end

section
namespace Go.Proofs.Try0
open Go Go.Lite
noncomputable def C : Ctx := ctxOf Tryz.prog tabs
@[simp] theorem ty3 : C.ty 3 = ⟨.int .i64, 1, 8, [.int .i64 0]⟩ := by kernel_rfl
@[simp] theorem ty4 : C.ty 4 = ⟨.bool, 1, 1, [.bool false]⟩ := by kernel_rfl
@[simp] theorem ty5 : C.ty 5 = ⟨.int .u8, 1, 1, [.int .u8 0]⟩ := by kernel_rfl
@[simp] theorem ty9 : C.ty 9 = ⟨.str, 1, 16, [.str []]⟩ := by kernel_rfl
@[simp] theorem ty29 : C.ty 29 = ⟨.slice 190, 1, 24, [.slc none 0]⟩ := by kernel_rfl
@[simp] theorem ty59 : C.ty 59 = ⟨.slice 5, 1, 24, [.slc none 0]⟩ := by kernel_rfl
@[simp] theorem ty190 : C.ty 190 = ⟨.struct [(0, 9), (1, 9)], 2, 32, [.str [], .str []]⟩ := by kernel_rfl
noncomputable def code50 : Code := match Tryz.f50.body with | some c => c | none => .skip
theorem fi50 : C.fids 50 = true := by kernel_rfl
theorem bo50 : Tryz.f50.body = some code50 := rfl
theorem pr50 : C.prim 50 = none := rfl
theorem fu50 : C.funcs 50 = some Tryz.f50 := Tryz.func50
theorem op50 {a : List V} {H : List Ob} {R : V → List Ob → Prop} : Ret C 50 a H R ↔ WP C 50 code50 ⟨initRegs a, 0, H⟩ (finQ C Tryz.f50 H R) := Ret_fn pr50 fi50 fu50 bo50
@[simp] theorem locs50 : C.locs 50 = [] := by kernel_rfl
noncomputable def code97 : Code := match Tryz.f97.body with | some c => c | none => .skip
theorem fi97 : C.fids 97 = true := by kernel_rfl
theorem bo97 : Tryz.f97.body = some code97 := rfl
theorem pr97 : C.prim 97 = none := rfl
theorem fu97 : C.funcs 97 = some Tryz.f97 := Tryz.func97
theorem op97 {a : List V} {H : List Ob} {R : V → List Ob → Prop} : Ret C 97 a H R ↔ WP C 97 code97 ⟨initRegs a, 0, H⟩ (finQ C Tryz.f97 H R) := Ret_fn pr97 fi97 fu97 bo97
@[simp] theorem locs97 : C.locs 97 = [] := by kernel_rfl
noncomputable def code114 : Code := match Tryz.f114.body with | some c => c | none => .skip
theorem fi114 : C.fids 114 = true := by kernel_rfl
theorem bo114 : Tryz.f114.body = some code114 := rfl
theorem pr114 : C.prim 114 = none := rfl
theorem fu114 : C.funcs 114 = some Tryz.f114 := Tryz.func114
theorem op114 {a : List V} {H : List Ob} {R : V → List Ob → Prop} : Ret C 114 a H R ↔ WP C 114 code114 ⟨initRegs a, 0, H⟩ (finQ C Tryz.f114 H R) := Ret_fn pr114 fi114 fu114 bo114
@[simp] theorem locs114 : C.locs 114 = [] := by kernel_rfl
noncomputable def code151 : Code := match Tryz.f151.body with | some c => c | none => .skip
theorem fi151 : C.fids 151 = true := by kernel_rfl
theorem bo151 : Tryz.f151.body = some code151 := rfl
theorem pr151 : C.prim 151 = none := rfl
theorem fu151 : C.funcs 151 = some Tryz.f151 := Tryz.func151
theorem op151 {a : List V} {H : List Ob} {R : V → List Ob → Prop} : Ret C 151 a H R ↔ WP C 151 code151 ⟨initRegs a, 0, H⟩ (finQ C Tryz.f151 H R) := Ret_fn pr151 fi151 fu151 bo151
@[simp] theorem locs151 : C.locs 151 = [] := by kernel_rfl
noncomputable def code152 : Code := match Tryz.f152.body with | some c => c | none => .skip
theorem fi152 : C.fids 152 = true := by kernel_rfl
theorem bo152 : Tryz.f152.body = some code152 := rfl
theorem pr152 : C.prim 152 = none := rfl
theorem fu152 : C.funcs 152 = some Tryz.f152 := Tryz.func152
theorem op152 {a : List V} {H : List Ob} {R : V → List Ob → Prop} : Ret C 152 a H R ↔ WP C 152 code152 ⟨initRegs a, 0, H⟩ (finQ C Tryz.f152 H R) := Ret_fn pr152 fi152 fu152 bo152
@[simp] theorem locs152 : C.locs 152 = [] := by kernel_rfl
noncomputable def code219 : Code := match Tryz.f219.body with | some c => c | none => .skip
theorem fi219 : C.fids 219 = true := by kernel_rfl
theorem bo219 : Tryz.f219.body = some code219 := rfl
theorem pr219 : C.prim 219 = none := rfl
theorem fu219 : C.funcs 219 = some Tryz.f219 := Tryz.func219
theorem op219 {a : List V} {H : List Ob} {R : V → List Ob → Prop} : Ret C 219 a H R ↔ WP C 219 code219 ⟨initRegs a, 0, H⟩ (finQ C Tryz.f219 H R) := Ret_fn pr219 fi219 fu219 bo219
@[simp] theorem locs219 : C.locs 219 = [] := by kernel_rfl
noncomputable def code222 : Code := match Tryz.f222.body with | some c => c | none => .skip
theorem fi222 : C.fids 222 = true := by kernel_rfl
theorem bo222 : Tryz.f222.body = some code222 := rfl
theorem pr222 : C.prim 222 = none := rfl
theorem fu222 : C.funcs 222 = some Tryz.f222 := Tryz.func222
theorem op222 {a : List V} {H : List Ob} {R : V → List Ob → Prop} : Ret C 222 a H R ↔ WP C 222 code222 ⟨initRegs a, 0, H⟩ (finQ C Tryz.f222 H R) := Ret_fn pr222 fi222 fu222 bo222
@[simp] theorem locs222 : C.locs 222 = [] := by kernel_rfl
noncomputable def code232 : Code := match Tryz.f232.body with | some c => c | none => .skip
theorem fi232 : C.fids 232 = true := by kernel_rfl
theorem bo232 : Tryz.f232.body = some code232 := rfl
theorem pr232 : C.prim 232 = none := rfl
theorem fu232 : C.funcs 232 = some Tryz.f232 := Tryz.func232
theorem op232 {a : List V} {H : List Ob} {R : V → List Ob → Prop} : Ret C 232 a H R ↔ WP C 232 code232 ⟨initRegs a, 0, H⟩ (finQ C Tryz.f232 H R) := Ret_fn pr232 fi232 fu232 bo232
@[simp] theorem locs232 : C.locs 232 = [] := by kernel_rfl
noncomputable def code256 : Code := match Tryz.f256.body with | some c => c | none => .skip
theorem fi256 : C.fids 256 = true := by kernel_rfl
theorem bo256 : Tryz.f256.body = some code256 := rfl
theorem pr256 : C.prim 256 = none := rfl
theorem fu256 : C.funcs 256 = some Tryz.f256 := Tryz.func256
theorem op256 {a : List V} {H : List Ob} {R : V → List Ob → Prop} : Ret C 256 a H R ↔ WP C 256 code256 ⟨initRegs a, 0, H⟩ (finQ C Tryz.f256 H R) := Ret_fn pr256 fi256 fu256 bo256
@[simp] theorem locs256 : C.locs 256 = [] := by kernel_rfl
noncomputable def code316 : Code := match Tryz.f316.body with | some c => c | none => .skip
theorem fi316 : C.fids 316 = true := by kernel_rfl
theorem bo316 : Tryz.f316.body = some code316 := rfl
theorem pr316 : C.prim 316 = none := rfl
theorem fu316 : C.funcs 316 = some Tryz.f316 := Tryz.func316
theorem op316 {a : List V} {H : List Ob} {R : V → List Ob → Prop} : Ret C 316 a H R ↔ WP C 316 code316 ⟨initRegs a, 0, H⟩ (finQ C Tryz.f316 H R) := Ret_fn pr316 fi316 fu316 bo316
@[simp] theorem locs316 : C.locs 316 = [] := by kernel_rfl
noncomputable def code319 : Code := match Tryz.f319.body with | some c => c | none => .skip
theorem fi319 : C.fids 319 = true := by kernel_rfl
theorem bo319 : Tryz.f319.body = some code319 := rfl
theorem pr319 : C.prim 319 = none := rfl
theorem fu319 : C.funcs 319 = some Tryz.f319 := Tryz.func319
theorem op319 {a : List V} {H : List Ob} {R : V → List Ob → Prop} : Ret C 319 a H R ↔ WP C 319 code319 ⟨initRegs a, 0, H⟩ (finQ C Tryz.f319 H R) := Ret_fn pr319 fi319 fu319 bo319
@[simp] theorem locs319 : C.locs 319 = [] := by kernel_rfl
noncomputable def code345 : Code := match Tryz.f345.body with | some c => c | none => .skip
theorem fi345 : C.fids 345 = true := by kernel_rfl
theorem bo345 : Tryz.f345.body = some code345 := rfl
theorem pr345 : C.prim 345 = none := rfl
theorem fu345 : C.funcs 345 = some Tryz.f345 := Tryz.func345
theorem op345 {a : List V} {H : List Ob} {R : V → List Ob → Prop} : Ret C 345 a H R ↔ WP C 345 code345 ⟨initRegs a, 0, H⟩ (finQ C Tryz.f345 H R) := Ret_fn pr345 fi345 fu345 bo345
@[simp] theorem locs345 : C.locs 345 = [] := by kernel_rfl
noncomputable def code391 : Code := match Tryz.f391.body with | some c => c | none => .skip
theorem fi391 : C.fids 391 = true := by kernel_rfl
theorem bo391 : Tryz.f391.body = some code391 := rfl
theorem pr391 : C.prim 391 = none := rfl
theorem fu391 : C.funcs 391 = some Tryz.f391 := Tryz.func391
theorem op391 {a : List V} {H : List Ob} {R : V → List Ob → Prop} : Ret C 391 a H R ↔ WP C 391 code391 ⟨initRegs a, 0, H⟩ (finQ C Tryz.f391 H R) := Ret_fn pr391 fi391 fu391 bo391
@[simp] theorem locs391 : C.locs 391 = [] := by kernel_rfl
noncomputable def code126 : Code := match Tryz.f126.body with | some c => c | none => .skip
theorem bo126 : Tryz.f126.body = some code126 := rfl
theorem fu126 : C.funcs 126 = some Tryz.f126 := Tryz.func126
@[simp] theorem locs126 : C.locs 126 = [3, 5] := by kernel_rfl
@[simp] theorem ord126_4 : C.ord 126 4 = some ⟨[0, 1, 2, 3, 4, 5, 6, 7, 8, 9, 10], [], [], [(0, 3), (2, 5), (6, 5), (10, 3)]⟩ := by kernel_rfl
end Go.Proofs.Try0
end

section
namespace Go.Proofs.Try0
open Go Go.Lite
set_option linter.unusedSimpArgs false
set_option linter.unusedVariables false

theorem u8_lt {c : UInt8} : c.toNat < 256 := c.toNat_lt

set_option maxRecDepth 10000 in
theorem s_Plain {t : Str} {H : List Ob} (ht : t.length ≤ 1000) : callW C 316 [.str t] H = some (.bool (dec (Plain t)), H) := by
  apply Ret.dec
  rw [op316]
  simp [code316, Tryz.f316]
  refine WP_loop (fun k σ => ∃ (i : Nat) (r : Nat → R), i + k = t.length ∧ σ = ⟨r, 0, H⟩ ∧ r 0 = .val (.str t) ∧ r 3 = .val (.int .i64 i) ∧ ∀ j, j < i → ∀ c, t[j]? = some c → PlainB c) ?_ t.length _ ⟨0, _, by simp, rfl, by simp, by simp, by simp⟩
  rintro k σ ⟨i, r, hik, rfl, r0, r3, hall⟩
  cases k with
  | zero =>
    have hi : i = t.length := by omega
    subst hi
    simp [r0, r3]
    intro j c hc
    exact hall j (List.getElem?_eq_some_iff.1 hc).1 c hc
  | succ k =>
    have hi : i < t.length := by omega
    obtain ⟨c, hc⟩ : ∃ c, t[i]? = some c := ⟨t[i], by simp [hi]⟩
    have hc' : t[i] = c := (List.getElem?_eq_some_iff.1 hc).2
    have hw : IntKind.i64.wrap ((i : Int) + 1) = ((i : Int) + 1) := wrap_i64 (by omega) (by omega)
    by_cases h1 : (c.toNat : Int) < 32
    · simp [r0, r3, hi, hc', h1]
      intro hp
      have := (hp i c hc).1
      omega
    · by_cases h2 : (c.toNat : Int) > 126
      · simp [r0, r3, hi, hc', h1, h2]
        intro hp
        have := (hp i c hc).2
        omega
      · simp [r0, r3, hi, hc', h1, h2, hw]
        exact ⟨k, by omega, i + 1, by omega, by omega, all_step (P := fun _ c => PlainB c) hall hc ⟨by omega, by omega⟩⟩

set_option maxRecDepth 10000 in
theorem i_Plain {t : Str} {H : List Ob} (ht : t.length ≤ 1000) : callW C 151 [.str t] H = some (.bool (dec (Plain t)), H) := by
  apply Ret.dec
  rw [op151]
  simp [code151, Tryz.f151]
  refine WP_loop (fun k σ => ∃ (i : Nat) (r : Nat → R), i + k = t.length ∧ σ = ⟨r, 0, H⟩ ∧ r 0 = .val (.str t) ∧ r 5 = .val (.int .i64 t.length) ∧ r 6 = .val (.int .i64 i) ∧ ∀ j, j < i → ∀ c, t[j]? = some c → PlainB c) ?_ t.length _ ⟨0, _, by simp, rfl, by simp, by simp, by simp, by simp⟩
  rintro k σ ⟨i, r, hik, rfl, r0, r5, r6, hall⟩
  cases k with
  | zero =>
    have hi : i = t.length := by omega
    subst hi
    simp [r0, r5, r6]
    intro j c hc
    exact hall j (List.getElem?_eq_some_iff.1 hc).1 c hc
  | succ k =>
    have hi : i < t.length := by omega
    obtain ⟨c, hc⟩ : ∃ c, t[i]? = some c := ⟨t[i], by simp [hi]⟩
    have hc' : t[i] = c := (List.getElem?_eq_some_iff.1 hc).2
    have hw : IntKind.i64.wrap ((i : Int) + 1) = ((i : Int) + 1) := wrap_i64 (by omega) (by omega)
    by_cases h1 : (c.toNat : Int) < 32
    · simp [r0, r5, r6, hi, hc', h1]
      intro hp
      have := (hp i c hc).1
      omega
    · by_cases h2 : (c.toNat : Int) > 126
      · simp [r0, r5, r6, hi, hc', h1, h2]
        intro hp
        have := (hp i c hc).2
        omega
      · simp [r0, r5, r6, hi, hc', h1, h2, hw]
        exact ⟨k, by omega, i + 1, by omega, by omega, all_step (P := fun _ c => PlainB c) hall hc ⟨by omega, by omega⟩⟩

set_option maxRecDepth 10000 in
set_option maxHeartbeats 2000000 in
theorem s_Name {t : Str} {H : List Ob} : callW C 97 [.str t] H = some (.bool (dec (NameOk t)), H) := by
  apply Ret.dec
  rw [op97]
  by_cases g1 : (t.length : Int) < 1
  · have g2 : ¬ NameOk t := fun h => by have := h.1; omega
    simp [code97, Tryz.f97, g1, g2]
  by_cases g2 : (t.length : Int) > 20
  · have g3 : ¬ NameOk t := fun h => by have := h.2.1; omega
    simp [code97, Tryz.f97, g1, g2, g3]
  simp [code97, Tryz.f97, g1, g2]
  refine WP_loop (fun k σ => ∃ (i : Nat) (r : Nat → R), i + k = t.length ∧ σ = ⟨r, 0, H⟩ ∧ r 0 = .val (.str t) ∧ r 3 = .val (.int .i64 i) ∧ ∀ j, j < i → ∀ c, t[j]? = some c → LowB c ∨ (0 < j ∧ (DigB c ∨ c.toNat = 95))) ?_ t.length _ ⟨0, _, by simp, rfl, by simp, by simp, by simp⟩
  rintro k σ ⟨i, r, hik, rfl, r0, r3, hall⟩
  cases k with
  | zero =>
    have hi : i = t.length := by omega
    subst hi
    have hok : NameOk t := ⟨by omega, by omega, fun j c hc => hall j (List.getElem?_eq_some_iff.1 hc).1 c hc⟩
    simp [r0, r3, hok]
  | succ k =>
    have hi : i < t.length := by omega
    obtain ⟨c, hc⟩ : ∃ c, t[i]? = some c := ⟨t[i], by simp [hi]⟩
    have hc' : t[i] = c := (List.getElem?_eq_some_iff.1 hc).2
    have hw : IntKind.i64.wrap ((i : Int) + 1) = ((i : Int) + 1) := wrap_i64 (by omega) (by omega)
    have hgo : LowB c ∨ (0 < i ∧ (DigB c ∨ c.toNat = 95)) → ∃ k', k' < k + 1 ∧ ∃ i', i' + k' = t.length ∧ (i : Int) + 1 = i' ∧ ∀ j, j < i' → ∀ c, t[j]? = some c → LowB c ∨ (0 < j ∧ (DigB c ∨ c.toNat = 95)) := fun h =>
      ⟨k, by omega, i + 1, by omega, by omega, all_step (P := fun j c => LowB c ∨ (0 < j ∧ (DigB c ∨ c.toNat = 95))) hall hc h⟩
    by_cases h1 : LowB c
    · have h1a : (c.toNat : Int) ≥ 97 := by have := h1.1; omega
      have h1b : (c.toNat : Int) ≤ 122 := by have := h1.2; omega
      simp [r0, r3, hi, hc', h1a, h1b, hw]
      exact hgo (.inl h1)
    have hl : (¬ (c.toNat : Int) ≥ 97) ∨ ((c.toNat : Int) ≥ 97 ∧ ¬ (c.toNat : Int) ≤ 122) := by unfold LowB at h1; omega
    have hno : ¬ (0 < i ∧ (DigB c ∨ c.toNat = 95)) → ¬ NameOk t := fun h hk => (hk.2.2 i c hc).elim h1 h
    by_cases h2 : i = 0
    · have hno := hno (by omega)
      subst h2
      rcases hl with hl | ⟨hl, hl2⟩
      · simp [r0, r3, hi, hc', hl, hno]
      · simp [r0, r3, hi, hc', hl, hl2, hno]
    have h2' : ¬ (i : Int) = 0 := by omega
    by_cases h3 : DigB c
    · have h3a : (c.toNat : Int) ≥ 48 := by have := h3.1; omega
      have h3b : (c.toNat : Int) ≤ 57 := by have := h3.2; omega
      have h3c : ¬ (c.toNat : Int) ≥ 97 := by omega
      simp [r0, r3, hi, hc', h2, h3a, h3b, h3c, hw]
      exact hgo (.inr ⟨by omega, .inl h3⟩)
    have hd : (¬ (c.toNat : Int) ≥ 48) ∨ ((c.toNat : Int) ≥ 48 ∧ ¬ (c.toNat : Int) ≤ 57) := by unfold DigB at h3; omega
    by_cases h4 : c.toNat = 95
    · have := hgo (.inr ⟨by omega, .inr h4⟩)
      simp [r0, r3, hi, hc', h2, h4, hw]
      exact this
    · have h4' : ¬ (c.toNat : Int) = 95 := by omega
      have hno := hno (fun h => h.2.elim h3 h4)
      rcases hl with hl | ⟨hl, hl2⟩ <;> rcases hd with hd | ⟨hd, hd2⟩
      · simp [r0, r3, hi, hc', h2, h4', hl, hd, hno]
      · simp [r0, r3, hi, hc', h2, h4', hl, hd, hd2, hno]
      · simp [r0, r3, hi, hc', h2, h4', hl, hl2, hd, hno]
      · simp [r0, r3, hi, hc', h2, h4', hl, hl2, hd, hd2, hno]
end Go.Proofs.Try0
end

section
namespace Go.Proofs.Try0
open Go Go.Lite
set_option linter.unusedSimpArgs false
set_option linter.unusedVariables false

theorem lowC_up {c : UInt8} (h1 : 65 ≤ c.toNat) (h2 : c.toNat ≤ 90) : IntKind.u8.wrap ((c.toNat : Int) + 32) = ((lowC c).toNat : Int) := by
  have : lowC c = c + 32 := by unfold lowC; rw [if_pos ⟨h1, h2⟩]
  rw [this]
  unfold IntKind.wrap
  simp [IntKind.bits, IntKind.signed, UInt8.toNat_add]
theorem lowC_up32 {c : UInt8} (h1 : 65 ≤ c.toNat) (h2 : c.toNat ≤ 90) : (lowC c).toNat = c.toNat + 32 := by
  have : lowC c = c + 32 := by unfold lowC; rw [if_pos ⟨h1, h2⟩]
  rw [this, UInt8.toNat_add]
  have : c.toNat + 32 < 256 := by omega
  simp
  omega
theorem lowC_no {c : UInt8} (h : ¬ (65 ≤ c.toNat ∧ c.toNat ≤ 90)) : lowC c = c := by unfold lowC; rw [if_neg h]
theorem u8_32 {c : UInt8} : c = 32 ↔ c.toNat = 32 := ⟨fun h => by rw [h]; rfl, fun h => UInt8.toNat_inj.1 h⟩
theorem foldl_step {t : Str} {i : Nat} {c : UInt8} (h : t[i]? = some c) (f : Str → UInt8 → Str) (b : Str) : (t.take (i + 1)).foldl f b = f ((t.take i).foldl f b) c := by
  rw [take_get h, List.foldl_append]
  rfl
theorem endSp_last {b : Str} {d : UInt8} (h : b.getLast? = some d) : endSp b = true ↔ d = 32 := by
  unfold endSp
  rw [h]
  simp
theorem last_some {b : Str} (h : b ≠ []) : ∃ d, b.getLast? = some d := ⟨b.getLast h, List.getLast?_eq_some_getLast h⟩

set_option maxRecDepth 10000 in
set_option maxHeartbeats 4000000 in
theorem s_Norm {t : Str} {H : List Ob} : callW C 219 [.str t] H = some (.str (norm t), H) := by
  apply Ret.eq
  rw [op219]
  by_cases g1 : (t.length : Int) > 100
  · have : norm t = [] := by unfold norm; rw [if_neg (by omega)]
    simp [code219, Tryz.f219, g1, this]
  have hp := s_Plain (t := t) (H := H) (by omega)
  by_cases g2 : Plain t
  rotate_left
  · rw [dec_neg g2] at hp
    have : norm t = [] := by unfold norm; rw [dec_neg g2]; simp
    simp [code219, Tryz.f219, g1, hp, this]
  rw [dec_pos g2] at hp
  have hn : norm t = nfin (t.foldl nstep []) := by unfold norm; rw [if_pos ⟨by omega, dec_pos g2⟩]
  have hbz : ∀ i, ((t.take i).foldl nstep []).length ≤ 100 := fun i => by
    have := foldl_len (t.take i) []
    simp at this
    omega
  simp [code219, Tryz.f219, g1, hp, elemT, fillL, zerosL, St.new]
  refine WP_loop (fun k σ => ∃ (i : Nat) (r : Nat → R) (G : List Ob) (v : V), i + k = t.length ∧ σ = ⟨r, 0, G⟩ ∧ r 0 = .val (.str t) ∧ r 3 = .val v ∧ r 4 = .val (.int .i64 i) ∧ Bs H G v ((t.take i).foldl nstep [])) ?_ t.length _ ⟨0, _, _, _, by simp, rfl, by simp, by simp, by simp, Bs.init⟩
  rintro k σ ⟨i, r, G, v, hik, rfl, r0, r3, r4, hB⟩
  have hbl := hbz i
  generalize hb : (t.take i).foldl nstep [] = b at hB hbl
  have hw1 : IntKind.i64.wrap ((b.length : Int) - 1) = (b.length : Int) - 1 := wrap_i64 (by omega) (by omega)
  cases k with
  | zero =>
    have hi : i = t.length := by omega
    subst hi
    rw [List.take_length] at hb
    rw [hb] at hn
    obtain ⟨TT, rfl⟩ := hB.ext
    by_cases hb0 : b = []
    · subst hb0
      obtain ⟨id, rfl, hst, hsl⟩ := hB.cut (n := 0) (Nat.le_refl _)
      simp [r0, r3, r4, hsl, isByte, bys_mapM, hn, nfin, endSp]
    · obtain ⟨d, hd⟩ := last_some hb0
      have hb1 : 0 < b.length := List.length_pos_iff.2 hb0
      have hb2 : 0 < (b.length : Int) := by omega
      have hb3 : (1 : Int) ≤ (b.length : Int) := by omega
      have hb5 : (b.length : Int) - 1 < (b.length : Int) := by omega
      have hb4 : ((b.length : Int) - 1).toNat = b.length - 1 := by omega
      obtain ⟨id, rfl, hld⟩ := hB.last hd
      by_cases hd32 : d = 32
      · obtain ⟨_, hv, hst, hsl⟩ := hB.cut (n := b.length - 1) (by omega)
        cases hv
        have he : nfin b = b.take (b.length - 1) := by unfold nfin; rw [if_pos ((endSp_last hd).2 hd32), List.dropLast_eq_take]
        have hd' : (d.toNat : Int) = 32 := by rw [hd32]; rfl
        simp [r0, r3, r4, hb0, hb1, hb2, hb3, hb4, hb5, hw1, hld, hd', hst, hsl, isByte, bys_mapM, hn, he]
      · obtain ⟨_, hv, hst, hsl⟩ := hB.cut (n := b.length) (Nat.le_refl _)
        cases hv
        have he : nfin b = b := by unfold nfin; rw [if_neg (fun h => hd32 ((endSp_last hd).1 h))]
        have hd' : ¬ (d.toNat : Int) = 32 := by have := mt u8_32.2 hd32; omega
        rw [List.take_length] at hsl
        simp [r0, r3, r4, hb0, hb1, hb2, hb3, hb4, hb5, hw1, hld, hd', hst, hsl, isByte, bys_mapM, hn, he]
  | succ k =>
    have hi : i < t.length := by omega
    obtain ⟨c, hc⟩ : ∃ c, t[i]? = some c := ⟨t[i], by simp [hi]⟩
    have hc' : t[i] = c := (List.getElem?_eq_some_iff.1 hc).2
    have hw : IntKind.i64.wrap ((i : Int) + 1) = ((i : Int) + 1) := wrap_i64 (by omega) (by omega)
    have hfs := foldl_step hc nstep []
    rw [hb] at hfs
    have hgo : ∀ G' v', Bs H G' v' (nstep b c) → ∃ k', k' < k + 1 ∧ ∃ i', i' + k' = t.length ∧ (i : Int) + 1 = i' ∧ Bs H G' v' ((t.take i').foldl nstep []) := fun G' v' h =>
      ⟨k, by omega, i + 1, by omega, by omega, by rw [hfs]; exact h⟩
    by_cases hup : 65 ≤ c.toNat ∧ c.toNat ≤ 90
    · have hu1 : (c.toNat : Int) ≥ 65 := by omega
      have hu2 : (c.toNat : Int) ≤ 90 := by omega
      have hlw := lowC_up hup.1 hup.2
      have hl32 : ¬ ((lowC c).toNat : Int) = 32 := by rw [lowC_up32 hup.1 hup.2]; omega
      have hns : nstep b c = b ++ [lowC c] := by unfold nstep; rw [if_neg (fun h => hl32 (by rw [u8_32.1 h.1]; rfl))]
      obtain ⟨v', G', ha, hB'⟩ := hB.push (by omega) (c := lowC c) (d := .int .u8) (z := [.int .u8 0]) rfl
      rw [← hns] at hB'
      simp [r0, r3, r4, hi, hc', hu1, hu2, hlw, hl32, elemT, fillL, zerosL, St.new, badArg, ha, hw]
      obtain ⟨k', q1, i', q2, q3, q4⟩ := hgo G' v' hB'
      exact ⟨k', q1, i', q2, _, _, ⟨rfl, rfl⟩, by simp [r0], _, by simp [r3], by simp [q3], q4⟩
    have hlc := lowC_no hup
    have hu : (¬ (c.toNat : Int) ≥ 65) ∨ ((c.toNat : Int) ≥ 65 ∧ ¬ (c.toNat : Int) ≤ 90) := by omega
    by_cases h32 : c = 32
    · have h32' : (c.toNat : Int) = 32 := by rw [h32]; rfl
      have hu1 : ¬ (c.toNat : Int) ≥ 65 := by omega
      by_cases hb0 : b = []
      · have hns : nstep b c = b := by unfold nstep; rw [if_pos ⟨by rw [hlc, h32], .inl hb0⟩]
        rw [hns] at hgo
        have hbl0 : b.length = 0 := by rw [hb0]; rfl
        have := hgo G v hB
        simp [r0, r3, r4, hi, hc', h32', hB.len, hbl0, hw]
        obtain ⟨k', q1, i', q2, q3, q4⟩ := this
        exact ⟨k', q1, i', q2, _, _, ⟨rfl, rfl⟩, by simp [r0], _, by simp [r3], by simp [q3], q4⟩
      · obtain ⟨d, hd⟩ := last_some hb0
        have hb1 : 0 < b.length := List.length_pos_iff.2 hb0
        have hb3 : (1 : Int) ≤ (b.length : Int) := by omega
        have hb5 : (b.length : Int) - 1 < (b.length : Int) := by omega
        have hb4 : ((b.length : Int) - 1).toNat = b.length - 1 := by omega
        obtain ⟨id, hv, hld⟩ := hB.last hd
        have hB0 := hB
        subst hv
        by_cases hd32 : d = 32
        · have hns : nstep b c = b := by unfold nstep; rw [if_pos ⟨by rw [hlc, h32], .inr ((endSp_last hd).2 hd32)⟩]
          rw [hns] at hgo
          have hd' : (d.toNat : Int) = 32 := by rw [hd32]; rfl
          have := hgo G _ hB
          simp [r0, r3, r4, hi, hc', h32', hb0, hb1, hb3, hb4, hb5, hw1, hld, hd', hw]
          obtain ⟨k', q1, i', q2, q3, q4⟩ := this
          exact ⟨k', q1, i', q2, _, _, ⟨rfl, rfl⟩, by simp [r0], _, by simp [r3], by simp [q3], q4⟩
        · have hns : nstep b c = b ++ [c] := by unfold nstep; rw [if_neg (fun h => h.2.elim hb0 (fun h => hd32 ((endSp_last hd).1 h))), hlc]
          have hd' : ¬ (d.toNat : Int) = 32 := by have := mt u8_32.2 hd32; omega
          obtain ⟨v', G', ha, hB'⟩ := hB.push (by omega) (c := c) (d := .int .u8) (z := [.int .u8 0]) rfl
          rw [← hns] at hB'
          rw [h32'] at ha
          simp [r0, r3, r4, hi, hc', h32', hb0, hb1, hb3, hb4, hb5, hw1, hld, hd', elemT, fillL, zerosL, St.new, badArg, ha, hw]
          obtain ⟨k', q1, i', q2, q3, q4⟩ := hgo G' v' hB'
          exact ⟨k', q1, i', q2, _, _, ⟨rfl, rfl⟩, by simp [r0], _, by simp [r3], by simp [q3], q4⟩
    · have h32' : ¬ (c.toNat : Int) = 32 := by have := mt u8_32.2 h32; omega
      have hns : nstep b c = b ++ [c] := by unfold nstep; rw [if_neg (fun h => h32 (hlc ▸ h.1)), hlc]
      obtain ⟨v', G', ha, hB'⟩ := hB.push (by omega) (c := c) (d := .int .u8) (z := [.int .u8 0]) rfl
      rw [← hns] at hB'
      have := hgo G' v' hB'
      rcases hu with hu | ⟨hu, hu2⟩
      · simp [r0, r3, r4, hi, hc', hu, h32', elemT, fillL, zerosL, St.new, badArg, ha, hw]
        obtain ⟨k', q1, i', q2, q3, q4⟩ := this
        exact ⟨k', q1, i', q2, _, _, ⟨rfl, rfl⟩, by simp [r0], _, by simp [r3], by simp [q3], q4⟩
      · simp [r0, r3, r4, hi, hc', hu, hu2, h32', elemT, fillL, zerosL, St.new, badArg, ha, hw]
        obtain ⟨k', q1, i', q2, q3, q4⟩ := this
        exact ⟨k', q1, i', q2, _, _, ⟨rfl, rfl⟩, by simp [r0], _, by simp [r3], by simp [q3], q4⟩
end Go.Proofs.Try0
end

section
namespace Go.Proofs.Try0
open Go Go.Lite
set_option linter.unusedSimpArgs false
set_option linter.unusedVariables false

/-- Ends the one text with the other? -/
def EndsWith (s w : Str) : Prop := w.length ≤ s.length ∧ s.drop (s.length - w.length) = w

set_option maxRecDepth 10000 in
theorem hasSuffix {s w : Str} {H : List Ob} (hs : s.length ≤ 1000000) (hw : w.length ≤ 1000000) : callW C 345 [.str s, .str w] H = some (.bool (dec (EndsWith s w)), H) := by
  apply Ret.dec
  rw [op345]
  by_cases h1 : (s.length : Int) ≥ w.length
  · have hw1 : IntKind.i64.wrap ((s.length : Int) - w.length) = (s.length : Int) - w.length := wrap_i64 (by omega) (by omega)
    have h2 : (w.length : Int) ≤ (s.length : Int) := h1
    have h3 : ((s.length : Int) - w.length).toNat = s.length - w.length := by omega
    have h4 : (0 : Int) ≤ (s.length : Int) - w.length := by omega
    have h5 : w.length ≤ s.length := by omega
    by_cases h6 : s.drop (s.length - w.length) = w
    · have hn : EndsWith s w := ⟨h5, h6⟩
      simp [code345, Tryz.f345, h1, h2, h3, h4, h5, hw1, h6, hn]
    · have hn : ¬ EndsWith s w := fun h => h6 h.2
      simp [code345, Tryz.f345, h1, h2, h3, h4, h5, hw1, h6, hn]
  · have hn : ¬ EndsWith s w := fun h => h1 (by have := h.1; omega)
    simp [code345, Tryz.f345, h1, hn]

noncomputable def trimEnd (s w : Str) : Str := if dec (EndsWith s w) = true then s.take (s.length - w.length) else s

set_option maxRecDepth 10000 in
theorem trimSuffixL {s w : Str} {H : List Ob} (hs : s.length ≤ 1000000) (hw : w.length ≤ 1000000) : callW C 256 [.str s, .str w] H = some (.str (trimEnd s w), H) := by
  apply Ret.eq
  rw [op256]
  have hc := hasSuffix (H := H) hs hw
  by_cases h : EndsWith s w
  · rw [dec_pos h] at hc
    have h0 := h.1
    have hw1 : IntKind.i64.wrap ((s.length : Int) - w.length) = (s.length : Int) - w.length := wrap_i64 (by omega) (by omega)
    have h2 : (w.length : Int) ≤ (s.length : Int) := by omega
    have h3 : ((s.length : Int) - w.length).toNat = s.length - w.length := by omega
    have ht : trimEnd s w = s.take (s.length - w.length) := by unfold trimEnd; rw [dec_pos h]; rfl
    simp [code256, Tryz.f256, hc, hw1, h2, h3, ht]
  · rw [dec_neg h] at hc
    have ht : trimEnd s w = s := by unfold trimEnd; rw [dec_neg h]; rfl
    simp [code256, Tryz.f256, hc, ht]

theorem trimEnd_sp {s : Str} : trimEnd s [32] = nfin s := by
  have he : EndsWith s [32] ↔ endSp s = true := by
    unfold EndsWith endSp
    cases hl : s.getLast? with
    | none =>
      have : s = [] := by simpa using hl
      subst this
      simp
    | some d =>
      have hne : s ≠ [] := by rintro rfl; simp at hl
      have h1 : 1 ≤ s.length := List.length_pos_iff.2 hne
      rw [List.getLast?_eq_getElem?] at hl
      have h2 : s.drop (s.length - 1) = [d] := by
        apply List.ext_getElem?
        intro j
        rw [List.getElem?_drop]
        cases j with
        | zero => simpa using hl
        | succ j => simp; omega
      simp [h1, h2]
  unfold trimEnd nfin
  by_cases h : endSp s = true
  · rw [dec_pos (he.2 h), if_pos rfl, if_pos h, List.dropLast_eq_take]
    rfl
  · rw [dec_neg (mt he.1 h), if_neg (by simp), if_neg h]

set_option maxRecDepth 10000 in
theorem trimSp {s : Str} {H : List Ob} (hs : s.length ≤ 1000000) : callW C 152 [.str s, .str [32]] H = some (.str (nfin s), H) := by
  apply Ret.eq
  rw [op152]
  have hc := trimSuffixL (H := H) hs (w := [32]) (by simp)
  rw [trimEnd_sp] at hc
  simp [code152, Tryz.f152, hc]

set_option maxRecDepth 10000 in
set_option maxHeartbeats 4000000 in
theorem i_Norm {t : Str} {H : List Ob} : callW C 50 [.str t] H = some (.str (norm t), H) := by
  apply Ret.eq
  rw [op50]
  by_cases g1 : (t.length : Int) > 100
  · have : norm t = [] := by unfold norm; rw [if_neg (by omega)]
    simp [code50, Tryz.f50, g1, this]
  have hp := i_Plain (t := t) (H := H) (by omega)
  by_cases g2 : Plain t
  rotate_left
  · rw [dec_neg g2] at hp
    have : norm t = [] := by unfold norm; rw [dec_neg g2]; simp
    simp [code50, Tryz.f50, g1, hp, this]
  rw [dec_pos g2] at hp
  have hn : norm t = nfin (t.foldl nstep []) := by unfold norm; rw [if_pos ⟨by omega, dec_pos g2⟩]
  have hbz : ∀ i, ((t.take i).foldl nstep []).length ≤ 100 := fun i => by
    have := foldl_len (t.take i) []
    simp at this
    omega
  simp [code50, Tryz.f50, g1, hp, elemT, fillL, zerosL, St.new]
  refine WP_loop (fun k σ => ∃ (i : Nat) (r : Nat → R) (G : List Ob) (v : V), i + k = t.length ∧ σ = ⟨r, 0, G⟩ ∧ r 0 = .val (.str t) ∧ r 3 = .val v ∧ r 16 = .val (.int .i64 t.length) ∧ r 17 = .val (.int .i64 i) ∧ Bs H G v ((t.take i).foldl nstep [])) ?_ t.length _ ⟨0, _, _, _, by simp, rfl, by simp, by simp, by simp, by simp, Bs.init⟩
  rintro k σ ⟨i, r, G, v, hik, rfl, r0, r3, r16, r17, hB⟩
  have hbl := hbz i
  generalize hb : (t.take i).foldl nstep [] = b at hB hbl
  have hw1 : IntKind.i64.wrap ((b.length : Int) - 1) = (b.length : Int) - 1 := wrap_i64 (by omega) (by omega)
  cases k with
  | zero =>
    have hi : i = t.length := by omega
    subst hi
    rw [List.take_length] at hb
    rw [hb] at hn
    obtain ⟨TT, rfl⟩ := hB.ext
    obtain ⟨id, rfl, hst, hsl⟩ := hB.cut (n := b.length) (Nat.le_refl _)
    rw [List.take_length] at hsl
    have hts := trimSp (s := b) (H := H ++ TT) (by omega)
    simp [r0, r3, r16, r17, hsl, isByte, bys_mapM, hn, hts]
  | succ k =>
    have hi : i < t.length := by omega
    obtain ⟨c, hc⟩ : ∃ c, t[i]? = some c := ⟨t[i], by simp [hi]⟩
    have hc' : t[i] = c := (List.getElem?_eq_some_iff.1 hc).2
    have hw : IntKind.i64.wrap ((i : Int) + 1) = ((i : Int) + 1) := wrap_i64 (by omega) (by omega)
    have hfs := foldl_step hc nstep []
    rw [hb] at hfs
    have hgo : ∀ G' v', Bs H G' v' (nstep b c) → ∃ k', k' < k + 1 ∧ ∃ i', i' + k' = t.length ∧ (i : Int) + 1 = i' ∧ Bs H G' v' ((t.take i').foldl nstep []) := fun G' v' h =>
      ⟨k, by omega, i + 1, by omega, by omega, by rw [hfs]; exact h⟩
    by_cases hup : 65 ≤ c.toNat ∧ c.toNat ≤ 90
    · have hu1 : (c.toNat : Int) ≥ 65 := by omega
      have hu2 : (c.toNat : Int) ≤ 90 := by omega
      have hlw := lowC_up hup.1 hup.2
      have hl32 : ¬ ((lowC c).toNat : Int) = 32 := by rw [lowC_up32 hup.1 hup.2]; omega
      have hns : nstep b c = b ++ [lowC c] := by unfold nstep; rw [if_neg (fun h => hl32 (by rw [u8_32.1 h.1]; rfl))]
      obtain ⟨v', G', ha, hB'⟩ := hB.push (by omega) (c := lowC c) (d := .int .u8) (z := [.int .u8 0]) rfl
      rw [← hns] at hB'
      simp [r0, r3, r16, r17, hi, hc', hu1, hu2, hlw, hl32, elemT, fillL, zerosL, St.new, badArg, ha, hw]
      obtain ⟨k', q1, i', q2, q3, q4⟩ := hgo G' v' hB'
      exact ⟨k', q1, i', q2, _, _, ⟨rfl, rfl⟩, by simp [r0], _, by simp [r3], by simp [r16], by simp [q3], q4⟩
    have hlc := lowC_no hup
    have hu : (¬ (c.toNat : Int) ≥ 65) ∨ ((c.toNat : Int) ≥ 65 ∧ ¬ (c.toNat : Int) ≤ 90) := by omega
    by_cases h32 : c = 32
    · have h32' : (c.toNat : Int) = 32 := by rw [h32]; rfl
      have hu1 : ¬ (c.toNat : Int) ≥ 65 := by omega
      by_cases hb0 : b = []
      · have hns : nstep b c = b := by unfold nstep; rw [if_pos ⟨by rw [hlc, h32], .inl hb0⟩]
        rw [hns] at hgo
        have hbl0 : b.length = 0 := by rw [hb0]; rfl
        simp [r0, r3, r16, r17, hi, hc', h32', hB.len, hbl0, hw]
        obtain ⟨k', q1, i', q2, q3, q4⟩ := hgo G v hB
        exact ⟨k', q1, i', q2, _, _, ⟨rfl, rfl⟩, by simp [r0], _, by simp [r3], by simp [r16], by simp [q3], q4⟩
      · obtain ⟨d, hd⟩ := last_some hb0
        have hb1 : 0 < b.length := List.length_pos_iff.2 hb0
        have hb3 : (1 : Int) ≤ (b.length : Int) := by omega
        have hb5 : (b.length : Int) - 1 < (b.length : Int) := by omega
        have hb4 : ((b.length : Int) - 1).toNat = b.length - 1 := by omega
        obtain ⟨id, hv, hld⟩ := hB.last hd
        subst hv
        by_cases hd32 : d = 32
        · have hns : nstep b c = b := by unfold nstep; rw [if_pos ⟨by rw [hlc, h32], .inr ((endSp_last hd).2 hd32)⟩]
          rw [hns] at hgo
          have hd' : (d.toNat : Int) = 32 := by rw [hd32]; rfl
          simp [r0, r3, r16, r17, hi, hc', h32', hb0, hb1, hb3, hb4, hb5, hw1, hld, hd', hw]
          obtain ⟨k', q1, i', q2, q3, q4⟩ := hgo G _ hB
          exact ⟨k', q1, i', q2, _, _, ⟨rfl, rfl⟩, by simp [r0], _, by simp [r3], by simp [r16], by simp [q3], q4⟩
        · have hns : nstep b c = b ++ [c] := by unfold nstep; rw [if_neg (fun h => h.2.elim hb0 (fun h => hd32 ((endSp_last hd).1 h))), hlc]
          have hd' : ¬ (d.toNat : Int) = 32 := by have := mt u8_32.2 hd32; omega
          obtain ⟨v', G', ha, hB'⟩ := hB.push (by omega) (c := c) (d := .int .u8) (z := [.int .u8 0]) rfl
          rw [← hns] at hB'
          rw [h32'] at ha
          simp [r0, r3, r16, r17, hi, hc', h32', hb0, hb1, hb3, hb4, hb5, hw1, hld, hd', elemT, fillL, zerosL, St.new, badArg, ha, hw]
          obtain ⟨k', q1, i', q2, q3, q4⟩ := hgo G' v' hB'
          exact ⟨k', q1, i', q2, _, _, ⟨rfl, rfl⟩, by simp [r0], _, by simp [r3], by simp [r16], by simp [q3], q4⟩
    · have h32' : ¬ (c.toNat : Int) = 32 := by have := mt u8_32.2 h32; omega
      have hns : nstep b c = b ++ [c] := by unfold nstep; rw [if_neg (fun h => h32 (hlc ▸ h.1)), hlc]
      obtain ⟨v', G', ha, hB'⟩ := hB.push (by omega) (c := c) (d := .int .u8) (z := [.int .u8 0]) rfl
      rw [← hns] at hB'
      obtain ⟨k', q1, i', q2, q3, q4⟩ := hgo G' v' hB'
      rcases hu with hu | ⟨hu, hu2⟩
      · simp [r0, r3, r16, r17, hi, hc', hu, h32', elemT, fillL, zerosL, St.new, badArg, ha, hw]
        exact ⟨k', q1, i', q2, _, _, ⟨rfl, rfl⟩, by simp [r0], _, by simp [r3], by simp [r16], by simp [q3], q4⟩
      · simp [r0, r3, r16, r17, hi, hc', hu, hu2, h32', elemT, fillL, zerosL, St.new, badArg, ha, hw]
        exact ⟨k', q1, i', q2, _, _, ⟨rfl, rfl⟩, by simp [r0], _, by simp [r3], by simp [r16], by simp [q3], q4⟩

theorem s_Value {t : Str} {H : List Ob} : callW C 114 [.str t] H = some (.bool (dec (ValueOk t)), H) := by
  apply Ret.dec
  rw [op114]
  have hn := s_Norm (t := t) (H := H)
  by_cases g1 : (t.length : Int) ≥ 1
  · by_cases g2 : (t.length : Int) ≤ 40
    · by_cases g3 : norm t = []
      · have hv : ¬ ValueOk t := fun h => h.2.2 g3
        simp [code114, Tryz.f114, g1, g2, hn, g3, hv]
      · have hv : ValueOk t := ⟨by omega, by omega, g3⟩
        simp [code114, Tryz.f114, g1, g2, hn, g3, hv]
    · have : ¬ ValueOk t := fun h => by have := h.2.1; omega
      simp [code114, Tryz.f114, g1, g2, this]
  · have : ¬ ValueOk t := fun h => by have := h.1; omega
    simp [code114, Tryz.f114, g1, this]

theorem i_Value {t : Str} {H : List Ob} : callW C 232 [.str t] H = some (.bool (dec (ValueOk t)), H) := by
  apply Ret.dec
  rw [op232]
  have hn := i_Norm (t := t) (H := H)
  by_cases g1 : (t.length : Int) ≥ 1
  · by_cases g2 : (t.length : Int) ≤ 40
    · by_cases g3 : norm t = []
      · have hv : ¬ ValueOk t := fun h => h.2.2 g3
        simp [code232, Tryz.f232, g1, g2, hn, g3, hv]
      · have hv : ValueOk t := ⟨by omega, by omega, g3⟩
        simp [code232, Tryz.f232, g1, g2, hn, g3, hv]
    · have : ¬ ValueOk t := fun h => by have := h.2.1; omega
      simp [code232, Tryz.f232, g1, g2, this]
  · have : ¬ ValueOk t := fun h => by have := h.1; omega
    simp [code232, Tryz.f232, g1, this]
end Go.Proofs.Try0
end

section
namespace Go.Proofs.Try0
open Go Go.Lite
set_option linter.unusedSimpArgs false
set_option linter.unusedVariables false

theorem prim_cmp {a b : Str} {H : List Ob} : callW C 425 [.str a, .str b] H = some (.int .i64 (Lib.compareBytes a b), H) :=
  callW_prim (pr := cmpPrim) rfl
theorem l_CompareString {a b : Str} {H : List Ob} : callW C 391 [.str a, .str b] H = some (.int .i64 (Lib.compareBytes a b), H) := by
  apply Ret.eq
  rw [op391]
  simp [code391, Tryz.f391, prim_cmp]
theorem l_Compare {a b : Str} {H : List Ob} : callW C 319 [.str a, .str b] H = some (.int .i64 (Lib.compareBytes a b), H) := by
  apply Ret.eq
  rw [op319]
  simp [code319, Tryz.f319, l_CompareString]
theorem i_byNorm {a b : Str} {H : List Ob} : callW C 222 [.str a, .str b] H = some (.int .i64 (Lib.compareBytes (norm a) (norm b)), H) := by
  apply Ret.eq
  rw [op222]
  have c1 := i_Norm (t := a) (H := H)
  have c2 := i_Norm (t := b) (H := H)
  simp [code222, Tryz.f222, c1, c2, l_Compare]
end Go.Proofs.Try0
end

section
namespace Go.Proofs
open Go.Shelf
def Tryz.laysSort_ren : Go.Shelf.Ren := ⟨fun | 190 => 341 | 125 => 318 | 258 => 399 | 128 => 389 | 129 => 390 | 302 => 430 | 303 => 431 | 304 => 432 | 305 => 433 | 306 => 434 | 307 => 435 | 308 => 436 | 309 => 437 | 310 => 438 | 333 => 448 | 329 => 421 | 330 => 422 | 334 => 449 | 335 => 450 | 336 => 346 | 344 => 452 | n => n, fun | 31 => 26 | 9 => 9 | 3 => 3 | 46 => 321 | 0 => 0 | 51 => 376 | 53 => 251 | 4 => 4 | 183 => 370 | 182 => 369 | 131 => 194 | 5 => 5 | 218 => 397 | 222 => 401 | 228 => 410 | 229 => 317 | n => n, fun | n => n⟩
theorem Tryz.laysSort : Go.Proofs.Lays.n190 Tryz.prog Tryz.laysSort_ren := {
  mixed := by kernel_rfl
  f125 := Tryz.func318.trans (congrArg some (by kernel_rfl))
  f128 := Tryz.func389.trans (congrArg some (by kernel_rfl))
  f129 := Tryz.func390.trans (congrArg some (by kernel_rfl))
  f190 := Tryz.func341.trans (congrArg some (by kernel_rfl))
  f258 := Tryz.func399.trans (congrArg some (by kernel_rfl))
  f302 := Tryz.func430.trans (congrArg some (by kernel_rfl))
  f303 := Tryz.func431.trans (congrArg some (by kernel_rfl))
  f304 := Tryz.func432.trans (congrArg some (by kernel_rfl))
  f305 := Tryz.func433.trans (congrArg some (by kernel_rfl))
  f306 := Tryz.func434.trans (congrArg some (by kernel_rfl))
  f307 := Tryz.func435.trans (congrArg some (by kernel_rfl))
  f308 := Tryz.func436.trans (congrArg some (by kernel_rfl))
  f309 := Tryz.func437.trans (congrArg some (by kernel_rfl))
  f310 := Tryz.func438.trans (congrArg some (by kernel_rfl))
  f329 := Tryz.func421.trans (congrArg some (by kernel_rfl))
  f330 := Tryz.func422.trans (congrArg some (by kernel_rfl))
  f333 := Tryz.func448.trans (congrArg some (by kernel_rfl))
  f334 := Tryz.func449.trans (congrArg some (by kernel_rfl))
  f335 := Tryz.func450.trans (congrArg some (by kernel_rfl))
  f336 := Tryz.func346.trans (congrArg some (by kernel_rfl))
  f344 := Tryz.func452.trans (congrArg some (by kernel_rfl))
  t0 := Tryz.underlying0
  a0 := Tryz.isAgg0
  z0 := Tryz.sizeOf0
  v0 := Tryz.zeroValue0
  t3 := Tryz.underlying3
  a3 := Tryz.isAgg3
  z3 := Tryz.sizeOf3
  v3 := Tryz.zeroValue3
  t4 := Tryz.underlying4
  a4 := Tryz.isAgg4
  z4 := Tryz.sizeOf4
  v4 := Tryz.zeroValue4
  t5 := Tryz.underlying5
  a5 := Tryz.isAgg5
  z5 := Tryz.sizeOf5
  v5 := Tryz.zeroValue5
  t9 := Tryz.underlying9
  a9 := Tryz.isAgg9
  z9 := Tryz.sizeOf9
  v9 := Tryz.zeroValue9
  t31 := Tryz.underlying26
  a31 := Tryz.isAgg26
  z31 := Tryz.sizeOf26
  v31 := Tryz.zeroValue26
  t46 := Tryz.underlying321
  a46 := Tryz.isAgg321
  z46 := Tryz.sizeOf321
  v46 := Tryz.zeroValue321
  t51 := Tryz.underlying376
  a51 := Tryz.isAgg376
  z51 := Tryz.sizeOf376
  v51 := Tryz.zeroValue376
  t53 := Tryz.underlying251
  a53 := Tryz.isAgg251
  z53 := Tryz.sizeOf251
  v53 := Tryz.zeroValue251
  t131 := Tryz.underlying194
  a131 := Tryz.isAgg194
  z131 := Tryz.sizeOf194
  v131 := Tryz.zeroValue194
  t182 := Tryz.underlying369
  a182 := Tryz.isAgg369
  z182 := Tryz.sizeOf369
  v182 := Tryz.zeroValue369
  t183 := Tryz.underlying370
  a183 := Tryz.isAgg370
  z183 := Tryz.sizeOf370
  v183 := Tryz.zeroValue370
  t218 := Tryz.underlying397
  a218 := Tryz.isAgg397
  z218 := Tryz.sizeOf397
  v218 := Tryz.zeroValue397
  t222 := Tryz.underlying401
  a222 := Tryz.isAgg401
  z222 := Tryz.sizeOf401
  v222 := Tryz.zeroValue401
  t228 := Tryz.underlying410
  a228 := Tryz.isAgg410
  z228 := Tryz.sizeOf410
  v228 := Tryz.zeroValue410
  t229 := Tryz.underlying317
  a229 := Tryz.isAgg317
  z229 := Tryz.sizeOf317
  v229 := Tryz.zeroValue317 }
def Tryz.laySortF_ren : Go.Shelf.Ren := ⟨fun | 6 => 221 | 15 => 318 | 14 => 317 | 28 => 389 | 29 => 390 | 20 => 381 | 21 => 382 | 22 => 383 | 23 => 384 | 24 => 385 | 25 => 386 | 26 => 387 | 27 => 388 | 46 => 420 | 47 => 421 | 48 => 422 | 49 => 423 | 50 => 424 | 57 => 443 | n => n, fun | 22 => 26 | 24 => 9 | 25 => 237 | 3 => 3 | 39 => 321 | 0 => 0 | 53 => 376 | 55 => 251 | 4 => 4 | 46 => 370 | 45 => 369 | 50 => 194 | 5 => 5 | 9 => 9 | 66 => 397 | 70 => 401 | 76 => 410 | 77 => 317 | n => n, fun | n => n⟩
theorem Tryz.laySortF : Go.Proofs.SlLaysF.n6 Tryz.prog Tryz.laySortF_ren := {
  mixed := by kernel_rfl
  f6 := ⟨Tryz.f221.name, by decide, Tryz.func221.trans (congrArg some (by kernel_rfl))⟩
  f14 := ⟨Tryz.f317.name, by decide, Tryz.func317.trans (congrArg some (by kernel_rfl))⟩
  f15 := Tryz.func318.trans (congrArg some (by kernel_rfl))
  f20 := ⟨Tryz.f381.name, by decide, Tryz.func381.trans (congrArg some (by kernel_rfl))⟩
  f21 := ⟨Tryz.f382.name, by decide, Tryz.func382.trans (congrArg some (by kernel_rfl))⟩
  f22 := ⟨Tryz.f383.name, by decide, Tryz.func383.trans (congrArg some (by kernel_rfl))⟩
  f23 := ⟨Tryz.f384.name, by decide, Tryz.func384.trans (congrArg some (by kernel_rfl))⟩
  f24 := ⟨Tryz.f385.name, by decide, Tryz.func385.trans (congrArg some (by kernel_rfl))⟩
  f25 := ⟨Tryz.f386.name, by decide, Tryz.func386.trans (congrArg some (by kernel_rfl))⟩
  f26 := ⟨Tryz.f387.name, by decide, Tryz.func387.trans (congrArg some (by kernel_rfl))⟩
  f27 := ⟨Tryz.f388.name, by decide, Tryz.func388.trans (congrArg some (by kernel_rfl))⟩
  f28 := Tryz.func389.trans (congrArg some (by kernel_rfl))
  f29 := Tryz.func390.trans (congrArg some (by kernel_rfl))
  f46 := ⟨Tryz.f420.name, by decide, Tryz.func420.trans (congrArg some (by kernel_rfl))⟩
  f47 := Tryz.func421.trans (congrArg some (by kernel_rfl))
  f48 := Tryz.func422.trans (congrArg some (by kernel_rfl))
  f49 := ⟨Tryz.f423.name, by decide, Tryz.func423.trans (congrArg some (by kernel_rfl))⟩
  f50 := ⟨Tryz.f424.name, by decide, Tryz.func424.trans (congrArg some (by kernel_rfl))⟩
  f57 := ⟨Tryz.f443.name, by decide, Tryz.func443.trans (congrArg some (by kernel_rfl))⟩
  t0 := Tryz.underlying0
  a0 := Tryz.isAgg0
  z0 := Tryz.sizeOf0
  v0 := Tryz.zeroValue0
  t3 := Tryz.underlying3
  a3 := Tryz.isAgg3
  z3 := Tryz.sizeOf3
  v3 := Tryz.zeroValue3
  t4 := Tryz.underlying4
  a4 := Tryz.isAgg4
  z4 := Tryz.sizeOf4
  v4 := Tryz.zeroValue4
  t5 := Tryz.underlying5
  a5 := Tryz.isAgg5
  z5 := Tryz.sizeOf5
  v5 := Tryz.zeroValue5
  t9 := Tryz.underlying9
  a9 := Tryz.isAgg9
  z9 := Tryz.sizeOf9
  v9 := Tryz.zeroValue9
  t22 := Tryz.underlying26
  a22 := Tryz.isAgg26
  z22 := Tryz.sizeOf26
  v22 := Tryz.zeroValue26
  a24 := Tryz.isAgg9
  z24 := Tryz.sizeOf9
  t25 := Tryz.underlying237
  a25 := Tryz.isAgg237
  z25 := Tryz.sizeOf237
  v25 := Tryz.zeroValue237
  t39 := Tryz.underlying321
  a39 := Tryz.isAgg321
  z39 := Tryz.sizeOf321
  v39 := Tryz.zeroValue321
  t45 := Tryz.underlying369
  a45 := Tryz.isAgg369
  z45 := Tryz.sizeOf369
  v45 := Tryz.zeroValue369
  t46 := Tryz.underlying370
  a46 := Tryz.isAgg370
  z46 := Tryz.sizeOf370
  v46 := Tryz.zeroValue370
  t50 := Tryz.underlying194
  a50 := Tryz.isAgg194
  z50 := Tryz.sizeOf194
  v50 := Tryz.zeroValue194
  t53 := Tryz.underlying376
  a53 := Tryz.isAgg376
  z53 := Tryz.sizeOf376
  v53 := Tryz.zeroValue376
  t55 := Tryz.underlying251
  a55 := Tryz.isAgg251
  z55 := Tryz.sizeOf251
  v55 := Tryz.zeroValue251
  t66 := Tryz.underlying397
  a66 := Tryz.isAgg397
  z66 := Tryz.sizeOf397
  v66 := Tryz.zeroValue397
  t70 := Tryz.underlying401
  a70 := Tryz.isAgg401
  z70 := Tryz.sizeOf401
  v70 := Tryz.zeroValue401
  t76 := Tryz.underlying410
  a76 := Tryz.isAgg410
  z76 := Tryz.sizeOf410
  v76 := Tryz.zeroValue410
  t77 := Tryz.underlying317
  a77 := Tryz.isAgg317
  z77 := Tryz.sizeOf317
  v77 := Tryz.zeroValue317 }
end Go.Proofs
end

section
namespace Go.Proofs.Try1
open Go Go.Lite

theorem progOk0 : ProgOk Tryz.prog Try0.C := progB_sound Try0.mixed Try0.ok fun g pr h => by
  change Try0.primTab g = some pr at h
  unfold Try0.primTab at h
  split at h
  · rename_i hg; subst hg; cases h; exact cmp_ok
  · cases h

theorem sortFn_ok : PrimOk Tryz.prog 221 (sortFnPrim 222) := by
  have eb := enters Tryz.func222 (by kernel_rfl) (by kernel_rfl)
  refine sortFnPrim_ok swoN (enters Tryz.func221 (by kernel_rfl) (by kernel_rfl)) (fun blk off cap zs w hH hb hl => ?_)
    (fun p cap w => AnyF.slices_SortFunc_none (P := Tryz.prog) (ρ := Tryz.laySortF_ren) { Tryz.laySortF with } p cap _ w)
  exact Any.slices_SortFunc_eq Tryz.laySortF Go.Proofs.encStr (fun _ => rfl) normCmp swoN 222 #[] blk off cap zs.toArray w eb
    (fun m os dk hs x y => cmp_lays eb (callW_ok progOk0) normCmp (fun x y => ⟨[], Try0.i_byNorm⟩) x y _) hH hb (by simpa using hl)
end Go.Proofs.Try1
end
