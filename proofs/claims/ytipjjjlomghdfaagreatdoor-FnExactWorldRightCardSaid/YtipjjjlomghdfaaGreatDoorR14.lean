/- Part 14 of the proof of a law: the interpreter, its soundness, and what functions of the program compute over it. Conditions: none but those that each theorem names. -/
import Derived.Test.YtipjjjlomghdfaaGreatDoorR13
import Derived.Test.YtipjjjlomghdfaaGreatDoorR12
import Derived.Test.YtipjjjlomghdfaaGreatDoorR07
import Derived.Test.YtipjjjlomghdfaaGreatDoorR08
import Derived.Test.YtipjjjlomghdfaaGreatDoorR06

set_option linter.all false
set_option maxRecDepth 20000
set_option maxHeartbeats 40000000
section
namespace Go.Proofs.Try1
open Go Go.Lite
theorem anz {α : Type} {key : α → Str} {l : List α} {t : Str} {i : Nat} {a : α} (hp : l.Pairwise fun a b => key a < key b) (h : l[i]? = some a) (hk : key a = t) : firstOf key l t = some a := by
 unfold firstOf
 rw [List.find?_eq_some_iff_getElem]
 obtain ⟨hi, h⟩ := List.getElem?_eq_some_iff.1 h
 refine ⟨by simp [hk], i, hi, h, fun j hj => ?_⟩
 have := List.pairwise_iff_getElem.1 hp j i (by omega) hi hj
 rw [h, hk] at this
 have hne : key l[j] ≠ t := fun e => by rw [e] at this; exact List.lt_irrefl _ this
 simp [hne]
theorem anI {α : Type} {key : α → Str} {l : List α} {t : Str} (h : ∀ a ∈ l, key a ≠ t) : firstOf key l t = none := by
 unfold firstOf
 rw [List.find?_eq_none]
 intro x hx
 simpa using h x hx
theorem arR {H : List Ob} {ide eo : Nat} {vd va : V} {l : List PAttr} {t : Str} (he : At2 H ide eo vd va) (h : AAttrs H va l) (hl : l.length ≤ 1000) (hp : l.Pairwise fun a b => a.name < b.name) :
  ∃ (i : Nat) (ok : Bool), callW C 335 [.ptr (some (ide, eo)), .str t] H = some (.tup [.int .i64 i, .bool ok], H) ∧
   (ok = true → ∃ a, l[i]? = some a ∧ a.name = t) ∧ (ok = false → ∀ a ∈ l, a.name ≠ t) := by
 obtain ⟨i, ok, c1, h1, h2⟩ := aqm (t := t) h hl hp
 refine ⟨i, ok, ?_, h1, h2⟩
 apply Ret.eq
 rw [axu]
 have ld := he.ld1
 simp [apt, Tryz.f335, ld, c1]
theorem apF {H : List Ob} {ide eo : Nat} {vd va : V} {l : List PAttr} {t : Str} (he : At2 H ide eo vd va) (h : AAttrs H va l) (hl : l.length ≤ 1000) (hp : l.Pairwise fun a b => a.name < b.name) :
  ∃ w, callW C 311 [.ptr (some (ide, eo)), .str t] H = some (w, H) ∧ AStrs H w (valsOf l t) := by
 obtain ⟨i, ok, c1, h1, h2⟩ := arR (t := t) he h hl hp
 suffices hs : Ret C 311 [.ptr (some (ide, eo)), .str t] H fun q H' => AStrs H q (valsOf l t) ∧ H' = H by
  obtain ⟨q, H', hc, hr, rfl⟩ := hs
  exact ⟨q, hc, hr⟩
 rw [awX]
 have ld := he.ld1
 cases ok with
 | false =>
  have hv : valsOf l t = [] := by unfold valsOf; rw [anI (h2 rfl)]
  simp [amI, Tryz.f311, c1, hv]
  exact At_slice.2 ⟨_, _, rfl, rfl, by simp, .inl ⟨rfl, rfl⟩⟩
 | true =>
  obtain ⟨a, ha, hat⟩ := h1 rfl
  obtain ⟨id, o, w, e1, l0, l1, _, hw, _⟩ := attrs_idx h ha
  have hv : valsOf l t = a.vals := by unfold valsOf; rw [anz hp ha hat]
  simp [amI, Tryz.f311, c1, ld, e1, l1, hv]
  exact hw
theorem alq {H : List Ob} {ide : Nat} {own : Bool} {es : Nat} {vd va : V} {l : List PAttr} {t : Str} (he : H[ide]? = some (.mk own es [vd, va])) (h : AAttrs H va l) (hl : l.length ≤ 1000) (hp : l.Pairwise fun a b => a.name < b.name) :
  ∃ w, callW C 311 [.ptr (some (ide, 0)), .str t] H = some (w, H) ∧ AStrs H w (valsOf l t) := apF (.of he) h hl hp
theorem asz {H : List Ob} {ide idp : Nat} {own own' : Bool} {es es' : Nat} {vd va : V} {l : List PAttr} {t : Str} (he : H[ide]? = some (.mk own es [vd, va])) (hq : H[idp]? = some (.mk own' es' [.ptr (some (ide, 0))])) (h : AAttrs H va l) (hl : l.length ≤ 1000) (hp : l.Pairwise fun a b => a.name < b.name) :
  callW C 313 [.str t, .ptr (some (idp, 0))] H = some (.bool (decide (0 < (valsOf l t).length)), H) := by
 obtain ⟨w, c1, hw⟩ := alq (t := t) he h hl hp
 apply Ret.eq
 rw [axX]
 have ld := load1 (o := 0) (v := .ptr (some (ide, 0))) hq rfl
 simp [aoL, Tryz.f313, ld, c1, hw.len]
theorem asr {H : List Ob} {idn : Nat} {own : Bool} {es : Nat} {n t : Str} {w1 w2 w3 : V} (hq : H[idn]? = some (.mk own es [.str t])) (h1 : cellsOf w1 = some [w1]) :
  callW C 333 [.agg [.str n, w1, w2, w3], .ptr (some (idn, 0))] H = some (.bool (decide (n = t)), H) := by
 apply Ret.eq
 rw [axv]
 have ld := load1 (o := 0) (v := .str t) hq rfl
 simp [apr, Tryz.f333, ld]
theorem anQ {H : List Ob} {idn : Nat} {own : Bool} {es : Nat} {v : V} {l : List PClass} {t : Str} (hq : H[idn]? = some (.mk own es [.str t])) (h : AClasses H v l) :
  ∃ r : Int, callW C 332 [v, .fn 333 [] [.ptr (some (idn, 0))]] H = some (.int .i64 r, H) ∧ FirstAt PClass.name l t r := by
 suffices hs : Ret C 332 [v, .fn 333 [] [.ptr (some (idn, 0))]] H fun q H' => (∃ r : Int, q = .int .i64 r ∧ FirstAt PClass.name l t r) ∧ H' = H by
  obtain ⟨q, H', hc, ⟨r, rfl, hr⟩, rfl⟩ := hs
  exact ⟨r, hc, hr⟩
 rw [ax0]
 have hb : l.length ≤ 9223372036854775807 := h.bound
 simp [aok, Tryz.f332, h.len]
 refine WP_loop (fun k σ => ∃ (i : Nat) (r : Nat → R), i + k = l.length ∧ σ = ⟨r, 0, H⟩ ∧ r 0 = .val v ∧ r 1 = .val (.fn 333 [] [.ptr (some (idn, 0))]) ∧ r 7 = .val (.int .i64 l.length) ∧ r 8 = .val (.int .i64 i) ∧ ∀ j x, j < i → l[j]? = some x → x.name ≠ t) ?_ l.length _ ⟨0, _, by simp, rfl, by simp, by simp, by simp, by simp, by simp⟩
 rintro k σ ⟨i, r, hik, rfl, r0, r1, r7, r8, hall⟩
 cases k with
 | zero =>
  have hi : i = l.length := by omega
  subst hi
  have hx := at_all (P := fun j (x : PClass) => x.name ≠ t) hall
  simp [r0, r1, r7, r8]
  exact .inr ⟨hx, rfl⟩
 | succ k =>
  have hi : i < l.length := by omega
  obtain ⟨x, hx⟩ : ∃ c, l[i]? = some c := ⟨l[i], by simp [hi]⟩
  have hw : IntKind.i64.wrap ((i : Int) + 1) = ((i : Int) + 1) := wrap_i64 (by omega) (by omega)
  obtain ⟨id, o, w1, w2, w3, e1, l0, l4, q1, q2, q3, _⟩ := classes_idx h hx
  have c1 := asr (n := x.name) (w1 := w1) (w2 := w2) (w3 := w3) hq q1.one.2
  by_cases g1 : x.name = t
  ·rw [decide_eq_true g1] at c1
   simp [r0, r1, r7, r8, hi, e1, l4, c1]
   exact .inl ⟨i, x, hx, g1, hall, rfl⟩
  ·rw [decide_eq_false g1] at c1
   simp [r0, r1, r7, r8, hi, e1, l4, c1, hw]
   exact ⟨k, by omega, i + 1, by omega, by omega, at_step (P := fun j (x : PClass) => x.name ≠ t) hall hx g1⟩
theorem alK {H T : List Ob} {w : V} {l : List Str} (h : AStrs (H ++ T) w l) (hl : lowV H w) : AStrs H w l := by
 obtain ⟨w', us, hw, hu, hb, hs⟩ := At_slice.1 h.at
 cases hw
 cases hu
 refine At_slice.2 ⟨_, _, rfl, rfl, hb, ?_⟩
 rcases hs with h | ⟨id, off, own, cells, rfl, h2, h3, h4⟩
 ·exact .inl h
 ·obtain ⟨_, _, _, h5⟩ := hl
  have hid := (List.getElem?_eq_some_iff.1 h5).1
  rw [List.getElem?_append_left hid] at h2
  refine .inr ⟨id, off, own, cells, rfl, h2, h3, fun i x hx => ?_⟩
  have := h4 i x hx
  rw [At_str] at this ⊢
  exact this
theorem alB {H T : List Ob} {m : Option PClass} {cs : List V} {ok : Bool} (h : aix (H ++ T) m cs ok) : ∃ T', gcH H (H ++ T) (.tup [.agg cs, .bool ok]) = H ++ T' ∧ aix (H ++ T') m cs ok := by
 by_cases hl : lowV H (.tup [.agg cs, .bool ok])
 ·refine ⟨[], by rw [gcH_low hl, List.append_nil], ?_⟩
  rw [List.append_nil]
  rcases h with ⟨rfl, c, w1, w2, w3, h1, rfl, h2, h3, h4⟩ | h
  ·simp only [lowV, lowVs, and_true, true_and] at hl
   exact .inl ⟨rfl, c, w1, w2, w3, h1, rfl, alK h2 hl.1, alK h3 hl.2.1, alK h4 hl.2.2⟩
  ·exact .inr h
 ·refine ⟨T, ?_, h⟩
  unfold gcH
  rw [if_neg fun h => hl h.2]
theorem alJ {H : List Ob} {v : V} {l : List Str} (h : AStrs H v l) (hl : l.length ≤ 1048576) : ∃ T w, callW C 248 [v] H = some (w, H ++ T) ∧ Own H (H ++ T) w l ∧ AStrs (H ++ T) w l ∧ isOne w = true ∧ cellsOf w = some [w] := by
 obtain ⟨T, w, h1, h2⟩ := aov h hl
 exact ⟨T, w, h1, h2, h2.strs (by unfold maxLen; omega) (ajc h), h2.one⟩
theorem apL {H : List Ob} {v : V} {l : List PClass} {t : Str} (h : AClasses H v l) (hb : ∀ c ∈ l, c.must.length ≤ 1000 ∧ c.may.length ≤ 1000 ∧ c.single.length ≤ 1000) :
  ∃ T cs ok, callW C 306 [v, .str t] H = some (.tup [.agg cs, .bool ok], H ++ T) ∧ aix (H ++ T) (firstOf PClass.name l t) cs ok := by
 suffices hs : Ret C 306 [v, .str t] H fun q H' => ∃ T cs ok, q = .tup [.agg cs, .bool ok] ∧ H' = H ++ T ∧ aix (H ++ T) (firstOf PClass.name l t) cs ok by
  obtain ⟨q, H', hc, T, cs, ok, rfl, rfl, hr⟩ := hs
  exact ⟨T, cs, ok, hc, hr⟩
 rw [avd]
 obtain ⟨r, c1, hr⟩ := anQ (H := H ++ [.mk true 1 [.str t]]) (idn := H.length) (t := t) get_last h.ext
 rcases hr.pos with ⟨k, a, h1, rfl, h2⟩ | ⟨rfl, h2⟩
 ·obtain ⟨id, o, w1, w2, w3, e1, l4, q1, q2, q3⟩ := classes_idxT h h1
  have l4 := l4 [.mk true 1 [.str t]]
  obtain ⟨b1, b2, b3⟩ := hb a (List.mem_of_getElem? h1)
  have hk : ¬ ((k : Int) < 0) := by omega
  obtain ⟨T1, x1, d1, _, s1, o1⟩ := alJ (q1.ext (T := [.mk true 1 [.str t]])) (by omega)
  obtain ⟨T2, x2, d2, _, s2, o2⟩ := alJ (q2.ext.ext (T := T1) (H := H ++ [.mk true 1 [.str t]])) (by omega)
  obtain ⟨T3, x3, d3, _, s3, o3⟩ := alJ (q3.ext.ext.ext (T := T2) (H := H ++ [.mk true 1 [.str t]] ++ T1)) (by omega)
  have hres : aix (H ++ ([.mk true 1 [.str t]] ++ (T1 ++ (T2 ++ T3)))) (firstOf PClass.name l t) [.str a.name, x1, x2, x3] true := by
   refine .inl ⟨rfl, a, x1, x2, x3, h2, rfl, ?_, ?_, ?_⟩
   ·have := s1.ext (T := T2 ++ T3); simpa only [List.append_assoc] using this
   ·have := s2.ext (T := T3); simpa only [List.append_assoc] using this
   ·simpa only [List.append_assoc] using s3
  obtain ⟨T', hg, hres⟩ := alB hres
  simp only [List.append_assoc, List.cons_append, List.nil_append] at d1 d2 d3 hg
  simp [amH, Tryz.f306, c1, hk, e1, l4, d1, d2, d3, o1, o2, o3, q1.one, q2.one, q3.one, strideOf, buildV, fillL, structPlace, List.lookup, hg]
  exact hres
 ·have hres : aix (H ++ [.mk true 1 [.str t]]) (firstOf PClass.name l t) [.str [], .slc none 0, .slc none 0, .slc none 0] false := .inr ⟨rfl, h2, rfl⟩
  obtain ⟨T', hg, hres⟩ := alB hres
  simp [amH, Tryz.f306, c1, strideOf, buildV, fillL, structPlace, hg]
  exact hres
theorem apB {H : List Ob} {ide : Nat} {own : Bool} {es : Nat} {vd va : V} {l : List PAttr} (he : H[ide]? = some (.mk own es [vd, va])) (h : AAttrs H va l) (hl : l.length ≤ 1000) (hp : l.Pairwise fun a b => a.name < b.name) :
  ∃ w, callW C 311 [.ptr (some (ide, 0)), .str [99, 108, 97, 115, 115]] H = some (w, H) ∧ AStrs H w (valsOf l classT) := alq he h hl hp
theorem apw {H : List Ob} {ide : Nat} {own : Bool} {es : Nat} {vd va vl : V} {l : List PClass} {as' : List PAttr} (he : H[ide]? = some (.mk own es [vd, va])) (h : AAttrs H va as') (hl : as'.length ≤ 1000) (hp : as'.Pairwise fun a b => a.name < b.name)
  (hc : AClasses H vl l) (hb : ∀ c ∈ l, c.must.length ≤ 1000 ∧ c.may.length ≤ 1000 ∧ c.single.length ≤ 1000) :
  ∃ T cs ok, callW C 267 [vl, .ptr (some (ide, 0))] H = some (.tup [.agg cs, .bool ok], H ++ T) ∧ aix (H ++ T) (mineOf l as') cs ok := by
 suffices hs : Ret C 267 [vl, .ptr (some (ide, 0))] H fun q H' => ∃ T cs ok, q = .tup [.agg cs, .bool ok] ∧ H' = H ++ T ∧ aix (H ++ T) (mineOf l as') cs ok by
  obtain ⟨q, H', hc, T, cs, ok, rfl, rfl, hr⟩ := hs
  exact ⟨T, cs, ok, hc, hr⟩
 rw [awP]
 obtain ⟨w, c1, hw⟩ := apB he h hl hp
 by_cases g1 : (valsOf as' classT).length = 1
 rotate_left
 ·have hm : mineOf l as' = none := by
   unfold mineOf
   split
   ·rename_i v hv; rw [hv] at g1; exact absurd rfl g1
   ·rfl
  have g1' : ¬ ((valsOf as' classT).length : Int) = 1 := by omega
  simp [amg, Tryz.f267, c1, hw.len, g1', buildV, fillL]
  exact .inr ⟨rfl, hm, rfl⟩
 obtain ⟨s, hs⟩ : ∃ s, valsOf as' classT = [s] := by
  match h : valsOf as' classT, g1 with
  | [s], _ => exact ⟨s, rfl⟩
 rw [hs] at hw
 obtain ⟨id, o, e1, l0, _⟩ := strs_idx hw (i := 0) (s := s) rfl
 simp only [Int.ofNat_eq_natCast, Int.natCast_zero] at e1
 have c2 := aiX (t := s) (H := H)
 obtain ⟨T, cs, ok, c3, hres⟩ := apL (t := norm s) hc hb
 have hm : mineOf l as' = firstOf PClass.name l (norm s) := by unfold mineOf; rw [hs]
 rw [← hm] at hres
 have hcs : cs.length = 4 ∧ cs.all isOne = true := by
  rcases hres with ⟨_, c, w1, w2, w3, _, rfl, h1, h2, h3⟩ | ⟨_, _, rfl⟩
  ·exact ⟨rfl, by simp [h1.one, h2.one, h3.one]⟩
  ·exact ⟨rfl, rfl⟩
 obtain ⟨T', hg, hres⟩ := alB hres
 obtain ⟨x1, x2, x3, x4, rfl⟩ : ∃ x1 x2 x3 x4, cs = [x1, x2, x3, x4] := by
  match cs, hcs.1 with
  | [x1, x2, x3, x4], _ => exact ⟨_, _, _, _, rfl⟩
 have hone := hcs.2
 simp at hone
 cases ok <;> simp [amg, Tryz.f267, c1, hw.len, e1, l0, c2, c3, hone, hg] <;> exact hres
theorem aoZ {H : List Ob} {v : V} {l : List PRdn} (h : ARdns H v l) (hd : DnOk l) : callW C 112 [v] H = some (.str (keyD l), H) := by
 rw [callW_prim (show C.prim 112 = some dkPrim from rfl)]
 exact dkPrim_eq h hd.small.1 hd.small.2
theorem arA {H : List Ob} {id : Nat} {own : Bool} {es : Nat} {t n : Str} (hq : H[id]? = some (.mk own es [.str n])) : callW C 314 [.str t, .ptr (some (id, 0))] H = some (.bool (dec (norm t = n)), H) := by
 apply Ret.dec
 rw [avU]
 have ld := load1 (o := 0) (v := .str n) hq rfl
 have c1 := aiX (t := t) (H := H)
 have hid : id < H.length := (List.getElem?_eq_some_iff.1 hq).1
 simp [aoF, Tryz.f314, ld, c1, hid]
 exact (Classical.em _).symm
theorem axc {H : List Ob} {ide : Nat} {own : Bool} {es : Nat} {vd va : V} {l : List PAttr} {t n : Str} (he : H[ide]? = some (.mk own es [vd, va])) (h : AAttrs H va l) (hl : l.length ≤ 1000) (hp : l.Pairwise fun a b => a.name < b.name) :
  callW C 269 [.ptr (some (ide, 0)), .str t, .str n] H = some (.bool (dec (HasOk l t n)), H) := by
 apply Ret.dec
 rw [axz]
 have ld := load1 (H := H ++ [.mk true 1 [.str n]]) (o := 0) (v := .str n) get_last rfl
 have hgb : ∀ X b, gcH H (H ++ X) (.bool b) = H := fun X b => gcH_bool
 by_cases hn : n = []
 ·subst hn
  simp [amK, Tryz.f269, strideOf, ld, HasOk, hgb]
 ·obtain ⟨w, c1, hw⟩ := alq (H := H ++ [.mk true 1 [.str n]]) (t := t) (up_append _ _ he) h.ext hl hp
  have c2 := ajz hw (fun x => dec (norm x = n)) (g := 314) (a := []) (b := [.ptr (some (H.length, 0))]) (fun x _ => arA get_last)
  simp [amK, Tryz.f269, strideOf, ld, hn, c1, c2, hgb, HasOk]
  have e : (∃ x, x ∈ valsOf l t ∧ dec (norm x = n) = true) ↔ ∃ v, v ∈ valsOf l t ∧ norm v = n := by simp only [dec_true]
  rw [dec_iff e]
  by_cases hx : ∃ v, v ∈ valsOf l t ∧ norm v = n
  ·exact .inr ⟨dec_pos hx, hx⟩
  ·exact .inl ⟨dec_neg hx, fun x hx1 hx2 => hx ⟨x, hx1, hx2⟩⟩
theorem auw {H : List Ob} {v v' : V} {l : List PAttr} {t s : Str} (h : AAttrs H v l) (ho : cellsOf v' = some [v']) (ho' : isOne v' = true) : callW C 184 [.agg [v', v], .str t, .str s] H = some (.bool (dec (HasOk l t (norm s))), H) := by
 apply Ret.dec
 rw [avh]
 have c1 := ajn (t := s) (H := H)
 obtain ⟨w, c2, hw⟩ := awH (t := t) h ho ho'
 obtain ⟨r, c3, hr⟩ := aBf (n := norm s) hw
 have hone := h.one
 by_cases hn : norm s = []
 ·simp [alg, Tryz.f184, c1, hn, ho, ho', hone, HasOk]
 ·rcases hr with ⟨k, a, h1, h2, h3, rfl⟩ | ⟨h1, rfl⟩
  ·have hk : (0 : Int) ≤ (k : Int) := by omega
   have hm : a ∈ valsOf l t := List.mem_of_getElem? h1
   have h2' : norm a = norm s := by simpa using h2
   simp [alg, Tryz.f184, c1, c2, c3, hn, ho, ho', hone, HasOk, hk]
   exact ⟨a, hm, h2'⟩
  ·simp [alg, Tryz.f184, c1, c2, c3, hn, ho, ho', hone, HasOk]
   intro x hx
   obtain ⟨j, hj, rfl⟩ := List.getElem_of_mem hx
   have := h1 j _ (List.getElem?_eq_getElem hj)
   simpa using this
theorem aqO {H : List Ob} {vl vd va : V} {l : List PClass} {e : PEntry} (hl : AClasses H vl l) (hd : ARdns H vd e.dn) (ha : AAttrs H va e.attrs) (hdn : 0 < e.dn.length) :
  ∃ r : Int, callW C 102 [vl, .agg [vd, va]] H = some (.int .i64 r, H) ∧ (r = 0 ↔ FitsOk l e) ∧ (r = 0 ∨ r = 12) := by
 suffices hs : Ret C 102 [vl, .agg [vd, va]] H fun q H' => (∃ r : Int, q = .int .i64 r ∧ (r = 0 ↔ FitsOk l e) ∧ (r = 0 ∨ r = 12)) ∧ H' = H by
  obtain ⟨q, H', hc, ⟨r, rfl, hr⟩, rfl⟩ := hs
  exact ⟨r, hc, hr⟩
 rw [awC]
 have hod := hd.one
 have hoa := ha.one
 obtain ⟨cs, ok, c1, hm⟩ := auF (T := []) hl ha hod.2 hod.1
 rw [List.append_nil] at c1
 obtain ⟨x, hx⟩ : ∃ c, e.dn[0]? = some c := ⟨e.dn[0], by simp [hdn]⟩
 obtain ⟨id, o, e1, l0, l1, _, _⟩ := rdns_idx hd hx
 simp only [Int.ofNat_eq_natCast, Int.natCast_zero] at e1
 have hid := amO l0
 have c2 := auw (t := x.attr) (s := x.value) ha hod.2 hod.1
 rcases hm with ⟨rfl, c, w1, w2, w3, hc, rfl, a1, a2, a3⟩ | ⟨rfl, hc, rfl⟩
 rotate_left
 ·simp [akU, Tryz.f102, regionL_some, regionL_none, List.lookup, c1, hod, hoa, hid]
  rintro ⟨c, h1, _⟩
  rw [hc] at h1
  cases h1
 by_cases hH : HasOk e.attrs x.attr (norm x.value)
 rotate_left
 ·rw [dec_neg hH] at c2
  simp [akU, Tryz.f102, regionL_some, regionL_none, List.lookup, c1, hod, hoa, a1.one, a2.one, a3.one, e1, l0, l1, hid, c2]
  rintro ⟨c, _, _, _, y, h1, h2⟩
  rw [hx] at h1
  cases h1
  exact hH h2
 rw [dec_pos hH] at c2
 simp [akU, Tryz.f102, regionL_some, regionL_none, List.lookup, c1, hod, hoa, a1.one, a2.one, a3.one, e1, l0, l1, hid, c2]
 have hb1 : c.must.length ≤ 9223372036854775807 := a1.bound
 have hb2 : e.attrs.length ≤ 9223372036854775807 := ha.bound
 have hfit : ∀ c', mineOf l e.attrs = some c' → c' = c := fun c' h => by rw [hc] at h; cases h; rfl
 refine WP_loop (fun k σ => ∃ (i : Nat) (r : Nat → R), i + k = c.must.length ∧ (∀ t ∈ c.must.take i, firstOf PAttr.name e.attrs t ≠ none) ∧ σ = ⟨r, 2, H⟩ ∧ r 3 = .box 0 [vd, va] ∧ r 5 = .box 1 [.str c.name, w1, w2, w3] ∧ r 7 = .val (.int .i64 i)) ?_ c.must.length _ ⟨0, _, by omega, by simp, rfl, by simp, by simp, by simp⟩
 rintro k σ ⟨i, r, hik, hpre, rfl, r3, r5, r7⟩
 cases k with
 | succ k =>
  have hi : i < c.must.length := by omega
  obtain ⟨s, hs⟩ : ∃ s, c.must[i]? = some s := ⟨c.must[i], by simp [hi]⟩
  obtain ⟨id2, o2, f1, l5, _⟩ := strs_idx a1 hs
  have hid2 := amO l5
  obtain ⟨q, c3, hq⟩ := awI (t := s) ha hod.2
  have hw : IntKind.i64.wrap ((i : Int) + 1) = ((i : Int) + 1) := wrap_i64 (by omega) (by omega)
  rcases hq.pos with ⟨k', a, h1, rfl, h2⟩ | ⟨rfl, h2⟩
  ·have hk : ¬ ((k' : Int) < 0) := by omega
   simp [r3, r5, r7, regionL_some, regionL_none, List.lookup, a1.len, hi, f1, l5, hid2, c3, hk, hod, hoa, hw, a1.one]
   exact ⟨k, by omega, i + 1, by omega, fun t ht => by
    rw [take_get hs] at ht
    rcases List.mem_append.1 ht with h | h
    ·exact hpre t h
    ·obtain rfl := List.mem_singleton.1 h
     rw [h2]; simp, by simp⟩
  ·simp [r3, r5, r7, regionL_some, regionL_none, List.lookup, a1.len, hi, f1, l5, hid2, c3, hod, hoa, a1.one]
   rintro ⟨c', hc', hl', _⟩
   obtain rfl := hfit c' hc'
   have := List.filter_eq_nil_iff.1 hl' s (List.mem_of_getElem? hs)
   simp [h2] at this
 | zero =>
  have hi : i = c.must.length := by omega
  subst hi
  rw [List.take_length] at hpre
  simp [r3, r5, r7, regionL_some, regionL_none, a1.len, a1.one]
  refine WP_loop (fun k σ => ∃ (i : Nat) (r : Nat → R), i + k = e.attrs.length ∧ (∀ a ∈ e.attrs.take i, AttrFits c a) ∧ σ = ⟨r, 2 + i, H⟩ ∧ r 3 = .box 0 [vd, va] ∧ r 5 = .box 1 [.str c.name, w1, w2, w3] ∧ r 8 = .val (.int .i64 i)) ?_ e.attrs.length _ ⟨0, _, by omega, by simp, rfl, by simp [r3], by simp [r5], by simp⟩
  clear r3 r5 r7 r
  rintro k σ ⟨i, r, hik, hpre2, rfl, r3, r5, r8⟩
  cases k with
  | zero =>
   have hi : i = e.attrs.length := by omega
   subst hi
   rw [List.take_length] at hpre2
   simp [r3, r5, r8, ha.len, regionL_some, regionL_none, hoa]
   exact ⟨c, hc, List.filter_eq_nil_iff.2 fun t ht => by
    have := hpre t ht
    cases h : firstOf PAttr.name e.attrs t with
    | none => exact absurd h this
    | some _ => simp, hpre2, x, hx, hH⟩
  | succ k =>
   have hi : i < e.attrs.length := by omega
   obtain ⟨a, hs⟩ : ∃ a, e.attrs[i]? = some a := ⟨e.attrs[i], by simp [hi]⟩
   obtain ⟨id2, o2, w, f1, m1, m2, m3, aw, _⟩ := attrs_idx ha hs
   have hw : IntKind.i64.wrap ((i : Int) + 1) = ((i : Int) + 1) := wrap_i64 (by omega) (by omega)
   have d1 := ajV (t := a.name) a1
   have d2 := ajV (t := a.name) a2
   have d3 := ajV (t := a.name) a3
   have hstep : AttrFits c a → ∀ t ∈ e.attrs.take (i + 1), AttrFits c t := fun h t ht => by
    rw [take_get hs] at ht
    rcases List.mem_append.1 ht with h' | h'
    ·exact hpre2 t h'
    ·obtain rfl := List.mem_singleton.1 h'
     exact h
   have hbad : ¬ AttrFits c a → ¬ FitsOk l e := by
    rintro h ⟨c', hc', _, hl', _⟩
    obtain rfl := hfit c' hc'
    exact h (hl' a (List.mem_of_getElem? hs))
   have hvl : (1 : Int) < (a.vals.length : Int) ↔ 1 < a.vals.length := by omega
   by_cases n1 : a.name = [99, 108, 97, 115, 115]
   ·by_cases n4 : 1 < a.vals.length
    ·by_cases n5 : a.name ∈ c.single
     ·rw [dec_pos n5] at d3
      rw [n1] at d1 d2 d3
      simp [r3, r5, r8, ha.len, hi, f1, m1, m2, m3, d1, d2, d3, aw.len, aw.one, hod, hoa, a1.one, a2.one, a3.one, hw, regionL_some, regionL_none, List.lookup, n1, n4, hvl]
      exact hbad fun h => h.2 ⟨n4, n5⟩
     ·rw [dec_neg n5] at d3
      rw [n1] at d1 d2 d3
      simp [r3, r5, r8, ha.len, hi, f1, m1, m2, m3, d1, d2, d3, aw.len, aw.one, hod, hoa, a1.one, a2.one, a3.one, hw, regionL_some, regionL_none, List.lookup, n1, n4, hvl]
      exact ⟨k, by omega, i + 1, by omega, hstep ⟨.inl n1, fun h => n5 h.2⟩, _, ⟨rfl, by omega⟩, by simp [r3], by simp [r5], by simp⟩
    ·rw [n1] at d1 d2 d3
     simp [r3, r5, r8, ha.len, hi, f1, m1, m2, m3, d1, d2, d3, aw.len, aw.one, hod, hoa, a1.one, a2.one, a3.one, hw, regionL_some, regionL_none, List.lookup, n1, n4, hvl]
     exact ⟨k, by omega, i + 1, by omega, hstep ⟨.inl n1, fun h => n4 h.1⟩, _, ⟨rfl, by omega⟩, by simp [r3], by simp [r5], by simp⟩
   by_cases n2 : a.name ∈ c.must
   ·rw [dec_pos n2] at d1
    by_cases n4 : 1 < a.vals.length
    ·by_cases n5 : a.name ∈ c.single
     ·rw [dec_pos n5] at d3
      simp [r3, r5, r8, ha.len, hi, f1, m1, m2, m3, d1, d2, d3, aw.len, aw.one, hod, hoa, a1.one, a2.one, a3.one, hw, regionL_some, regionL_none, List.lookup, n1, n4, hvl]
      exact hbad fun h => h.2 ⟨n4, n5⟩
     ·rw [dec_neg n5] at d3
      simp [r3, r5, r8, ha.len, hi, f1, m1, m2, m3, d1, d2, d3, aw.len, aw.one, hod, hoa, a1.one, a2.one, a3.one, hw, regionL_some, regionL_none, List.lookup, n1, n4, hvl]
      exact ⟨k, by omega, i + 1, by omega, hstep ⟨.inr (.inl n2), fun h => n5 h.2⟩, _, ⟨rfl, by omega⟩, by simp [r3], by simp [r5], by simp⟩
    ·simp [r3, r5, r8, ha.len, hi, f1, m1, m2, m3, d1, d2, d3, aw.len, aw.one, hod, hoa, a1.one, a2.one, a3.one, hw, regionL_some, regionL_none, List.lookup, n1, n4, hvl]
     exact ⟨k, by omega, i + 1, by omega, hstep ⟨.inr (.inl n2), fun h => n4 h.1⟩, _, ⟨rfl, by omega⟩, by simp [r3], by simp [r5], by simp⟩
   rw [dec_neg n2] at d1
   by_cases n3 : a.name ∈ c.may
   ·rw [dec_pos n3] at d2
    by_cases n4 : 1 < a.vals.length
    ·by_cases n5 : a.name ∈ c.single
     ·rw [dec_pos n5] at d3
      simp [r3, r5, r8, ha.len, hi, f1, m1, m2, m3, d1, d2, d3, aw.len, aw.one, hod, hoa, a1.one, a2.one, a3.one, hw, regionL_some, regionL_none, List.lookup, n1, n4, hvl]
      exact hbad fun h => h.2 ⟨n4, n5⟩
     ·rw [dec_neg n5] at d3
      simp [r3, r5, r8, ha.len, hi, f1, m1, m2, m3, d1, d2, d3, aw.len, aw.one, hod, hoa, a1.one, a2.one, a3.one, hw, regionL_some, regionL_none, List.lookup, n1, n4, hvl]
      exact ⟨k, by omega, i + 1, by omega, hstep ⟨.inr (.inr n3), fun h => n5 h.2⟩, _, ⟨rfl, by omega⟩, by simp [r3], by simp [r5], by simp⟩
    ·simp [r3, r5, r8, ha.len, hi, f1, m1, m2, m3, d1, d2, d3, aw.len, aw.one, hod, hoa, a1.one, a2.one, a3.one, hw, regionL_some, regionL_none, List.lookup, n1, n4, hvl]
     exact ⟨k, by omega, i + 1, by omega, hstep ⟨.inr (.inr n3), fun h => n4 h.1⟩, _, ⟨rfl, by omega⟩, by simp [r3], by simp [r5], by simp⟩
   ·rw [dec_neg n3] at d2
    simp [r3, r5, r8, ha.len, hi, f1, m1, m2, m3, d1, d2, d3, aw.len, aw.one, hod, hoa, a1.one, a2.one, a3.one, hw, regionL_some, regionL_none, List.lookup, n1, hvl]
    exact hbad fun h => by
     rcases h.1 with h | h | h
     ·exact n1 h
     ·exact n2 h
     ·exact n3 h
theorem asj {H : List Ob} {vl vd va : V} {l : List PClass} {e : PEntry} (hl : AClasses H vl l) (hd : ARdns H vd e.dn) (ha : AAttrs H va e.attrs) (hdn : 0 < e.dn.length) :
  ∃ r : Int, callW C 102 [vl, .agg [vd, va]] H = some (.int .i64 r, H) ∧ (r = 0 ↔ FitsOk l e) := by
 obtain ⟨r, h1, h2, _⟩ := aqO hl hd ha hdn
 exact ⟨r, h1, h2⟩
noncomputable abbrev keyE (e : PEntry) : Str := keyD e.dn
theorem awW {H : List Ob} {vs ve : V} {es : List PEntry} {t : Str} (h : AEntries H ve es) (hok : ∀ x ∈ es, DnOk x.dn) (ho : isOne vs = true ∧ cellsOf vs = some [vs]) :
  ∃ r : Int, callW C 104 [.agg [vs, ve], .str t] H = some (.int .i64 r, H) ∧ FirstAt keyE es t r := by
 suffices hs : Ret C 104 [.agg [vs, ve], .str t] H fun q H' => (∃ r : Int, q = .int .i64 r ∧ FirstAt keyE es t r) ∧ H' = H by
  obtain ⟨q, H', hc, ⟨r, rfl, hr⟩, rfl⟩ := hs
  exact ⟨r, hc, hr⟩
 rw [axp]
 have hb : es.length ≤ 9223372036854775807 := h.bound
 have hone := h.one
 simp [aoS, Tryz.f104, ho, hone]
 refine WP_loop (fun k σ => ∃ (i : Nat) (r : Nat → R), i + k = es.length ∧ σ = ⟨r, 1, H⟩ ∧ r 1 = .val (.str t) ∧ r 2 = .box 0 [vs, ve] ∧ r 5 = .val (.int .i64 i) ∧ ∀ j x, j < i → es[j]? = some x → keyE x ≠ t) ?_ es.length _ ⟨0, _, by simp, rfl, by simp, by simp, by simp, by simp⟩
 rintro k σ ⟨i, r, hik, rfl, r1, r2, r5, hall⟩
 cases k with
 | zero =>
  have hi : i = es.length := by omega
  subst hi
  have hx := at_all (P := fun j (x : PEntry) => keyE x ≠ t) hall
  simp [r1, r2, r5, h.len, hone]
  exact .inr ⟨hx, rfl⟩
 | succ k =>
  have hi : i < es.length := by omega
  obtain ⟨x, hx⟩ : ∃ c, es[i]? = some c := ⟨es[i], by simp [hi]⟩
  have hw : IntKind.i64.wrap ((i : Int) + 1) = ((i : Int) + 1) := wrap_i64 (by omega) (by omega)
  obtain ⟨id, o, w1, w2, e1, l0, _, _, a1, _⟩ := entries_idx h hx
  have c1 := anU a1 (hok x (List.mem_of_getElem? hx))
  by_cases g1 : keyD x.dn = t
  ·simp [r1, r2, r5, hi, h.len, e1, l0, c1, g1, hone]
   exact .inl ⟨i, x, hx, g1, hall, rfl⟩
  ·simp [r1, r2, r5, hi, h.len, e1, l0, c1, g1, hone, hw]
   exact ⟨k, by omega, i + 1, by omega, by omega, at_step (P := fun j (x : PEntry) => keyE x ≠ t) hall hx g1⟩
theorem am0 {H : List Ob} {vs ve : V} {t : PTree} (hs : AClasses H vs t.schema) (h : AEntries H ve t.entries) : callW C 41 [.agg [vs, ve]] H = some (.bool (dec (TreeOk t)), H) := by
 apply Ret.dec
 rw [aBU]
 have hos := hs.one
 have hoe := h.one
 have c1 := art hs
 by_cases g1 : SchemaOk t.schema
 rotate_left
 ·rw [dec_neg g1] at c1
  simp [amG, Tryz.f41, hos, hoe, c1]
  exact fun h => g1 h.1
 rw [dec_pos g1] at c1
 by_cases g2 : 20 < t.entries.length
 ·have g2' : (20 : Int) < t.entries.length := by omega
  simp [amG, Tryz.f41, hos, hoe, c1, h.len, g2']
  exact fun h => by have := h.2.1.1; omega
 have g2' : ¬ (20 : Int) < t.entries.length := by omega
 simp [amG, Tryz.f41, hos, hoe, c1, h.len, g2']
 have hb : t.entries.length ≤ 20 := by omega
 refine WP_loop (fun k σ => ∃ (i : Nat) (r : Nat → R), i + k = t.entries.length ∧ σ = ⟨r, 1 + i, H⟩ ∧ r 1 = .box 0 [vs, ve] ∧ r 3 = .val (.int .i64 i) ∧ ∀ j x, j < i → t.entries[j]? = some x → EntryOk x ∧ FitsOk t.schema x ∧ PrevLt (fun e => keyD e.dn) t.entries j x) ?_ t.entries.length _ ⟨0, _, by omega, rfl, by simp, by simp, by simp⟩
 rintro k σ ⟨i, r, hik, rfl, r1, r3, hall⟩
 cases k with
 | zero =>
  have hi : i = t.entries.length := by omega
  subst hi
  have hE := at_all (P := fun j (x : PEntry) => EntryOk x ∧ FitsOk t.schema x ∧ PrevLt (fun e => keyD e.dn) t.entries j x) hall
  simp [r1, r3, h.len, hos, hoe]
  have hdn : ∀ x ∈ t.entries, DnOk x.dn := fun x hx => by
   obtain ⟨j, hj, rfl⟩ := List.getElem_of_mem hx
   exact (hE j _ (List.getElem?_eq_getElem hj)).1.2.1
  refine WP_loop (fun k σ => ∃ (i : Nat) (r : Nat → R), i + k = t.entries.length ∧ σ = ⟨r, 1 + t.entries.length, H⟩ ∧ r 1 = .box 0 [vs, ve] ∧ r 5 = .val (.int .i64 i) ∧ ∀ j x, j < i → t.entries[j]? = some x → ParentOk t.entries x.dn) ?_ t.entries.length _ ⟨0, _, by omega, rfl, by simp [r1], by simp, by simp⟩
  clear r1 r3 r
  rintro k σ ⟨i, r, hik, rfl, r1, r5, hall2⟩
  cases k with
  | zero =>
   have hi : i = t.entries.length := by omega
   subst hi
   have hP := at_all (P := fun j (x : PEntry) => ParentOk t.entries x.dn) hall2
   have hT : TreeOk t := ⟨g1, ⟨hb, hE⟩, fun x hx => by
    obtain ⟨j, hj, rfl⟩ := List.getElem_of_mem hx
    exact hP j _ (List.getElem?_eq_getElem hj)⟩
   simp [r1, r5, h.len, hos, hoe, hT]
  | succ k =>
   have hi : i < t.entries.length := by omega
   obtain ⟨x, hx⟩ : ∃ c, t.entries[i]? = some c := ⟨t.entries[i], by simp [hi]⟩
   have hw : IntKind.i64.wrap ((i : Int) + 1) = ((i : Int) + 1) := wrap_i64 (by omega) (by omega)
   obtain ⟨id, o, w1, w2, e1, l0, l1, lm, a1, a2, _⟩ := entries_idx h hx
   have ho1 := a1.one
   have hstep := fun h => at_step (P := fun j (x : PEntry) => ParentOk t.entries x.dn) hall2 hx h
   have hxd := hdn x (List.mem_of_getElem? hx)
   by_cases q1 : 1 < x.dn.length
   rotate_left
   ·have q1' : ¬ (1 : Int) < x.dn.length := by omega
    have := hstep (.inl (by omega))
    simp [r1, r5, hi, h.len, e1, l0, a1.len, q1', hos, hoe, ho1, hw, regionL_none, regionL_some, List.lookup]
    exact ⟨k, by omega, i + 1, by omega, by omega, this⟩
   have q1' : (1 : Int) < x.dn.length := by omega
   obtain ⟨idt, off, own, cells, hv, hcell, at_⟩ := rdns_tail a1 (by omega)
   have hst : strideIs H idt 2 = true := by simp [strideIs, hcell]
   have q1'' : 1 ≤ x.dn.length := by omega
   have c2 := anU at_ hxd.tail
   obtain ⟨q, c3, hq⟩ := awW (vs := vs) (t := keyD x.dn.tail) h hdn hos
   rcases hq.pos with ⟨k', y, h1, rfl, h2⟩ | ⟨rfl, h2⟩
   ·have hk : ¬ ((k' : Int) < 0) := by omega
    have hy : keyD y.dn = keyD x.dn.tail := by
     have := List.find?_some h2
     simpa using this
    have := hstep (.inr ⟨y, List.mem_of_getElem? h1, hy⟩)
    rw [hv] at l0 a1 ho1
    simp [r1, r5, hi, h.len, e1, l0, a1.len, q1', hos, hoe, hw, hst, q1'', c2, c3, hk, regionL_none, regionL_some, List.lookup]
    exact ⟨k, by omega, i + 1, by omega, by omega, this⟩
   ·have hn : ¬ TreeOk t := fun hd => by
     rcases hd.2.2 x (List.mem_of_getElem? hx) with h | ⟨y, hy, he⟩
     ·omega
     ·have := List.find?_eq_none.1 h2 y hy
      exact this (by simpa using he)
    rw [hv] at l0 a1 ho1
    simp [r1, r5, hi, h.len, e1, l0, a1.len, q1', hos, hoe, hw, hst, q1'', c2, c3, hn, regionL_none, regionL_some, List.lookup]
 | succ k =>
  have hi : i < t.entries.length := by omega
  obtain ⟨x, hx⟩ : ∃ c, t.entries[i]? = some c := ⟨t.entries[i], by simp [hi]⟩
  have hw : IntKind.i64.wrap ((i : Int) + 1) = ((i : Int) + 1) := wrap_i64 (by omega) (by omega)
  obtain ⟨id, o, w1, w2, e1, l0, l1, lm, a1, a2, _⟩ := entries_idx h hx
  have hid := al6 l0
  have c2 := aop a1 a2
  have hstep := fun h => at_step (P := fun j (x : PEntry) => EntryOk x ∧ FitsOk t.schema x ∧ PrevLt (fun e => keyD e.dn) t.entries j x) hall hx h
  have ho1 := a1.one
  have ho2 := a2.one
  by_cases q1 : EntryOk x
  rotate_left
  ·rw [dec_neg q1] at c2
   have hn : ¬ TreeOk t := fun hd => q1 (hd.2.1.2 i x hx).1
   simp [r1, r3, hi, h.len, e1, l0, l1, lm, hid, c2, hn, hos, hoe, ho1, ho2, regionL_none, regionL_some, List.lookup]
  rw [dec_pos q1] at c2
  obtain ⟨f, c3, hf⟩ := asj hs a1 a2 q1.1
  by_cases q2 : FitsOk t.schema x
  rotate_left
  ·have hf0 : ¬ f = 0 := fun e => q2 (hf.1 e)
   have hn : ¬ TreeOk t := fun hd => q2 (hd.2.1.2 i x hx).2.1
   simp [r1, r3, hi, h.len, e1, l0, l1, lm, hid, c2, c3, hf0, hn, hos, hoe, ho1, ho2, regionL_none, regionL_some, List.lookup]
  have hf0 : f = 0 := hf.2 q2
  subst hf0
  by_cases hi0 : i = 0
  ·have := hstep ⟨q1, q2, fun y hy => by omega⟩
   subst hi0
   simp at e1
   simp [r1, r3, hi, h.len, e1, l0, l1, lm, hid, c2, c3, hos, hoe, ho1, ho2, regionL_none, regionL_some, List.lookup]
   exact ⟨k, by omega, 1, by omega, _, ⟨rfl, by omega⟩, by simp [r1], by simp, this⟩
  ·have hip : 0 < i := by omega
   obtain ⟨y, hy⟩ : ∃ c, t.entries[i - 1]? = some c := ⟨t.entries[i - 1]'(by omega), by simp⟩
   obtain ⟨id', o', w1', w2', e1', l0', _, _, a1', _⟩ := entries_idx h hy
   have hid' := al6 l0'
   have hyok := (hall (i - 1) y (by omega) hy).1
   have c4 := anU a1 q1.2.1
   have c5 := anU a1' hyok.2.1
   have hw1 : IntKind.i64.wrap ((i : Int) - 1) = ((i - 1 : Nat) : Int) := by rw [wrap_i64 (by omega) (by omega)]; omega
   by_cases q3 : LtS (keyD y.dn) (keyD x.dn)
   ·have := hstep ⟨q1, q2, fun z _ hz => by rw [hy] at hz; cases hz; exact q3⟩
    simp [r1, r3, hi, h.len, e1, l0, l1, lm, hid, hid', c2, c3, c4, c5, e1', l0', hw, hw1, hip, aiv q3, hos, hoe, ho1, ho2, regionL_none, regionL_some, List.lookup]
    exact ⟨k, by omega, i + 1, by omega, _, ⟨rfl, by omega⟩, by simp [r1], by simp, this⟩
   ·have hn : ¬ TreeOk t := fun hd => q3 ((hd.2.1.2 i x hx).2.2 y hip hy)
    simp [r1, r3, hi, h.len, e1, l0, l1, lm, hid, hid', c2, c3, c4, c5, e1', l0', hw, hw1, hip, aiB q3, hos, hoe, ho1, ho2, regionL_none, regionL_some, List.lookup, hn]
theorem alQ {cells xs : List V} {i : Nat} (h : i ≤ cells.length) : (setRange cells i xs).take i = cells.take i := by
 unfold setRange
 rw [List.append_assoc, List.take_append_of_le_length (by simp; omega), List.take_take, Nat.min_self]
theorem aqH {G : List Ob} {id : Nat} {l : List Str} (h : G[id]? = some (.mk true 1 (l.map V.str))) (hl : l.length ≤ 1000000) (hs : ∀ s ∈ l, s.length ≤ maxLen) : AStrs G (.slc (some (id, 0)) l.length) l := by
 have := (Gs.strs (H := []) (G := G) (v := .slc (some (id, 0)) (l.map V.str).length) (l := l) ⟨G, id, rfl, by simp, h, rfl⟩ (by unfold maxLen; omega) hs).1
 simpa using this
theorem aqz {G0 : List Ob} {id : Nat} {l : List Str} {g : Nat} {a b : List V} (p : Str → Bool) (h : G0[id]? = some (.mk true 1 (l.map V.str))) (hl : l.length ≤ 1000) (hs : ∀ s ∈ l, s.length ≤ maxLen)
  (hg : ∀ G' : List Ob, G'.length = G0.length → (∀ q, q ≠ id → G'[q]? = G0[q]?) → ∀ x, callW C g (a ++ ([.str x] ++ b)) G' = some (.bool (p x), G')) :
  ∃ G' k cs, callW C 312 [.slc (some (id, 0)) l.length, .fn g a b] G0 = some (.slc (some (id, 0)) k, G') ∧ G'.length = G0.length ∧ (∀ q, q ≠ id → G'[q]? = G0[q]?) ∧
   G'[id]? = some (.mk true 1 cs) ∧ cs.length = l.length ∧ k = (l.filter fun x => !p x).length ∧ cs.take k = (l.filter fun x => !p x).map V.str := by
 suffices hs : Ret C 312 [.slc (some (id, 0)) l.length, .fn g a b] G0 fun w G' => ∃ k cs, w = .slc (some (id, 0)) k ∧ G'.length = G0.length ∧ (∀ q, q ≠ id → G'[q]? = G0[q]?) ∧
   G'[id]? = some (.mk true 1 cs) ∧ cs.length = l.length ∧ k = (l.filter fun x => !p x).length ∧ cs.take k = (l.filter fun x => !p x).map V.str by
  obtain ⟨w, G', hc, k, cs, rfl, h1⟩ := hs
  exact ⟨G', k, cs, hc, h1⟩
 rw [atr]
 obtain ⟨r, c1, hr⟩ := ajw (aqH h (by omega) hs) p (fun x _ => hg G0 rfl (fun _ _ => rfl) x)
 rcases hr with ⟨k0, x0, hx0, hp0, hlt0, rfl⟩ | ⟨hn, rfl⟩
 rotate_left
 ·have hf : (l.filter fun x => !p x) = l := by
   rw [List.filter_eq_self]
   intro x hx
   obtain ⟨j, hj, rfl⟩ := List.getElem_of_mem hx
   rw [hn j _ (List.getElem?_eq_getElem hj)]
   rfl
  rw [hf]
  simp [alc, Tryz.f312, c1]
  exact ⟨l.map V.str, h, by simp, by rw [List.take_of_length_le (by simp)]⟩
 have hk0 : k0 < l.length := (List.getElem?_eq_some_iff.1 hx0).1
 have hm1 : ¬ ((k0 : Int) = -1) := by omega
 have hw0 : IntKind.i64.wrap ((k0 : Int) + 1) = (k0 : Int) + 1 := wrap_i64 (by omega) (by omega)
 have hpre : (l.take (k0 + 1)).filter (fun x => !p x) = l.take k0 := by
  rw [take_get hx0, List.filter_append]
  have : (l.take k0).filter (fun x => !p x) = l.take k0 := by
   rw [List.filter_eq_self]
   intro x hx
   obtain ⟨j, hj, rfl⟩ := List.getElem_of_mem hx
   simp at hj
   rw [List.getElem_take, hlt0 j _ (by omega) (List.getElem?_eq_getElem (by omega))]
   rfl
  rw [this]
  simp [hp0]
 simp [alc, Tryz.f312, c1, hm1, hw0]
 refine WP_loop (fun m σ => ∃ (i j : Nat) (r : Nat → R) (G : List Ob) (cs : List Str), j + m = l.length ∧ σ = ⟨r, 0, G⟩ ∧ r 0 = .val (.slc (some (id, 0)) l.length) ∧ r 1 = .val (.fn g a b) ∧ r 5 = .val (.int .i64 i) ∧ r 6 = .val (.int .i64 j) ∧ i < j ∧ G.length = G0.length ∧ (∀ q, q ≠ id → G[q]? = G0[q]?) ∧
  G[id]? = some (.mk true 1 (cs.map V.str)) ∧ cs.length = l.length ∧ i = ((l.take j).filter fun x => !p x).length ∧ cs.take i = (l.take j).filter (fun x => !p x) ∧ cs.drop j = l.drop j) ?_ (l.length - (k0 + 1)) _
  ⟨k0, k0 + 1, _, G0, l, by omega, rfl, by simp, by simp, by simp, by simp, by omega, rfl, fun _ _ => rfl, h, rfl, by rw [hpre]; simp; omega, by rw [hpre], rfl⟩
 clear hm1 hw0
 rintro m σ ⟨i, j, r, G, cs, hjm, rfl, r0, r1, r5, r6, hij, hG1, hG2, hG3, hcs, hi, htk, hdr⟩
 have hid : id < G.length := (List.getElem?_eq_some_iff.1 hG3).1
 have hst : strideIs G id 1 = true := by simp [strideIs, hG3]
 cases m with
 | zero =>
  have hj : j = l.length := by omega
  subst hj
  rw [List.take_length] at hi htk
  have hil : i ≤ l.length := by omega
  have hnz : ¬ (l.length - i = 0) := by omega
  have hwa : ∀ r c, writeAt ⟨r, c, G⟩ (.hp id i) (zerosL aiN (l.length - i)) = some ⟨r, c, G.set id (.mk true 1 (setRange (cs.map V.str) i (zerosL aiN (l.length - i))))⟩ := by
   intro r c
   simp only [writeAt, hG3]
   rw [if_pos (by rw [aji, List.length_map]; omega)]
  have hst2 : ∀ o, strideIs (G.set id (.mk true 1 o)) id 1 = true := fun o => by simp [strideIs, hid]
  have hgl : ∀ o w, gcH G0 (G.set id o) w = G.set id o := fun o w => aps (by rw [List.length_set]; exact hG1)
  simp [r0, r1, r5, r6, hil, hst, elemT, hnz, hwa, hst2, hgl, -setRange]
  refine ⟨hG1, fun q hq => by rw [List.getElem?_set_ne (Ne.symm hq)]; exact hG2 q hq, setRange (cs.map V.str) i (zerosL aiN (l.length - i)), by simp [hid, -setRange], by rw [setRange_len (by rw [aji, List.length_map]; omega), List.length_map, hcs], hi, ?_⟩
  rw [alQ (by rw [List.length_map]; omega), ← List.map_take, htk]
 | succ m =>
  have hj : j < l.length := by omega
  obtain ⟨x, hx⟩ : ∃ x, l[j]? = some x := ⟨l[j], List.getElem?_eq_getElem hj⟩
  have hxc : cs[j]? = some x := by
   have := congrArg (fun l => l[0]?) hdr
   simpa [hx] using this
  have ld := load1 (o := j) (v := .str x) hG3 (by simp [hxc])
  have c2 := hg G hG1 hG2 x
  simp only [List.singleton_append] at c2
  have hw : IntKind.i64.wrap ((j : Int) + 1) = (j : Int) + 1 := wrap_i64 (by omega) (by omega)
  have hw2 : IntKind.i64.wrap ((i : Int) + 1) = (i : Int) + 1 := wrap_i64 (by omega) (by omega)
  have hil : i < l.length := by omega
  have hdr' : cs.drop (j + 1) = l.drop (j + 1) := by
   have := congrArg (List.drop 1) hdr
   simpa [List.drop_drop, Nat.add_comm] using this
  have hft := amR hx fun x => !p x
  cases hp : p x with
  | true =>
   rw [hp] at c2 hft
   simp at hft
   simp [r0, r1, r5, r6, hj, ld, c2, hw]
   exact ⟨m, by omega, i, j + 1, by omega, _, G, ⟨rfl, rfl⟩, by simp [r0], by simp [r1], by simp [r5], by simp, by omega, hG1, hG2, cs, hG3, hcs, by rw [hft]; exact hi, by rw [hft]; exact htk, hdr'⟩
  | false =>
   rw [hp] at c2 hft
   simp at hft
   have st := store1 (v := .str x) (o := i) hG3 (by simp; omega) rfl rfl
   simp [r0, r1, r5, r6, hj, hil, ld, c2, hw, hw2, st]
   refine ⟨m, by omega, i + 1, j + 1, by omega, _, _, ⟨rfl, rfl⟩, by simp [r0], by simp [r1], by simp, by simp, by omega, by simpa using hG1, fun q hq => by rw [List.getElem?_set_ne (Ne.symm hq)]; exact hG2 q hq, cs.set i x, by rw [List.getElem?_set_self hid, List.map_set], by simpa using hcs, ?_, ?_, ?_⟩
   ·rw [hft, List.length_append, ← hi]; rfl
   ·rw [hft, ← htk, List.take_add_one, List.getElem?_set_self (by omega), List.take_set, List.set_eq_of_length_le (by simp; omega)]
    rfl
   ·rw [List.drop_set_of_lt (by omega)]; exact hdr'
theorem arl {G : List Ob} {id k : Nat} {cs : List V} {l : List Str} (h : G[id]? = some (.mk true 1 cs)) (hk : k = l.length) (hc : cs.take k = l.map V.str) (hl : l.length ≤ maxLen) (hs : ∀ s ∈ l, s.length ≤ maxLen) : AtF G (.slice .str) [.slc (some (id, 0)) k] (.lst (l.map strU)) [id] := by
 have hlen : k ≤ cs.length := by
  have := congrArg List.length hc
  simp at this
  omega
 refine AtF_slice.2 ⟨_, _, rfl, rfl, by simpa using hl, .inr ⟨id, 0, cs, List.replicate l.length [], by simp [hk], h, by simp; omega, by simp, by simp, fun i x F hx hF => ?_⟩⟩
 rw [List.getElem?_map] at hx
 obtain ⟨s, hs', rfl⟩ := Option.map_eq_some_iff.1 hx
 have hi : i < l.length := (List.getElem?_eq_some_iff.1 hs').1
 rw [List.getElem?_replicate, if_pos hi] at hF
 cases hF
 refine AtF_str.2 ⟨⟨s, ?_, rfl, hs s (List.mem_of_getElem? hs')⟩, rfl⟩
 have h1 : cs[i]? = some (.str s) := by
  have := congrArg (fun l => l[i]?) hc
  simp only [List.getElem?_take_of_lt (show i < k by omega), List.getElem?_map, hs'] at this
  exact this
 obtain ⟨hi2, h1⟩ := List.getElem?_eq_some_iff.1 h1
 rw [Sh.size_str, Nat.zero_add, Nat.mul_one, List.drop_eq_getElem_cons hi2, h1]
 rfl
def Back (H G : List Ob) (w : V) (l : List Str) : Prop := ∃ F, AtF G (.slice .str) [w] (.lst (l.map strU)) F ∧ F.Nodup ∧ ∀ q ∈ F, H.length ≤ q
theorem Back.nil {H G : List Ob} : Back H G (.slc none 0) [] := ⟨[], AtF_slice.2 ⟨_, _, rfl, rfl, by simp, .inl ⟨rfl, rfl, rfl⟩⟩, by simp, by simp⟩
theorem apS {H : List Ob} {ide : Nat} {own : Bool} {es : Nat} {vd va w1 w2 w3 : V} {c : PClass} {as' : List PAttr} (he : H[ide]? = some (.mk own es [vd, va])) (h : AAttrs H va as') (hl : as'.length ≤ 1000) (hp : as'.Pairwise fun a b => a.name < b.name)
  (h1 : AStrs H w1 c.must) (o2 : isOne w2 = true ∧ cellsOf w2 = some [w2]) (o3 : isOne w3 = true ∧ cellsOf w3 = some [w3]) (hm : c.must.length ≤ 1000) :
  ∃ T w, callW C 268 [.agg [.str c.name, w1, w2, w3], .ptr (some (ide, 0))] H = some (w, H ++ T) ∧ Back H (H ++ T) w (c.must.filter fun t => !decide (0 < (valsOf as' t).length)) := by
 suffices hs : Ret C 268 [.agg [.str c.name, w1, w2, w3], .ptr (some (ide, 0))] H fun q H' => ∃ T, H' = H ++ T ∧ Back H (H ++ T) q (c.must.filter fun t => !decide (0 < (valsOf as' t).length)) by
  obtain ⟨q, H', hc, T, rfl, hr⟩ := hs
  exact ⟨T, q, hc, hr⟩
 rw [av4]
 have hide : ide < H.length := (List.getElem?_eq_some_iff.1 he).1
 obtain ⟨T, w, c1, hown⟩ := aov (h1.ext (T := [.mk true 1 [.ptr (some (ide, 0))]])) (by omega)
 rcases hown with ⟨rfl, hm0⟩ | ⟨T', id', hT, g1, g2, rfl⟩
 ·have c2 : callW C 312 [.slc none 0, .fn 313 [] [.ptr (some (H.length, 0))]] (H ++ [.mk true 1 [.ptr (some (ide, 0))]] ++ T) = some (.slc none 0, H ++ [.mk true 1 [.ptr (some (ide, 0))]] ++ T) := by
   obtain ⟨r, c3, hr⟩ := ajw (H := H ++ [.mk true 1 [.ptr (some (ide, 0))]] ++ T) (v := .slc none 0) (l := []) (g := 313) (a := []) (b := [.ptr (some (H.length, 0))]) (At_slice.2 ⟨_, _, rfl, rfl, by simp, .inl ⟨rfl, rfl⟩⟩) (fun _ => false) (fun x hx => by cases hx)
   have hr1 : r = -1 := by
    rcases hr with ⟨k, x, hx, _⟩ | ⟨_, rfl⟩
    ·simp at hx
    ·rfl
   subst hr1
   simp only [List.append_assoc, List.cons_append, List.nil_append] at c3 ⊢
   apply Ret.eq
   rw [atr]
   simp [alc, Tryz.f312, c3]
  simp only [List.append_assoc, List.cons_append, List.nil_append] at c1 c2
  have hgn : gcH H (H ++ .mk true 1 [.ptr (some (ide, 0))] :: T) (.slc none 0) = H := gcH_low trivial
  simp [amm, Tryz.f268, strideOf, c1, c2, h1.one, o2, o3, hm0, hgn]
  exact Back.nil
 ·have hT' := List.append_cancel_left hT
  subst hT'
  rw [List.length_map] at c1
  have hob : (H ++ [.mk true 1 [.ptr (some (ide, 0))]] ++ T)[H.length]? = some (.mk true 1 [.ptr (some (ide, 0))]) := by rw [List.append_assoc]; simp
  have hg1 : H.length + 1 ≤ id' := by simpa using g1
  obtain ⟨G', k, cs, c2, k1, k2, k3, k4, k5, k6⟩ := aqz (g := 313) (a := []) (b := [.ptr (some (H.length, 0))]) (fun t => decide (0 < (valsOf as' t).length)) g2 hm (ajc h1) (fun G' e1 e2 x => by
   have hup : ∀ (q : Nat) o, H[q]? = some o → G'[q]? = some o := fun q o hq => by
    have := (List.getElem?_eq_some_iff.1 hq).1
    rw [e2 q (by omega), List.append_assoc]
    exact up_append _ _ hq
   exact asz (hup _ _ he) (by rw [e2 _ (by omega)]; exact hob) (h.up hup) hl hp)
  obtain ⟨T2, rfl⟩ : ∃ T2, G' = H ++ T2 := akJ (fun q hq => by
   rw [k2 q (by omega), List.append_assoc, List.getElem?_append_left hq]) (by rw [k1, List.append_assoc]; simp)
  have hgc : ∀ n, gcH H (H ++ T2) (.slc (some (id', 0)) n) = H ++ T2 := fun n => by
   unfold gcH
   rw [if_neg]
   rintro ⟨_, own, es, cells, h⟩
   have := (List.getElem?_eq_some_iff.1 h).1
   omega
  have hF := arl k3 k5 k6 (by have := List.length_filter_le (fun t => !decide (0 < (valsOf as' t).length)) c.must; unfold maxLen; omega) (fun s hs => ajc h1 s (List.mem_filter.1 hs).1)
  simp only [List.append_assoc, List.cons_append, List.nil_append] at c1 c2
  simp [amm, Tryz.f268, strideOf, c1, c2, h1.one, o2, o3, hgc]
  exact ⟨_, by simpa using hF, by simp, by simp; omega⟩
theorem ap5 {l : List PAttr} (h : AttrsOk l) (must : List Str) : (must.filter fun t => !decide (0 < (valsOf l t).length)) = must.filter fun t => (firstOf PAttr.name l t).isNone := by
 congr 1
 funext t
 unfold valsOf
 cases hf : firstOf PAttr.name l t with
 | none => rfl
 | some a =>
  have hm := List.mem_of_find?_eq_some hf
  obtain ⟨j, hj, rfl⟩ := List.getElem_of_mem hm
  have := (h.1 j _ (List.getElem?_eq_getElem hj)).2.2.2.1
  simp
  omega
theorem aus {H : List Ob} {ide : Nat} {own : Bool} {vl vd va : V} {l : List PClass} {e : PEntry} (he : H[ide]? = some (.mk own 2 [vd, va])) (hl : AClasses H vl l) (hd : ARdns H vd e.dn) (ha : AAttrs H va e.attrs) (g1 : SchemaOk l) (g2 : EntryOk e) :
  callW C 197 [vl, .ptr (some (ide, 0))] H = some (.bool (dec (FitsOk l e)), H) := by
 apply Ret.dec
 rw [axS]
 have hgb : ∀ X b, gcH H (H ++ X) (.bool b) = H := fun X b => gcH_bool
 have hod := hd.one
 have hoa := ha.one
 have hpw : e.attrs.Pairwise fun a b => a.name < b.name := akz (fun j x hx => (g2.2.2.1 j x hx).2.1)
 have hal : e.attrs.length ≤ 1000 := by have := g2.2.2.2; omega
 have hcl : ∀ c ∈ l, c.must.length ≤ 1000 ∧ c.may.length ≤ 1000 ∧ c.single.length ≤ 1000 := fun c hc => by
  obtain ⟨j, hj, rfl⟩ := List.getElem_of_mem hc
  have := (g1.1 j _ (List.getElem?_eq_getElem hj)).1
  have h1 := this.l1; have h2 := this.l2; have h3 := this.l3
  omega
 obtain ⟨T1, cs, ok, c3, hres⟩ := apw he ha hal hpw hl hcl
 rcases hres with ⟨rfl, c, w1, w2, w3, hc1, rfl, q1, q2, q3⟩ | ⟨rfl, hc1, rfl⟩
 rotate_left
 ·simp [ak5, Tryz.f197, c3, hgb]
  rintro ⟨c, h1, _⟩
  rw [hc1] at h1
  cases h1
 have hc : c ∈ l := by
  unfold mineOf at hc1
  split at hc1
  ·exact List.mem_of_find?_eq_some hc1
  ·cases hc1
 have hfit : ∀ c', mineOf l e.attrs = some c' → c' = c := fun c' h => by rw [hc1] at h; cases h; rfl
 obtain ⟨T2, w, c4, hb⟩ := apS (H := H ++ T1) (ide := ide) (own := own) (es := 2) (vd := vd) (va := va) (up_append _ _ he) (ha.ext (T := T1)) hal hpw q1 q2.one q3.one (hcl c hc).1
 rw [ap5 g2.2.2] at hb
 obtain ⟨F, hbF, _, _⟩ := hb
 have hw : AStrs (H ++ T1 ++ T2) w (lacks c e.attrs) := AtF.at _ hbF
 obtain ⟨K, hK⟩ : ∃ K, K = T1 ++ T2 := ⟨_, rfl⟩
 rw [List.append_assoc, ← hK] at c4 hw
 by_cases m1 : lacks c e.attrs = []
 rotate_left
 ·have hl0 : (0 : Int) < (lacks c e.attrs).length := by
   have : (lacks c e.attrs).length ≠ 0 := fun h => m1 (List.length_eq_zero_iff.1 h)
   omega
  simp [ak5, Tryz.f197, c3, c4, hgb, q1.one, q2.one, q3.one, hw.len, hl0, m1]
  refine ⟨by omega, ?_⟩
  rintro ⟨c', h1, h2, _⟩
  obtain rfl := hfit c' h1
  exact m1 h2
 have he' : (H ++ K)[ide]? = some (.mk own 2 [vd, va]) := up_append _ _ he
 have ld0 := load1 (o := 0) (v := vd) he' rfl
 have ld1 := load1 (o := 1) (v := va) he' rfl
 have haK := ha.ext (T := K)
 have hdK := hd.ext (T := K)
 have q1K : AStrs (H ++ K) w1 c.must := by have := q1.ext (T := T2); rwa [List.append_assoc, ← hK] at this
 have q2K : AStrs (H ++ K) w2 c.may := by have := q2.ext (T := T2); rwa [List.append_assoc, ← hK] at this
 have q3K : AStrs (H ++ K) w3 c.single := by have := q3.ext (T := T2); rwa [List.append_assoc, ← hK] at this
 simp [ak5, Tryz.f197, c3, c4, hgb, q1.one, q2.one, q3.one, hw.len, m1, ld0, ld1, haK.len]
 have hb2 : e.attrs.length ≤ 9223372036854775807 := ha.bound
 refine WP_loop (fun k σ => ∃ (i : Nat) (r : Nat → R), i + k = e.attrs.length ∧ (∀ a ∈ e.attrs.take i, AttrFits c a) ∧ σ = ⟨r, 1 + i, H ++ K⟩ ∧ r 1 = .val (.ptr (some (ide, 0))) ∧ r 5 = .box 0 [.str c.name, w1, w2, w3] ∧ r 27 = .val va ∧ r 28 = .val (.int .i64 e.attrs.length) ∧ r 29 = .val (.int .i64 i)) ?_ e.attrs.length _ ⟨0, _, by omega, by simp, rfl, by simp, by simp, by simp, by simp, by simp⟩
 rintro k σ ⟨i, r, hik, hpre2, rfl, r1, r5, r27, r28, r29⟩
 cases k with
 | zero =>
  have hi : i = e.attrs.length := by omega
  subst hi
  rw [List.take_length] at hpre2
  obtain ⟨x, hx⟩ : ∃ c, e.dn[0]? = some c := ⟨e.dn[0]'g2.1, by simp⟩
  obtain ⟨id, o, e1, l0, l1, _, _⟩ := rdns_idx hdK hx
  simp only [Int.ofNat_eq_natCast, Int.natCast_zero] at e1
  have hid := al6 l0
  rw [List.length_append] at hid
  have hide : ide < H.length + K.length := by have := (List.getElem?_eq_some_iff.1 he).1; omega
  have c5 := aiX (t := x.value) (H := H ++ K)
  have c6 := axc (t := x.attr) (n := norm x.value) he' haK hal hpw
  simp [r1, r5, r27, r28, r29, ld0, ld1, e1, l0, l1, hid, hide, c5, c6, hgb, regionL_none, regionL_some, List.lookup]
  by_cases hH : HasOk e.attrs x.attr (norm x.value)
  ·exact .inr ⟨dec_pos hH, c, hc1, m1, hpre2, x, hx, hH⟩
  ·exact .inl ⟨dec_neg hH, fun ⟨_, _, _, _, y, h1, h2⟩ => by rw [hx] at h1; cases h1; exact hH h2⟩
 | succ k =>
  have hi : i < e.attrs.length := by omega
  obtain ⟨a, hs⟩ : ∃ a, e.attrs[i]? = some a := ⟨e.attrs[i], by simp [hi]⟩
  obtain ⟨id2, o2, w, f1, m1, m2, m3, aw, _⟩ := attrs_idx haK hs
  have hw : IntKind.i64.wrap ((i : Int) + 1) = ((i : Int) + 1) := wrap_i64 (by omega) (by omega)
  have d1 := aiI (t := a.name) q1K
  have d2 := aiI (t := a.name) q2K
  have d3 := aiI (t := a.name) q3K
  have hstep : AttrFits c a → ∀ t ∈ e.attrs.take (i + 1), AttrFits c t := fun h t ht => by
   rw [take_get hs] at ht
   rcases List.mem_append.1 ht with h' | h'
   ·exact hpre2 t h'
   ·obtain rfl := List.mem_singleton.1 h'
    exact h
  have hbad : ¬ AttrFits c a → ¬ FitsOk l e := by
   rintro h ⟨c', hc', _, hl', _⟩
   obtain rfl := hfit c' hc'
   exact h (hl' a (List.mem_of_getElem? hs))
  have hvl : (1 : Int) < (a.vals.length : Int) ↔ 1 < a.vals.length := by omega
  by_cases n1 : a.name = [99, 108, 97, 115, 115]
  ·by_cases n4 : 1 < a.vals.length
   ·by_cases n5 : a.name ∈ c.single
    ·rw [dec_pos n5] at d3
     rw [n1] at d1 d2 d3
     simp [r1, r5, r27, r28, r29, hi, f1, m1, m2, m3, d1, d2, d3, aw.len, aw.one, q1.one, q2.one, q3.one, hw, hgb, regionL_none, regionL_some, List.lookup, n1, n4, hvl]
     exact hbad fun h => h.2 ⟨n4, n5⟩
    ·rw [dec_neg n5] at d3
     rw [n1] at d1 d2 d3
     simp [r1, r5, r27, r28, r29, hi, f1, m1, m2, m3, d1, d2, d3, aw.len, aw.one, q1.one, q2.one, q3.one, hw, hgb, regionL_none, regionL_some, List.lookup, n1, n4, hvl]
     exact ⟨k, by omega, i + 1, by omega, hstep ⟨.inl n1, fun h => n5 h.2⟩, _, ⟨rfl, by omega⟩, by simp [r1], by simp [r5], by simp [r27], by simp [r28], by simp⟩
   ·rw [n1] at d1 d2 d3
    simp [r1, r5, r27, r28, r29, hi, f1, m1, m2, m3, d1, d2, d3, aw.len, aw.one, q1.one, q2.one, q3.one, hw, hgb, regionL_none, regionL_some, List.lookup, n1, n4, hvl]
    exact ⟨k, by omega, i + 1, by omega, hstep ⟨.inl n1, fun h => n4 h.1⟩, _, ⟨rfl, by omega⟩, by simp [r1], by simp [r5], by simp [r27], by simp [r28], by simp⟩
  by_cases n2 : a.name ∈ c.must
  ·rw [dec_pos n2] at d1
   by_cases n4 : 1 < a.vals.length
   ·by_cases n5 : a.name ∈ c.single
    ·rw [dec_pos n5] at d3
     simp [r1, r5, r27, r28, r29, hi, f1, m1, m2, m3, d1, d2, d3, aw.len, aw.one, q1.one, q2.one, q3.one, hw, hgb, regionL_none, regionL_some, List.lookup, n1, n4, hvl]
     exact hbad fun h => h.2 ⟨n4, n5⟩
    ·rw [dec_neg n5] at d3
     simp [r1, r5, r27, r28, r29, hi, f1, m1, m2, m3, d1, d2, d3, aw.len, aw.one, q1.one, q2.one, q3.one, hw, hgb, regionL_none, regionL_some, List.lookup, n1, n4, hvl]
     exact ⟨k, by omega, i + 1, by omega, hstep ⟨.inr (.inl n2), fun h => n5 h.2⟩, _, ⟨rfl, by omega⟩, by simp [r1], by simp [r5], by simp [r27], by simp [r28], by simp⟩
   ·simp [r1, r5, r27, r28, r29, hi, f1, m1, m2, m3, d1, d2, d3, aw.len, aw.one, q1.one, q2.one, q3.one, hw, hgb, regionL_none, regionL_some, List.lookup, n1, n4, hvl]
    exact ⟨k, by omega, i + 1, by omega, hstep ⟨.inr (.inl n2), fun h => n4 h.1⟩, _, ⟨rfl, by omega⟩, by simp [r1], by simp [r5], by simp [r27], by simp [r28], by simp⟩
  rw [dec_neg n2] at d1
  by_cases n3 : a.name ∈ c.may
  ·rw [dec_pos n3] at d2
   by_cases n4 : 1 < a.vals.length
   ·by_cases n5 : a.name ∈ c.single
    ·rw [dec_pos n5] at d3
     simp [r1, r5, r27, r28, r29, hi, f1, m1, m2, m3, d1, d2, d3, aw.len, aw.one, q1.one, q2.one, q3.one, hw, hgb, regionL_none, regionL_some, List.lookup, n1, n4, hvl]
     exact hbad fun h => h.2 ⟨n4, n5⟩
    ·rw [dec_neg n5] at d3
     simp [r1, r5, r27, r28, r29, hi, f1, m1, m2, m3, d1, d2, d3, aw.len, aw.one, q1.one, q2.one, q3.one, hw, hgb, regionL_none, regionL_some, List.lookup, n1, n4, hvl]
     exact ⟨k, by omega, i + 1, by omega, hstep ⟨.inr (.inr n3), fun h => n5 h.2⟩, _, ⟨rfl, by omega⟩, by simp [r1], by simp [r5], by simp [r27], by simp [r28], by simp⟩
   ·simp [r1, r5, r27, r28, r29, hi, f1, m1, m2, m3, d1, d2, d3, aw.len, aw.one, q1.one, q2.one, q3.one, hw, hgb, regionL_none, regionL_some, List.lookup, n1, n4, hvl]
    exact ⟨k, by omega, i + 1, by omega, hstep ⟨.inr (.inr n3), fun h => n4 h.1⟩, _, ⟨rfl, by omega⟩, by simp [r1], by simp [r5], by simp [r27], by simp [r28], by simp⟩
  ·rw [dec_neg n3] at d2
   simp [r1, r5, r27, r28, r29, hi, f1, m1, m2, m3, d1, d2, d3, aw.len, aw.one, q1.one, q2.one, q3.one, hw, hgb, regionL_none, regionL_some, List.lookup, n1, hvl]
   exact hbad fun h => by
    rcases h.1 with h | h | h
    ·exact n1 h
    ·exact n2 h
    ·exact n3 h
theorem asF {H : List Ob} {v : V} {l : List PClass} (h : AClasses H v l) : callW C 195 [v] H = some (.bool (decide (400 < l.length)), H) := by
 apply Ret.eq
 rw [aw4]
 have hi : (400 : Int) < (l.length : Int) ↔ 400 < l.length := by omega
 simp [aoX, Tryz.f195, h.len, hi]
theorem asg {H : List Ob} {vl vd va : V} {l : List PClass} {e : PEntry} (hl : AClasses H vl l) (hd : ARdns H vd e.dn) (ha : AAttrs H va e.attrs) (g1 : SchemaOk l) :
  ∃ r : Int, callW C 111 [vl, .agg [vd, va]] H = some (.int .i64 r, H) ∧ (r = 0 ↔ EntryOk e ∧ FitsOk l e) := by
 suffices hs : Ret C 111 [vl, .agg [vd, va]] H fun q H' => (∃ r : Int, q = .int .i64 r ∧ (r = 0 ↔ EntryOk e ∧ FitsOk l e)) ∧ H' = H by
  obtain ⟨q, H', hc, ⟨r, rfl, hr⟩, rfl⟩ := hs
  exact ⟨r, hc, hr⟩
 rw [axR]
 have hod := hd.one
 have hoa := ha.one
 have hgi : ∀ X n, gcH H (H ++ X) (.int .i64 n) = H := fun X n => gcH_int
 have c0 := asF (hl.ext (T := [.mk true 2 [vd, va]]))
 have c1 := amW (hl.ext (T := [.mk true 2 [vd, va]]))
 have c2 := aoj (hd.ext (T := [.mk true 2 [vd, va]])) (ha.ext (T := [.mk true 2 [vd, va]]))
 have g0 : ¬ 400 < l.length := by have := g1.2; omega
 rw [dec_pos g1] at c1
 have ld := loadN (H := H ++ [.mk true 2 [vd, va]]) (o := 0) (n := 2) get_last (by simp) (by decide) rfl
 simp at ld
 by_cases g2 : EntryOk e
 rotate_left
 ·rw [dec_neg g2] at c2
  simp [akO, Tryz.f111, c0, c1, c2, g0, ld, hod, hoa, strideOf, hgi, g2]
 rw [dec_pos g2] at c2
 have c3 := aus (H := H ++ [.mk true 2 [vd, va]]) (ide := H.length) (own := true) get_last hl.ext hd.ext ha.ext g1 g2
 by_cases g3 : FitsOk l e
 ·rw [dec_pos g3] at c3
  simp [akO, Tryz.f111, c0, c1, c2, c3, g0, ld, hod, hoa, strideOf, hgi, g2, g3]
 ·rw [dec_neg g3] at c3
  simp [akO, Tryz.f111, c0, c1, c2, c3, g0, ld, hod, hoa, strideOf, hgi, g2, g3]
theorem aoO {H : List Ob} {w1 w2 : V} {x : PEntry} {t : Str} (h : ARdns H w1 x.dn) (hd : DnOk x.dn) (ho : isOne w2 = true ∧ cellsOf w2 = some [w2]) : callW C 274 [.agg [w1, w2], .str t] H = some (.int .i64 (ajC (keyD x.dn) t), H) := by
 apply Ret.eq
 rw [avg]
 have c1 := aoZ h hd
 simp [aog, Tryz.f274, as2, c1, h.one, ho]
theorem apT {H : List Ob} {v : V} {l : List PEntry} {t : Str} (h : AEntries H v l) (hl : l.length ≤ 1000) (hok : ∀ x ∈ l, DnOk x.dn) (hp : l.Pairwise fun a b => (keyD a.dn) < (keyD b.dn)) :
  ∃ (i : Nat) (ok : Bool), callW C 273 [v, .str t, .fn 274 [] []] H = some (.tup [.int .i64 i, .bool ok], H) ∧
   i ≤ l.length ∧ (∀ q a, q < i → l[q]? = some a → LtS (keyD a.dn) t) ∧ (∀ q a, i ≤ q → l[q]? = some a → ¬ LtS (keyD a.dn) t) ∧ (ok = true ↔ ∃ a, l[i]? = some a ∧ (keyD a.dn) = t) := by
 suffices hs : Ret C 273 [v, .str t, .fn 274 [] []] H fun q H' =>
   (∃ (i : Nat) (ok : Bool), q = .tup [.int .i64 i, .bool ok] ∧ i ≤ l.length ∧ (∀ q a, q < i → l[q]? = some a → LtS (keyD a.dn) t) ∧ (∀ q a, i ≤ q → l[q]? = some a → ¬ LtS (keyD a.dn) t) ∧ (ok = true ↔ ∃ a, l[i]? = some a ∧ (keyD a.dn) = t)) ∧ H' = H by
  obtain ⟨q, H', hc, ⟨i, ok, rfl, h1⟩, rfl⟩ := hs
  exact ⟨i, ok, hc, h1⟩
 rw [awu]
 simp [an3, Tryz.f273, h.len]
 refine WP_loop (fun k σ => ∃ (i j : Nat) (r : Nat → R), j - i = k ∧ i ≤ j ∧ j ≤ l.length ∧ σ = ⟨r, 0, H⟩ ∧ r 0 = .val v ∧ r 1 = .val (.str t) ∧ r 2 = .val (.fn 274 [] []) ∧ r 8 = .val (.int .i64 l.length) ∧ r 9 = .val (.int .i64 i) ∧ r 10 = .val (.int .i64 j) ∧
  (∀ q a, q < i → l[q]? = some a → LtS (keyD a.dn) t) ∧ (∀ q a, j ≤ q → l[q]? = some a → ¬ LtS (keyD a.dn) t)) ?_ l.length _ ⟨0, l.length, _, by omega, by omega, by omega, rfl, by simp, by simp, by simp, by simp, by simp, by simp, fun q a h => by omega, fun q a h1 h2 => by have := (List.getElem?_eq_some_iff.1 h2).1; omega⟩
 rintro k σ ⟨i, j, r, hk, hij, hjl, rfl, r0, r1, r2, r8, r9, r10, hlo, hhi⟩
 cases k with
 | succ k =>
  have hlt : (i : Int) < j := by omega
  have hlt' : i < j := by omega
  have hw1 : IntKind.i64.wrap ((i : Int) + j) = (i : Int) + j := wrap_i64 (by omega) (by omega)
  have hw2 : IntKind.u64.wrap ((i : Int) + j) = (i : Int) + j := by unfold IntKind.wrap; simp [IntKind.bits, IntKind.signed]; omega
  have hq : ((i : Int) + j).fdiv 2 = (((i + j) / 2 : Nat) : Int) := by rw [Int.fdiv_eq_ediv_of_nonneg _ (by omega)]; omega
  obtain ⟨m, hm⟩ : ∃ m, m = (i + j) / 2 := ⟨_, rfl⟩
  rw [← hm] at hq
  have hw3 : IntKind.i64.wrap (m : Int) = m := wrap_i64 (by omega) (by omega)
  have hw4 : IntKind.i64.wrap ((m : Int) + 1) = (m : Int) + 1 := wrap_i64 (by omega) (by omega)
  have hml : m < l.length := by omega
  obtain ⟨a, ha⟩ : ∃ a, l[m]? = some a := ⟨l[m], List.getElem?_eq_getElem hml⟩
  obtain ⟨id, o, w1, w2, e1, l0, l1, l2, hvs, hva, _⟩ := entries_idx h ha
  have c1 := aoO (t := t) hvs (hok a (List.mem_of_getElem? ha)) hva.one
  have hord : ∀ q b, l[q]? = some b → (q < m → (keyD b.dn) < (keyD a.dn)) ∧ (m < q → (keyD a.dn) < (keyD b.dn)) := fun q b hb => by
   obtain ⟨hq1, hb⟩ := List.getElem?_eq_some_iff.1 hb
   obtain ⟨_, ha⟩ := List.getElem?_eq_some_iff.1 ha
   have := List.pairwise_iff_getElem.1 hp
   exact ⟨fun hh => by have := this q m hq1 hml hh; rwa [hb, ha] at this, fun hh => by have := this m q hml hq1 hh; rwa [hb, ha] at this⟩
  by_cases g1 : LtS (keyD a.dn) t
  ·have g1' := ak4.2 g1
   simp [r0, r1, r2, r8, r9, r10, hlt, hlt', hw1, hw2, hq, hw3, hw4, e1, l2, c1, g1', intShift, IntKind.bits]
   refine ⟨j - (m + 1), by omega, m + 1, j, by omega, by omega, by omega, by omega, rfl, fun q b hq1 hb => ?_, hhi⟩
   by_cases hqm : q = m
   ·subst hqm; rw [ha] at hb; cases hb; exact g1
   ·exact (ah5 _ _).2 (List.lt_trans ((hord q b hb).1 (by omega)) ((ah5 _ _).1 g1))
  ·have g1' : ¬ ajC (keyD a.dn) t < 0 := mt ak4.1 g1
   simp [r0, r1, r2, r8, r9, r10, hlt, hlt', hw1, hw2, hq, hw3, hw4, e1, l2, c1, g1', intShift, IntKind.bits]
   refine ⟨m - i, by omega, i, m, by omega, by omega, by omega, rfl, rfl, hlo, fun q b hq1 hb hlt2 => ?_⟩
   by_cases hqm : q = m
   ·subst hqm; rw [ha] at hb; cases hb; exact g1 hlt2
   ·exact g1 ((ah5 _ _).2 (List.lt_trans ((hord q b hb).2 (by omega)) ((ah5 _ _).1 hlt2)))
 | zero =>
  have hij' : i = j := by omega
  subst hij'
  by_cases hil : i < l.length
  ·have hilI : (i : Int) < l.length := by omega
   obtain ⟨a, ha⟩ : ∃ a, l[i]? = some a := ⟨l[i], List.getElem?_eq_getElem hil⟩
   obtain ⟨id, o, w1, w2, e1, l0, l1, l2, hvs, hva, _⟩ := entries_idx h ha
   have c1 := aoO (t := t) hvs (hok a (List.mem_of_getElem? ha)) hva.one
   by_cases g1 : (keyD a.dn) = t
   ·have g1' := akl.2 g1
    simp [r0, r1, r2, r8, r9, r10, hil, e1, l2, c1, g1']
    exact ⟨i, rfl, by omega, hlo, hhi, a, ha, g1⟩
   ·have g1' : ¬ ajC (keyD a.dn) t = 0 := mt akl.1 g1
    simp [r0, r1, r2, r8, r9, r10, hil, e1, l2, c1, g1']
    exact ⟨i, rfl, by omega, hlo, hhi, fun b hb => by rw [ha] at hb; cases hb; exact g1⟩
  ·simp [r0, r1, r2, r8, r9, r10, hil]
   exact ⟨i, rfl, by omega, hlo, hhi, fun b hb => by have := (List.getElem?_eq_some_iff.1 hb).1; omega⟩
theorem apP {H : List Ob} {idt : Nat} {own : Bool} {es : Nat} {vs ve vd : V} {l : List PEntry} {dn : List PRdn} (ht : H[idt]? = some (.mk own es [vs, ve])) (h : AEntries H ve l) (hl : l.length ≤ 1000) (hok : ∀ x ∈ l, DnOk x.dn) (hp : l.Pairwise fun a b => keyD a.dn < keyD b.dn) (hd : ARdns H vd dn) (hdn : DnOk dn) :
  ∃ (i : Nat) (ok : Bool), callW C 201 [.ptr (some (idt, 0)), vd] H = some (.tup [.int .i64 i, .bool ok], H) ∧
   i ≤ l.length ∧ (∀ q a, q < i → l[q]? = some a → LtS (keyD a.dn) (keyD dn)) ∧ (∀ q a, i ≤ q → l[q]? = some a → ¬ LtS (keyD a.dn) (keyD dn)) ∧ (ok = true ↔ ∃ a, l[i]? = some a ∧ keyD a.dn = keyD dn) := by
 obtain ⟨i, ok, c1, h1⟩ := apT (t := keyD dn) h hl hok hp
 refine ⟨i, ok, ?_, h1⟩
 apply Ret.eq
 rw [av6]
 have c2 := aoZ hd hdn
 have ld := load1 (o := 1) (v := ve) ht rfl
 have hid : idt < H.length := (List.getElem?_eq_some_iff.1 ht).1
 simp [aoU, Tryz.f201, c1, c2, ld, hid, regionL_none, regionL_some, List.lookup]
theorem am8 {H : List Ob} {idt : Nat} {own : Bool} {es : Nat} {vs ve vd : V} {l : List PEntry} {dn : List PRdn} (ht : H[idt]? = some (.mk own es [vs, ve])) (h : AEntries H ve l) (hl : l.length ≤ 1000) (hok : ∀ x ∈ l, DnOk x.dn) (hp : l.Pairwise fun a b => keyD a.dn < keyD b.dn) (hd : ARdns H vd dn) (hdn : DnOk dn) :
  callW C 115 [.ptr (some (idt, 0)), vd] H = some (.bool (dec (ParentOk l dn)), H) := by
 apply Ret.dec
 rw [axa]
 by_cases g1 : dn.length ≤ 1
 ·have g1' : (dn.length : Int) ≤ 1 := by omega
  simp [ale, Tryz.f115, hd.len, g1']
  exact .inl g1
 have g1' : ¬ (dn.length : Int) ≤ 1 := by omega
 obtain ⟨id, off, own', cells, hv, hcell, at_⟩ := rdns_tail hd (by omega)
 have hst : strideIs H id 2 = true := by simp [strideIs, hcell]
 have q1 : 1 ≤ dn.length := by omega
 obtain ⟨i, ok, c1, hil, hlo, hhi, hok'⟩ := apP ht h hl hok hp at_ hdn.tail
 have hpar : ok = true ↔ ParentOk l dn := by
  rw [hok']
  constructor
  ·rintro ⟨a, ha, he⟩
   exact .inr ⟨a, List.mem_of_getElem? ha, he⟩
  ·rintro (hh | ⟨y, hy, he⟩)
   ·omega
   ·obtain ⟨j, hj, rfl⟩ := List.getElem_of_mem hy
    have hji : ¬ j < i := fun hh => by
     have := hlo j _ hh (List.getElem?_eq_getElem hj)
     rw [he] at this
     exact List.lt_irrefl _ ((ah5 _ _).1 this)
    have hnl := hhi i
    by_cases hij : i = j
    ·subst hij
     exact ⟨_, List.getElem?_eq_getElem hj, he⟩
    ·have hi2 : i < l.length := by omega
     have h1 := hhi i _ (Nat.le_refl _) (List.getElem?_eq_getElem hi2)
     have h2 := List.pairwise_iff_getElem.1 hp i j hi2 hj (by omega)
     rw [he] at h2
     exact absurd ((ah5 _ _).2 h2) h1
 rw [hv] at hd ⊢
 cases ok with
 | true =>
  have := hpar.1 rfl
  simp [ale, Tryz.f115, hd.len, g1', hst, q1, c1, this]
 | false =>
  have : ¬ ParentOk l dn := fun hh => by have := hpar.2 hh; cases this
  simp [ale, Tryz.f115, hd.len, g1', hst, q1, c1, this]
theorem amA {H : List Ob} {v : V} {l : List PEntry} {g : Nat} {a b : List V} (h : AEntries H v l) (p : PEntry → Bool) (hg : ∀ x ∈ l, ∀ w1 w2, ARdns H w1 x.dn → AAttrs H w2 x.attrs → callW C g (a ++ ([.agg [w1, w2]] ++ b)) H = some (.bool (p x), H)) :
  ∃ r : Int, callW C 200 [v, .fn g a b] H = some (.int .i64 r, H) ∧ (0 ≤ r ↔ ∃ x ∈ l, p x = true) := by
 suffices hs : Ret C 200 [v, .fn g a b] H fun q H' => (∃ r : Int, q = .int .i64 r ∧ (0 ≤ r ↔ ∃ x ∈ l, p x = true)) ∧ H' = H by
  obtain ⟨q, H', hc, ⟨r, rfl, hr⟩, rfl⟩ := hs
  exact ⟨r, hc, hr⟩
 rw [avt]
 have hb : l.length ≤ 9223372036854775807 := h.bound
 simp [aoe, Tryz.f200, h.len]
 refine WP_loop (fun k σ => ∃ (i : Nat) (r : Nat → R), i + k = l.length ∧ σ = ⟨r, 0, H⟩ ∧ r 0 = .val v ∧ r 1 = .val (.fn g a b) ∧ r 7 = .val (.int .i64 l.length) ∧ r 8 = .val (.int .i64 i) ∧ ∀ j x, j < i → l[j]? = some x → p x = false) ?_ l.length _ ⟨0, _, by simp, rfl, by simp, by simp, by simp, by simp, by simp⟩
 rintro k σ ⟨i, r, hik, rfl, r0, r1, r7, r8, hall⟩
 cases k with
 | zero =>
  have hi : i = l.length := by omega
  subst hi
  have hx := at_all (P := fun j (x : PEntry) => p x = false) hall
  simp [r0, r1, r7, r8]
  intro x hm
  obtain ⟨j, hj, rfl⟩ := List.getElem_of_mem hm
  exact hx j _ (List.getElem?_eq_getElem hj)
 | succ k =>
  have hi : i < l.length := by omega
  obtain ⟨x, hx⟩ : ∃ c, l[i]? = some c := ⟨l[i], by simp [hi]⟩
  have hw : IntKind.i64.wrap ((i : Int) + 1) = ((i : Int) + 1) := wrap_i64 (by omega) (by omega)
  obtain ⟨id, o, w1, w2, e1, l0, l1, lm, a1, a2, _⟩ := entries_idx h hx
  have c1 := hg x (List.mem_of_getElem? hx) w1 w2 a1 a2
  simp only [List.singleton_append] at c1
  have ho1 := a1.one
  have ho2 := a2.one
  cases hp : p x with
  | false =>
   rw [hp] at c1
   simp [r0, r1, r7, r8, hi, e1, lm, c1, hw, ho1, ho2]
   exact ⟨k, by omega, i + 1, by omega, by omega, at_step (P := fun j (x : PEntry) => p x = false) hall hx hp⟩
  | true =>
   rw [hp] at c1
   simp [r0, r1, r7, r8, hi, e1, lm, c1, hw, ho1, ho2]
   exact ⟨x, List.mem_of_getElem? hx, hp⟩
theorem akL {H : List Ob} {v : V} {l : List PEntry} {g : Nat} {a b : List V} (h : AEntries H v l) (p : PEntry → Bool) (hg : ∀ x ∈ l, ∀ w1 w2, ARdns H w1 x.dn → AAttrs H w2 x.attrs → callW C g (a ++ ([.agg [w1, w2]] ++ b)) H = some (.bool (p x), H)) :
  callW C 113 [v, .fn g a b] H = some (.bool (dec (∃ x ∈ l, p x = true)), H) := by
 obtain ⟨r, c1, hr⟩ := amA h p hg
 apply Ret.dec
 rw [avo]
 by_cases g1 : 0 ≤ r
 ·have := hr.1 g1
  simp [amN, Tryz.f113, c1, g1]
  exact this
 ·have : ¬ ∃ x ∈ l, p x = true := fun h => g1 (hr.2 h)
  simp [amN, Tryz.f113, c1, g1]
  intro x hx
  cases hp : p x with
  | false => rfl
  | true => exact absurd ⟨x, hx, hp⟩ this
theorem aqb {H : List Ob} {idt : Nat} {own : Bool} {es : Nat} {vs ve w1 w2 : V} {l : List PEntry} {x : PEntry} (ht : H[idt]? = some (.mk own es [vs, ve])) (h : AEntries H ve l) (hl : l.length ≤ 1000) (hok : ∀ x ∈ l, DnOk x.dn) (hp : l.Pairwise fun a b => keyD a.dn < keyD b.dn) (hd : ARdns H w1 x.dn) (ho : isOne w2 = true ∧ cellsOf w2 = some [w2]) (hx : DnOk x.dn) :
  callW C 114 [.agg [w1, w2], .ptr (some (idt, 0))] H = some (.bool (!dec (ParentOk l x.dn)), H) := by
 apply Ret.eq
 rw [avi]
 have c1 := am8 ht h hl hok hp hd hx
 simp [an7, Tryz.f114, c1, hd.one, ho]
theorem amX {H : List Ob} {vs ve : V} {t : PTree} (hs : AClasses H vs t.schema) (h : AEntries H ve t.entries) : callW C 47 [.agg [vs, ve]] H = some (.bool (dec (TreeOk t)), H) := by
 apply Ret.dec
 rw [aA1]
 have hos := hs.one
 have hoe := h.one
 have hgb : ∀ X b, gcH H (H ++ X) (.bool b) = H := fun X b => gcH_bool
 obtain ⟨K, hK⟩ : ∃ K, K = H ++ [.mk true 2 [vs, ve]] := ⟨_, rfl⟩
 have hKt : K[H.length]? = some (.mk true 2 [vs, ve]) := by rw [hK]; exact get_last
 have hsK : AClasses K vs t.schema := by rw [hK]; exact hs.ext
 have hK2 : AEntries K ve t.entries := by rw [hK]; exact h.ext
 have ld0 := load1 (o := 0) (v := vs) hKt rfl
 have ld1 := load1 (o := 1) (v := ve) hKt rfl
 have hgK : ∀ b, gcH H K (.bool b) = H := fun b => by rw [hK]; exact gcH_bool
 have hKl : H.length < K.length := by rw [hK]; simp
 have c1 := amW hsK
 by_cases g1 : SchemaOk t.schema
 rotate_left
 ·rw [dec_neg g1] at c1
  simp [aml, Tryz.f47, hos, hoe, strideOf, ← hK, ld0, c1, hgK]
  exact fun h => g1 h.1
 rw [dec_pos g1] at c1
 by_cases g2 : 20 < t.entries.length
 ·have g2' : (20 : Int) < t.entries.length := by omega
  simp [aml, Tryz.f47, hos, hoe, strideOf, ← hK, ld0, ld1, c1, hK2.len, g2', hgK]
  exact fun h => by have := h.2.1.1; omega
 have g2' : ¬ (20 : Int) < t.entries.length := by omega
 simp [aml, Tryz.f47, hos, hoe, strideOf, ← hK, ld0, ld1, c1, hK2.len, g2']
 have hb : t.entries.length ≤ 20 := by omega
 refine WP_loop (fun k σ => ∃ (i n : Nat) (r : Nat → R), i + k = t.entries.length ∧ σ = ⟨r, n, K⟩ ∧ r 1 = .val (.ptr (some (H.length, 0))) ∧ r 16 = .val ve ∧ r 17 = .val (.int .i64 t.entries.length) ∧ r 18 = .val (.int .i64 i) ∧ ∀ j x, j < i → t.entries[j]? = some x → EntryOk x ∧ FitsOk t.schema x ∧ PrevLt (fun e => keyD e.dn) t.entries j x) ?_ t.entries.length _ ⟨0, _, _, by omega, rfl, by simp, by simp, by simp, by simp, by simp⟩
 rintro k σ ⟨i, n, r, hik, rfl, r1, r16, r17, r18, hall⟩
 cases k with
 | zero =>
  have hi : i = t.entries.length := by omega
  subst hi
  have hE := at_all (P := fun j (x : PEntry) => EntryOk x ∧ FitsOk t.schema x ∧ PrevLt (fun e => keyD e.dn) t.entries j x) hall
  have hdn : ∀ x ∈ t.entries, DnOk x.dn := fun x hx => by
   obtain ⟨j, hj, rfl⟩ := List.getElem_of_mem hx
   exact (hE j _ (List.getElem?_eq_getElem hj)).1.2.1
  have hpw : t.entries.Pairwise fun a b => keyD a.dn < keyD b.dn := akz (key := fun e => keyD e.dn) (fun j x hx => (hE j x hx).2.2)
  have c2 := akL (g := 114) (a := []) (b := [.ptr (some (H.length, 0))]) hK2 (fun x => !dec (ParentOk t.entries x.dn)) (fun x hx w1 w2 a1 a2 => aqb hKt hK2 (by omega) hdn hpw a1 a2.one (hdn x hx))
  by_cases g3 : ∀ x ∈ t.entries, ParentOk t.entries x.dn
  ·have hn : ¬ ∃ x ∈ t.entries, (!dec (ParentOk t.entries x.dn)) = true := by
    rintro ⟨x, hx, he⟩
    rw [dec_pos (g3 x hx)] at he
    cases he
   rw [dec_neg hn] at c2
   have hT : TreeOk t := ⟨g1, ⟨hb, hE⟩, g3⟩
   simp [r1, r16, r17, r18, ld0, ld1, c2, hgK, hT]
  ·have hn : ∃ x ∈ t.entries, (!dec (ParentOk t.entries x.dn)) = true := by
    refine Classical.byContradiction fun hh => g3 fun x hx => Classical.byContradiction fun hp => hh ⟨x, hx, by rw [dec_neg hp]; rfl⟩
   rw [dec_pos hn] at c2
   have hT : ¬ TreeOk t := fun h => g3 h.2.2
   simp [r1, r16, r17, r18, ld0, ld1, c2, hgK, hT]
 | succ k =>
  have hi : i < t.entries.length := by omega
  obtain ⟨x, hx⟩ : ∃ c, t.entries[i]? = some c := ⟨t.entries[i], by simp [hi]⟩
  have hw : IntKind.i64.wrap ((i : Int) + 1) = ((i : Int) + 1) := wrap_i64 (by omega) (by omega)
  obtain ⟨id, o, w1, w2, e1, l0, l1, lm, a1, a2, _⟩ := entries_idx hK2 hx
  have hid := al6 l0
  obtain ⟨f, c3, hf⟩ := asg hsK a1 a2 g1
  have hstep := fun h => at_step (P := fun j (x : PEntry) => EntryOk x ∧ FitsOk t.schema x ∧ PrevLt (fun e => keyD e.dn) t.entries j x) hall hx h
  have ho1 := a1.one
  have ho2 := a2.one
  by_cases q1 : EntryOk x ∧ FitsOk t.schema x
  rotate_left
  ·have hf0 : ¬ f = 0 := fun e => q1 (hf.1 e)
   have hn : ¬ TreeOk t := fun hd => q1 ⟨(hd.2.1.2 i x hx).1, (hd.2.1.2 i x hx).2.1⟩
   simp [r1, r16, r17, r18, hi, e1, l0, l1, lm, ld0, ld1, hid, hKl, c3, hf0, hn, ho1, ho2, hgK, regionL_none, regionL_some, List.lookup]
  have hf0 : f = 0 := hf.2 q1
  subst hf0
  by_cases hi0 : i = 0
  ·have := hstep ⟨q1.1, q1.2, fun y hy => by omega⟩
   subst hi0
   simp at e1
   simp [r1, r16, r17, r18, hi, e1, l0, l1, lm, ld0, ld1, hid, hKl, c3, ho1, ho2, hgK, regionL_none, regionL_some, List.lookup]
   exact ⟨k, by omega, 1, by omega, _, _, ⟨rfl, rfl⟩, by simp [r1], by simp [r16], by simp [r17], by simp, this⟩
  ·have hip : 0 < i := by omega
   obtain ⟨y, hy⟩ : ∃ c, t.entries[i - 1]? = some c := ⟨t.entries[i - 1]'(by omega), by simp⟩
   obtain ⟨id', o', w1', w2', e1', l0', _, _, a1', _⟩ := entries_idx hK2 hy
   have hid' := al6 l0'
   have hyok := (hall (i - 1) y (by omega) hy).1
   have c4 := aoZ a1 q1.1.2.1
   have c5 := aoZ a1' hyok.2.1
   have hw1 : IntKind.i64.wrap ((i : Int) - 1) = ((i - 1 : Nat) : Int) := by rw [wrap_i64 (by omega) (by omega)]; omega
   by_cases q3 : LtS (keyD y.dn) (keyD x.dn)
   ·have := hstep ⟨q1.1, q1.2, fun z _ hz => by rw [hy] at hz; cases hz; exact q3⟩
    simp [r1, r16, r17, r18, hi, e1, l0, l1, lm, ld0, ld1, hid, hid', hKl, c3, c4, c5, e1', l0', hw, hw1, hip, aiv q3, ho1, ho2, hgK, regionL_none, regionL_some, List.lookup]
    exact ⟨k, by omega, i + 1, by omega, _, _, ⟨rfl, rfl⟩, by simp [r1], by simp [r16], by simp [r17], by simp, this⟩
   ·have hn : ¬ TreeOk t := fun hd => q3 ((hd.2.1.2 i x hx).2.2 y hip hy)
    simp [r1, r16, r17, r18, hi, e1, l0, l1, lm, ld0, ld1, hid, hid', hKl, c3, c4, c5, e1', l0', hw, hw1, hip, aiB q3, ho1, ho2, hgK, regionL_none, regionL_some, List.lookup, hn]
def NOut (H : List Ob) (o : PEntryOut) (q : V) (H' : List Ob) : Prop := ∃ T w1 w2, q = .agg [w1, w2, .int .i64 o.code] ∧ H' = H ++ T ∧ New H.length (H ++ T).length (H ++ T) shEntryOut [w1, w2, .int .i64 o.code] o.u
theorem NOut.of {H G : List Ob} {e : PEntry} {w1 w2 : V} (hT : ∃ T, G = H ++ T) (hn : New H.length G.length G shEntry [w1, w2] e.u) : NOut H ⟨e, 0⟩ (.agg [w1, w2, .int .i64 0]) (gcH H G (.agg [w1, w2, .int .i64 0])) := by
 obtain ⟨T, rfl⟩ := hT
 have h2 : New H.length (H ++ T).length (H ++ T) shEntryOut [w1, w2, .int .i64 0] (PEntryOut.u ⟨e, 0⟩) := New.st (News.cons (c1 := [w1, w2]) (m := (H ++ T).length) hn (News.int (by decide) News.nil) (by simp) (Nat.le_refl _))
 obtain ⟨T', h3, h4⟩ := h2.gcA
 exact ⟨T', w1, w2, rfl, h3, h4⟩
def NOutB (b : Nat) (H : List Ob) (o : PEntryOut) (q : V) (H' : List Ob) : Prop := ∃ T w1 w2, q = .agg [w1, w2, .int .i64 o.code] ∧ H' = H ++ T ∧ New b (H ++ T).length (H ++ T) shEntryOut [w1, w2, .int .i64 o.code] o.u
theorem NOutB.base {H : List Ob} {X : List Ob} {o : PEntryOut} {q : V} {H' : List Ob} (h : NOutB H.length (H ++ X) o q H') : NOut H o q (gcH H H' q) := by
 obtain ⟨T, w1, w2, rfl, rfl, h3⟩ := h
 rw [List.append_assoc] at h3 ⊢
 obtain ⟨T', h4, h5⟩ := h3.gcA
 exact ⟨T', w1, w2, rfl, h4, h5⟩
theorem NOutB.one {b : Nat} {H : List Ob} {o : PEntryOut} {q : V} {H' : List Ob} (h : NOutB b H o q H') : ∃ w1 w2, q = .agg [w1, w2, .int .i64 o.code] ∧ (isOne w1 = true ∧ cellsOf w1 = some [w1]) ∧ (isOne w2 = true ∧ cellsOf w2 = some [w2]) := by
 obtain ⟨T, w1, w2, rfl, rfl, h3⟩ := h
 obtain ⟨_, _, hcs, a1, a2, _⟩ := entryOut_at.1 h3.at
 cases hcs
 exact ⟨w1, w2, rfl, a1.one, a2.one⟩

end Go.Proofs.Try1
end
section
namespace Go.Lite
open Go
section
variable {α : Type} {G : List Ob} {sh : Sh} {f : α → U} {v : V} {l : List α} {F : List Nat}
theorem chunk_take {D : List V} {s i j : Nat} (h : j * s + s ≤ i * s) : ((D.take (i * s)).drop (j * s)).take s = (D.drop (j * s)).take s := by
 apply List.ext_getElem?
 intro q
 by_cases hq : q < s
 ·rw [List.getElem?_take_of_lt hq, List.getElem?_take_of_lt hq, List.getElem?_drop, List.getElem?_take_of_lt (by omega), List.getElem?_drop]
 ·rw [List.getElem?_eq_none (by simp; omega), List.getElem?_eq_none (by simp; omega)]
end
section
variable {α : Type} {G : List Ob} {sh : Sh} {f : α → U} {v : V} {l : List α} {F : List Nat}
end
section
variable {α : Type} {G : List Ob} {sh : Sh} {f : α → U} {v : V} {l : List α} {F : List Nat}
end
def Rw (s : Nat) (B G : List Ob) (v : V) (n : Nat) (cs : List V) : Prop :=
 (∃ T, G = B ++ T) ∧ cs.length = n * s ∧ ((v = .slc none 0 ∧ n = 0) ∨ ∃ id, v = .slc (some (id, 0)) n ∧ B.length ≤ id ∧ G[id]? = some (.mk true s cs))
section
variable {s n m : Nat} {B G : List Ob} {v : V} {cs xs : List V}
theorem Rw.nil : Rw s B B (.slc none 0) 0 [] := ⟨⟨[], by simp⟩, by simp, .inl ⟨rfl, rfl⟩⟩
theorem Rw.init (hB : ∃ T, G = B ++ T) : Rw s B (G ++ [.mk true s []]) (.slc (some (G.length, 0)) 0) 0 [] := by
 obtain ⟨T, rfl⟩ := hB
 exact ⟨⟨T ++ [.mk true s []], by simp⟩, by simp, .inr ⟨(B ++ T).length, rfl, by simp, get_last⟩⟩
theorem Rw.pre (h : Rw s B G v n cs) : ∃ T, G = B ++ T := h.1
theorem Rw.ext {T : List Ob} (h : Rw s B G v n cs) : Rw s B (G ++ T) v n cs := by
 obtain ⟨⟨S, rfl⟩, h2, h3⟩ := h
 exact ⟨⟨S ++ T, by simp⟩, h2, h3.imp id fun ⟨id, q1, q2, q3⟩ => ⟨id, q1, q2, up_append _ _ q3⟩⟩
theorem Rw.one (h : Rw s B G v n cs) : isOne v = true ∧ cellsOf v = some [v] := by
 rcases h.2.2 with ⟨rfl, _⟩ | ⟨id, rfl, _⟩ <;> exact ⟨rfl, rfl⟩
theorem Rw.many (h : Rw s B G v n cs) {d : LD} {by_ : Nat} {z : List V} {x : V} (hx : newCells ⟨d, s, by_, z⟩ G x = some (xs, m)) (hm : xs.length = m * s) (ho : xs.all isOne = true)
  (hz : z.length = s) (h0 : 0 < s) (hb0 : 0 < by_) (hb1 : by_ ≤ 1000000) (hb : (n + m) * by_ ≤ maxMade) :
  ∃ v' G', appendV ⟨d, s, by_, z⟩ G v x = some (v', G') ∧ Rw s B G' v' (n + m) (cs ++ xs) := by
 by_cases hm0 : m = 0
 ·subst hm0
  have hx0 : xs = [] := List.length_eq_zero_iff.1 (by omega)
  subst hx0
  refine ⟨v, G, ?_, by simpa using h⟩
  unfold appendV
  rw [if_pos (by simp [growOk, h0, hb0, hb1, hz]), hx]
  simp only [if_true]
  rcases h.2.2 with ⟨rfl, _⟩ | ⟨id, rfl, _⟩ <;> rfl
 obtain ⟨⟨T, rfl⟩, h2, h3⟩ := h
 rcases h3 with ⟨rfl, rfl⟩ | ⟨id, rfl, q2, q3⟩
 ·have hc0 : cs = [] := List.length_eq_zero_iff.1 (by omega)
  subst hc0
  refine ⟨_, _, appendV_nil hz h0 hb0 hb1 hx hm0 ho (by simpa using hb), ⟨T ++ [.mk true s xs], by simp⟩, by simp [hm], .inr ⟨(B ++ T).length, by simp, by simp, ?_⟩⟩
  rw [List.nil_append]; exact get_last
 ·refine ⟨_, _, appendV_row hz h0 hb0 hb1 q3 h2 hx hm0 ho hb, ⟨T.set (id - B.length) .dead ++ [.mk true s (cs ++ xs)], ?_⟩, by simp [h2, hm, Nat.add_mul], .inr ⟨(B ++ T).length, rfl, by simp, ?_⟩⟩
  ·rw [List.set_append_right _ _ q2, List.append_assoc]
  ·have hl : ((B ++ T).set id .dead).length = (B ++ T).length := List.length_set
   rw [← hl, get_last]
end
def RowsOk (B : List Ob) (sh : Sh) (cs : List V) (us : List U) (Fs : List (List Nat)) : Prop :=
 cs.length = us.length * sh.size ∧ Fs.length = us.length ∧ ∀ i x F, us[i]? = some x → Fs[i]? = some F → AtF B sh ((cs.drop (i * sh.size)).take sh.size) x F
section
variable {B G : List Ob} {sh : Sh} {cs cs' : List V} {us us' : List U} {Fs Fs' : List (List Nat)} {v : V}
theorem RowsOk.nil : RowsOk B sh [] [] [] := ⟨by simp, rfl, fun i x F h => by cases h⟩
theorem RowsOk.one {c : List V} {x : U} {F : List Nat} (h : AtF B sh c x F) : RowsOk B sh c [x] [F] := by
 have hl : c.length = sh.size := At.len _ (AtF.at _ h)
 refine ⟨by simp [hl], rfl, fun i y K hy hK => ?_⟩
 cases i with
 | zero => cases hy; cases hK; rw [Nat.zero_mul, List.drop_zero, List.take_of_length_le (by omega)]; exact h
 | succ i => cases hy
theorem RowsOk.take (h : RowsOk B sh cs us Fs) {k : Nat} (hk : k ≤ us.length) : RowsOk B sh (cs.take (k * sh.size)) (us.take k) (Fs.take k) := by
 obtain ⟨h1, h2, h3⟩ := h
 have hm : k * sh.size ≤ us.length * sh.size := Nat.mul_le_mul_right _ hk
 refine ⟨by simp [Nat.min_eq_left hk]; omega, by simp; omega, fun i x F hx hF => ?_⟩
 have hi : i < k := by have := (List.getElem?_eq_some_iff.1 hx).1; simp at this; omega
 rw [List.getElem?_take_of_lt hi] at hx hF
 have hs : i * sh.size + sh.size ≤ k * sh.size := mul_step hi
 have := h3 i x F hx hF
 rw [chunk_take hs]
 exact this
theorem RowsOk.drop (h : RowsOk B sh cs us Fs) {k : Nat} (hk : k ≤ us.length) : RowsOk B sh (cs.drop (k * sh.size)) (us.drop k) (Fs.drop k) := by
 obtain ⟨h1, h2, h3⟩ := h
 refine ⟨by simp [h1, Nat.sub_mul], by simp; omega, fun i x F hx hF => ?_⟩
 rw [List.getElem?_drop] at hx hF
 have := h3 (k + i) x F hx hF
 rw [List.drop_drop, ← Nat.add_mul]
 exact this
theorem RowsOk.append (h : RowsOk B sh cs us Fs) (h' : RowsOk B sh cs' us' Fs') : RowsOk B sh (cs ++ cs') (us ++ us') (Fs ++ Fs') := by
 obtain ⟨h1, h2, h3⟩ := h
 obtain ⟨k1, k2, k3⟩ := h'
 refine ⟨by simp [h1, k1, Nat.add_mul], by simp [h2, k2], fun i x F hx hF => ?_⟩
 by_cases hi : i < us.length
 ·rw [List.getElem?_append_left hi] at hx
  rw [List.getElem?_append_left (by omega)] at hF
  have hs : i * sh.size + sh.size ≤ us.length * sh.size := mul_step hi
  rw [List.drop_append_of_le_length (by omega), List.take_append_of_le_length (by simp; omega)]
  exact h3 i x F hx hF
 ·obtain ⟨t, rfl⟩ : ∃ t, i = us.length + t := ⟨i - us.length, by omega⟩
  rw [List.getElem?_append_right (by omega)] at hx hF
  rw [show us.length + t - us.length = t by omega] at hx
  rw [show us.length + t - Fs.length = t by omega] at hF
  have e : (us.length + t) * sh.size = cs.length + t * sh.size := by rw [Nat.add_mul, h1]
  rw [e, List.drop_append, List.drop_eq_nil_of_le (by omega), List.nil_append, Nat.add_sub_cancel_left]
  exact k3 t x F hx hF
theorem RowsOk.ones (h : RowsOk B sh cs us Fs) : cs.all isOne = true := by
 refine rows_ones (n := us.length) (s := sh.size) h.1 fun j hj => ?_
 have hF : j < Fs.length := by rw [h.2.1]; exact hj
 exact At.ones _ (AtF.at _ (h.2.2 j us[j] Fs[j] (List.getElem?_eq_getElem hj) (List.getElem?_eq_getElem hF)))
theorem RowsOk.mem (h : RowsOk B sh cs us Fs) : ∀ q ∈ Fs.flatten, q < B.length := fun q hq => by
 obtain ⟨F, hF, hq⟩ := List.mem_flatten.1 hq
 obtain ⟨i, hi, rfl⟩ := List.getElem_of_mem hF
 have hi' : i < us.length := by rw [← h.2.1]; exact hi
 exact AtF.mem _ (h.2.2 i us[i] Fs[i] (List.getElem?_eq_getElem hi') (List.getElem?_eq_getElem hi)) q hq
theorem RowsOk.frame (h : RowsOk B sh cs us Fs) (hG : ∀ q ∈ Fs.flatten, G[q]? = B[q]?) : RowsOk G sh cs us Fs :=
 ⟨h.1, h.2.1, fun i x F hx hF => AtF.frame _ (fun q hq => hG q (List.mem_flatten.2 ⟨F, List.mem_of_getElem? hF, hq⟩)) (h.2.2 i x F hx hF)⟩
theorem AtF.rows {F : List Nat} (h : AtF B (.slice sh) [v] (.lst us) F) (hn : F.Nodup) : ∃ p cs Fs, v = .slc p us.length ∧ RowsOk B sh cs us Fs ∧ Fs.flatten.Nodup ∧ (∀ q ∈ Fs.flatten, q ∈ F) ∧
  ((p = none ∧ us = []) ∨ ∃ id off cells, p = some (id, off) ∧ B[id]? = some (.mk true sh.size cells) ∧ id ∈ F ∧ id ∉ Fs.flatten ∧
   ∀ (d : LD) (by_ : Nat) (z : List V) (G : List Ob) (lo hi : Nat), G[id]? = B[id]? → lo ≤ hi → hi ≤ us.length →
    newCells ⟨d, sh.size, by_, z⟩ G (.slc (some (id, off + lo * sh.size)) (hi - lo)) = some ((cs.drop (lo * sh.size)).take ((hi - lo) * sh.size), hi - lo)) := by
 obtain ⟨w, us', hw, hus, hlen, h⟩ := AtF_slice.1 h
 cases hw
 cases hus
 rcases h with ⟨rfl, rfl, rfl⟩ | ⟨id, off, cells, Fs, rfl, h2, h3, h4, rfl, h6⟩
 ·exact ⟨none, [], [], rfl, RowsOk.nil, by simp, by simp, .inl ⟨rfl, rfl⟩⟩
 ·obtain ⟨hn1, hn2⟩ := List.nodup_cons.1 hn
  have hcl : ((cells.drop off).take (us.length * sh.size)).length = us.length * sh.size := by simp; omega
  refine ⟨some (id, off), (cells.drop off).take (us.length * sh.size), Fs, rfl, ⟨hcl, h4, fun i x F hx hF => ?_⟩, hn2, fun q hq => List.mem_cons_of_mem _ hq, .inr ⟨id, off, cells, rfl, h2, List.mem_cons_self, hn1, fun d by_ z G lo hi hG hlo hhi => ?_⟩⟩
  ·rw [row_chunk h3 (List.getElem?_eq_some_iff.1 hx).1]
   exact h6 i x F hx hF
  ·have e1 : lo * sh.size + (hi - lo) * sh.size = hi * sh.size := by rw [← Nat.add_mul]; congr 1; omega
   have e2 : hi * sh.size ≤ us.length * sh.size := Nat.mul_le_mul_right _ hhi
   have e3 : (((cells.drop off).take (us.length * sh.size)).drop (lo * sh.size)).take ((hi - lo) * sh.size) = (cells.drop (off + lo * sh.size)).take ((hi - lo) * sh.size) := by
    rw [List.drop_take, List.take_take, List.drop_drop, Nat.min_eq_left (by omega)]
   rw [e3]
   simp only [newCells, slcCells, hG, h2]
   by_cases h0 : (hi - lo) * sh.size = 0
   ·rw [if_pos h0, h0, List.take_zero]
   ·rw [if_neg h0]
    unfold rdCells
    rw [if_pos (by omega)]
end
section
variable {H S X : List Ob} {l : List Nat} {k : Nat} {o : Ob}
end
end Go.Lite
end
section
namespace Go.Lite
open Go
variable {H T : List Ob}
theorem ASl.shape {α : Type} {sh : Sh} {f : α → U} {v : V} {l : List α} (h : ASl H sh f v l) : ∃ p, v = .slc p l.length := by
 rcases h.sub with ⟨rfl, rfl⟩ | ⟨id, off, own, cells, rfl, _⟩ <;> exact ⟨_, rfl⟩
end Go.Lite
end
section
namespace Go.Lite
open Go
section
variable {B G : List Ob} {sh : Sh} {cs xs : List V} {us : List U} {Fs : List (List Nat)} {v : V} {s n m : Nat}
end
end Go.Lite
end
