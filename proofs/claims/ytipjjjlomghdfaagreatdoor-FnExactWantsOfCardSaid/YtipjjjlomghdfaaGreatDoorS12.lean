/- Part 12 of the proof of a law: the interpreter, its soundness, and what functions of the program compute over it. Conditions: none but those that each theorem names. -/
import Derived.Test.YtipjjjlomghdfaaGreatDoorS11
import Derived.Test.YtipjjjlomghdfaaGreatDoorS05
import Derived.Test.YtipjjjlomghdfaaGreatDoorS08

set_option linter.all false
set_option maxRecDepth 20000
set_option maxHeartbeats 40000000
section
namespace Go.Proofs.Try1
open Go Go.Lite
theorem mM {H : List Ob} {v : V} {l : List Str} (h : AStrs H v l) : callW C 132 [v, .str [99, 108, 97, 115, 115]] H = some (.bool (dec (classT ∈ l)), H) := fQ h
theorem BZ {H : List Ob} {w1 w2 w3 : V} {c : PClass} (h1 : AStrs H w1 c.must) (h2 : AStrs H w2 c.may) (h3 : AStrs H w3 c.single) : callW C 181 [.agg [.str c.name, w1, w2, w3]] H = some (.bool (dec (ClassOk c)), H) := by
 apply Ret.dec
 rw [Ih]
 have c0 := gp (t := c.name) (H := H)
 have c1 := nT h1
 have c2 := nT h2
 have c3 := nT h3
 by_cases g0 : NameOk c.name
 rotate_left
 ·rw [dec_neg g0] at c0
  have hn : ¬ ClassOk c := fun h => g0 h.name
  simp [bP, Tryz.f181, c0, hn, h1.one, h2.one, h3.one]
 rw [dec_pos g0] at c0
 by_cases g1 : (c.must.length : Int) > 10
 ·have hn : ¬ ClassOk c := fun h => by have := h.l1; omega
  simp [bP, Tryz.f181, c0, h1.len, g1, hn, h1.one, h2.one, h3.one]
 by_cases g2 : (c.may.length : Int) > 10
 ·have hn : ¬ ClassOk c := fun h => by have := h.l2; omega
  simp [bP, Tryz.f181, c0, h1.len, h2.len, g1, g2, hn, h1.one, h2.one, h3.one]
 by_cases g3 : (c.single.length : Int) > 10
 ·have hn : ¬ ClassOk c := fun h => by have := h.l3; omega
  simp [bP, Tryz.f181, c0, h1.len, h2.len, h3.len, g1, g2, g3, hn, h1.one, h2.one, h3.one]
 by_cases g4 : NamesOk c.must
 rotate_left
 ·rw [dec_neg g4] at c1
  have hn : ¬ ClassOk c := fun h => g4 h.n1
  simp [bP, Tryz.f181, c0, c1, h1.len, h2.len, h3.len, g1, g2, g3, hn, h1.one, h2.one, h3.one]
 rw [dec_pos g4] at c1
 by_cases g5 : NamesOk c.may
 rotate_left
 ·rw [dec_neg g5] at c2
  have hn : ¬ ClassOk c := fun h => g5 h.n2
  simp [bP, Tryz.f181, c0, c1, c2, h1.len, h2.len, h3.len, g1, g2, g3, hn, h1.one, h2.one, h3.one]
 rw [dec_pos g5] at c2
 by_cases g6 : NamesOk c.single
 rotate_left
 ·rw [dec_neg g6] at c3
  have hn : ¬ ClassOk c := fun h => g6 h.n3
  simp [bP, Tryz.f181, c0, c1, c2, c3, h1.len, h2.len, h3.len, g1, g2, g3, hn, h1.one, h2.one, h3.one]
 rw [dec_pos g6] at c3
 simp [bP, Tryz.f181, c0, c1, c2, c3, h1.len, h2.len, h3.len, g1, g2, g3, h1.one, h2.one, h3.one]
 refine WP_loop (fun k σ => ∃ (i : Nat) (r : Nat → R), i + k = c.must.length ∧ σ = ⟨r, 1, H⟩ ∧ r 1 = .box 0 [.str c.name, w1, w2, w3] ∧ r 3 = .val (.int .i64 i) ∧ ∀ j x, j < i → c.must[j]? = some x → x ∉ c.may) ?_ c.must.length _ ⟨0, _, by simp, rfl, by simp, by simp, by simp⟩
 rintro k σ ⟨i, r, hik, rfl, r1, r3, hall⟩
 cases k with
 | succ k =>
  have hi : i < c.must.length := by omega
  obtain ⟨x, hx⟩ : ∃ y, c.must[i]? = some y := ⟨c.must[i], by simp [hi]⟩
  have hw : IntKind.i64.wrap ((i : Int) + 1) = ((i : Int) + 1) := wrap_i64 (by omega) (by omega)
  obtain ⟨id, o, e1, l0, _⟩ := strs_idx h1 hx
  have c4 := fQ (t := x) h2
  by_cases g7 : x ∈ c.may
  ·rw [dec_pos g7] at c4
   have hn : ¬ ClassOk c := fun h => h.apart x (List.mem_of_getElem? hx) g7
   simp [r1, r3, hi, h1.len, e1, l0, c4, regionL_none, hn]
  ·rw [dec_neg g7] at c4
   simp [r1, r3, hi, h1.len, e1, l0, c4, regionL_none, hw]
   exact ⟨k, by omega, i + 1, by omega, by omega, at_step (P := fun j (x : Str) => x ∉ c.may) hall hx g7⟩
 | zero =>
 have hi : i = c.must.length := by omega
 subst hi
 have hap : ∀ t ∈ c.must, t ∉ c.may := fun t ht => by
  obtain ⟨j, hj, rfl⟩ := List.getElem_of_mem ht
  exact hall j _ hj (List.getElem?_eq_getElem hj)
 simp [r1, r3, h1.len]
 refine WP_loop (fun k σ => ∃ (i : Nat) (r : Nat → R), i + k = c.single.length ∧ σ = ⟨r, 1, H⟩ ∧ r 1 = .box 0 [.str c.name, w1, w2, w3] ∧ r 4 = .val (.int .i64 i) ∧ ∀ j x, j < i → c.single[j]? = some x → x ∈ c.may ∨ x ∈ c.must) ?_ c.single.length _ ⟨0, _, by simp, rfl, by simp [r1], by simp, by simp⟩
 clear hik r1 r3 hall r
 rintro k σ ⟨i, r, hik, rfl, r1, r4, hall⟩
 cases k with
 | succ k =>
  have hi : i < c.single.length := by omega
  obtain ⟨x, hx⟩ : ∃ y, c.single[i]? = some y := ⟨c.single[i], by simp [hi]⟩
  have hw : IntKind.i64.wrap ((i : Int) + 1) = ((i : Int) + 1) := wrap_i64 (by omega) (by omega)
  obtain ⟨id, o, e1, l0, _⟩ := strs_idx h3 hx
  have c4 := fQ (t := x) h2
  have c5 := fQ (t := x) h1
  have hstep := fun h => at_step (P := fun j (x : Str) => x ∈ c.may ∨ x ∈ c.must) hall hx h
  by_cases g7 : x ∈ c.may
  ·rw [dec_pos g7] at c4
   have := hstep (.inl g7)
   simp [r1, r4, hi, h3.len, e1, l0, c4, regionL_none, hw]
   exact ⟨k, by omega, i + 1, by omega, by omega, this⟩
  ·rw [dec_neg g7] at c4
   by_cases g8 : x ∈ c.must
   ·rw [dec_pos g8] at c5
    have := hstep (.inr g8)
    simp [r1, r4, hi, h3.len, e1, l0, c4, c5, regionL_none, hw]
    exact ⟨k, by omega, i + 1, by omega, by omega, this⟩
   ·rw [dec_neg g8] at c5
    have hn : ¬ ClassOk c := fun h => (h.known x (List.mem_of_getElem? hx)).elim g7 g8
    simp [r1, r4, hi, h3.len, e1, l0, c4, c5, regionL_none, hn]
 | zero =>
 have hi : i = c.single.length := by omega
 subst hi
 have hkn : ∀ t ∈ c.single, t ∈ c.may ∨ t ∈ c.must := fun t ht => by
  obtain ⟨j, hj, rfl⟩ := List.getElem_of_mem ht
  exact hall j _ hj (List.getElem?_eq_getElem hj)
 have c6 := mM h1
 have c7 := mM h2
 by_cases g7 : classT ∈ c.must
 ·rw [dec_pos g7] at c6
  have hn : ¬ ClassOk c := fun h => h.noMust g7
  simp [r1, r4, h3.len, c6, hn]
 ·rw [dec_neg g7] at c6
  by_cases g8 : classT ∈ c.may
  ·rw [dec_pos g8] at c7
   have hn : ¬ ClassOk c := fun h => h.noMay g8
   simp [r1, r4, h3.len, c6, c7, hn]
  ·rw [dec_neg g8] at c7
   have hn : ClassOk c := ⟨g0, by omega, by omega, by omega, g4, g5, g6, hap, hkn, g7, g8⟩
   simp [r1, r4, h3.len, c6, c7, hn]
theorem xP {H : List Ob} {v : V} {l : List PClass} (h : AClasses H v l) : callW C 100 [v] H = some (.bool (dec (SchemaOk l)), H) := by
 apply Ret.dec
 rw [Jf]
 have hb : l.length ≤ 9223372036854775807 := h.bound
 simp [tN, Tryz.f100]
 refine WP_loop (fun k σ => ∃ (i : Nat) (r : Nat → R), i + k = l.length ∧ σ = ⟨r, 0, H⟩ ∧ r 0 = .val v ∧ r 3 = .val (.int .i64 i) ∧ ∀ j x, j < i → l[j]? = some x → ClassOk x ∧ PrevLt PClass.name l j x) ?_ l.length _ ⟨0, _, by simp, rfl, by simp, by simp, by simp⟩
 rintro k σ ⟨i, r, hik, rfl, r0, r3, hall⟩
 cases k with
 | zero =>
  have hi : i = l.length := by omega
  subst hi
  have hx := at_all (P := fun j (x : PClass) => ClassOk x ∧ PrevLt PClass.name l j x) hall
  by_cases g : l.length ≤ 6
  ·have g' : (l.length : Int) ≤ 6 := by omega
   have hv : SchemaOk l := ⟨hx, g⟩
   simp [r0, r3, h.len, g', hv]
  ·have g' : ¬ (l.length : Int) ≤ 6 := by omega
   have hv : ¬ SchemaOk l := fun h => g h.2
   simp [r0, r3, h.len, g', hv]
 | succ k =>
  have hi : i < l.length := by omega
  obtain ⟨x, hx⟩ : ∃ c, l[i]? = some c := ⟨l[i], by simp [hi]⟩
  have hw : IntKind.i64.wrap ((i : Int) + 1) = ((i : Int) + 1) := wrap_i64 (by omega) (by omega)
  obtain ⟨id, o, w1, w2, w3, e1, l0, l4, q1, q2, q3, _⟩ := classes_idx h hx
  have c1 := BZ q1 q2 q3
  have hstep := fun h => at_step (P := fun j (x : PClass) => ClassOk x ∧ PrevLt PClass.name l j x) hall hx h
  by_cases g1 : ClassOk x
  ·rw [dec_pos g1] at c1
   by_cases hi0 : i = 0
   ·have := hstep ⟨g1, fun y hy => by omega⟩
    subst hi0
    simp at e1
    simp [r0, r3, hi, h.len, e1, l4, c1, regionL_none]
    exact ⟨k, by omega, 1, by omega, by omega, this⟩
   ·have hip : 0 < i := by omega
    obtain ⟨y, hy⟩ : ∃ c, l[i - 1]? = some c := ⟨l[i - 1]'(by omega), by simp⟩
    obtain ⟨id', o', _, _, _, e1', l0', _⟩ := classes_idx h hy
    have hw1 : IntKind.i64.wrap ((i : Int) - 1) = ((i - 1 : Nat) : Int) := by rw [wrap_i64 (by omega) (by omega)]; omega
    by_cases g2 : LtS y.name x.name
    ·have := hstep ⟨g1, fun z _ hz => by rw [hy] at hz; cases hz; exact g2⟩
     simp [r0, r3, hi, h.len, e1, l0, l4, c1, e1', l0', hw, hw1, hip, aT g2, regionL_none]
     exact ⟨k, by omega, i + 1, by omega, by omega, this⟩
    ·have hn : ¬ SchemaOk l := fun hd => g2 ((hd.1 i x hx).2 y hip hy)
     simp [r0, r3, hi, h.len, e1, l0, l4, c1, e1', l0', hw, hw1, hip, bi g2, regionL_none, hn]
  ·rw [dec_neg g1] at c1
   have hn : ¬ SchemaOk l := fun hd => g1 (hd.1 i x hx).1
   simp [r0, r3, hi, h.len, e1, l4, c1, hn, regionL_none]
def aW (H : List Ob) (m : Option PClass) (cs : List V) (ok : Bool) : Prop :=
 (ok = true ∧ ∃ c w1 w2 w3, m = some c ∧ cs = [.str c.name, w1, w2, w3] ∧ AStrs H w1 c.must ∧ AStrs H w2 c.may ∧ AStrs H w3 c.single) ∨ (ok = false ∧ m = none ∧ cs = [.str [], .slc none 0, .slc none 0, .slc none 0])
theorem yC {H : List Ob} {v v' : V} {l : List PAttr} (h : AAttrs H v l) (ho : cellsOf v' = some [v']) (ho' : isOne v' = true) : ∃ w, callW C 260 [.agg [v', v], .str [99, 108, 97, 115, 115]] H = some (w, H) ∧ AStrs H w (valsOf l classT) := BR h ho ho'
theorem EN {H T : List Ob} {vl vd va : V} {l : List PClass} {as' : List PAttr} (hl : AClasses H vl l) (ha : AAttrs H va as') (ho : cellsOf vd = some [vd]) (ho' : isOne vd = true) :
  ∃ cs ok, callW C 183 [vl, .agg [vd, va]] (H ++ T) = some (.tup [.agg cs, .bool ok], H ++ T) ∧ aW H (mineOf l as') cs ok := by
 suffices hs : Ret C 183 [vl, .agg [vd, va]] (H ++ T) fun q H' => (∃ cs ok, q = .tup [.agg cs, .bool ok] ∧ aW H (mineOf l as') cs ok) ∧ H' = H ++ T by
  obtain ⟨q, H', hc, ⟨cs, ok, rfl, hr⟩, rfl⟩ := hs
  exact ⟨cs, ok, hc, hr⟩
 rw [KD]
 obtain ⟨w, c1, hw⟩ := yC (ha.ext (T := T)) ho ho'
 have hone := ha.one
 by_cases g1 : (valsOf as' classT).length = 1
 rotate_left
 ·have hm : mineOf l as' = none := by
   unfold mineOf
   split
   ·rename_i v hv; rw [hv] at g1; exact absurd rfl g1
   ·rfl
  have g1' : ¬ ((valsOf as' classT).length : Int) = 1 := by omega
  simp [jO, Tryz.f183, c1, hw.len, g1', ho, ho', hone, buildV, fillL]
  exact .inr ⟨rfl, hm, rfl⟩
 obtain ⟨s, hs⟩ : ∃ s, valsOf as' classT = [s] := by
  match h : valsOf as' classT, g1 with
  | [s], _ => exact ⟨s, rfl⟩
 rw [hs] at hw
 obtain ⟨id, o, e1, l0, _⟩ := strs_idx hw (i := 0) (s := s) rfl
 simp only [Int.ofNat_eq_natCast, Int.natCast_zero] at e1
 have c2 := cZ (t := s) (H := H ++ T)
 obtain ⟨r, c3, hr⟩ := wR (t := norm s) (hl.ext (T := T))
 have hm : mineOf l as' = firstOf PClass.name l (norm s) := by unfold mineOf; rw [hs]
 rcases hr.pos with ⟨k, a, h1, rfl, h2⟩ | ⟨rfl, h2⟩
 ·obtain ⟨id2, o2, w1, w2, w3, f1, l4, q1, q2, q3⟩ := classes_idxT hl h1
  have l4 := l4 T
  have hk : ¬ ((k : Int) < 0) := by omega
  simp [jO, Tryz.f183, c1, hw.len, e1, l0, c2, c3, hk, f1, l4, ho, ho', hone, q1.one, q2.one, q3.one]
  exact .inl ⟨rfl, a, w1, w2, w3, by rw [hm, h2], rfl, q1, q2, q3⟩
 ·simp [jO, Tryz.f183, c1, hw.len, e1, l0, c2, c3, ho, ho', hone, buildV, fillL]
  exact .inr ⟨rfl, by rw [hm, h2], rfl⟩
theorem qA {l : List Str} {i : Nat} {x : Str} (h : l[i]? = some x) (p : Str → Bool) : (l.take (i + 1)).filter p = (l.take i).filter p ++ if p x then [x] else [] := by
 rw [take_get h, List.filter_append]
 cases hp : p x <;> simp [hp]
theorem Fz {t : Str} {H : List Ob} (h0 : t ≠ []) (hl : t.length ≤ 1000) : ∃ q, callW C 121 [.str t, .str kset] H = some (.str q, H) ∧ (q = [] ↔ df t) := by
 suffices hs : Ret C 121 [.str t, .str kset] H fun q H' => (∃ s, q = .str s ∧ (s = [] ↔ df t)) ∧ H' = H by
  obtain ⟨q, H', hc, ⟨s, rfl, hr⟩, rfl⟩ := hs
  exact ⟨s, hc, hr⟩
 rw [JE]
 have hk0 : kset ≠ [] := by decide
 have hk1 : (kset.length : Int) = 37 := by decide
 have c1 := Jr (t := kset) (H := H) (fun c hc => by
  rcases kS.1 hc with h | h | h
  ·have := h.2; omega
  ·have := h.2; omega
  ·omega) (by decide)
 have hz : setRange (List.replicate 256 (V.bool false)) 0 (setB kset) = setB kset := by
  unfold setRange
  rw [List.take_zero, List.nil_append, Nat.zero_add, aC, List.drop_of_length_le (by rw [List.length_replicate]; omega), List.append_nil]
 have hall : (setB kset).all isOne = true := by
  rw [List.all_eq_true]
  intro x hx
  simp only [setB, List.mem_map] at hx
  obtain ⟨_, _, rfl⟩ := hx
  rfl
 have st := storeN (H := H ++ [.mk true 1 (List.replicate 256 (.bool false))]) (id := H.length) (o := 0) (l := setB kset) (cells := List.replicate 256 (.bool false)) (es := 1) get_last (by rw [aC, List.length_replicate]; omega) (by intro h; have := aC (l := kset); rw [h] at this; cases this) hall
 rw [aC, hz, set_last] at st
 have hob : (H ++ [Ob.mk true 1 (setB kset)])[H.length]? = some (.mk true 1 (setB kset)) := get_last
 obtain ⟨s, c2, q1, q2, q3⟩ := Iw (t := t) hob hl
 obtain ⟨s', c3, q4, q5⟩ := FC (t := s) hob q3
 have hres : s' = [] ↔ df t := by
  rw [← q1, ← q4]
  constructor
  ·rintro rfl; intro c hc; cases hc
  ·intro h
   rcases q5 with h' | h'
   ·exact h'
   ·exact absurd h h'
 simp [sK, Tryz.f121, h0, hk0, hk1, c1, strideOf, st, c2, c3, -List.reduceReplicate, -setRange]
 exact hres
theorem yH {t : Str} {c : UInt8} {s : Str} (h : t = c :: s) : NameOk t ↔ t.length ≤ 20 ∧ LowB c ∧ df t := by
 subst h
 constructor
 ·rintro ⟨_, h1, h2⟩
  refine ⟨h1, ?_, fun d hd => ?_⟩
  ·rcases h2 0 c rfl with h | ⟨h, _⟩
   ·exact h
   ·omega
  ·obtain ⟨i, hi, rfl⟩ := List.getElem_of_mem hd
   rw [kS]
   rcases h2 i _ (List.getElem?_eq_getElem hi) with h | ⟨_, h | h⟩
   ·exact .inl h
   ·exact .inr (.inl h)
   ·exact .inr (.inr h)
 ·rintro ⟨h1, h2, h3⟩
  refine ⟨by simp, h1, fun i d hd => ?_⟩
  cases i with
  | zero => cases hd; exact .inl h2
  | succ i =>
   rcases kS.1 (h3 d (List.mem_of_getElem? hd)) with h | h | h
   ·exact .inl h
   ·exact .inr ⟨by omega, .inl h⟩
   ·exact .inr ⟨by omega, .inr h⟩
theorem ig {t : Str} {H : List Ob} : callW C 50 [.str t] H = some (.bool (dec (NameOk t)), H) := by
 apply Ret.dec
 rw [Qj]
 match t with
 | [] =>
  have hn : ¬ NameOk [] := fun h => by have := h.1; simp at this
  simp [gX, Tryz.f50, hn]
 | c :: s =>
 have hi := yH (t := c :: s) rfl
 have g0 : (1 : Int) ≤ (s.length : Int) + 1 := by omega
 by_cases g1 : ((c :: s).length : Int) ≤ 20
 rotate_left
 ·have hn : ¬ NameOk (c :: s) := fun h => by have := h.2.1; omega
  simp only [List.length_cons, Int.natCast_add, Int.natCast_one] at g1
  simp [gX, Tryz.f50, g0, g1, hn]
 obtain ⟨q, hc, hq⟩ := Fz (t := c :: s) (H := H) (by simp) (by omega)
 simp only [kset] at hc
 have g1' := g1
 simp only [List.length_cons, Int.natCast_add, Int.natCast_one] at g1
 by_cases g2 : (c.toNat : Int) ≥ 97
 rotate_left
 ·have hn : ¬ NameOk (c :: s) := fun h => by have := (hi.1 h).2.1.1; omega
  simp [gX, Tryz.f50, g0, g1, g2, hn]
 by_cases g3 : (c.toNat : Int) ≤ 122
 rotate_left
 ·have hn : ¬ NameOk (c :: s) := fun h => by have := (hi.1 h).2.1.2; omega
  simp [gX, Tryz.f50, g0, g1, g2, g3, hn]
 by_cases g4 : q = []
 ·have hn : NameOk (c :: s) := hi.2 ⟨by omega, ⟨by omega, by omega⟩, hq.1 g4⟩
  simp [gX, Tryz.f50, g0, g1, g2, g3, hc, g4, hn]
 ·have hn : ¬ NameOk (c :: s) := fun h => g4 (hq.2 (hi.1 h).2.2)
  simp [gX, Tryz.f50, g0, g1, g2, g3, hc, g4, hn]
theorem AX {a b : Str} {H : List Ob} : callW C 230 [.agg [.str a, .str b]] H = some (.bool (dec (NameOk a ∧ ValueOk b)), H) := by
 apply Ret.dec
 rw [J9]
 have c1 := ig (t := a) (H := H)
 have c2 := iF (t := b) (H := H)
 by_cases g1 : NameOk a
 ·rw [dec_pos g1] at c1
  by_cases g2 : ValueOk b
  ·rw [dec_pos g2] at c2
   simp [jJ, Tryz.f230, c1, c2, g1, g2]
  ·rw [dec_neg g2] at c2
   simp [jJ, Tryz.f230, c1, c2, g1, g2]
 ·rw [dec_neg g1] at c1
  simp [jJ, Tryz.f230, c1, g1]
theorem y9 {a b : Str} {H : List Ob} : callW C 229 [.agg [.str a, .str b]] H = some (.bool (!dec (NameOk a ∧ ValueOk b)), H) := by
 apply Ret.eq
 rw [Jc]
 have c1 := AX (a := a) (b := b) (H := H)
 simp [rF, Tryz.f229, c1]
theorem zG {H : List Ob} {v : V} {l : List PRdn} (h : ARdns H v l) : ∃ r : Int, callW C 292 [v, .fn 229 [] []] H = some (.int .i64 r, H) ∧ (0 ≤ r ↔ ¬ ∀ (j : Nat) x, l[j]? = some x → NameOk x.attr ∧ ValueOk x.value) := by
 suffices hs : Ret C 292 [v, .fn 229 [] []] H fun q H' => (∃ r : Int, q = .int .i64 r ∧ (0 ≤ r ↔ ¬ ∀ (j : Nat) x, l[j]? = some x → NameOk x.attr ∧ ValueOk x.value)) ∧ H' = H by
  obtain ⟨q, H', hc, ⟨r, rfl, hr⟩, rfl⟩ := hs
  exact ⟨r, hc, hr⟩
 rw [Gv]
 have hb : l.length ≤ 9223372036854775807 := h.bound
 simp [tH, Tryz.f292, h.len]
 refine WP_loop (fun k σ => ∃ (i : Nat) (r : Nat → R), i + k = l.length ∧ σ = ⟨r, 0, H⟩ ∧ r 0 = .val v ∧ r 1 = .val (.fn 229 [] []) ∧ r 7 = .val (.int .i64 l.length) ∧ r 8 = .val (.int .i64 i) ∧ ∀ j x, j < i → l[j]? = some x → NameOk x.attr ∧ ValueOk x.value) ?_ l.length _ ⟨0, _, by simp, rfl, by simp, by simp, by simp, by simp, by simp⟩
 rintro k σ ⟨i, r, hik, rfl, r0, r1, r7, r8, hall⟩
 cases k with
 | zero =>
  have hi : i = l.length := by omega
  subst hi
  have hx := at_all (P := fun j (x : PRdn) => NameOk x.attr ∧ ValueOk x.value) hall
  simp [r0, r1, r7, r8]
  exact fun j x hj => hx j x hj
 | succ k =>
  have hi : i < l.length := by omega
  obtain ⟨x, hx⟩ : ∃ c, l[i]? = some c := ⟨l[i], by simp [hi]⟩
  have hw : IntKind.i64.wrap ((i : Int) + 1) = ((i : Int) + 1) := wrap_i64 (by omega) (by omega)
  obtain ⟨id, o, e1, l0, l1, l2, _⟩ := rdns_idx h hx
  have c1 := y9 (a := x.attr) (b := x.value) (H := H)
  by_cases g1 : NameOk x.attr ∧ ValueOk x.value
  ·rw [dec_pos g1] at c1
   simp at c1
   simp [r0, r1, r7, r8, hi, e1, l2, c1, hw]
   exact ⟨k, by omega, i + 1, by omega, by omega, at_step (P := fun j (x : PRdn) => NameOk x.attr ∧ ValueOk x.value) hall hx g1⟩
  ·rw [dec_neg g1] at c1
   simp at c1
   simp [r0, r1, r7, r8, hi, e1, l2, c1, hw]
   exact ⟨i, x, hx, fun h1 h2 => g1 ⟨h1, h2⟩⟩
theorem Jt {H : List Ob} {v : V} {l : List PRdn} (h : ARdns H v l) : callW C 143 [v] H = some (.bool (dec (DnOk l)), H) := by
 obtain ⟨r, c1, hr⟩ := zG h
 have c2 : callW C 228 [v, .fn 229 [] []] H = some (.bool (decide (0 ≤ r)), H) := by
  apply Ret.eq
  rw [GK]
  simp [rZ, Tryz.f228, c1]
 apply Ret.dec
 rw [Ht]
 by_cases g1 : (l.length : Int) ≤ 6
 ·by_cases g2 : 0 ≤ r
  ·have hn : ¬ DnOk l := fun h => hr.1 g2 h.1
   simp [jW, Tryz.f143, h.len, g1, c2, g2, hn]
  ·have hn : DnOk l := ⟨Classical.byContradiction fun h => g2 (hr.2 h), by omega⟩
   simp [jW, Tryz.f143, h.len, g1, c2, g2, hn]
 ·have hn : ¬ DnOk l := fun h => g1 (by have := h.2; omega)
  simp [jW, Tryz.f143, h.len, g1, hn]
theorem kQ {a b : Str} {H : List Ob} : callW C 362 [.str a, .str b] H = some (.int .i64 (Lib.compareBytes a b), H) :=
 callW_prim (pr := cmpPrim) rfl
theorem bF {a b : Str} {H : List Ob} : callW C 353 [.str a, .str b] H = some (.int .i64 (Lib.compareBytes a b), H) := by
 apply Ret.eq
 rw [xZ]
 simp [dX, Tryz.f353, kQ]
theorem je {a b : Str} {H : List Ob} : callW C 334 [.str a, .str b] H = some (.int .i64 (Lib.compareBytes a b), H) := by
 apply Ret.eq
 rw [Ad]
 simp [eF, Tryz.f334, bF]
theorem qm {a b : Str} {H : List Ob} : callW C 310 [.str a, .str b] H = some (.int .i64 (Lib.compareBytes (norm a) (norm b)), H) := by
 apply Ret.eq
 rw [yS]
 have c1 := bu (t := a) (H := H)
 have c2 := bu (t := b) (H := H)
 simp [dQ, Tryz.f310, c1, c2, je]
theorem qR : ∀ (a b : Str), (Lib.compareBytes a b < 0 ↔ LtS a b) ∧ (Lib.compareBytes a b = 0 ↔ a = b)
 | [], [] => by simp [Lib.compareBytes, LtS, Op.bytesLess]
 | [], _ :: _ => by simp [Lib.compareBytes, LtS, Op.bytesLess]
 | _ :: _, [] => by simp [Lib.compareBytes, LtS, Op.bytesLess]
 | a :: as', b :: bs => by
  obtain ⟨h1, h2⟩ := qR as' bs
  unfold LtS at h1 ⊢
  simp only [Lib.compareBytes, Op.bytesLess]
  by_cases g1 : a < b
  ·have : a ≠ b := fun h => by subst h; exact absurd g1 (by simp)
   simp [g1, this]
  ·by_cases g2 : b < a
   ·have : a ≠ b := fun h => by subst h; exact absurd g2 (by simp)
    simp [g1, g2, this]
   ·have : a = b := UInt8.toNat_inj.1 (by rw [UInt8.lt_iff_toNat_lt] at g1 g2; omega)
    subst this
    simp [h1, h2]
theorem EI {H : List Ob} {v : V} {l : List Str} (h : AStrs H v l) : callW C 309 [v] H = some (.int .i64 l.length, H) := by
 apply Ret.eq
 rw [IM]
 simp [uX, Tryz.f309, h.len]
theorem wM {a b c : Int} {H : List Ob} : callW C 94 [.int .i64 a, .int .i64 b, .int .i64 c] H = some (.bool (decide (b ≤ a ∧ a ≤ c)), H) := by
 apply Ret.eq
 rw [IW]
 by_cases g1 : b ≤ a
 ·by_cases g2 : a ≤ c <;> simp [jb, Tryz.f94, g1, g2]
 ·simp [jb, Tryz.f94, g1]
theorem Eu {H : List Ob} {n : Str} {v : V} {l : List Str} (h : AStrs H v l) : callW C 266 [.agg [.str n, v]] H = some (.bool (dec (NameOk n ∧ ValuesOk l)), H) := by
 apply Ret.dec
 rw [J7]
 have c1 := ig (t := n) (H := H)
 have c2 := EI h
 have c3 := wM (a := l.length) (b := 1) (c := 4) (H := H)
 have hb : l.length ≤ 9223372036854775807 := h.bound
 by_cases g1 : NameOk n
 rotate_left
 ·rw [dec_neg g1] at c1
  simp [jw, Tryz.f266, c1, g1, h.one]
 rw [dec_pos g1] at c1
 by_cases g2 : (1 : Int) ≤ l.length ∧ (l.length : Int) ≤ 4
 rotate_left
 ·rw [decide_eq_false g2] at c3
  have hn : ¬ ValuesOk l := fun h => g2 ⟨by have := h.2.1; omega, by have := h.2.2; omega⟩
  simp [jw, Tryz.f266, c1, c2, c3, hn, h.one]
 rw [decide_eq_true g2] at c3
 simp [jw, Tryz.f266, c1, c2, c3, h.one, h.len]
 refine WP_loop (fun k σ => ∃ (i : Nat) (r : Nat → R), i + k = l.length ∧ σ = ⟨r, 1, H⟩ ∧ r 1 = .box 0 [.str n, v] ∧ r 17 = .val v ∧ r 18 = .val (.int .i64 l.length) ∧ r 19 = .val (.int .i64 i) ∧ ∀ j x, j < i → l[j]? = some x → ValueOk x ∧ PrevLt norm l j x) ?_ l.length _ ⟨0, _, by simp, rfl, by simp, by simp, by simp, by simp, by simp⟩
 rintro k σ ⟨i, r, hik, rfl, r1, r17, r18, r19, hall⟩
 cases k with
 | zero =>
  have hi : i = l.length := by omega
  subst hi
  have hx := at_all (P := fun j (x : Str) => ValueOk x ∧ PrevLt norm l j x) hall
  have hv : ValuesOk l := ⟨hx, by omega, by omega⟩
  simp [r1, r17, r18, r19, g1, hv]
 | succ k =>
  have hi : i < l.length := by omega
  obtain ⟨x, hx⟩ : ∃ c, l[i]? = some c := ⟨l[i], by simp [hi]⟩
  have hw : IntKind.i64.wrap ((i : Int) + 1) = ((i : Int) + 1) := wrap_i64 (by omega) (by omega)
  obtain ⟨id, o, e1, l0, _⟩ := strs_idx h hx
  have c4 := iF (t := x) (H := H)
  have hstep := fun h => at_step (P := fun j (x : Str) => ValueOk x ∧ PrevLt norm l j x) hall hx h
  by_cases g3 : ValueOk x
  rotate_left
  ·rw [dec_neg g3] at c4
   have hn : ¬ ValuesOk l := fun hd => g3 (hd.1 i x hx).1
   simp [r1, r17, r18, r19, hi, e1, l0, c4, hn]
  rw [dec_pos g3] at c4
  by_cases hi0 : i = 0
  ·have := hstep ⟨g3, fun y hy => by omega⟩
   subst hi0
   simp at e1
   simp [r1, r17, r18, r19, hi, e1, l0, c4]
   exact ⟨k, by omega, 1, by omega, by omega, this⟩
  have hip : 0 < i := by omega
  obtain ⟨y, hy⟩ : ∃ c, l[i - 1]? = some c := ⟨l[i - 1]'(by omega), by simp⟩
  obtain ⟨id', o', e1', l0', _⟩ := strs_idx h hy
  have hw1 : IntKind.i64.wrap ((i : Int) - 1) = ((i - 1 : Nat) : Int) := by rw [wrap_i64 (by omega) (by omega)]; omega
  have c5 := qm (a := y) (b := x) (H := H)
  by_cases g4 : LtS (norm y) (norm x)
  ·have := hstep ⟨g3, fun z _ hz => by rw [hy] at hz; cases hz; exact g4⟩
   have g5 : ¬ (0 ≤ Lib.compareBytes (norm y) (norm x)) := by have := (qR (norm y) (norm x)).1.2 g4; omega
   simp [r1, r17, r18, r19, hi, e1, l0, c4, e1', l0', hw, hw1, hip, c5, g5]
   exact ⟨k, by omega, i + 1, by omega, by omega, this⟩
  ·have g5 : 0 ≤ Lib.compareBytes (norm y) (norm x) := by have := mt (qR (norm y) (norm x)).1.1 g4; omega
   have hn : ¬ ValuesOk l := fun hd => g4 ((hd.1 i x hx).2 y hip hy)
   simp [r1, r17, r18, r19, hi, e1, l0, c4, e1', l0', hw, hw1, hip, c5, g5, hn]
theorem BJ {H : List Ob} {v : V} {l : List Str} (h : AStrs H v l) : callW C 203 [v] H = some (.bool (dec (NamesOk l)), H) := by
 apply Ret.dec
 rw [Jk]
 have hb : l.length ≤ 9223372036854775807 := h.bound
 simp [vJ, Tryz.f203, h.len]
 refine WP_loop (fun k σ => ∃ (i : Nat) (r : Nat → R), i + k = l.length ∧ σ = ⟨r, 0, H⟩ ∧ r 0 = .val v ∧ r 5 = .val v ∧ r 6 = .val (.int .i64 l.length) ∧ r 7 = .val (.int .i64 i) ∧ ∀ j x, j < i → l[j]? = some x → NameOk x ∧ PrevLt (fun x => x) l j x) ?_ l.length _ ⟨0, _, by simp, rfl, by simp, by simp, by simp, by simp, by simp⟩
 rintro k σ ⟨i, r, hik, rfl, r0, r5, r6, r7, hall⟩
 cases k with
 | zero =>
  have hi : i = l.length := by omega
  subst hi
  have hx : NamesOk l := at_all (P := fun j (x : Str) => NameOk x ∧ PrevLt (fun x => x) l j x) hall
  simp [r0, r5, r6, r7, hx]
 | succ k =>
  have hi : i < l.length := by omega
  obtain ⟨x, hx⟩ : ∃ c, l[i]? = some c := ⟨l[i], by simp [hi]⟩
  have hw : IntKind.i64.wrap ((i : Int) + 1) = ((i : Int) + 1) := wrap_i64 (by omega) (by omega)
  obtain ⟨id, o, e1, l0, _⟩ := strs_idx h hx
  have c1 := ig (t := x) (H := H)
  have hstep := fun h => at_step (P := fun j (x : Str) => NameOk x ∧ PrevLt (fun x => x) l j x) hall hx h
  by_cases g1 : NameOk x
  rotate_left
  ·rw [dec_neg g1] at c1
   have hn : ¬ NamesOk l := fun hd => g1 (hd i x hx).1
   simp [r0, r5, r6, r7, hi, e1, l0, c1, hn]
  rw [dec_pos g1] at c1
  by_cases hi0 : i = 0
  ·have := hstep ⟨g1, fun y hy => by omega⟩
   subst hi0
   simp at e1
   simp [r0, r5, r6, r7, hi, e1, l0, c1]
   exact ⟨k, by omega, 1, by omega, by omega, this⟩
  have hip : 0 < i := by omega
  obtain ⟨y, hy⟩ : ∃ c, l[i - 1]? = some c := ⟨l[i - 1]'(by omega), by simp⟩
  obtain ⟨id', o', e1', l0', _⟩ := strs_idx h hy
  have hw1 : IntKind.i64.wrap ((i : Int) - 1) = ((i - 1 : Nat) : Int) := by rw [wrap_i64 (by omega) (by omega)]; omega
  by_cases g2 : LtS y x
  ·have := hstep ⟨g1, fun z _ hz => by rw [hy] at hz; cases hz; exact g2⟩
   simp [r0, r5, r6, r7, hi, e1, l0, c1, e1', l0', hw, hw1, hip, aT g2]
   exact ⟨k, by omega, i + 1, by omega, by omega, this⟩
  ·have hn : ¬ NamesOk l := fun hd => g2 ((hd i x hx).2 y hip hy)
   simp [r0, r5, r6, r7, hi, e1, l0, c1, e1', l0', hw, hw1, hip, bi g2, hn]
theorem BQ {H : List Ob} {v w : V} {e : PEntry} (h1 : ARdns H v e.dn) (h2 : AAttrs H w e.attrs) : callW C 196 [.agg [v, w]] H = some (.bool (dec (EntryOk e)), H) := by
 apply Ret.dec
 rw [FW]
 have c1 := Jt h1
 have hb : e.attrs.length ≤ 9223372036854775807 := h2.bound
 by_cases g0 : e.dn.length = 0
 ·have hn : ¬ EntryOk e := fun h => by have := h.1; omega
  simp [iP, Tryz.f196, h1.len, g0, hn, h1.one, h2.one]
 have g0' : ¬ (e.dn.length : Int) = 0 := by omega
 by_cases g1 : DnOk e.dn
 rotate_left
 ·rw [dec_neg g1] at c1
  have hn : ¬ EntryOk e := fun h => g1 h.2.1
  simp [iP, Tryz.f196, h1.len, g0, c1, hn, h1.one, h2.one]
 rw [dec_pos g1] at c1
 by_cases g2 : (e.attrs.length : Int) > 8
 ·have hn : ¬ EntryOk e := fun h => by have := h.2.2.2; omega
  simp [iP, Tryz.f196, h1.len, h2.len, g0, g2, c1, hn, h1.one, h2.one]
 simp [iP, Tryz.f196, h1.len, h2.len, g0, g2, c1, h1.one, h2.one]
 refine WP_loop (fun k σ => ∃ (i n : Nat) (r : Nat → R), i + k = e.attrs.length ∧ σ = ⟨r, n, H⟩ ∧ r 1 = .box 0 [v, w] ∧ 1 ≤ n ∧ r 22 = .val w ∧ r 23 = .val (.int .i64 e.attrs.length) ∧ r 24 = .val (.int .i64 i) ∧ ∀ j x, j < i → e.attrs[j]? = some x → NameOk x.name ∧ PrevLt PAttr.name e.attrs j x ∧ ValuesOk x.vals) ?_ e.attrs.length _ ⟨0, 1, _, by simp, rfl, by simp, by omega, by simp, by simp, by simp, by simp⟩
 rintro k σ ⟨i, n, r, hik, rfl, r1, hn1, r22, r23, r24, hall⟩
 cases k with
 | zero =>
  have hi : i = e.attrs.length := by omega
  subst hi
  have hx := at_all (P := fun j (x : PAttr) => NameOk x.name ∧ PrevLt PAttr.name e.attrs j x ∧ ValuesOk x.vals) hall
  have hv : EntryOk e := ⟨by omega, g1, hx, by omega⟩
  simp [r1, r22, r23, r24, hv]
 | succ k =>
  have hi : i < e.attrs.length := by omega
  obtain ⟨x, hx⟩ : ∃ c, e.attrs[i]? = some c := ⟨e.attrs[i], by simp [hi]⟩
  have hw : IntKind.i64.wrap ((i : Int) + 1) = ((i : Int) + 1) := wrap_i64 (by omega) (by omega)
  obtain ⟨id, o, w', e1, l0, l1, l2, hvs, _⟩ := attrs_idx h2 hx
  have c2 := Eu (n := x.name) hvs
  have hstep := fun h => at_step (P := fun j (x : PAttr) => NameOk x.name ∧ PrevLt PAttr.name e.attrs j x ∧ ValuesOk x.vals) hall hx h
  by_cases g3 : NameOk x.name ∧ ValuesOk x.vals
  rotate_left
  ·rw [dec_neg g3] at c2
   have hn : ¬ EntryOk e := fun hd => g3 ⟨(hd.2.2.1 i x hx).1, (hd.2.2.1 i x hx).2.2⟩
   simp [r1, r22, r23, r24, hi, e1, l2, c2, hn, hvs.one, regionL_none]
  rw [dec_pos g3] at c2
  by_cases hi0 : i = 0
  ·have := hstep ⟨g3.1, fun y hy => by omega, g3.2⟩
   subst hi0
   simp at e1
   simp [r1, r22, r23, r24, hi, e1, l2, c2, hvs.one, regionL_none]
   exact ⟨k, by omega, 1, by omega, n + 1, _, ⟨rfl, rfl⟩, by simp [r1], by omega, by simp [r22], by simp [r23], by simp, this⟩
  have hip : 0 < i := by omega
  obtain ⟨y, hy⟩ : ∃ c, e.attrs[i - 1]? = some c := ⟨e.attrs[i - 1]'(by omega), by simp⟩
  obtain ⟨id', o', _, e1', l0', _⟩ := attrs_idx h2 hy
  have hw1 : IntKind.i64.wrap ((i : Int) - 1) = ((i - 1 : Nat) : Int) := by rw [wrap_i64 (by omega) (by omega)]; omega
  by_cases g4 : LtS y.name x.name
  ·have := hstep ⟨g3.1, fun z _ hz => by rw [hy] at hz; cases hz; exact g4, g3.2⟩
   simp [r1, r22, r23, r24, hi, e1, l2, c2, e1', l0', hw, hw1, hip, aT g4, hvs.one, regionL_none]
   exact ⟨k, by omega, i + 1, by omega, n + 1, _, ⟨rfl, rfl⟩, by simp [r1], by omega, by simp [r22], by simp [r23], by simp, this⟩
  ·have hn : ¬ EntryOk e := fun hd => g4 ((hd.2.2.1 i x hx).2.1 y hip hy)
   simp [r1, r22, r23, r24, hi, e1, l2, c2, e1', l0', hw, hw1, hip, bi g4, hvs.one, regionL_none, hn]
def Own (H G : List Ob) (w : V) (l : List Str) : Prop := (w = .slc none 0 ∧ l = []) ∨ Gs H G w (l.map V.str)
theorem ed {H T : List Ob} {v : V} {l : List Str} (h : AStrs H v l) : ∃ p, v = .slc p l.length ∧ slcCells (H ++ T) p l.length = some (l.map V.str) ∧ (p = none → l = []) ∧ ∀ id off, p = some (id, off) → thereAt H id := by
 rcases h.sl with ⟨rfl, hl⟩ | ⟨id, off, own, cells, rfl, h2, h3, h4⟩
 ·have : l = [] := by simpa using hl
  subst this
  exact ⟨none, rfl, rfl, fun _ => rfl, fun _ _ h => by cases h⟩
 ·rw [List.length_map] at h3 ⊢
  refine ⟨some (id, off), rfl, ?_, (fun h => by cases h), (fun id' off' h => by cases h; exact ⟨_, _, _, h2⟩)⟩
  by_cases h0 : l.length = 0
  ·have : l = [] := List.length_eq_zero_iff.1 h0
   subst this
   rfl
  ·simp only [slcCells, up_append _ _ h2, if_neg h0]
   unfold rdCells
   simp only [Sh.size_str, Nat.mul_one] at h3 h4
   rw [if_pos h3]
   congr 1
   apply List.ext_getElem?
   intro j
   by_cases hj : j < l.length
   ·rw [List.getElem?_take_of_lt hj, List.getElem?_drop, List.getElem?_map]
    obtain ⟨s, hs⟩ : ∃ s, l[j]? = some s := ⟨l[j], List.getElem?_eq_getElem hj⟩
    obtain ⟨t, e1, e2, _⟩ := At_str.1 (h4 j (.str s) (by rw [List.getElem?_map, hs]; rfl))
    cases e2
    rw [hs]
    have := cells_get e1 (j := 0) rfl
    simpa using this
   ·rw [List.getElem?_eq_none (by simp; omega), List.getElem?_eq_none (by simp; omega)]
theorem rU {H : List Ob} {v : V} {l : List Str} (h : AStrs H v l) (hl : l.length ≤ 1048576) : ∃ T w, callW C 248 [v] H = some (w, H ++ T) ∧ Own H (H ++ T) w l := by
 suffices hs : Ret C 248 [v] H fun q H' => ∃ T, H' = H ++ T ∧ Own H (H ++ T) q l by
  obtain ⟨q, H', hc, T, rfl, hr⟩ := hs
  exact ⟨T, q, hc, hr⟩
 rw [Hq]
 obtain ⟨p, rfl, hc, hp, ht⟩ := ed (T := [.mk true 1 []]) h
 cases p with
 | none =>
  have := hp rfl
  subst this
  simp [jy, Tryz.f248]
  exact .inl ⟨rfl, rfl⟩
 | some p =>
  by_cases h0 : l.length = 0
  ·have : l = [] := List.length_eq_zero_iff.1 h0
   subst this
   have ha : appendV ⟨.str, 1, 16, [.str []]⟩ (H ++ [.mk true 1 []]) (.slc (some (H.length, 0)) 0) (.slc (some p) 0) = some (.slc (some (H.length, 0)) 0, H ++ [.mk true 1 []]) := by
    unfold appendV
    rw [if_pos (by simp [growOk])]
    simp [newCells, slcCells]
   simp [jy, Tryz.f248, elemT, fillL, zerosL, St.new, ha]
   exact .inr Gs.init
  ·have hm : l.length * 16 ≤ maxMade := by unfold maxMade; omega
   have ha : appendV ⟨.str, 1, 16, [.str []]⟩ (H ++ [.mk true 1 []]) (.slc (some (H.length, 0)) 0) (.slc (some p) l.length) = some (.slc (some (H.length + 1, 0)) l.length, H ++ [.dead, .mk true 1 (l.map V.str)]) := by
    unfold appendV
    rw [if_pos (by simp [growOk])]
    simp only [newCells, Nat.mul_one, hc, if_neg h0]
    rw [if_pos (by simp)]
    simp [get_last, h0, hm]
   have hne : l ≠ [] := fun h => h0 (by rw [h]; rfl)
   have hgs : Gs H (H ++ [.dead, .mk true 1 (l.map V.str)]) (.slc (some (H.length + 1, 0)) l.length) (l.map V.str) :=
    ⟨_, H.length + 1, rfl, by omega, by rw [List.getElem?_append_right (by omega)]; simp, by simp⟩
   simp [jy, Tryz.f248, elemT, fillL, zerosL, St.new, ha, hgs.gc]
   exact .inr hgs
def FirstIs (p : Str → Bool) (l : List Str) (r : Int) : Prop := (∃ (k : Nat) (x : Str), l[k]? = some x ∧ p x = true ∧ (∀ j y, j < k → l[j]? = some y → p y = false) ∧ r = k) ∨ ((∀ (j : Nat) y, l[j]? = some y → p y = false) ∧ r = -1)
theorem fO {H : List Ob} {v : V} {l : List Str} {g : Nat} {a b : List V} (h : AStrs H v l) (p : Str → Bool) (hg : ∀ x ∈ l, callW C g (a ++ ([.str x] ++ b)) H = some (.bool (p x), H)) :
  ∃ r : Int, callW C 308 [v, .fn g a b] H = some (.int .i64 r, H) ∧ FirstIs p l r := by
 suffices hs : Ret C 308 [v, .fn g a b] H fun q H' => (∃ r : Int, q = .int .i64 r ∧ FirstIs p l r) ∧ H' = H by
  obtain ⟨q, H', hc, ⟨r, rfl, hr⟩, rfl⟩ := hs
  exact ⟨r, hc, hr⟩
 rw [Fp]
 have hb : l.length ≤ 9223372036854775807 := h.bound
 simp [rq, Tryz.f308, h.len]
 refine WP_loop (fun k σ => ∃ (i : Nat) (r : Nat → R), i + k = l.length ∧ σ = ⟨r, 0, H⟩ ∧ r 0 = .val v ∧ r 1 = .val (.fn g a b) ∧ r 7 = .val (.int .i64 l.length) ∧ r 8 = .val (.int .i64 i) ∧ ∀ j x, j < i → l[j]? = some x → p x = false) ?_ l.length _ ⟨0, _, by simp, rfl, by simp, by simp, by simp, by simp, by simp⟩
 rintro k σ ⟨i, r, hik, rfl, r0, r1, r7, r8, hall⟩
 cases k with
 | zero =>
  have hi : i = l.length := by omega
  subst hi
  have hx := at_all (P := fun j (x : Str) => p x = false) hall
  simp [r0, r1, r7, r8]
  exact .inr ⟨hx, rfl⟩
 | succ k =>
  have hi : i < l.length := by omega
  obtain ⟨x, hx⟩ : ∃ c, l[i]? = some c := ⟨l[i], by simp [hi]⟩
  have hw : IntKind.i64.wrap ((i : Int) + 1) = ((i : Int) + 1) := wrap_i64 (by omega) (by omega)
  obtain ⟨id, o, e1, l0, _⟩ := strs_idx h hx
  have c1 := hg x (List.mem_of_getElem? hx)
  simp only [List.singleton_append] at c1
  cases hp : p x with
  | false =>
   rw [hp] at c1
   simp [r0, r1, r7, r8, hi, e1, l0, c1, hw]
   exact ⟨k, by omega, i + 1, by omega, by omega, at_step (P := fun j (x : Str) => p x = false) hall hx hp⟩
  | true =>
   rw [hp] at c1
   simp [r0, r1, r7, r8, hi, e1, l0, c1, hw]
   exact .inl ⟨i, x, hx, hp, hall, rfl⟩
theorem FirstIs.mem {p : Str → Bool} {l : List Str} {r : Int} (h : FirstIs p l r) : 0 ≤ r ↔ ∃ x ∈ l, p x = true := by
 rcases h with ⟨k, x, h1, h2, _, rfl⟩ | ⟨h1, rfl⟩
 ·exact ⟨fun _ => ⟨x, List.mem_of_getElem? h1, h2⟩, fun _ => by omega⟩
 ·refine ⟨fun h => by omega, fun ⟨x, hx, hp⟩ => ?_⟩
  obtain ⟨j, hj, rfl⟩ := List.getElem_of_mem hx
  rw [h1 j _ (List.getElem?_eq_getElem hj)] at hp
  cases hp
theorem cO {H : List Ob} {v : V} {l : List Str} {g : Nat} {a b : List V} (h : AStrs H v l) (p : Str → Bool) (hg : ∀ x ∈ l, callW C g (a ++ ([.str x] ++ b)) H = some (.bool (p x), H)) :
  callW C 264 [v, .fn g a b] H = some (.bool (dec (∃ x ∈ l, p x = true)), H) := by
 obtain ⟨r, c1, hr⟩ := fO h p hg
 apply Ret.dec
 rw [Kw]
 by_cases g1 : 0 ≤ r
 ·have := hr.mem.1 g1
  simp [ng, Tryz.f264, c1, g1]
  exact this
 ·have := mt hr.mem.2 g1
  simp [ng, Tryz.f264, c1, g1]
  intro x hx
  cases hp : p x with
  | false => rfl
  | true => exact absurd ⟨x, hx, hp⟩ this
theorem aY {H : List Ob} {v : V} {l : List Str} {t : Str} (h : AStrs H v l) : callW C 146 [v, .str t] H = some (.bool (dec (t ∈ l)), H) := by
 have hi : ∃ r : Int, callW C 233 [v, .str t] H = some (.int .i64 r, H) ∧ (0 ≤ r ↔ t ∈ l) := by
  suffices hs : Ret C 233 [v, .str t] H fun q H' => (∃ r : Int, q = .int .i64 r ∧ (0 ≤ r ↔ t ∈ l)) ∧ H' = H by
   obtain ⟨q, H', hc, ⟨r, rfl, hr⟩, rfl⟩ := hs
   exact ⟨r, hc, hr⟩
  rw [Jb]
  have hb : l.length ≤ 9223372036854775807 := h.bound
  simp [sN, Tryz.f233, h.len]
  refine WP_loop (fun k σ => ∃ (i : Nat) (r : Nat → R), i + k = l.length ∧ σ = ⟨r, 0, H⟩ ∧ r 0 = .val v ∧ r 1 = .val (.str t) ∧ r 7 = .val (.int .i64 l.length) ∧ r 8 = .val (.int .i64 i) ∧ ∀ j x, j < i → l[j]? = some x → x ≠ t) ?_ l.length _ ⟨0, _, by simp, rfl, by simp, by simp, by simp, by simp, by simp⟩
  rintro k σ ⟨i, r, hik, rfl, r0, r1, r7, r8, hall⟩
  cases k with
  | zero =>
   have hi : i = l.length := by omega
   subst hi
   have hx := at_all (P := fun j (x : Str) => x ≠ t) hall
   have hn : t ∉ l := fun hm => by
    obtain ⟨j, hj, e⟩ := List.getElem_of_mem hm
    exact hx j _ (List.getElem?_eq_getElem hj) e
   simp [r0, r1, r7, r8, hn]
  | succ k =>
   have hi : i < l.length := by omega
   obtain ⟨x, hx⟩ : ∃ c, l[i]? = some c := ⟨l[i], by simp [hi]⟩
   have hw : IntKind.i64.wrap ((i : Int) + 1) = ((i : Int) + 1) := wrap_i64 (by omega) (by omega)
   obtain ⟨id, o, e1, l0, _⟩ := strs_idx h hx
   by_cases g1 : x = t
   ·have hm : t ∈ l := g1 ▸ List.mem_of_getElem? hx
    subst g1
    simp [r0, r1, r7, r8, hi, e1, l0, hm]
   ·have g1' : ¬ t = x := fun h => g1 h.symm
    simp [r0, r1, r7, r8, hi, e1, l0, g1', hw]
    exact ⟨k, by omega, i + 1, by omega, by omega, at_step (P := fun j (x : Str) => x ≠ t) hall hx g1⟩
 obtain ⟨r, c1, hr⟩ := hi
 apply Ret.dec
 rw [FZ]
 by_cases g1 : 0 ≤ r
 ·simp [nD, Tryz.f146, c1, g1, hr.1 g1]
 ·simp [nD, Tryz.f146, c1, g1, mt hr.2 g1]
theorem zk {H : List Ob} {id : Nat} {own : Bool} {es : Nat} {va : V} {l : List Str} {t : Str} (h0 : H[id]? = some (.mk own es [va])) (h : AStrs H va l) : callW C 265 [.str t, .ptr (some (id, 0))] H = some (.bool (!dec (t ∈ l)), H) := by
 apply Ret.eq
 rw [Ie]
 have ld := load1 (o := 0) (v := va) h0 rfl
 have c1 := aY (t := t) h
 simp [uu, Tryz.f265, ld, c1]
theorem PY {H : List Ob} {v : V} {l : List Str} {n : Str} (h : AStrs H v l) : ∃ r : Int, callW C 262 [v, .str n] H = some (.int .i64 r, H) ∧ FirstIs (fun x => decide (norm x = n)) l r := by
 suffices hs : Ret C 262 [v, .str n] H fun q H' => (∃ r : Int, q = .int .i64 r ∧ FirstIs (fun x => decide (norm x = n)) l r) ∧ H' = H by
  obtain ⟨q, H', hc, ⟨r, rfl, hr⟩, rfl⟩ := hs
  exact ⟨r, hc, hr⟩
 rw [Je]
 have hb : l.length ≤ 9223372036854775807 := h.bound
 simp [ui, Tryz.f262]
 refine WP_loop (fun k σ => ∃ (i : Nat) (r : Nat → R), i + k = l.length ∧ σ = ⟨r, 0, H⟩ ∧ r 0 = .val v ∧ r 1 = .val (.str n) ∧ r 5 = .val (.int .i64 i) ∧ ∀ j x, j < i → l[j]? = some x → norm x ≠ n) ?_ l.length _ ⟨0, _, by simp, rfl, by simp, by simp, by simp, by simp⟩
 rintro k σ ⟨i, r, hik, rfl, r0, r1, r5, hall⟩
 cases k with
 | zero =>
  have hi : i = l.length := by omega
  subst hi
  have hx := at_all (P := fun j (x : Str) => norm x ≠ n) hall
  simp [r0, r1, r5, h.len]
  exact .inr ⟨fun j x hj => by simpa using hx j x hj, rfl⟩
 | succ k =>
  have hi : i < l.length := by omega
  obtain ⟨x, hx⟩ : ∃ c, l[i]? = some c := ⟨l[i], by simp [hi]⟩
  have hw : IntKind.i64.wrap ((i : Int) + 1) = ((i : Int) + 1) := wrap_i64 (by omega) (by omega)
  obtain ⟨id, o, e1, l0, _⟩ := strs_idx h hx
  have c1 := cZ (t := x) (H := H)
  by_cases g1 : norm x = n
  ·simp [r0, r1, r5, hi, h.len, e1, l0, c1, g1]
   exact .inl ⟨i, x, hx, by simpa using g1, fun j y hj hy => by simpa using hall j y hj hy, rfl⟩
  ·simp [r0, r1, r5, hi, h.len, e1, l0, c1, g1, hw]
   exact ⟨k, by omega, i + 1, by omega, by omega, at_step (P := fun j (x : Str) => norm x ≠ n) hall hx g1⟩
theorem nS {H : List Ob} {id o : Nat} {x : V} (h : ∀ T : LT, T.one → ∀ r c, loadAt T ⟨r, c, H⟩ (.hp id o) = some x) : id < H.length := by
 by_cases hi : id < H.length
 ·exact hi
 ·have h1 := h ⟨.str, 1, 16, [.str []]⟩ one_str (fun _ => .val .undef) 0
  have h2 : H[id]? = none := List.getElem?_eq_none (by omega)
  simp [loadAt, cellsAt, h2] at h1
theorem l9 {H : List Ob} {v : V} {l : List PRdn} (h : ARdns H v l) (hd : DnOk l) : callW C 103 [v] H = some (.str (keyD l), H) := by
 apply Ret.eq
 rw [J4]
 have hb := hd.2
 have hw0 : IntKind.i64.wrap ((l.length : Int) - 1) = (l.length : Int) - 1 := wrap_i64 (by omega) (by omega)
 simp [uG, Tryz.f103, h.len, hw0]
 refine WP_loop (fun m σ => ∃ (r : Nat → R), m ≤ l.length ∧ σ = ⟨r, 0, H⟩ ∧ r 0 = .val v ∧ r 3 = .val (.str (kacc l m)) ∧ r 4 = .val (.int .i64 ((m : Int) - 1))) ?_ l.length _ ⟨_, by omega, rfl, by simp, by simp [kacc_end], by simp⟩
 rintro m σ ⟨r, hm, rfl, r0, r3, r4⟩
 cases m with
 | zero =>
  simp at r4
  simp [r0, r3, r4, kacc_zero]
 | succ m =>
  have hi : m < l.length := by omega
  obtain ⟨x, hx⟩ : ∃ c, l[m]? = some c := ⟨l[m], by simp [hi]⟩
  have r4' : r 4 = .val (.int .i64 m) := by rw [r4]; congr 2; omega
  have hw : IntKind.i64.wrap ((m : Int) - 1) = (m : Int) - 1 := wrap_i64 (by omega) (by omega)
  obtain ⟨id, o, e1, l0, l1, _, _⟩ := rdns_idx h hx
  have c1 := cZ (t := x.value) (H := H)
  have k1 := kacc_len hd (m + 1)
  have k2 := (hd.1 m x hx).1.2.1
  have k3 := norm_len (t := x.value)
  have kst := kacc_step hx
  have b1 : (kacc l (m + 1)).length + 1 ≤ maxStr := by unfold maxStr; omega
  have b2 : (kacc l (m + 1)).length + (x.attr.length + 1) ≤ maxStr := by unfold maxStr; omega
  have b3 : (kacc l (m + 1)).length + (x.attr.length + 1 + 1) ≤ maxStr := by unfold maxStr; omega
  have b4 : (kacc l (m + 1)).length + (x.attr.length + ((norm x.value).length + 1) + 1) ≤ maxStr := by unfold maxStr; omega
  have hid := nS l0
  have b5 : (kacc l (m + 1)).length + 1 + x.attr.length ≤ maxStr := by unfold maxStr; omega
  have b6 : (kacc l (m + 1)).length + (x.attr.length + 1) + 1 ≤ maxStr := by unfold maxStr; omega
  have b7 : (kacc l (m + 1)).length + (x.attr.length + 1 + 1) + (norm x.value).length ≤ maxStr := by unfold maxStr; omega
  simp [r0, r3, r4', e1, l0, l1, c1, hw, strBin, b1, b2, b3, b4, b5, b6, b7, hid]
  exact ⟨m, by omega, by omega, by rw [kst]; simp [keyStep], rfl⟩
abbrev bG : LT := ⟨.str, 1, 16, [.str []]⟩
theorem EM {H : List Ob} {n : Nat} (hn : n ≤ 1000) : callW C 234 [.slc none 0, .int .i64 n] H = some (if n = 0 then (.slc none 0, H) else (.slc (some (H.length, 0)) 0, H ++ [.mk true 1 (zerosL bG n)])) := by
 have hw0 : IntKind.i64.wrap 0 = 0 := rfl
 have hwn : IntKind.i64.wrap (n : Int) = n := wrap_i64 (by omega) (by omega)
 have h1 : ¬ ((n : Int) < 0) := by omega
 by_cases h0 : n = 0
 ·subst h0
  rw [if_pos rfl]
  apply Ret.eq
  rw [Dn]
  simp [oM, Tryz.f234, hw0]
 ·rw [if_neg h0]
  have h2 : (0 : Int) < n := by omega
  have h2' : 0 < n := by omega
  have h3 : (n : Int) * 16 ≤ 1099511627776 := by omega
  suffices hs : Ret C 234 [.slc none 0, .int .i64 n] H fun q H' => q = .slc (some (H.length, 0)) 0 ∧ H' = H ++ [.mk true 1 (zerosL bG n)] by
   obtain ⟨q, H', hc, rfl, rfl⟩ := hs
   exact hc
  rw [Dn]
  simp [oM, Tryz.f234, hw0, hwn, h1, h2, h2', elemT, appendZ, growOk, maxMade, h3, strideIs]
theorem y7 {H : List Ob} {ds xs zs : List V} {m : Nat} {x : V} (hx : newCells bG (H ++ [.mk true 1 (ds ++ zs)]) x = some (xs, m)) (hm : xs.length = m) (hm0 : m ≠ 0) (hone : xs.all isOne = true) (hz : m ≤ zs.length) :
  appendV bG (H ++ [.mk true 1 (ds ++ zs)]) (.slc (some (H.length, 0)) ds.length) x = some (.slc (some (H.length, 0)) (ds.length + m), H ++ [.mk true 1 (ds ++ xs ++ zs.drop m)]) := by
 unfold appendV
 rw [if_pos (by simp [growOk]), hx]
 simp only [if_neg hm0, hone, if_true, get_last]
 have e1 : 0 + (ds.length + m) * 1 ≤ (ds ++ zs).length := by simp; omega
 rw [if_pos e1, set_last]
 congr 4
 unfold setRange
 rw [Nat.zero_add, Nat.mul_one, List.take_left, hm, List.drop_append]
 simp
theorem qE {H : List Ob} {s x : V} {xs : List V} (hx : newCells bG H x = some (xs, 0)) (hs : ∃ p n, s = .slc (some p) n ∨ s = .slc none 0) : appendV bG H s x = some (s, H) := by
 unfold appendV
 rw [if_pos (by simp [growOk]), hx]
 obtain ⟨p, n, rfl | rfl⟩ := hs <;> simp
theorem dY {n : Nat} : (zerosL bG n).length = n := by simp [zerosL]
def fl (ls : List (List Str)) (i : Nat) : List Str := (ls.take i).flatten
theorem kz {ls : List (List Str)} : fl ls 0 = [] := by simp [fl]
theorem mY {ls : List (List Str)} {i : Nat} {l : List Str} (h : ls[i]? = some l) : fl ls (i + 1) = fl ls i ++ l := by
 unfold fl
 rw [take_get h, List.flatten_append]
 simp
theorem zX {ls : List (List Str)} {i : Nat} : (fl ls i).length ≤ (fl ls ls.length).length := by
 unfold fl
 have := congrArg List.length (congrArg List.flatten (List.take_append_drop i ls))
 rw [List.flatten_append, List.length_append] at this
 rw [List.take_length]
 omega
theorem kJ {H : List Ob} {id : Nat} {own : Bool} {ws : List V} {ls : List (List Str)} (h0 : H[id]? = some (.mk own 1 ws)) (hl : ws.length = ls.length) (hw : ∀ (i : Nat) w l, ws[i]? = some w → ls[i]? = some l → AStrs H w l)
  (hb : (fl ls ls.length).length ≤ 1000) (hb2 : ls.length ≤ 1000) : ∃ T w, callW C 147 [.slc (some (id, 0)) ls.length] H = some (w, H ++ T) ∧ Own H (H ++ T) w (fl ls ls.length) := by
 suffices hs : Ret C 147 [.slc (some (id, 0)) ls.length] H fun q H' => ∃ T, H' = H ++ T ∧ Own H (H ++ T) q (fl ls ls.length) by
  obtain ⟨q, H', hc, T, rfl, hr⟩ := hs
  exact ⟨T, q, hc, hr⟩
 rw [JM]
 simp [rM, Tryz.f147]
 refine WP_loop (fun k σ => ∃ (i : Nat) (r : Nat → R), i + k = ls.length ∧ σ = ⟨r, 0, H⟩ ∧ r 0 = .val (.slc (some (id, 0)) ls.length) ∧ r 3 = .val (.int .i64 ((fl ls i).length : Nat)) ∧ r 9 = .val (.slc (some (id, 0)) ls.length) ∧ r 10 = .val (.int .i64 ls.length) ∧ r 11 = .val (.int .i64 i)) ?_ ls.length _ ⟨0, _, by simp, rfl, by simp, by simp [kz], by simp, by simp, by simp⟩
 rintro k σ ⟨i, r, hik, rfl, r0, r3, r9, r10, r11⟩
 cases k with
 | succ k =>
  have hi : i < ls.length := by omega
  obtain ⟨w, hwi⟩ : ∃ w, ws[i]? = some w := ⟨ws[i]'(by omega), List.getElem?_eq_getElem _⟩
  obtain ⟨l, hli⟩ : ∃ l, ls[i]? = some l := ⟨ls[i], List.getElem?_eq_getElem hi⟩
  have hs := hw i w l hwi hli
  have ld := load1 h0 hwi
  have hf := mY hli
  have hle := zX (ls := ls) (i := i + 1)
  have hfl := congrArg List.length hf
  rw [List.length_append] at hfl
  have hw1 : IntKind.i64.wrap ((i : Int) + 1) = ((i : Int) + 1) := wrap_i64 (by omega) (by omega)
  have hw2 : IntKind.i64.wrap (((fl ls i).length : Nat) + (l.length : Int)) = (((fl ls (i + 1)).length : Nat) : Int) := by rw [wrap_i64 (by omega) (by omega)]; omega
  have hn : ¬ ((((fl ls (i + 1)).length : Nat) : Int) < 0) := by omega
  simp [r0, r3, r9, r10, r11, hi, ld, hs.len, hw1, hw2, hn]
  exact ⟨k, by omega, i + 1, by omega, rfl, by omega⟩
 | zero =>
 have hi : i = ls.length := by omega
 subst hi
 have hg := EM (H := H) (n := (fl ls ls.length).length) hb
 generalize hN : (fl ls ls.length).length = N at r3 hg hb
 by_cases hN0 : N = 0
 ·rw [if_pos hN0] at hg
  simp [r0, r3, r9, r10, r11, hg]
  refine WP_loop (fun k σ => ∃ (i : Nat) (r : Nat → R), i + k = ls.length ∧ σ = ⟨r, 0, H⟩ ∧ r 6 = .val (.slc none 0) ∧ r 25 = .val (.slc (some (id, 0)) ls.length) ∧ r 26 = .val (.int .i64 ls.length) ∧ r 27 = .val (.int .i64 i)) ?_ ls.length _ ⟨0, _, by simp, rfl, by simp, by simp [r0], by simp, by simp⟩
  clear hik r0 r3 r9 r10 r11 r
  rintro k σ ⟨i, r, hik, rfl, r6, r25, r26, r27⟩
  cases k with
  | zero =>
   have hi : i = ls.length := by omega
   subst hi
   simp [r6, r25, r26, r27]
   exact .inl ⟨rfl, List.length_eq_zero_iff.1 (by omega)⟩
  | succ k =>
   have hi : i < ls.length := by omega
   obtain ⟨w, hwi⟩ : ∃ w, ws[i]? = some w := ⟨ws[i]'(by omega), List.getElem?_eq_getElem _⟩
   obtain ⟨l, hli⟩ : ∃ l, ls[i]? = some l := ⟨ls[i], List.getElem?_eq_getElem hi⟩
   have hs := hw i w l hwi hli
   have ld := load1 h0 hwi
   have hl0 : l.length = 0 := by
    have h1 := congrArg List.length (mY hli)
    have h2 := zX (ls := ls) (i := i + 1)
    rw [List.length_append] at h1
    omega
   obtain ⟨p, rfl, hc, _⟩ := ed (T := []) hs
   rw [hl0] at hc ld
   have ha := qE (s := .slc none 0) (H := H) (x := .slc p 0) (xs := []) (by simp [newCells, slcCells]; cases p <;> simp) ⟨(0, 0), 0, .inr rfl⟩
   have hw1 : IntKind.i64.wrap ((i : Int) + 1) = ((i : Int) + 1) := wrap_i64 (by omega) (by omega)
   simp [r6, r25, r26, r27, hi, ld, elemT, ha, hw1]
   exact ⟨k, by omega, i + 1, by omega, by omega⟩
 ·rw [if_neg hN0] at hg
  simp [r0, r3, r9, r10, r11, hg]
  refine WP_loop (fun k σ => ∃ (i : Nat) (r : Nat → R) (zs : List V), i + k = ls.length ∧ σ = ⟨r, 0, H ++ [.mk true 1 ((fl ls i).map V.str ++ zs)]⟩ ∧ (fl ls i).length + zs.length = N ∧ r 6 = .val (.slc (some (H.length, 0)) (fl ls i).length) ∧ r 25 = .val (.slc (some (id, 0)) ls.length) ∧ r 26 = .val (.int .i64 ls.length) ∧ r 27 = .val (.int .i64 i)) ?_ ls.length _ ⟨0, _, zerosL bG N, by simp, by rw [kz]; rfl, by simp [dY, kz], by simp [kz], by simp [r0], by simp, by simp⟩
  clear hik r0 r3 r9 r10 r11 r
  rintro k σ ⟨i, r, zs, hik, rfl, hzs, r6, r25, r26, r27⟩
  cases k with
  | zero =>
   have hi : i = ls.length := by omega
   subst hi
   have hz0 : zs = [] := List.length_eq_zero_iff.1 (by omega)
   subst hz0
   rw [List.append_nil]
   have hgs : Gs H (H ++ [.mk true 1 ((fl ls ls.length).map V.str)]) (.slc (some (H.length, 0)) (fl ls ls.length).length) ((fl ls ls.length).map V.str) := ⟨_, H.length, rfl, Nat.le_refl _, get_last, by simp⟩
   simp [r6, r25, r26, r27]
   exact .inr hgs
  | succ k =>
   have hi : i < ls.length := by omega
   obtain ⟨w, hwi⟩ : ∃ w, ws[i]? = some w := ⟨ws[i]'(by omega), List.getElem?_eq_getElem _⟩
   obtain ⟨l, hli⟩ : ∃ l, ls[i]? = some l := ⟨ls[i], List.getElem?_eq_getElem hi⟩
   have hs := hw i w l hwi hli
   have hf := mY hli
   have hfl := congrArg List.length hf
   rw [List.length_append] at hfl
   have hle := zX (ls := ls) (i := i + 1)
   have ld := load1 (H := H ++ [.mk true 1 ((fl ls i).map V.str ++ zs)]) (up_append _ _ h0) hwi
   obtain ⟨p, rfl, hc, _⟩ := ed (T := [.mk true 1 ((fl ls i).map V.str ++ zs)]) hs
   have hw1 : IntKind.i64.wrap ((i : Int) + 1) = ((i : Int) + 1) := wrap_i64 (by omega) (by omega)
   have hnc : newCells bG (H ++ [.mk true 1 ((fl ls i).map V.str ++ zs)]) (.slc p l.length) = some (l.map V.str, l.length) := by
    simp only [newCells, Nat.mul_one, hc]
   by_cases hl0 : l.length = 0
   ·have hl1 : l = [] := List.length_eq_zero_iff.1 hl0
    subst hl1
    have ha := qE (s := .slc (some (H.length, 0)) (fl ls i).length) hnc ⟨_, _, .inl rfl⟩
    rw [List.append_nil] at hf
    rw [← hf] at ha ld r6 hzs ⊢
    simp at ld ha
    simp [r6, r25, r26, r27, hi, ld, elemT, ha, hw1]
    exact ⟨k, by omega, i + 1, by omega, _, zs, ⟨rfl, rfl⟩, by omega, by simp [r6], by simp [r25], by simp [r26], by simp⟩
   ·have ha := y7 (H := H) (ds := (fl ls i).map V.str) (zs := zs) hnc (by simp) hl0 (by simp) (by omega)
    rw [List.length_map] at ha
    rw [← List.map_append, ← hf] at ha
    simp [r6, r25, r26, r27, hi, ld, elemT, ha, hw1]
    exact ⟨k, by omega, i + 1, by omega, _, zs.drop l.length, ⟨rfl, rfl⟩, by simp; omega, by simp; omega, by simp [r25], by simp [r26], by simp⟩
theorem lg : ∀ (l : List Str), strsOf (l.map V.str) = some l
 | [] => rfl
 | s :: l => by simp only [List.map_cons, strsOf, lg l]
def sorted (l : List Str) : List Str := l.mergeSort fun x y => decide (x ≤ y)
theorem gY {l : List Str} : (sorted l).length = l.length := List.length_mergeSort l
theorem sorted_perm {l : List Str} : (sorted l).Perm l := List.mergeSort_perm l _
theorem vT {G : List Ob} {id : Nat} {l : List Str} (h : G[id]? = some (.mk true 1 (l.map V.str))) (h0 : 0 < l.length) (hl : l.length ≤ 1048576) :
  callW C 296 [.slc (some (id, 0)) l.length] G = some (.tup [], G.set id (.mk true 1 ((sorted l).map V.str))) := by
 rw [callW_prim (pr := sortPrim) rfl]
 simp only [sortPrim, if_neg (show ¬ l.length = 0 by omega), h]
 rw [if_pos ⟨trivial, by simp, hl⟩]
 rw [List.drop_zero, List.take_of_length_le (by simp), lg]
 simp only
 congr 4
 unfold setRange
 simp [sorted]
def Apart (l : List Str) : Prop := ∀ (i : Nat) x, l[i]? = some x → l[i + 1]? ≠ some x
theorem jg {H G : List Ob} (h : ∀ q, q < H.length → G[q]? = H[q]?) (hl : H.length ≤ G.length) : ∃ T, G = H ++ T := by
 refine ⟨G.drop H.length, ?_⟩
 apply List.ext_getElem?
 intro q
 by_cases hq : q < H.length
 ·rw [h q hq, List.getElem?_append_left hq]
 ·rw [List.getElem?_append_right (by omega), List.getElem?_drop]
  congr 1
  omega
theorem uF {H H' : List Ob} {r : V} (h : H'.length = H.length) : gcH H H' r = H' := by
 unfold gcH
 split
 ·rename_i hc
  obtain ⟨⟨T, rfl⟩, _⟩ := hc
  simp at h
  rw [h, List.append_nil]
 ·rfl
def CpI (cs l : List Str) (k n : Nat) : Prop := (∀ j, n ≤ j + 1 → cs[j]? = l[j]?) ∧ ∀ x, x ∈ cs.take k ↔ x ∈ l.take n
theorem CpI.init {l : List Str} {k : Nat} {x : Str} (hx : l[k]? = some x) (hy : l[k - 1]? = some x) (hk : 1 ≤ k) : CpI l l k (k + 1) :=
 ⟨fun _ _ => rfl, fun z => by
  rw [take_get hx, List.mem_append, List.mem_singleton]
  have hm : x ∈ l.take k := List.mem_of_getElem? (i := k - 1) (by rw [List.getElem?_take_of_lt (by omega)]; exact hy)
  exact ⟨.inl, fun h => h.elim id fun e => e ▸ hm⟩⟩
theorem CpI.same {cs l : List Str} {k n : Nat} {a : Str} (h : CpI cs l k n) (ha : cs[n]? = some a) (hb : cs[n - 1]? = some a) (hn : 1 ≤ n) : CpI cs l k (n + 1) := by
 have ha' : l[n]? = some a := by rw [← h.1 n (by omega)]; exact ha
 have hb' : l[n - 1]? = some a := by rw [← h.1 (n - 1) (by omega)]; exact hb
 refine ⟨fun j hj => h.1 j (by omega), fun x => ?_⟩
 rw [h.2 x, take_get ha', List.mem_append, List.mem_singleton]
 have hm : a ∈ l.take n := List.mem_of_getElem? (i := n - 1) (by rw [List.getElem?_take_of_lt (by omega)]; exact hb')
 exact ⟨.inl, fun h => h.elim id fun e => e ▸ hm⟩
theorem CpI.next {cs l : List Str} {k n : Nat} {a : Str} (h : CpI cs l k n) (ha : cs[n]? = some a) (hk : k + 1 ≤ n) : CpI (cs.set k a) l (k + 1) (n + 1) := by
 have ha' : l[n]? = some a := by rw [← h.1 n (by omega)]; exact ha
 have hkl : k < cs.length := by have := (List.getElem?_eq_some_iff.1 ha).1; omega
 refine ⟨fun j hj => by rw [List.getElem?_set_ne (by omega)]; exact h.1 j (by omega), fun x => ?_⟩
 have e1 : (cs.set k a).take (k + 1) = cs.take k ++ [a] := by
  rw [take_get (List.getElem?_set_self hkl)]
  congr 1
  apply List.ext_getElem?
  intro j
  by_cases hj : j < k
  ·rw [List.getElem?_take_of_lt hj, List.getElem?_take_of_lt hj, List.getElem?_set_ne (by omega)]
  ·rw [List.getElem?_eq_none (by simp; omega), List.getElem?_eq_none (by simp; omega)]
 rw [e1, take_get ha', List.mem_append, List.mem_append, h.2 x]
def Cp (G : List Ob) (id k : Nat) (l : List Str) : Prop := ∃ cs : List Str, G[id]? = some (.mk true 1 (cs.map V.str)) ∧ cs.length = l.length ∧ k ≤ cs.length ∧ ∀ x, x ∈ cs.take k ↔ x ∈ l
theorem Cp.all {G : List Ob} {id : Nat} {l : List Str} (h : G[id]? = some (.mk true 1 (l.map V.str))) : Cp G id l.length l := ⟨l, h, rfl, Nat.le_refl _, by simp⟩
theorem oW {n : Nat} : zerosL bG n = (List.replicate n ([] : Str)).map V.str := by
 induction n with
 | zero => rfl
 | succ n ih => simp [zerosL, List.replicate_succ] at ih ⊢
theorem Cp.end {G : List Ob} {id k n : Nat} {cs l : List Str} (h : CpI cs l k n) (hn : n = l.length) (hc : cs.length = l.length) (hk : k ≤ l.length) (hid : id < G.length) : Cp (G.set id (.mk true 1 (setRange (cs.map V.str) k (zerosL bG (l.length - k))))) id k l := by
 refine ⟨cs.take k ++ List.replicate (l.length - k) [], ?_, by simp; omega, by simp; omega, fun x => ?_⟩
 ·rw [List.getElem?_set_self hid, oW]
  congr 2
  unfold setRange
  rw [List.map_append, List.map_take, List.drop_of_length_le (by simp; omega), List.append_nil]
 ·rw [List.take_left' (by simp; omega), h.2 x, hn, List.take_length]
theorem wP {G0 : List Ob} {id : Nat} {l : List Str} (h : G0[id]? = some (.mk true 1 (l.map V.str))) (hl : l.length ≤ 1000) :
  ∃ G' k, callW C 297 [.slc (some (id, 0)) l.length] G0 = some (.slc (some (id, 0)) k, G') ∧ G'.length = G0.length ∧ (∀ q, q ≠ id → G'[q]? = G0[q]?) ∧ (k = l.length ↔ Apart l) ∧ Cp G' id k l := by
 suffices hs : Ret C 297 [.slc (some (id, 0)) l.length] G0 fun w G' => ∃ k, w = .slc (some (id, 0)) k ∧ G'.length = G0.length ∧ (∀ q, q ≠ id → G'[q]? = G0[q]?) ∧ (k = l.length ↔ Apart l) ∧ Cp G' id k l by
  obtain ⟨w, G', hc, k, rfl, h1, h2, h3⟩ := hs
  exact ⟨G', k, hc, h1, h2, h3⟩
 have hcp := Cp.all h
 rw [yL]
 by_cases hl2 : (l.length : Int) < 2
 ·have ha : Apart l := fun i x _ hx => by
   have := (List.getElem?_eq_some_iff.1 hx).1
   omega
  simp [iL, Tryz.f297, hl2, ha, hcp]
 simp [iL, Tryz.f297, hl2]
 refine WP_loop (fun m σ => ∃ (k : Nat) (r : Nat → R), k + m = l.length ∧ σ = ⟨r, 0, G0⟩ ∧ r 0 = .val (.slc (some (id, 0)) l.length) ∧ r 3 = .val (.int .i64 k) ∧ 1 ≤ k ∧ ∀ i x, i + 1 < k → l[i]? = some x → l[i + 1]? ≠ some x) ?_ (l.length - 1) _ ⟨1, _, by omega, rfl, by simp, by simp, by omega, fun i x h => by omega⟩
 rintro m σ ⟨k, r, hkm, rfl, r0, r3, hk1, hall⟩
 cases m with
 | zero =>
  have hk : k = l.length := by omega
  subst hk
  have ha : Apart l := fun i x hx hx' => hall i x (List.getElem?_eq_some_iff.1 hx').1 hx hx'
  simp [r0, r3, ha, hcp]
 | succ m =>
  have hk : k < l.length := by omega
  have hkI : (k : Int) < l.length := by omega
  obtain ⟨x, hx⟩ : ∃ c, l[k]? = some c := ⟨l[k], by simp [hk]⟩
  obtain ⟨y, hy⟩ : ∃ c, l[k - 1]? = some c := ⟨l[k - 1]'(by omega), by simp⟩
  have hw : IntKind.i64.wrap ((k : Int) + 1) = ((k : Int) + 1) := wrap_i64 (by omega) (by omega)
  have hw1 : IntKind.i64.wrap ((k : Int) - 1) = ((k - 1 : Nat) : Int) := by rw [wrap_i64 (by omega) (by omega)]; omega
  have hk' : ((k - 1 : Nat) : Int) < l.length := by omega
  have hk'' : k - 1 < l.length := by omega
  have ldx := load1 (o := k) (v := .str x) h (by simp [hx])
  have ldy := load1 (o := k - 1) (v := .str y) h (by simp [hy])
  by_cases hxy : x = y
  rotate_left
  ·simp [r0, r3, hk, hk'', ldx, ldy, hw, hw1, hxy, regionL_none]
   refine ⟨m, by omega, k + 1, by omega, by omega, by omega, fun i z hi hz => ?_⟩
   by_cases hik : i + 1 = k
   ·have : i = k - 1 := by omega
    subst this
    rw [hy] at hz
    cases hz
    rw [hik, hx]
    simpa using hxy
   ·exact hall i z (by omega) hz
  have hna : ¬ Apart l := fun ha => ha (k - 1) y hy (by rw [show k - 1 + 1 = k by omega, hx, hxy])
  have hst : strideIs G0 id 1 = true := by simp [strideIs, h]
  have hle : k ≤ l.length := by omega
  simp [r0, r3, hk, hk'', hle, ldx, ldy, hw1, hxy, hst, regionL_none]
  refine WP_loop (fun m σ => ∃ (k2 k' : Nat) (r : Nat → R) (G : List Ob) (cs : List Str), k2 + m = l.length - k ∧ σ = ⟨r, 0, G⟩ ∧ r 0 = .val (.slc (some (id, 0)) l.length) ∧ r 3 = .val (.int .i64 k') ∧ r 4 = .val (.slc (some (id, k)) (l.length - k)) ∧ r 5 = .val (.int .i64 k2) ∧ 1 ≤ k2 ∧ k' + 1 ≤ k + k2 ∧
   G.length = G0.length ∧ (∀ q, q ≠ id → G[q]? = G0[q]?) ∧ G[id]? = some (.mk true 1 (cs.map V.str)) ∧ cs.length = l.length ∧ CpI cs l k' (k + k2)) ?_ (l.length - k - 1) _ ⟨1, k, _, G0, l, by omega, rfl, by simp [r0], by simp [r3], by simp, by simp, by omega, by omega, rfl, fun _ _ => rfl, h, rfl, CpI.init hx (hxy ▸ hy) hk1⟩
  clear r0 r3 r hst
  rintro m2 σ ⟨k2, k', r, G, cs, hkm2, rfl, r0, r3, r4, r5, hk2, hkk, hG1, hG2, hG3, hcs, hci⟩
  have hst : strideIs G id 1 = true := by simp [strideIs, hG3]
  have hid : id < G.length := (List.getElem?_eq_some_iff.1 hG3).1
  cases m2 with
  | zero =>
   have hk2' : ((l.length - k : Nat) : Int) = k2 := by omega
   have hk2'' : l.length - k = k2 := by omega
   have hlt : k' < l.length := by omega
   have hle' : k' ≤ l.length := by omega
   have hnz : ¬ (l.length - k' = 0) := by omega
   have hwa : ∀ r c, writeAt ⟨r, c, G⟩ (.hp id k') (zerosL bG (l.length - k')) = some ⟨r, c, G.set id (.mk true 1 (setRange (cs.map V.str) k' (zerosL bG (l.length - k'))))⟩ := by
    intro r c
    simp only [writeAt, hG3]
    rw [if_pos (by rw [dY, List.length_map]; omega)]
   have hst2 : ∀ o, strideIs (G.set id (.mk true 1 o)) id 1 = true := fun o => by simp [strideIs, hid]
   have hne : ¬ (k' = l.length) := by omega
   have hend := Cp.end (G := G) hci (by omega) hcs hle' hid
   have hgl : ∀ o w, gcH G0 (G.set id o) w = G.set id o := fun o w => uF (by rw [List.length_set]; exact hG1)
   simp [r0, r3, r4, r5, hk2'', hle', hst, elemT, hnz, hwa, hst2, hgl, -setRange]
   refine ⟨hG1, fun q hq => ?_, ⟨fun h => absurd h hne, fun h => absurd h hna⟩, hend⟩
   rw [List.getElem?_set_ne (Ne.symm hq)]
   exact hG2 q hq
  | succ m2 =>
   have hlt : k2 < l.length - k := by omega
   obtain ⟨a, ha⟩ : ∃ c, cs[k + k2]? = some c := ⟨cs[k + k2]'(by omega), by simp⟩
   obtain ⟨b, hb⟩ : ∃ c, cs[k + (k2 - 1)]? = some c := ⟨cs[k + (k2 - 1)]'(by omega), by simp⟩
   have ld1 := load1 (o := k + k2) (v := .str a) hG3 (by simp [ha])
   have ld2 := load1 (o := k + (k2 - 1)) (v := .str b) hG3 (by simp [hb])
   have hw2 : IntKind.i64.wrap ((k2 : Int) - 1) = ((k2 - 1 : Nat) : Int) := by rw [wrap_i64 (by omega) (by omega)]; omega
   have hw3 : IntKind.i64.wrap ((k2 : Int) + 1) = ((k2 : Int) + 1) := wrap_i64 (by omega) (by omega)
   have hw4 : IntKind.i64.wrap ((k' : Int) + 1) = ((k' : Int) + 1) := wrap_i64 (by omega) (by omega)
   have hlt2 : k2 - 1 < l.length - k := by omega
   have hlt3 : k' < l.length := by omega
   by_cases hab : a = b
   ·simp [r0, r3, r4, r5, hlt, hlt2, ld1, ld2, hw2, hw3, hab, regionL_none]
    exact ⟨m2, by omega, k2 + 1, by omega, k', _, G, ⟨rfl, rfl⟩, by simp [r0], by simp [r3], by simp [r4], by simp, by omega, by omega, hG1, hG2, cs, hG3, hcs, hci.same ha (by rw [show k + k2 - 1 = k + (k2 - 1) by omega, hab]; exact hb) (by omega)⟩
   ·have st := store1 (v := .str a) (o := k') hG3 (by simp; omega) rfl rfl
    simp [r0, r3, r4, r5, hlt, hlt2, hlt3, ld1, ld2, hw2, hw3, hw4, hab, regionL_none, st]
    exact ⟨m2, by omega, k2 + 1, by omega, k' + 1, _, _, ⟨rfl, rfl⟩, by simp [r0], by simp, by simp [r4], by simp, by omega, by omega, by simpa using hG1, fun q hq => by rw [List.getElem?_set_ne (Ne.symm hq)]; exact hG2 q hq, cs.set k' a, by rw [List.getElem?_set_self hid, List.map_set], by simpa using hcs, hci.next ha (by omega)⟩
theorem qy {l : List Str} (h : l.Pairwise fun a b => a ≤ b) : Apart l ↔ l.Nodup := by
 constructor
 ·intro ha
  induction l with
  | nil => exact List.nodup_nil
  | cons x l ih =>
   rw [List.pairwise_cons] at h
   rw [List.nodup_cons]
   have ha' : Apart l := fun i y hy => ha (i + 1) y (by simpa using hy)
   refine ⟨fun hx => ?_, ih h.2 ha'⟩
   cases l with
   | nil => cases hx
   | cons y l =>
    have hxy : x ≠ y := fun he => ha 0 x rfl (by simp [he])
    have h1 : x ≤ y := h.1 y List.mem_cons_self
    rcases List.mem_cons.1 hx with rfl | hx
    ·exact hxy rfl
    ·have h2 : y ≤ x := (List.pairwise_cons.1 h.2).1 x hx
     exact hxy (List.le_antisymm h1 h2)
 ·intro hn i x h1 h2
  obtain ⟨hi, h1⟩ := List.getElem?_eq_some_iff.1 h1
  obtain ⟨hi2, h2⟩ := List.getElem?_eq_some_iff.1 h2
  exact List.pairwise_iff_getElem.1 hn i (i + 1) hi hi2 (by omega) (h1.trans h2.symm)
theorem pz {l : List Str} : (sorted l).Pairwise fun a b => a ≤ b := by
 have := List.pairwise_mergeSort (le := fun x y : Str => decide (x ≤ y)) (fun a b c h1 h2 => by simp at h1 h2 ⊢; exact List.le_trans h1 h2) (fun a b => by simp; exact List.le_total a b) l
 exact this.imp fun h => by simpa using h
theorem dH {H : List Ob} {v : V} {l : List Str} (h : AStrs H v l) : ∀ s ∈ l, s.length ≤ maxLen := fun s hs => by
 obtain ⟨j, hj, rfl⟩ := List.getElem_of_mem hs
 obtain ⟨_, _, _, _, h⟩ := strs_idx h (List.getElem?_eq_getElem hj)
 exact h
def Jv (b : Nat) (p : Option (Nat × Nat)) : Prop := ∀ q o, p = some (q, o) → b ≤ q
def Some1 (G : List Ob) (w : V) (l : List Str) : Prop := ∃ l', AStrs G w l' ∧ (∀ x, x ∈ l' ↔ x ∈ l) ∧ l'.length ≤ l.length
theorem Some1.nil {G : List Ob} : Some1 G (.slc none 0) [] := ⟨[], At_slice.2 ⟨_, _, rfl, rfl, by simp, .inl ⟨rfl, rfl⟩⟩, fun _ => Iff.rfl, Nat.le_refl _⟩
theorem Some1.none {G : List Ob} {id : Nat} {cs : List V} (h : G[id]? = some (.mk true 1 cs)) : Some1 G (.slc (some (id, 0)) 0) [] := ⟨[], At_slice.2 ⟨_, _, rfl, rfl, by simp, .inr ⟨id, 0, true, cs, rfl, h, by simp, fun i x hx => by simp at hx⟩⟩, fun _ => Iff.rfl, Nat.le_refl _⟩
theorem qw {G : List Ob} {id k : Nat} {own : Bool} {cs : List Str} (h : G[id]? = some (.mk own 1 (cs.map V.str))) (hk : k ≤ cs.length) (hl : k ≤ maxLen) (hs : ∀ s ∈ cs.take k, s.length ≤ maxLen) : AStrs G (.slc (some (id, 0)) k) (cs.take k) := by
 refine At_slice.2 ⟨_, _, rfl, rfl, by simp; omega, .inr ⟨id, 0, own, cs.map V.str, by simp; omega, h, by simp; omega, fun i x hx => ?_⟩⟩
 rw [List.getElem?_map] at hx
 obtain ⟨s, hs', rfl⟩ := Option.map_eq_some_iff.1 hx
 have hi : i < (cs.take k).length := (List.getElem?_eq_some_iff.1 hs').1
 have hi2 : i < cs.length := by rw [List.length_take] at hi; omega
 have hc : cs[i]? = some s := by rw [List.length_take] at hi; rw [List.getElem?_take_of_lt (by omega)] at hs'; exact hs'
 refine At_str.2 ⟨s, ?_, rfl, hs s (List.mem_of_getElem? hs')⟩
 rw [Sh.size_str, Nat.zero_add, Nat.mul_one, List.drop_eq_getElem_cons (by simpa using hi2)]
 obtain ⟨_, rfl⟩ := List.getElem?_eq_some_iff.1 hc
 simp
theorem Some1.of {G : List Ob} {id k : Nat} {l : List Str} (h : Cp G id k (sorted l)) (hb : l.length ≤ 1000) (hm : ∀ s ∈ l, s.length ≤ maxLen) : Some1 G (.slc (some (id, 0)) k) l := by
 obtain ⟨cs, h1, h0, h2, h3⟩ := h
 rw [gY] at h0
 have h4 : ∀ x, x ∈ cs.take k ↔ x ∈ l := fun x => (h3 x).trans sorted_perm.mem_iff
 exact ⟨cs.take k, qw h1 h2 (by unfold maxLen; omega) fun s hs => hm s ((h4 s).1 hs), h4, by simp; omega⟩
theorem iI {H : List Ob} {id : Nat} {own : Bool} {va : V} {l : List Str} (h0 : H[id]? = some (.mk own 1 [va])) (hw : AStrs H va l) (hb : l.length ≤ 1000) :
  ∃ T p n, callW C 235 [.slc (some (id, 0)) 1] H = some (.slc p n, H ++ T) ∧ (n = l.length ↔ l.Nodup) ∧ Some1 (H ++ T) (.slc p n) l ∧ Jv H.length p := by
 suffices hs : Ret C 235 [.slc (some (id, 0)) 1] H fun q H' => ∃ T p n, q = .slc p n ∧ H' = H ++ T ∧ (n = l.length ↔ l.Nodup) ∧ Some1 H' q l ∧ Jv H.length p by
  obtain ⟨q, H', hc, T, p, n, rfl, rfl, hr⟩ := hs
  exact ⟨T, p, n, hc, hr⟩
 have hmx := dH hw
 rw [Jq]
 have hfl : fl [l] 1 = l := by simp [fl]
 obtain ⟨T, w, c1, hown⟩ := kJ (ls := [l]) h0 rfl (fun i w l' h1 h2 => by
  cases i with
  | zero => cases h1; cases h2; exact hw
  | succ i => simp at h1) (by simp only [List.length_singleton, hfl]; exact hb) (by simp)
 simp only [List.length_singleton, hfl] at c1 hown
 rcases hown with ⟨rfl, rfl⟩ | hgs
 ·have c2 : callW C 296 [.slc none 0] (H ++ T) = some (.tup [], H ++ T) := callW_prim (pr := sortPrim) rfl
  have c3 : callW C 297 [.slc none 0] (H ++ T) = some (.slc none 0, H ++ T) := by
   apply Ret.eq
   rw [yL]
   simp [iL, Tryz.f297]
  simp [jG, Tryz.f235, c1, c2, c3]
  exact ⟨[], _, _, ⟨rfl, rfl⟩, by simp [gcH, ext_append, lowV], rfl, Some1.nil, fun _ _ h => by cases h⟩
 ·obtain ⟨T', id', hT, h1, h2, rfl⟩ := hgs
  have hT' := List.append_cancel_left hT
  subst hT'
  rw [List.length_map] at c1
  have hid : id' < (H ++ T).length := (List.getElem?_eq_some_iff.1 h2).1
  by_cases hl0 : l.length = 0
  ·have : l = [] := List.length_eq_zero_iff.1 hl0
   subst this
   have c2 : callW C 296 [.slc (some (id', 0)) 0] (H ++ T) = some (.tup [], H ++ T) := callW_prim (pr := sortPrim) rfl
   have c3 : callW C 297 [.slc (some (id', 0)) 0] (H ++ T) = some (.slc (some (id', 0)) 0, H ++ T) := by
    apply Ret.eq
    rw [yL]
    simp [iL, Tryz.f297]
   have hgc : gcH H (H ++ T) (.slc (some (id', 0)) 0) = H ++ T := Gs.gc ⟨T, id', rfl, h1, h2, rfl⟩
   simp at c1
   simp [jG, Tryz.f235, c1, c2, c3, hgc]
   exact ⟨_, _, _, ⟨rfl, rfl⟩, rfl, rfl, Some1.none (by simpa using h2), fun _ _ h => by cases h; exact h1⟩
  ·have c2 := vT h2 (by omega) (by omega)
   obtain ⟨G', k, c3, k1, k2, k3, k4⟩ := wP (l := sorted l) (G0 := (H ++ T).set id' (.mk true 1 ((sorted l).map V.str))) (id := id') (by rw [List.getElem?_set_self hid]) (by rw [gY]; exact hb)
   rw [gY] at c3 k3
   rw [List.length_set] at k1
   obtain ⟨T2, hT2⟩ : ∃ T2, G' = H ++ T2 := jg (fun q hq => by
    rw [k2 q (by omega), List.getElem?_set_ne (by omega), List.getElem?_append_left hq]) (by rw [k1]; simp)
   subst hT2
   have hgc : ∀ n, gcH H (H ++ T2) (.slc (some (id', 0)) n) = H ++ T2 := fun n => by
    unfold gcH
    rw [if_neg]
    rintro ⟨_, own, es, cells, h⟩
    have := (List.getElem?_eq_some_iff.1 h).1
    omega
   have hnd : k = l.length ↔ l.Nodup := by
    rw [k3, qy pz]
    exact sorted_perm.nodup_iff
   simp [jG, Tryz.f235, c1, c2, c3, hgc]
   exact ⟨T2, _, _, ⟨rfl, rfl⟩, rfl, hnd, Some1.of k4 hb hmx, fun _ _ h => by cases h; exact h1⟩
theorem Aw {H : List Ob} {id : Nat} {own : Bool} {va : V} {l : List Str} (h0 : H[id]? = some (.mk own 1 [va])) (hw : AStrs H va l) (hb : l.length ≤ 1000) :
  ∃ T p n, callW C 235 [.slc (some (id, 0)) 1] H = some (.slc p n, H ++ T) ∧ (n = l.length ↔ l.Nodup) := by
 obtain ⟨T, p, n, h1, h2, _⟩ := iI h0 hw hb
 exact ⟨T, p, n, h1, h2⟩
theorem Own.strs {H G : List Ob} {w : V} {l : List Str} (h : Own H G w l) (hl : l.length ≤ maxLen) (hs : ∀ s ∈ l, s.length ≤ maxLen) : AStrs G w l := by
 rcases h with ⟨rfl, rfl⟩ | h
 ·exact At_slice.2 ⟨_, _, rfl, rfl, by simp, .inl ⟨rfl, rfl⟩⟩
 ·exact (h.strs hl hs).1
theorem gJ {H X Y : List Ob} : Keep H.length (H ++ X) (H ++ Y) := fun id hid => by rw [List.getElem?_append_left hid, List.getElem?_append_left hid]
theorem iM {H Y : List Ob} : Keep H.length H (H ++ Y) := fun id hid => by rw [List.getElem?_append_left hid]
theorem Own.one {H G : List Ob} {w : V} {l : List Str} (h : Own H G w l) : isOne w = true ∧ cellsOf w = some [w] := by
 rcases h with ⟨rfl, rfl⟩ | h
 ·exact ⟨rfl, rfl⟩
 ·exact h.one
theorem ay : ∀ (a b : Str), LtS a b ↔ a < b
 | a, [] => by simp [LtS, Op.bytesLess]
 | [], b :: bs => by simp [LtS, Op.bytesLess]
 | a :: as', b :: bs => by
  have := ay as' bs
  unfold LtS at this ⊢
  simp [Op.bytesLess, List.cons_lt_cons_iff, this]
theorem lG : ∀ {l : List Str}, NamesOk l → l.Pairwise fun a b => a < b
 | [], _ => .nil
 | [x], _ => by simp
 | x :: y :: l, h => by
  have h' : NamesOk (y :: l) := fun j z hz => by
   obtain ⟨h1, h2⟩ := h (j + 1) z (by simpa using hz)
   refine ⟨h1, fun v hj hv => h2 v (by omega) ?_⟩
   rw [show j + 1 - 1 = (j - 1) + 1 by omega]
   simpa using hv
  have ih := lG h'
  have hxy : x < y := (ay x y).1 ((h 1 y rfl).2 x (by omega) rfl)
  rw [List.pairwise_cons]
  refine ⟨fun z hz => ?_, ih⟩
  rcases List.mem_cons.1 hz with rfl | hz
  ·exact hxy
  ·exact List.lt_trans hxy ((List.pairwise_cons.1 ih).1 z hz)
theorem jm {l : List Str} (h : NamesOk l) : l.Nodup := (lG h).imp fun h e => by subst e; exact List.lt_irrefl _ h
theorem BM {H : List Ob} {w1 w2 w3 : V} {c : PClass} (h1 : AStrs H w1 c.must) (h2 : AStrs H w2 c.may) (h3 : AStrs H w3 c.single) : callW C 194 [.agg [.str c.name, w1, w2, w3]] H = some (.bool (dec (ClassOk c)), H) := by
 apply Ret.dec
 rw [JZ]
 simp [uO, Tryz.f194, h1.one, h2.one, h3.one, elemT, fillL, zerosL, St.new]
 refine WP_loop (fun k σ => ∃ (i : Nat) (r : Nat → R), i + k = 3 ∧ σ = ⟨r, 1, H ++ [.mk true 1 [w1, w2, w3]]⟩ ∧ r 1 = .box 0 [.str c.name, w1, w2, w3] ∧ r 12 = .val (.slc (some (H.length, 0)) 3) ∧ r 13 = .val (.int .i64 3) ∧ r 14 = .val (.int .i64 i) ∧ ∀ j l, j < i → [c.must, c.may, c.single][j]? = some l → l.length ≤ 10 ∧ NamesOk l) ?_ 3 _ ⟨0, _, by simp, rfl, by simp, by simp, by simp, by simp, by simp⟩
 rintro k σ ⟨i, r, hik, rfl, r1, r12, r13, r14, hall⟩
 cases k with
 | succ k =>
  have hi : i < 3 := by omega
  have hiI : (i : Int) < 3 := by omega
  obtain ⟨l, w, hli, hwi, hs, hcl⟩ : ∃ l w, [c.must, c.may, c.single][i]? = some l ∧ [w1, w2, w3][i]? = some w ∧ AStrs H w l ∧ (ClassOk c → l.length ≤ 10 ∧ NamesOk l) := by
   match i, hi with
   | 0, _ => exact ⟨_, _, rfl, rfl, h1, fun h => ⟨h.l1, h.n1⟩⟩
   | 1, _ => exact ⟨_, _, rfl, rfl, h2, fun h => ⟨h.l2, h.n2⟩⟩
   | 2, _ => exact ⟨_, _, rfl, rfl, h3, fun h => ⟨h.l3, h.n3⟩⟩
  have ld := load1 (H := H ++ [.mk true 1 [w1, w2, w3]]) (o := i) get_last hwi
  have hw : IntKind.i64.wrap ((i : Int) + 1) = ((i : Int) + 1) := wrap_i64 (by omega) (by omega)
  have c1 := BJ (hs.ext (T := [.mk true 1 [w1, w2, w3]]))
  by_cases g1 : (l.length : Int) > 10
  ·have hn : ¬ ClassOk c := fun h => by have := (hcl h).1; omega
   simp [r1, r12, r13, r14, hiI, hi, ld, (hs.ext (T := [.mk true 1 [w1, w2, w3]])).len, g1, hn]
  by_cases g2 : NamesOk l
  ·rw [dec_pos g2] at c1
   simp [r1, r12, r13, r14, hiI, hi, ld, (hs.ext (T := [.mk true 1 [w1, w2, w3]])).len, g1, c1, hw]
   exact ⟨k, by omega, i + 1, by omega, by omega, at_step (P := fun j (l : List Str) => l.length ≤ 10 ∧ NamesOk l) hall hli ⟨by omega, g2⟩⟩
  ·rw [dec_neg g2] at c1
   have hn : ¬ ClassOk c := fun h => g2 (hcl h).2
   simp [r1, r12, r13, r14, hiI, hi, ld, (hs.ext (T := [.mk true 1 [w1, w2, w3]])).len, g1, c1, hn]
 | zero =>
 have hi : i = 3 := by omega
 subst hi
 obtain ⟨m1, m2⟩ := hall 0 c.must (by omega) rfl
 obtain ⟨m3, m4⟩ := hall 1 c.may (by omega) rfl
 obtain ⟨m5, m6⟩ := hall 2 c.single (by omega) rfl
 have hfl : fl [c.must, c.may] 2 = c.must ++ c.may := by simp [fl]
 obtain ⟨T, w, c1, hown⟩ := kJ (H := H ++ [.mk true 1 [w1, w2, w3]] ++ [.mk true 1 [w1, w2]]) (id := H.length + 1) (ls := [c.must, c.may]) (ws := [w1, w2]) (own := true) (by rw [List.getElem?_append_right (by simp)]; simp) rfl (fun i v l g1 g2 => by
  match i with
  | 0 => cases g1; cases g2; exact h1.ext.ext
  | 1 => cases g1; cases g2; exact h2.ext.ext
  | i + 2 => simp at g1) (by simp only [List.length_cons, List.length_nil, Nat.reduceAdd, hfl, List.length_append]; omega) (by simp)
 simp only [List.length_cons, List.length_nil, Nat.reduceAdd, hfl, List.append_assoc, List.cons_append, List.nil_append] at c1 hown
 have how := hown.one
 have st := store1 (H := H ++ .mk true 1 [w1, w2, w3] :: .mk true 1 [w1, w2] :: (T ++ [.mk true 1 [.slc none 0]])) (id := H.length + (T.length + 1 + 1)) (es := 1) (cells := [.slc none 0]) (v := w) (o := 0) (by rw [List.getElem?_append_right (by omega)]; simp) (by simp) how.2 how.1
 have hmem : (H ++ Ob.mk true 1 [w1, w2, w3] :: Ob.mk true 1 [w1, w2] :: (T ++ [Ob.mk true 1 [V.slc none 0]])).length = H.length + (T.length + 1 + 1) + 1 := by simp; omega
 have hold : ∀ (q : Nat) o, (H ++ Ob.mk true 1 [w1, w2, w3] :: Ob.mk true 1 [w1, w2] :: T)[q]? = some o → ((H ++ Ob.mk true 1 [w1, w2, w3] :: Ob.mk true 1 [w1, w2] :: (T ++ [Ob.mk true 1 [V.slc none 0]])).set (H.length + (T.length + 1 + 1)) (Ob.mk true 1 ([V.slc none 0].set 0 w)))[q]? = some o := fun q o hq => by
  have hql := (List.getElem?_eq_some_iff.1 hq).1
  simp at hql
  rw [List.getElem?_set_ne (by omega), show H ++ Ob.mk true 1 [w1, w2, w3] :: Ob.mk true 1 [w1, w2] :: (T ++ [Ob.mk true 1 [V.slc none 0]]) = (H ++ Ob.mk true 1 [w1, w2, w3] :: Ob.mk true 1 [w1, w2] :: T) ++ [Ob.mk true 1 [V.slc none 0]] by simp]
  exact up_append _ _ hq
 have hobj : ((H ++ Ob.mk true 1 [w1, w2, w3] :: Ob.mk true 1 [w1, w2] :: (T ++ [Ob.mk true 1 [V.slc none 0]])).set (H.length + (T.length + 1 + 1)) (Ob.mk true 1 ([V.slc none 0].set 0 w)))[H.length + (T.length + 1 + 1)]? = some (Ob.mk true 1 [w]) := by
  rw [List.getElem?_set_self (by omega)]
  rfl
 obtain ⟨H3, hH3⟩ : ∃ H3, H3 = (H ++ Ob.mk true 1 [w1, w2, w3] :: Ob.mk true 1 [w1, w2] :: (T ++ [Ob.mk true 1 [V.slc none 0]])).set (H.length + (T.length + 1 + 1)) (Ob.mk true 1 ([V.slc none 0].set 0 w)) := ⟨_, rfl⟩
 rw [← hH3] at st hobj hold
 obtain ⟨T3, hT3⟩ : ∃ T3, H3 = H ++ T3 := by
  refine ⟨(Ob.mk true 1 [w1, w2, w3] :: Ob.mk true 1 [w1, w2] :: (T ++ [Ob.mk true 1 [V.slc none 0]])).set (T.length + 1 + 1) (Ob.mk true 1 ([V.slc none 0].set 0 w)), ?_⟩
  rw [hH3, List.set_append_right _ _ (by omega), Nat.add_sub_cancel_left]
 simp [r1, r12, r13, r14, h1.one, h2.one, h3.one, elemT, fillL, zerosL, St.new, c1, strideOf, st, -regionL_some]
 generalize H.length + (T.length + 1 + 1) = id5 at hobj
 have hall3 : AStrs H3 w (c.must ++ c.may) := (hown.strs (by rw [List.length_append]; unfold maxLen; omega) (fun s hs => by
  rcases List.mem_append.1 hs with hs | hs
  ·exact dH h1 s hs
  ·exact dH h2 s hs)).up hold
 have hid5 : id5 < H3.length := (List.getElem?_eq_some_iff.1 hobj).1
 have h33 : AStrs H3 w3 c.single := by rw [hT3]; exact h3.ext
 have hgc1 : ∀ b, gcH H H3 (.bool b) = H := fun b => by rw [hT3]; exact gcH_bool
 have hgc2 : ∀ b X, gcH H (H3 ++ X) (.bool b) = H := fun b X => by rw [hT3, List.append_assoc]; exact gcH_bool
 clear hH3 hold hT3 st c1 hown hmem
 have ld := load1 (o := 0) hobj rfl
 have c2 := ig (t := c.name) (H := H3)
 have hok : ClassOk c ↔ NameOk c.name ∧ (c.must ++ c.may).Nodup ∧ classT ∉ c.must ++ c.may ∧ ∀ t ∈ c.single, t ∈ c.must ++ c.may := by
  constructor
  ·intro h
   refine ⟨h.name, ?_, ?_, ?_⟩
   ·rw [List.nodup_append]
    exact ⟨jm h.n1, jm h.n2, fun a ha b hb hab => h.apart a ha (hab ▸ hb)⟩
   ·rw [List.mem_append]; exact fun h' => h'.elim h.noMust h.noMay
   ·intro t ht; rw [List.mem_append]; exact (h.known t ht).symm
  ·rintro ⟨k1, k2, k3, k4⟩
   rw [List.nodup_append] at k2
   rw [List.mem_append] at k3
   exact ⟨k1, m1, m3, m5, m2, m4, m6, fun t ht ht' => k2.2.2 t ht t ht' rfl, fun t ht => (List.mem_append.1 (k4 t ht)).symm, fun h => k3 (.inl h), fun h => k3 (.inr h)⟩
 by_cases g1 : NameOk c.name
 rotate_left
 ·rw [dec_neg g1] at c2
  have hn : ¬ ClassOk c := fun h => g1 h.name
  simp [r1, hid5, c2, hn, hgc1, hgc2, List.lookup]
 rw [dec_pos g1] at c2
 obtain ⟨T4, p, n, c3, hn⟩ := Aw (H := H3 ++ [Ob.mk true 1 [w]]) (id := H3.length) get_last hall3.ext (by rw [List.length_append]; omega)
 simp only [List.append_assoc, List.cons_append, List.nil_append] at c3
 have hln := fun {e s b : Nat} {z : List V} => hall3.len (e := e) (s := s) (b := b) (z := z)
 by_cases g2 : (n : Int) = (c.must ++ c.may).length
 rotate_left
 ·have hno : ¬ ClassOk c := fun h => g2 (by have := hn.2 (hok.1 h).2.1; omega)
  simp only [List.length_append, Int.natCast_add] at g2 hln
  simp [r1, hid5, c2, c3, ld, hln, g2, elemT, fillL, zerosL, St.new, gJ, iM, hall3.one, hno, hgc1, hgc2, List.lookup]
 have c4 : callW C 146 [w, .str [99, 108, 97, 115, 115]] (H3 ++ Ob.mk true 1 [w] :: T4) = some (.bool (dec (classT ∈ c.must ++ c.may)), H3 ++ Ob.mk true 1 [w] :: T4) := aY hall3.ext
 have ld2 := load1 (H := H3 ++ Ob.mk true 1 [w] :: T4) (o := 0) (v := w) (up_append _ _ hobj) rfl
 have g2' : (c.must ++ c.may).Nodup := hn.1 (by omega)
 by_cases g3 : classT ∈ c.must ++ c.may
 ·rw [dec_pos g3] at c4
  have hno : ¬ ClassOk c := fun h => (hok.1 h).2.2.1 g3
  simp only [List.length_append, Int.natCast_add] at g2 hln
  simp [r1, hid5, c2, c3, c4, ld, ld2, hln, g2, elemT, fillL, zerosL, St.new, gJ, iM, hall3.one, hno, hgc1, hgc2, List.lookup]
 rw [dec_neg g3] at c4
 have c5 := cO (H := H3 ++ Ob.mk true 1 [w] :: T4) (g := 265) (a := []) (b := [.ptr (some (id5, 0))]) h33.ext (fun x => !dec (x ∈ c.must ++ c.may)) (fun x _ => zk (up_append _ _ hobj) hall3.ext)
 by_cases g4 : ∃ x ∈ c.single, (!dec (x ∈ c.must ++ c.may)) = true
 ·rw [dec_pos g4] at c5
  have hno : ¬ ClassOk c := fun h => by
   obtain ⟨x, hx, hd⟩ := g4
   rw [dec_pos ((hok.1 h).2.2.2 x hx)] at hd
   cases hd
  simp only [List.length_append, Int.natCast_add] at g2 hln
  simp [r1, hid5, c2, c3, c4, c5, ld, ld2, hln, g2, elemT, fillL, zerosL, St.new, gJ, iM, hall3.one, hno, hgc1, hgc2, List.lookup, h3.one]
 ·rw [dec_neg g4] at c5
  have hyes : ClassOk c := hok.2 ⟨g1, g2', g3, fun t ht => Classical.byContradiction fun h => g4 ⟨t, ht, by rw [dec_neg h]; rfl⟩⟩
  simp only [List.length_append, Int.natCast_add] at g2 hln
  simp [r1, hid5, c2, c3, c4, c5, ld, ld2, hln, g2, elemT, fillL, zerosL, St.new, gJ, iM, hall3.one, hyes, hgc1, hgc2, List.lookup, h3.one]
end Go.Proofs.Try1
end
